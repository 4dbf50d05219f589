/- The changes from one Db to another one: both sides alike. Conditions: none. -/
import Derived.Test.YtgdlicpmbgodjaaGreatDoorU1
namespace Go.Abs
set_option linter.unusedVariables false
set_option linter.unusedSimpArgs false

abbrev Tu : Type := List ByteArray
abbrev Re : Type := Int × List (List ByteArray)
abbrev Ch : Type := Int × (List ByteArray) × Bool

def chOf (i : Int) (f : Bool) (l : List Tu) : List Ch := l.map fun t => (i, (t, f))
def chg (i : Int) (a b : Re) : List Ch := chOf i false (lessR a.2 b.2) ++ chOf i true (lessR b.2 a.2)
def chs : List Re → List Re → Int → List Ch
  | a :: l, b :: r, i => chg i a b ++ chs l r (i + 1)
  | _, _, _ => []
def arEq : List Re → List Re → Bool
  | a :: l, b :: r => decide (a.1 = b.1) && arEq l r
  | _, _ => true

theorem lessR_len (a b : List Tu) : (lessR a b).length ≤ a.length := List.length_filter_le _ _
theorem chOf_len (i : Int) (f : Bool) (l : List Tu) : (chOf i f l).length = l.length := List.length_map ..
theorem chg_len (i : Int) (a b : Re) : (chg i a b).length ≤ a.2.length + b.2.length := by
  unfold chg
  rw [List.length_append, chOf_len, chOf_len]
  exact Nat.add_le_add (lessR_len _ _) (lessR_len _ _)

theorem specCh_l2 (n : Nat) (i : Int) (w1 w2 : List Tu) (a b : List Re) (K : List Ch → Option (List Ch × Bool)) : ∀ (k j : Nat) (out : List Ch), j ≤ w1.length → w1.length - j < k → out.length + (w1.length - j) ≤ 4294967296 → w1.length ≤ 4294967296 →
    spec_Changes.l2 n i w1 w2 a b K k (j : Int) out = K (out ++ chOf i false (w1.drop j))
  | 0, j, out, hj, hk, ho, hw => absurd hk (Nat.not_lt_zero _)
  | k + 1, j, out, hj, hk, ho, hw => by
    by_cases h : j < w1.length
    · conv => lhs; unfold spec_Changes.l2
      rw [if_pos (dlt h), if_pos (inl' h), getD_in _ h, if_pos (by simp [lim]; omega), wr1 (by omega), specCh_l2 n i w1 w2 a b K k (j + 1) _ (by omega) (by omega) (by simp; omega) hw, List.drop_eq_getElem_cons h, List.append_assoc]
      rfl
    · conv => lhs; unfold spec_Changes.l2
      rw [if_neg (dnl h), List.drop_of_length_le (by omega)]
      simp [chOf]

theorem specCh_l3 (n : Nat) (i : Int) (w1 : List Tu) (a b : List Re) (K : List Ch → Option (List Ch × Bool)) : ∀ (k j : Nat) (out : List Ch), j ≤ w1.length → w1.length - j < k → out.length + (w1.length - j) ≤ 4294967296 → w1.length ≤ 4294967296 →
    spec_Changes.l3 n i w1 a b K k (j : Int) out = K (out ++ chOf i true (w1.drop j))
  | 0, j, out, hj, hk, ho, hw => absurd hk (Nat.not_lt_zero _)
  | k + 1, j, out, hj, hk, ho, hw => by
    by_cases h : j < w1.length
    · conv => lhs; unfold spec_Changes.l3
      rw [if_pos (dlt h), if_pos (inl' h), getD_in _ h, if_pos (by simp [lim]; omega), wr1 (by omega), specCh_l3 n i w1 a b K k (j + 1) _ (by omega) (by omega) (by simp; omega) hw, List.drop_eq_getElem_cons h, List.append_assoc]
      rfl
    · conv => lhs; unfold spec_Changes.l3
      rw [if_neg (dnl h), List.drop_of_length_le (by omega)]
      simp [chOf]

theorem implCh_l2 (n : Nat) (i : Int) (a : List Re) (la i' : Int) (b : List Re) (ra r : Re) (K : List Ch → Option (List Ch × Bool)) : ∀ (k j : Nat) (out : List Ch), j ≤ r.2.length → r.2.length - j < k → out.length + (r.2.length - j) ≤ 4294967296 → r.2.length ≤ 4294967296 →
    impl_Changes.l2 n i a la i' (r.2.length : Int) b ra r K k (j : Int) out (j : Int) = K (out ++ chOf i false (r.2.drop j))
  | 0, j, out, hj, hk, ho, hw => absurd hk (Nat.not_lt_zero _)
  | k + 1, j, out, hj, hk, ho, hw => by
    by_cases h : j < r.2.length
    · conv => lhs; unfold impl_Changes.l2
      rw [if_pos (dlt h), if_pos (inl' h), if_pos (Int.le_refl _), getD_in _ h, if_pos (by simp [lim]; omega), wr1 (by omega), show (j : Int) + 1 = ((j + 1 : Nat) : Int) by omega, implCh_l2 n i a la i' b ra r K k (j + 1) _ (by omega) (by omega) (by simp; omega) hw, List.drop_eq_getElem_cons h, List.append_assoc]
      rfl
    · conv => lhs; unfold impl_Changes.l2
      rw [if_neg (dnl h), List.drop_of_length_le (by omega)]
      simp [chOf]

theorem implCh_l3 (n : Nat) (i : Int) (a : List Re) (la i' : Int) (b : List Re) (r : Re) (K : List Ch → Option (List Ch × Bool)) : ∀ (k j : Nat) (out : List Ch), j ≤ r.2.length → r.2.length - j < k → out.length + (r.2.length - j) ≤ 4294967296 → r.2.length ≤ 4294967296 →
    impl_Changes.l3 n i a la i' (r.2.length : Int) b r K k (j : Int) out (j : Int) = K (out ++ chOf i true (r.2.drop j))
  | 0, j, out, hj, hk, ho, hw => absurd hk (Nat.not_lt_zero _)
  | k + 1, j, out, hj, hk, ho, hw => by
    by_cases h : j < r.2.length
    · conv => lhs; unfold impl_Changes.l3
      rw [if_pos (dlt h), if_pos (inl' h), if_pos (Int.le_refl _), getD_in _ h, if_pos (by simp [lim]; omega), wr1 (by omega), show (j : Int) + 1 = ((j + 1 : Nat) : Int) by omega, implCh_l3 n i a la i' b r K k (j + 1) _ (by omega) (by omega) (by simp; omega) hw, List.drop_eq_getElem_cons h, List.append_assoc]
      rfl
    · conv => lhs; unfold impl_Changes.l3
      rw [if_neg (dnl h), List.drop_of_length_le (by omega)]
      simp [chOf]

/-- What is known of a Db that has its shape. -/
structure DbOk (n m : Nat) (d : List Re) : Prop where
  len : d.length ≤ 20
  rel : ∀ x ∈ d, okR x
  ok : ∀ x ∈ d, spec_RelOk.F n x = some true
  ok' : ∀ x ∈ d, impl_isRel.F m x = some true
  sz : ∀ x ∈ d, ∀ t ∈ x.2, ∀ s ∈ t, s.size ≤ 1048576
  ln : ∀ x ∈ d, ∀ t ∈ x.2, t.length ≤ 1048576

theorem shape_rel (n : Nat) (d : List Re) (hd : d.length ≤ 1048576) (K : Unit → Option Bool) : ∀ (k i : Nat), spec_DbShape.l0 n d K k (i : Int) = some true → ∀ x ∈ d.drop i, spec_RelOk.F n x = some true
  | 0, i, h, x, hx => by cases h
  | k + 1, i, h, x, hx => by
    by_cases hi : i < d.length
    · have h' := h
      conv at h' => lhs; unfold spec_DbShape.l0
      rw [if_pos (dlt hi), if_pos (inl' hi), getD_in _ hi, wr1 (by omega)] at h'
      cases hr : spec_RelOk.F n d[i] with
      | none => rw [hr] at h'; cases h'
      | some b =>
        rw [hr] at h'
        simp only [Option.bind_some] at h'
        cases b with
        | false => cases h'
        | true =>
          rw [if_neg (by simp)] at h'
          rw [List.drop_eq_getElem_cons hi] at hx
          rcases List.mem_cons.1 hx with rfl | hx
          · exact hr
          · exact shape_rel n d hd K k (i + 1) h' x hx
    · rw [List.drop_of_length_le (by omega)] at hx; cases hx

theorem shape_eq (n m : Nat) (hn : 1100000 ≤ n) (hm : 1100000 ≤ m) (d : List Re) (hd : d.length ≤ 1048576) (hs : ∀ x ∈ d, ∀ t ∈ x.2, ∀ s ∈ t, s.size ≤ 1048576) (hs2 : ∀ x ∈ d, ∀ t ∈ x.2, t.length ≤ 1048576) :
    ∃ b, spec_DbShape.F n d = some b ∧ impl_isShape.F m d = some b ∧ (b = true → DbOk n m d) := by
  obtain ⟨b, b1, b2, b3⟩ := db_eq n m hn hm d hd hs hs2
  refine ⟨b, b1, b2, fun hb => ?_⟩
  subst hb
  obtain ⟨h1, h2⟩ := b3 rfl
  have h3 : ∀ x ∈ d, spec_RelOk.F n x = some true := by
    unfold spec_DbShape.F at b1
    split at b1
    · cases b1
    · have := shape_rel n d hd (fun _ => some true) n 0 b1
      rwa [List.drop_zero] at this
  refine ⟨h1, h2, h3, fun x hx => ?_, hs, hs2⟩
  obtain ⟨c, c1, c2, _⟩ := rel_eq n m hn hm x (hs x hx) (hs2 x hx)
  rw [h3 x hx] at c1
  rw [c2, ← c1]

theorem EqualF_l (n : Nat) (a b : List Re) (hab : a.length = b.length) (ha : a.length ≤ 1048576) : ∀ (k i : Nat), i ≤ a.length → a.length - i < k →
    slices_EqualFunc_Rel_Rel_Rel_Rel.l0 n b (fun a5 => (impl_Changes_1.F n a5.1 a5.2.1).bind some) a (a.length : Int) (fun _ => some true) k (i : Int) = some (arEq (a.drop i) (b.drop i))
  | 0, i, hi, hk => absurd hk (Nat.not_lt_zero _)
  | k + 1, i, hi, hk => by
    by_cases h : i < a.length
    · have h2 : i < b.length := by omega
      conv => lhs; unfold slices_EqualFunc_Rel_Rel_Rel_Rel.l0
      rw [if_pos (dlt h), if_pos (inl' h), if_pos (inl' h2), getD_in _ h, getD_in _ h2, wr1 (by omega), List.drop_eq_getElem_cons h, List.drop_eq_getElem_cons h2]
      show (if (!decide ((a[i]).1 = (b[i]).1)) = true then _ else _) = _
      by_cases e : (a[i]).1 = (b[i]).1
      · rw [if_neg (by simp [e]), EqualF_l n a b hab ha k (i + 1) (by omega) (by omega)]
        simp [arEq, e]
      · rw [if_pos (by simp [e])]
        simp [arEq, e]
    · conv => lhs; unfold slices_EqualFunc_Rel_Rel_Rel_Rel.l0
      rw [if_neg (dnl h), List.drop_of_length_le (by omega)]
      rfl

section
variable (n m : Nat) (hn : 1100000 ≤ n) (hm : 1100000 ≤ m) (a b : List Re) (A : DbOk n m a) (B : DbOk n m b) (hab : a.length = b.length)
include hn hm A B hab

theorem specCh_l1 : ∀ (k i : Nat) (out : List Ch), i ≤ a.length → a.length - i < k → out.length ≤ i * 800 →
    spec_Changes.l1 n a b (fun t => some (t, true)) k (i : Int) out = if arEq (a.drop i) (b.drop i) = true then some (out ++ chs (a.drop i) (b.drop i) (i : Int), true) else some ([], false)
  | 0, i, out, hi, hk, ho => absurd hk (Nat.not_lt_zero _)
  | k + 1, i, out, hi, hk, ho => by
    have hA := A.len
    by_cases h : i < a.length
    · have h2 : i < b.length := by omega
      have ma := List.getElem_mem h
      have mb := List.getElem_mem h2
      have la : (a[i]).2.length ≤ 400 := (A.rel _ ma).2.2.1
      have lb : (b[i]).2.length ≤ 400 := (B.rel _ mb).2.2.1
      have da := List.drop_eq_getElem_cons h
      have db := List.drop_eq_getElem_cons h2
      conv => lhs; unfold spec_Changes.l1
      rw [if_pos (dlt h), if_pos (inl' h), if_pos (inl' h2), getD_in _ h, getD_in _ h2, wr1 (by omega), da, db]
      by_cases e : (a[i]).1 = (b[i]).1
      · obtain ⟨w, w1, w2, _, w4⟩ := relLess_eq n m hn hm a[i] b[i] (A.sz _ ma) (A.ln _ ma) (B.sz _ mb) (B.ln _ mb)
        obtain ⟨v, v1, v2, _, v4⟩ := relLess_eq n m hn hm b[i] a[i] (B.sz _ mb) (B.ln _ mb) (A.sz _ ma) (A.ln _ ma)
        have w5 := w4 (A.ok _ ma) (B.ok _ mb) e
        have v5 := v4 (B.ok _ mb) (A.ok _ ma) e.symm
        have lw : w.2.length ≤ 400 := by rw [w5]; exact Nat.le_trans (lessR_len _ _) la
        have lv : v.2.length ≤ 400 := by rw [v5]; exact Nat.le_trans (lessR_len _ _) lb
        rw [if_neg (by simp [e]), if_pos (inl' h), if_pos (inl' h2), w1]
        simp only [Option.bind_some]
        rw [if_pos (inl' h2), if_pos (inl' h), v1]
        simp only [Option.bind_some]
        rw [show (0 : Int) = ((0 : Nat) : Int) from rfl, specCh_l2 n _ w.2 v.2 a b _ n 0 out (Nat.zero_le _) (by omega) (by omega) (by omega), specCh_l3 n _ v.2 a b _ n 0 _ (Nat.zero_le _) (by omega) (by
          rw [List.length_append, chOf_len, List.drop_zero]; omega) (by omega), List.drop_zero, List.drop_zero, specCh_l1 k (i + 1) _ (by omega) (by omega) (by
          rw [List.length_append, List.length_append, chOf_len, chOf_len]; omega)]
        have e1 : arEq (a[i] :: a.drop (i + 1)) (b[i] :: b.drop (i + 1)) = arEq (a.drop (i + 1)) (b.drop (i + 1)) := by simp [arEq, e]
        rw [e1]
        by_cases e2 : arEq (a.drop (i + 1)) (b.drop (i + 1)) = true
        · rw [if_pos e2, if_pos e2]
          have : chs (a[i] :: a.drop (i + 1)) (b[i] :: b.drop (i + 1)) (i : Int) = chOf i false w.2 ++ chOf i true v.2 ++ chs (a.drop (i + 1)) (b.drop (i + 1)) ((i + 1 : Nat) : Int) := by
            rw [w5, v5]; rfl
          rw [this]
          simp [List.append_assoc]
        · rw [if_neg e2, if_neg e2]
      · rw [if_pos (by simp [e]), if_neg (by simp [arEq, e])]
    · conv => lhs; unfold spec_Changes.l1
      rw [if_neg (dnl h), List.drop_of_length_le (by omega), List.drop_of_length_le (by omega)]
      simp [arEq, chs]

theorem implCh_l1 (har : ∀ i (h : i < a.length) (h2 : i < b.length), (a[i]).1 = (b[i]).1) : ∀ (k i : Nat) (out : List Ch), i ≤ a.length → a.length - i < k → out.length ≤ i * 800 →
    impl_Changes.l1 m a (a.length : Int) b (fun t => some (t, true)) k (i : Int) out = some (out ++ chs (a.drop i) (b.drop i) (i : Int), true)
  | 0, i, out, hi, hk, ho => absurd hk (Nat.not_lt_zero _)
  | k + 1, i, out, hi, hk, ho => by
    have hA := A.len
    by_cases h : i < a.length
    · have h2 : i < b.length := by omega
      have ma := List.getElem_mem h
      have mb := List.getElem_mem h2
      have la : (a[i]).2.length ≤ 400 := (A.rel _ ma).2.2.1
      have lb : (b[i]).2.length ≤ 400 := (B.rel _ mb).2.2.1
      have da := List.drop_eq_getElem_cons h
      have db := List.drop_eq_getElem_cons h2
      have e := har i h h2
      conv => lhs; unfold impl_Changes.l1
      rw [if_pos (dlt h), if_pos (inl' h), if_pos (inl' h2), getD_in _ h, getD_in _ h2, wr1 (by omega), da, db]
      obtain ⟨w, w1, w2, _, w4⟩ := relLess_eq n m hn hm a[i] b[i] (A.sz _ ma) (A.ln _ ma) (B.sz _ mb) (B.ln _ mb)
      obtain ⟨v, v1, v2, _, v4⟩ := relLess_eq n m hn hm b[i] a[i] (B.sz _ mb) (B.ln _ mb) (A.sz _ ma) (A.ln _ ma)
      have w5 := w4 (A.ok _ ma) (B.ok _ mb) e
      have v5 := v4 (B.ok _ mb) (A.ok _ ma) e.symm
      have lw : w.2.length ≤ 400 := by rw [w5]; exact Nat.le_trans (lessR_len _ _) la
      have lv : v.2.length ≤ 400 := by rw [v5]; exact Nat.le_trans (lessR_len _ _) lb
      rw [w2]
      simp only [Option.bind_some]
      rw [show (0 : Int) = ((0 : Nat) : Int) from rfl, implCh_l2 m _ a _ _ b _ w _ m 0 out (Nat.zero_le _) (by omega) (by omega) (by omega)]
      rw [if_pos (by omega), v2]
      simp only [Option.bind_some]
      rw [implCh_l3 m _ a _ _ b v _ m 0 _ (Nat.zero_le _) (by omega) (by
          rw [List.length_append, chOf_len, List.drop_zero]; omega) (by omega), List.drop_zero, List.drop_zero, implCh_l1 har k (i + 1) _ (by omega) (by omega) (by
          rw [List.length_append, List.length_append, chOf_len, chOf_len]; omega)]
      have : chs (a[i] :: a.drop (i + 1)) (b[i] :: b.drop (i + 1)) (i : Int) = chOf i false w.2 ++ chOf i true v.2 ++ chs (a.drop (i + 1)) (b.drop (i + 1)) ((i + 1 : Nat) : Int) := by
        rw [w5, v5]; rfl
      rw [this]
      simp [List.append_assoc]
    · conv => lhs; unfold impl_Changes.l1
      rw [if_neg (dnl h), List.drop_of_length_le (by omega), List.drop_of_length_le (by omega)]
      simp [chs]
end

theorem arEq_get : ∀ {a b : List Re}, arEq a b = true → ∀ i (h : i < a.length) (h2 : i < b.length), (a[i]).1 = (b[i]).1
  | [], _, _, i, h, _ => absurd h (Nat.not_lt_zero _)
  | _ :: _, [], _, i, _, h => absurd h (Nat.not_lt_zero _)
  | x :: a, y :: b, e, i, h, h2 => by
    simp only [arEq, Bool.and_eq_true, decide_eq_true_eq] at e
    cases i with
    | zero => exact e.1
    | succ i => exact arEq_get e.2 i (by simpa using h) (by simpa using h2)

theorem chs_mem : ∀ {a b : List Re} {i : Int} {c : Ch}, c ∈ chs a b i → (∃ x ∈ a, c.2.1 ∈ x.2) ∨ ∃ x ∈ b, c.2.1 ∈ x.2
  | [], _, _, _, h => by cases h
  | _ :: _, [], _, _, h => by cases h
  | x :: a, y :: b, i, c, h => by
    rcases List.mem_append.1 (show c ∈ chg i x y ++ chs a b (i + 1) from h) with h | h
    · rcases List.mem_append.1 (show c ∈ chOf i false (lessR x.2 y.2) ++ chOf i true (lessR y.2 x.2) from h) with h | h
      · obtain ⟨t, ht, rfl⟩ := List.mem_map.1 h
        exact .inl ⟨x, List.mem_cons_self, (List.mem_filter.1 ht).1⟩
      · obtain ⟨t, ht, rfl⟩ := List.mem_map.1 h
        exact .inr ⟨y, List.mem_cons_self, (List.mem_filter.1 ht).1⟩
    · rcases chs_mem h with ⟨z, h1, h2⟩ | ⟨z, h1, h2⟩
      · exact .inl ⟨z, List.mem_cons_of_mem _ h1, h2⟩
      · exact .inr ⟨z, List.mem_cons_of_mem _ h1, h2⟩

theorem chs_len : ∀ {a b : List Re} {i : Int}, (∀ x ∈ a, x.2.length ≤ 400) → (∀ x ∈ b, x.2.length ≤ 400) → (chs a b i).length ≤ a.length * 800
  | [], _, _, _, _ => Nat.zero_le _
  | _ :: _, [], _, _, _ => Nat.zero_le _
  | x :: a, y :: b, i, h, h' => by
    show (chg i x y ++ chs a b (i + 1)).length ≤ _
    have h1 := chg_len i x y
    have h2 := h x List.mem_cons_self
    have h3 := h' y List.mem_cons_self
    have h4 := chs_len (a := a) (b := b) (i := i + 1) (fun z hz => h z (List.mem_cons_of_mem _ hz)) (fun z hz => h' z (List.mem_cons_of_mem _ hz))
    rw [List.length_append, List.length_cons]
    omega

theorem sum_le {α : Type} (f : α → Nat) (B : Nat) : ∀ (l : List α), (∀ x ∈ l, f x ≤ B) → (l.map f).sum ≤ l.length * B
  | [], _ => Nat.zero_le _
  | x :: l, h => by
    have h1 := h x List.mem_cons_self
    have h2 := sum_le f B l (fun y hy => h y (List.mem_cons_of_mem _ hy))
    simp only [List.map_cons, List.sum_cons, List.length_cons, Nat.add_mul, Nat.one_mul]
    omega

theorem bulk_okT {t : List ByteArray} (h : okT t) : Kd.bulk (.sl .str) t ≤ 1207 := by
  have h1 : (t.map (Kd.bulk .str)).sum ≤ t.length * 201 := sum_le _ 201 t fun s hs => by
    obtain ⟨k, _, hz⟩ := h.2 s hs
    show s.size + 1 ≤ 201
    omega
  have h2 : Kd.bulk (.sl .str) t = (t.map (Kd.bulk .str)).sum + 1 := rfl
  have h3 := h.1
  have : t.length * 201 ≤ 6 * 201 := Nat.mul_le_mul_right _ h3
  omega

theorem changes_eq (n m : Nat) (hn : 1100000 ≤ n) (hm : 1100000 ≤ m) (a b : List Re) (ha : a.length ≤ 1048576) (hsa : ∀ x ∈ a, ∀ t ∈ x.2, ∀ s ∈ t, s.size ≤ 1048576) (hla : ∀ x ∈ a, ∀ t ∈ x.2, t.length ≤ 1048576)
    (hb : b.length ≤ 1048576) (hsb : ∀ x ∈ b, ∀ t ∈ x.2, ∀ s ∈ t, s.size ≤ 1048576) (hlb : ∀ x ∈ b, ∀ t ∈ x.2, t.length ≤ 1048576) :
    ∃ w, spec_Changes.F n a b = some w ∧ impl_Changes.F m a b = some w ∧ (w = ([], false) ∨ w = (chs a b 0, true) ∧ DbOk n m a ∧ DbOk n m b ∧ a.length = b.length ∧ arEq a b = true) := by
  obtain ⟨p, p1, p2, p3⟩ := shape_eq n m hn hm a ha hsa hla
  obtain ⟨q, q1, q2, q3⟩ := shape_eq n m hn hm b hb hsb hlb
  unfold spec_Changes.F impl_Changes.F
  rw [p1, p2, q1, q2]
  cases p with
  | false => exact ⟨([], false), rfl, rfl, .inl rfl⟩
  | true =>
    cases q with
    | false => exact ⟨([], false), rfl, rfl, .inl rfl⟩
    | true =>
      have A := p3 rfl
      have B := q3 rfl
      have hA := A.len
      simp only [Option.bind_some, Bool.not_true, if_true]
      unfold slices_EqualFunc_Rel_Rel_Rel_Rel.F
      by_cases hab : a.length = b.length
      · have h1 := EqualF_l m a b hab ha m 0 (Nat.zero_le _) (by omega)
        have h2 := specCh_l1 n m hn hm a b A B hab n 0 [] (Nat.zero_le _) (by omega) (by simp)
        rw [List.drop_zero, List.drop_zero, show ((0 : Nat) : Int) = 0 from rfl] at h1 h2
        have c1 : (!decide ((a.length : Int) = (b.length : Int))) = true ↔ False := by simp [hab]
        rw [if_neg (fun h => c1.1 h), if_neg (fun h => c1.1 h), h1]
        unfold spec_Changes.j0
        rw [h2]
        simp only [Option.bind_some]
        by_cases e : arEq a b = true
        · refine ⟨(chs a b 0, true), by rw [if_pos e]; rfl, ?_, .inr ⟨rfl, A, B, hab, e⟩⟩
          rw [if_neg (by simp [e])]
          unfold impl_Changes.j0
          have h3 := implCh_l1 n m hn hm a b A B hab (arEq_get e) m 0 [] (Nat.zero_le _) (by omega) (by simp)
          rw [List.drop_zero, List.drop_zero, show ((0 : Nat) : Int) = 0 from rfl] at h3
          rw [h3]
          rfl
        · refine ⟨([], false), by rw [if_neg e], ?_, .inl rfl⟩
          rw [if_pos (by simp [e])]
      · have c1 : (!decide ((a.length : Int) = (b.length : Int))) = true := by simp; omega
        refine ⟨([], false), by rw [if_pos c1], ?_, .inl rfl⟩
        rw [if_pos c1]
        rfl

theorem chs_bulk {n m : Nat} {a b : List Re} (A : DbOk n m a) (B : DbOk n m b) : Kd.bulk (.sl (.st (.pair (.int .i64) (.pair (.st (.sl (.str))) (.bool))))) (chs a b 0) ≤ 2147483648 := by
  have h1 := chs_len (a := a) (b := b) (i := 0) (fun x hx => (A.rel x hx).2.2.1) (fun x hx => (B.rel x hx).2.2.1)
  have h2 : (List.map (Kd.bulk (.st (.pair (.int .i64) (.pair (.st (.sl (.str))) (.bool))))) (chs a b 0)).sum ≤ (chs a b 0).length * 1209 := sum_le _ 1209 _ fun c hc => by
    have : okT c.2.1 := by
      rcases chs_mem hc with ⟨x, hx, ht⟩ | ⟨x, hx, ht⟩
      · exact (A.rel x hx).2.2.2 _ ht
      · exact (B.rel x hx).2.2.2 _ ht
    have h3 := bulk_okT this
    show 1 + (Kd.bulk (.sl .str) c.2.1 + 1) ≤ 1209
    omega
  have h3 := A.len
  have h4 : Kd.bulk (.sl (.st (.pair (.int .i64) (.pair (.st (.sl (.str))) (.bool))))) (chs a b 0) = (List.map (Kd.bulk (.st (.pair (.int .i64) (.pair (.st (.sl (.str))) (.bool))))) (chs a b 0)).sum + 1 := rfl
  omega

/-- What a Db's bulk says of its texts. -/
theorem db_small (d : List (Int × List (List ByteArray))) (h : Kd.bulk (.st (.sl (.st (.pair (.int .i64) (.sl (.st (.sl (.str)))))))) d ≤ 1048576) :
    d.length ≤ 1048576 ∧ (∀ x ∈ d, ∀ t ∈ x.2, ∀ s ∈ t, s.size ≤ 1048576) ∧ ∀ x ∈ d, ∀ t ∈ x.2, t.length ≤ 1048576 := by
  have h0 := bulk_len (e := .st (.pair (.int .i64) (.sl (.st (.sl (.str)))))) d
  have h : (List.map (Kd.bulk (.st (.pair (.int .i64) (.sl (.st (.sl .str)))))) d).sum + 1 ≤ 1048576 := h
  have hx : ∀ x ∈ d, Kd.bulk (.sl (.st (.sl .str))) x.2 ≤ 1048576 := by
    intro x hx
    have h1 := bulk_mem (e := .st (.pair (.int .i64) (.sl (.st (.sl (.str)))))) (l := d) (x := x) hx
    have h2 : Kd.bulk (.st (.pair (.int .i64) (.sl (.st (.sl (.str)))))) x = 1 + Kd.bulk (.sl (.st (.sl .str))) x.2 := rfl
    omega
  have ht : ∀ x ∈ d, ∀ t ∈ x.2, Kd.bulk (.sl .str) t ≤ 1048576 := by
    intro x hx' t ht
    have h1 := bulk_mem (e := .st (.sl (.str))) (l := x.2) (x := t) ht
    have h2 : Kd.bulk (.sl (.st (.sl .str))) x.2 = (List.map (Kd.bulk (.st (.sl .str))) x.2).sum + 1 := rfl
    have h3 := hx x hx'
    have h4 : Kd.bulk (.st (.sl .str)) t = Kd.bulk (.sl .str) t := rfl
    omega
  refine ⟨by omega, fun x hx' t ht' s hs => ?_, fun x hx' t ht' => ?_⟩
  · have h1 := bulk_mem (e := .str) (l := t) (x := s) hs
    have h2 : Kd.bulk (.sl .str) t = (List.map (Kd.bulk .str) t).sum + 1 := rfl
    have h3 := ht x hx' t ht'
    have h4 : Kd.bulk .str s = s.size + 1 := rfl
    omega
  · have h1 := bulk_len (e := .str) t
    have h2 : Kd.bulk (.sl .str) t = (List.map (Kd.bulk .str) t).sum + 1 := rfl
    have h3 := ht x hx' t ht'
    omega

end Go.Abs
