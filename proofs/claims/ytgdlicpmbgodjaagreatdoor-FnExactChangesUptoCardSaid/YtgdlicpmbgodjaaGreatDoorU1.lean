/- Rows that are the same, rows that are there, a relation less another one: both sides alike. Conditions: none. -/
import Derived.Test.YtgdlicpmbgodjaaGreatDoorT9
namespace Go.Abs
set_option linter.unusedVariables false
set_option linter.unusedSimpArgs false

theorem seq_dec (a b : ByteArray) : Abs.seq a b = decide (a = b) := by
  rw [bt_of a, bt_of b, bt_seq]
  by_cases h : a.data.toList = b.data.toList
  · rw [h]; simp
  · have : ¬ bt a.data.toList = bt b.data.toList := fun e => h (by have := congrArg (fun x => x.data.toList) e; simpa [bt_list] using this)
    rw [decide_eq_false this, beq_eq_false_iff_ne]
    exact h

section
variable {α : Type}
theorem drop_cons (l : List α) (d : α) (i : Nat) (h : i < l.length) : l.drop i = List.getD l i d :: l.drop (i + 1) := by
  rw [List.drop_eq_getElem_cons h]; simp [h]
theorem dlt {l : List α} {i : Nat} (h : i < l.length) : decide ((i : Int) < (l.length : Int)) = true := by simp [h]
theorem dnl {l : List α} {i : Nat} (h : ¬ i < l.length) : ¬ decide ((i : Int) < (l.length : Int)) = true := by simp; omega
theorem inl' {l : List α} {i : Nat} (h : i < l.length) : (0 : Int) ≤ (i : Int) ∧ (i : Int) < (l.length : Int) := by omega
theorem wr1 {i : Nat} (h : i ≤ 4294967296) : IntKind.i64.wrap ((i : Int) + 1) = ((i + 1 : Nat) : Int) := by rw [wrap64 _ (by omega) (by omega)]; omega
theorem getD_in {l : List α} {i : Nat} (d : α) (h : i < l.length) : List.getD l (Int.toNat (i : Int)) d = l[i] := by simp [h]
end

theorem l02Same_l (n : Nat) (a b : List ByteArray) (hab : a.length = b.length) (ha : a.length ≤ 4294967296) (K : Unit → Option Bool) : ∀ (k i : Nat), i ≤ a.length → a.length - i < k →
    spec_l02Same.l0 n a b K k (i : Int) = if a.drop i = b.drop i then K () else some false
  | 0, i, hi, hk => absurd hk (Nat.not_lt_zero _)
  | k + 1, i, hi, hk => by
    by_cases h : i < a.length
    · have h2 : i < b.length := by omega
      have step : spec_l02Same.l0 n a b K (k + 1) (i : Int) = if a[i] = b[i] then spec_l02Same.l0 n a b K k ((i + 1 : Nat) : Int) else some false := by
        conv => lhs; unfold spec_l02Same.l0
        rw [if_pos (dlt h), if_pos (inl' h), if_pos (inl' h2), getD_in _ h, getD_in _ h2, seq_dec, wr1 (by omega)]
        by_cases e : a[i] = b[i] <;> simp [e]
      rw [step, List.drop_eq_getElem_cons h, List.drop_eq_getElem_cons h2]
      by_cases e : a[i] = b[i]
      · rw [if_pos e, l02Same_l n a b hab ha K k (i + 1) (by omega) (by omega)]
        by_cases e2 : a.drop (i + 1) = b.drop (i + 1)
        · rw [if_pos e2, if_pos (by rw [e, e2])]
        · rw [if_neg e2, if_neg (fun h => e2 (List.cons.inj h).2)]
      · rw [if_neg e, if_neg (fun h => e (List.cons.inj h).1)]
    · have e : i = a.length := by omega
      conv => lhs; unfold spec_l02Same.l0
      rw [if_neg (dnl h), if_pos (by rw [List.drop_of_length_le (by omega), List.drop_of_length_le (by omega)])]

theorem l02Same_eq (n : Nat) (a b : List ByteArray) (ha : a.length ≤ 4294967296) (hn : a.length < n) : spec_l02Same.F n a b = some (decide (a = b)) := by
  unfold spec_l02Same.F
  by_cases h : a.length = b.length
  · rw [if_neg (by simp [h])]
    have := l02Same_l n a b h ha (fun _ => some true) n 0 (Nat.zero_le _) (by omega)
    rw [show ((0 : Nat) : Int) = 0 from rfl, List.drop_zero, List.drop_zero] at this
    rw [this]
    by_cases e : a = b <;> simp [e]
  · rw [if_pos (by simp; omega)]
    have : a ≠ b := fun e => h (by rw [e])
    simp [this]

theorem slEqual_l (n : Nat) (a b : List ByteArray) (hab : a.length = b.length) (ha : a.length ≤ 4294967296) (K : Unit → Option Bool) : ∀ (k i : Nat), i ≤ a.length → a.length - i < k →
    slices_Equal_string_string.l0 n a b (a.length : Int) K k (i : Int) = if a.drop i = b.drop i then K () else some false
  | 0, i, hi, hk => absurd hk (Nat.not_lt_zero _)
  | k + 1, i, hi, hk => by
    by_cases h : i < a.length
    · have h2 : i < b.length := by omega
      have step : slices_Equal_string_string.l0 n a b (a.length : Int) K (k + 1) (i : Int) = if a[i] = b[i] then slices_Equal_string_string.l0 n a b (a.length : Int) K k ((i + 1 : Nat) : Int) else some false := by
        conv => lhs; unfold slices_Equal_string_string.l0
        rw [if_pos (dlt h), if_pos (inl' h), if_pos (inl' h2), getD_in _ h, getD_in _ h2, seq_dec, wr1 (by omega)]
        by_cases e : a[i] = b[i] <;> simp [e]
      rw [step, List.drop_eq_getElem_cons h, List.drop_eq_getElem_cons h2]
      by_cases e : a[i] = b[i]
      · rw [if_pos e, slEqual_l n a b hab ha K k (i + 1) (by omega) (by omega)]
        by_cases e2 : a.drop (i + 1) = b.drop (i + 1)
        · rw [if_pos e2, if_pos (by rw [e, e2])]
        · rw [if_neg e2, if_neg (fun h => e2 (List.cons.inj h).2)]
      · rw [if_neg e, if_neg (fun h => e (List.cons.inj h).1)]
    · have e : i = a.length := by omega
      conv => lhs; unfold slices_Equal_string_string.l0
      rw [if_neg (dnl h), if_pos (by rw [List.drop_of_length_le (by omega), List.drop_of_length_le (by omega)])]

theorem slEqual_eq (n : Nat) (a b : List ByteArray) (ha : a.length ≤ 4294967296) (hn : a.length < n) : slices_Equal_string_string.F n a b = some (decide (a = b)) := by
  unfold slices_Equal_string_string.F
  by_cases h : a.length = b.length
  · rw [if_neg (by simp [h])]
    have := slEqual_l n a b h ha (fun _ => some true) n 0 (Nat.zero_le _) (by omega)
    rw [show ((0 : Nat) : Int) = 0 from rfl, List.drop_zero, List.drop_zero] at this
    rw [this]
    by_cases e : a = b <;> simp [e]
  · rw [if_pos (by simp; omega)]
    have : a ≠ b := fun e => h (by rw [e])
    simp [this]

theorem sameTuple_eq (n : Nat) (a b : List ByteArray) (ha : a.length ≤ 4294967296) (hn : a.length < n) : impl_sameTuple.F n a b = some (decide (a = b)) := by
  unfold impl_sameTuple.F; rw [slEqual_eq n a b ha hn]; rfl

/-- Is it one of the rows? -/
def inL (t : List ByteArray) (rows : List (List ByteArray)) : Bool := rows.any fun x => decide (x = t)
theorem inL_iff {t : List ByteArray} {rows : List (List ByteArray)} : inL t rows = true ↔ t ∈ rows := by
  unfold inL
  rw [List.any_eq_true]
  constructor
  · rintro ⟨x, hx, e⟩
    simp only [decide_eq_true_eq] at e
    exact e ▸ hx
  · intro h
    exact ⟨t, h, by simp⟩
theorem inL_cons (t x : List ByteArray) (r : List (List ByteArray)) : inL t (x :: r) = (decide (x = t) || inL t r) := rfl

theorem l02Has_l (n : Nat) (rows : List (List ByteArray)) (t : List ByteArray) (hr : rows.length ≤ 4294967296) (ht : ∀ x ∈ rows, x.length ≤ 4294967295 ∧ x.length < n) (K : Unit → Option Bool) : ∀ (k i : Nat), i ≤ rows.length → rows.length - i < k →
    spec_l02Has.l0 n rows t K k (i : Int) = if inL t (rows.drop i) = true then some true else K ()
  | 0, i, hi, hk => absurd hk (Nat.not_lt_zero _)
  | k + 1, i, hi, hk => by
    by_cases h : i < rows.length
    · have hx := ht _ (List.getElem_mem h)
      have step : spec_l02Has.l0 n rows t K (k + 1) (i : Int) = if rows[i] = t then some true else spec_l02Has.l0 n rows t K k ((i + 1 : Nat) : Int) := by
        conv => lhs; unfold spec_l02Has.l0
        rw [if_pos (dlt h), if_pos (inl' h), getD_in _ h, l02Same_eq n _ t (by omega) hx.2, wr1 (by omega)]
        by_cases e : rows[i] = t <;> simp [e]
      rw [step, List.drop_eq_getElem_cons h]
      by_cases e : rows[i] = t
      · rw [if_pos e, if_pos (by rw [inL_cons, decide_eq_true e, Bool.true_or])]
      · rw [if_neg e, l02Has_l n rows t hr ht K k (i + 1) (by omega) (by omega), inL_cons, decide_eq_false e, Bool.false_or]
    · conv => lhs; unfold spec_l02Has.l0
      rw [if_neg (dnl h), List.drop_of_length_le (show rows.length ≤ i by omega)]
      rfl

theorem l02Has_eq (n : Nat) (rows : List (List ByteArray)) (t : List ByteArray) (hr : rows.length ≤ 4294967296) (hn : rows.length < n) (ht : ∀ x ∈ rows, x.length ≤ 4294967295 ∧ x.length < n) : spec_l02Has.F n rows t = some (inL t rows) := by
  unfold spec_l02Has.F
  have := l02Has_l n rows t hr ht (fun _ => some false) n 0 (Nat.zero_le _) (by omega)
  rw [show ((0 : Nat) : Int) = 0 from rfl, List.drop_zero] at this
  rw [this]
  cases inL t rows <;> rfl

theorem IndexT_l (n : Nat) (rows : List (List ByteArray)) (f : List ByteArray × Unit → Option Bool) (q : List ByteArray → Bool) (hf : ∀ x ∈ rows, f (x, ()) = some (q x)) (hr : rows.length ≤ 4294967296) (K : Unit → Option Int) : ∀ (k i : Nat), i ≤ rows.length → rows.length - i < k →
    (∃ j, i ≤ j ∧ j < rows.length ∧ (∃ x ∈ rows.drop i, q x = true) ∧ slices_IndexFunc_Tuple_Tuple.l0 n rows f (rows.length : Int) K k (i : Int) = some (j : Int)) ∨ ((∀ x ∈ rows.drop i, q x = false) ∧ slices_IndexFunc_Tuple_Tuple.l0 n rows f (rows.length : Int) K k (i : Int) = K ())
  | 0, i, hi, hk => absurd hk (Nat.not_lt_zero _)
  | k + 1, i, hi, hk => by
    by_cases h : i < rows.length
    · have step : slices_IndexFunc_Tuple_Tuple.l0 n rows f (rows.length : Int) K (k + 1) (i : Int) = if q rows[i] = true then some (i : Int) else slices_IndexFunc_Tuple_Tuple.l0 n rows f (rows.length : Int) K k ((i + 1 : Nat) : Int) := by
        conv => lhs; unfold slices_IndexFunc_Tuple_Tuple.l0
        rw [if_pos (dlt h), if_pos (inl' h), getD_in _ h, hf _ (List.getElem_mem h), wr1 (by omega)]
        rfl
      rw [step, List.drop_eq_getElem_cons h]
      cases e : q rows[i] with
      | true => exact .inl ⟨i, Nat.le_refl _, h, ⟨_, List.mem_cons_self, e⟩, by simp⟩
      | false =>
        rw [if_neg (by simp)]
        rcases IndexT_l n rows f q hf hr K k (i + 1) (by omega) (by omega) with ⟨j, h1, h2, ⟨x, h3, h4⟩, h5⟩ | ⟨h1, h2⟩
        · exact .inl ⟨j, by omega, h2, ⟨x, List.mem_cons_of_mem _ h3, h4⟩, h5⟩
        · refine .inr ⟨fun x hx => ?_, h2⟩
          rcases List.mem_cons.1 hx with rfl | hx
          · exact e
          · exact h1 x hx
    · refine .inr ⟨fun x hx => absurd hx (by rw [List.drop_of_length_le (by omega)]; exact List.not_mem_nil), ?_⟩
      conv => lhs; unfold slices_IndexFunc_Tuple_Tuple.l0
      rw [if_neg (dnl h)]

theorem ContainsT_eq (n : Nat) (rows : List (List ByteArray)) (f : List ByteArray × Unit → Option Bool) (q : List ByteArray → Bool) (hf : ∀ x ∈ rows, f (x, ()) = some (q x)) (hr : rows.length ≤ 4294967296) (hn : rows.length < n) :
    slices_ContainsFunc_Tuple_Tuple.F n rows f = some (rows.any q) := by
  unfold slices_ContainsFunc_Tuple_Tuple.F slices_IndexFunc_Tuple_Tuple.F
  have := IndexT_l n rows f q hf hr (fun _ => some (-1)) n 0 (Nat.zero_le _) (by omega)
  rw [show ((0 : Nat) : Int) = 0 from rfl, List.drop_zero] at this
  rcases this with ⟨j, _, _, ⟨x, hx, hq⟩, e⟩ | ⟨h, e⟩
  · rw [e]
    have : rows.any q = true := List.any_eq_true.2 ⟨x, hx, hq⟩
    rw [this]
    simp
  · rw [e]
    have : rows.any q = false := by
      rw [List.any_eq_false]
      intro x hx
      rw [h x hx]
      simp
    rw [this]
    simp

theorem Rel_has_eq (n : Nat) (r : Int × List (List ByteArray)) (t : List ByteArray) (hr : r.2.length ≤ 4294967296) (hn : r.2.length < n) (ht : ∀ x ∈ r.2, x.length ≤ 4294967295 ∧ x.length < n) : impl_Rel_has.F n r t = some (inL t r.2) := by
  unfold impl_Rel_has.F
  rw [ContainsT_eq n r.2 _ (fun x => decide (x = t)) (fun x hx => by
    show ((impl_Rel_has_1.F n x t).bind some) = _
    unfold impl_Rel_has_1.F
    rw [sameTuple_eq n x t (by have := (ht x hx).1; omega) (ht x hx).2]
    rfl) hr hn]
  rfl

theorem copyTuple_eq (n : Nat) (t : List ByteArray) (h : t.length ≤ 4294967296) : impl_copyTuple.F n t = some t := by
  unfold impl_copyTuple.F
  rw [if_pos (by simp [lim]; exact h)]
  rfl
theorem l02Tuple_eq (n : Nat) (t : List ByteArray) (h : t.length ≤ 4294967296) : spec_l02Tuple.F n t = some t := by
  unfold spec_l02Tuple.F
  rw [if_pos (by simp [lim]; exact h)]
  rfl

theorem copyRel_l (n : Nat) (rows : List (List ByteArray)) (t5 : Int × List (List ByteArray)) (K : (Int × List (List ByteArray)) → Option (Int × List (List ByteArray))) (ar : Int) (hr : rows.length ≤ 4294967296) (ht : ∀ x ∈ rows, x.length ≤ 4294967296) : ∀ (k i : Nat), i ≤ rows.length → rows.length - i < k →
    impl_copyRel.l0 n rows (rows.length : Int) t5 K k (i : Int) (ar, rows.take i) = K (ar, rows)
  | 0, i, hi, hk => absurd hk (Nat.not_lt_zero _)
  | k + 1, i, hi, hk => by
    by_cases h : i < rows.length
    · conv => lhs; unfold impl_copyRel.l0
      rw [if_pos (dlt h), if_pos (inl' h), getD_in _ h, copyTuple_eq n _ (ht _ (List.getElem_mem h)), wr1 (by omega)]
      simp only [Option.bind_some]
      rw [if_pos (by simp [lim]; omega), ← List.take_succ_eq_append_getElem h]
      exact copyRel_l n rows t5 K ar hr ht k (i + 1) (by omega) (by omega)
    · conv => lhs; unfold impl_copyRel.l0
      rw [if_neg (dnl h), List.take_of_length_le (by omega)]

theorem copyRel_eq (n : Nat) (r : Int × List (List ByteArray)) (hr : r.2.length ≤ 4294967296) (hn : r.2.length < n) (ht : ∀ x ∈ r.2, x.length ≤ 4294967296) : impl_copyRel.F n r = some r := by
  unfold impl_copyRel.F
  have := copyRel_l n r.2 (0, []) (fun x => some x) r.1 hr ht n 0 (Nat.zero_le _) (by omega)
  rw [show ((0 : Nat) : Int) = 0 from rfl, List.take_zero] at this
  exact this

theorem delGo_filter {α : Type} {p : α × Unit → Option Bool} {q : α → Bool} : ∀ {l : List α}, (∀ x ∈ l, p (x, ()) = some (q x)) → delGo p l = some (l.filter fun x => !q x)
  | [], _ => rfl
  | x :: l, h => by
    simp only [delGo, h x List.mem_cons_self, Option.bind_some, delGo_filter (l := l) (fun y hy => h y (List.mem_cons_of_mem _ hy)), List.filter_cons]
    cases q x <;> rfl

/-- The rows of a that are none of b's. -/
def lessR (a b : List (List ByteArray)) : List (List ByteArray) := a.filter fun t => !inL t b

theorem specLess_l (n : Nat) (a b t11 : Int × List (List ByteArray)) (K : (Int × List (List ByteArray)) → Option (Int × List (List ByteArray))) (ha : a.2.length ≤ 4294967296) (hb : b.2.length ≤ 4294967296) (hn : b.2.length < n) (hta : ∀ x ∈ a.2, x.length ≤ 4294967296) (ht : ∀ x ∈ b.2, x.length ≤ 4294967295 ∧ x.length < n) : ∀ (k i : Nat) (ar : Int), i ≤ a.2.length → a.2.length - i < k →
    spec_RelLess.l1 n a b t11 K k (i : Int) (ar, lessR (a.2.take i) b.2) = K (ar, lessR a.2 b.2)
  | 0, i, ar, hi, hk => absurd hk (Nat.not_lt_zero _)
  | k + 1, i, ar, hi, hk => by
    by_cases h : i < a.2.length
    · have hle : (lessR (a.2.take i) b.2).length ≤ i := Nat.le_trans (List.length_filter_le _ _) (by rw [List.length_take]; omega)
      have hs : lessR (a.2.take (i + 1)) b.2 = lessR (a.2.take i) b.2 ++ (if inL a.2[i] b.2 = true then [] else [a.2[i]]) := by
        rw [List.take_succ_eq_append_getElem h]
        unfold lessR
        rw [List.filter_append]
        congr 1
        rw [List.filter_cons, List.filter_nil]
        cases inL a.2[i] b.2 <;> rfl
      conv => lhs; unfold spec_RelLess.l1
      rw [if_pos (dlt h), if_pos (inl' h), getD_in _ h, l02Has_eq n b.2 _ hb hn ht, wr1 (by omega)]
      simp only [Option.bind_some]
      by_cases e : inL a.2[i] b.2 = true
      · rw [if_neg (by simp [e])]
        rw [if_pos e, List.append_nil] at hs
        rw [← hs]
        exact specLess_l n a b t11 K ha hb hn hta ht k (i + 1) ar (by omega) (by omega)
      · rw [if_pos (by simp [e]), if_pos (inl' h), l02Tuple_eq n _ (hta _ (List.getElem_mem h))]
        simp only [Option.bind_some]
        rw [if_pos (by simp [lim]; omega)]
        rw [if_neg e] at hs
        rw [← hs]
        exact specLess_l n a b t11 K ha hb hn hta ht k (i + 1) ar (by omega) (by omega)
    · conv => lhs; unfold spec_RelLess.l1
      rw [if_neg (dnl h), List.take_of_length_le (by omega)]

/-- Both sides take one relation off another one alike. -/
theorem relLess_eq (n m : Nat) (hn : 1100000 ≤ n) (hm : 1100000 ≤ m) (a b : Int × List (List ByteArray)) (hsa : ∀ t ∈ a.2, ∀ s ∈ t, s.size ≤ 1048576) (hla : ∀ t ∈ a.2, t.length ≤ 1048576) (hsb : ∀ t ∈ b.2, ∀ s ∈ t, s.size ≤ 1048576) (hlb : ∀ t ∈ b.2, t.length ≤ 1048576) :
    ∃ w, spec_RelLess.F n a b = some w ∧ impl_RelLess.F m a b = some w ∧ (w = (0, []) ∨ w = (a.1, lessR a.2 b.2) ∧ okR a ∧ okR b ∧ a.1 = b.1) ∧ (spec_RelOk.F n a = some true → spec_RelOk.F n b = some true → a.1 = b.1 → w = (a.1, lessR a.2 b.2)) := by
  obtain ⟨p, p1, p2, p3⟩ := rel_eq n m hn hm a hsa hla
  obtain ⟨q, q1, q2, q3⟩ := rel_eq n m hn hm b hsb hlb
  unfold spec_RelLess.F impl_RelLess.F
  rw [p1, p2, q1, q2]
  cases p with
  | false => exact ⟨(0, []), rfl, rfl, .inl rfl, fun h => by cases h⟩
  | true =>
    cases q with
    | false => exact ⟨(0, []), rfl, rfl, .inl rfl, fun _ h => by cases h⟩
    | true =>
      simp only [Option.bind_some, Bool.not_true, if_true]
      by_cases har : a.1 = b.1
      · have okA := p3 rfl
        have okB := q3 rfl
        have hA : a.2.length ≤ 400 := okA.2.2.1
        have hB : b.2.length ≤ 400 := okB.2.2.1
        refine ⟨(a.1, lessR a.2 b.2), ?_, ?_, .inr ⟨rfl, okA, okB, har⟩, fun _ _ _ => rfl⟩
        · rw [if_neg (by simp [har])]
          unfold spec_RelLess.j0
          have := specLess_l n a b (0, []) (fun x => some x) (by omega) (by omega) (by omega) (fun x hx => by have := hla x hx; omega) (fun x hx => by have := hlb x hx; omega) n 0 a.1 (Nat.zero_le _) (by omega)
          rw [show ((0 : Nat) : Int) = 0 from rfl, List.take_zero] at this
          exact this
        · rw [if_neg (by simp [har])]
          unfold impl_RelLess.j0
          rw [copyRel_eq m a (by omega) (by omega) (fun x hx => by have := hla x hx; omega)]
          simp only [Option.bind_some]
          unfold slices_DeleteFunc_Tuple_Tuple.F delF
          rw [if_pos (by omega), delGo_filter (q := fun t => inL t b.2) (fun x hx => by
            show ((impl_Rel_has.F m b x).bind some) = _
            rw [Rel_has_eq m b x (by omega) (by omega) (fun x hx => by have := hlb x hx; omega)]
            rfl)]
          rfl
      · have hc : (!decide (a.1 = b.1)) = true := by simp [har]
        exact ⟨(0, []), by rw [if_pos hc], by rw [if_pos hc], .inl rfl, fun _ _ h => absurd h har⟩

end Go.Abs
