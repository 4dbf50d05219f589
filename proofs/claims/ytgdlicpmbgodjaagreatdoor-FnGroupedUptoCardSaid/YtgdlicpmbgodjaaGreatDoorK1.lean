/- What is right is taken for right. Conditions: none. -/
import Derived.Test.YtgdlicpmbgodjaaGreatDoorG9
namespace Go.Abs
set_option linter.unusedVariables false
set_option linter.unusedSimpArgs false
theorem kind_okS (n : Nat) (hn : 1000 ≤ n) {s : ByteArray} (hs : okS s) : ∃ k : Nat, spec_TermKind.F n s = some (k : Int) ∧ k ≠ 0 := by
 obtain ⟨j, hj, hz⟩ := hs
 obtain ⟨k, h1, _, h3⟩ := kinds_eq n n s (by omega) (by omega) (by omega)
 have hz' : s.data.toList.length ≤ 200 := by
  have : s.data.toList.length = s.size := Array.length_toList
  omega
 have := h3.complete j hj hz'
 have := hj.kind
 exact ⟨k, h1, by omega⟩
theorem tupleOk_l (n : Nat) (hn : 1100000 ≤ n) (t : Tu) (ht : okT t) (K : Unit → Option Bool) : ∀ (k i : Nat), i ≤ t.length → t.length - i < k → spec_TupleOk.l0 n t K k (i : Int) = K ()
 | 0, i, hi, hk => absurd hk (Nat.not_lt_zero _)
 | k + 1, i, hi, hk => by
  have h6 := ht.1
  by_cases h : i < t.length
  ·obtain ⟨q, q1, q2⟩ := kind_okS n (by omega) (ht.2 _ (List.getElem_mem h))
   conv => lhs; unfold spec_TupleOk.l0
   rw [if_pos (dlt h), if_pos (inl' h), getD_in _ h, q1, Option.bind_some, if_neg (by simp; omega), wr1 (by omega)]
   exact tupleOk_l n hn t ht K k (i + 1) (by omega) (by omega)
  ·conv => lhs; unfold spec_TupleOk.l0
   rw [if_neg (dnl h)]
theorem tupleOk_is (n : Nat) (hn : 1100000 ≤ n) (t : Tu) (ht : okT t) : spec_TupleOk.F n t = some true := by
 have h6 := ht.1
 unfold spec_TupleOk.F
 have := tupleOk_l n hn t ht (fun _ => some true) n 0 (Nat.zero_le _) (by omega)
 rw [show ((0 : Nat) : Int) = 0 from rfl] at this
 rw [if_neg (by simp; omega), this]
theorem relOk_l (n : Nat) (hn : 1100000 ≤ n) (r : Re) (R : okRel r) (K : Unit → Option Bool) : ∀ (k i : Nat), i ≤ r.2.length → r.2.length - i < k → spec_RelOk.l1 n r K k (i : Int) = K ()
 | 0, i, hi, hk => absurd hk (Nat.not_lt_zero _)
 | k + 1, i, hi, hk => by
  have hrow := R.base.2.2.1
  by_cases h : i < r.2.length
  ·have ht := R.base.2.2.2 _ (List.getElem_mem h)
   have hl := R.len _ (List.getElem_mem h)
   conv => lhs; unfold spec_RelOk.l1
   rw [if_pos (dlt h), if_pos (inl' h), getD_in _ h, if_pos (by simp [hl]), if_pos (inl' h), tupleOk_is n hn _ ht, Option.bind_some, if_pos (by simp), wr1 (by omega)]
   have ih := relOk_l n hn r R K k (i + 1) (by omega) (by omega)
   by_cases h0 : i = 0
   ·rw [if_neg (by simp; omega), ih]
   ·have hp : i - 1 < r.2.length := by omega
    rw [if_pos (by simp; omega), wm1 (by omega) (by omega), if_pos (inl' hp), if_pos (inl' h), getD_in _ hp, specCmp_val n (by omega) _ _ (R.base.2.2.2 _ (List.getElem_mem hp)) ht, Option.bind_some]
    have := List.pairwise_iff_getElem.1 R.srt (i - 1) i hp h (by omega)
    rw [if_neg (by simp; omega), ih]
  ·conv => lhs; unfold spec_RelOk.l1
   rw [if_neg (dnl h)]
theorem relOk_mk (n : Nat) (hn : 1100000 ≤ n) (r : Re) (R : okRel r) : spec_RelOk.F n r = some true := by
 obtain ⟨h0, h6, h4, _⟩ := R.base
 unfold spec_RelOk.F spec_RelOk.j0
 have := relOk_l n hn r R (fun _ => some true) n 0 (Nat.zero_le _) (by omega)
 rw [show ((0 : Nat) : Int) = 0 from rfl] at this
 rw [l01Between_eq, Option.bind_some, if_pos (by simp; omega), if_neg (by simp; omega), this]
theorem okT_small {t : Tu} (h : okT t) : t.length ≤ 1048576 ∧ ∀ s ∈ t, s.size ≤ 1048576 := ⟨by have := h.1; omega, fun s hs => by obtain ⟨_, _, h2⟩ := h.2 s hs; omega⟩
theorem isRel_mk (n : Nat) (hn : 1100000 ≤ n) (r : Re) (R : okRel r) : impl_isRel.F n r = some true := by
 obtain ⟨b, b1, b2, _⟩ := rel_eq n n hn hn r (fun t ht => (okT_small (R.base.2.2.2 t ht)).2) (fun t ht => (okT_small (R.base.2.2.2 t ht)).1)
 rw [relOk_mk n hn r R] at b1
 rw [b2, ← b1]
theorem l02Has_l (n : Nat) (hn : 1100000 ≤ n) (rows : List Tu) (t : Tu) (hr : rows.length ≤ 1048576) (hs : ∀ x ∈ rows, x.length ≤ 1048576) (K : Unit → Option Bool) : ∀ (k i : Nat), rows.length - i < k → t ∈ rows.drop i →
  spec_l02Has.l0 n rows t K k (i : Int) = some true
 | 0, i, hk, _ => absurd hk (Nat.not_lt_zero _)
 | k + 1, i, hk, hm => by
  by_cases h : i < rows.length
  ·have hx := hs _ (List.getElem_mem h)
   conv => lhs; unfold spec_l02Has.l0
   rw [if_pos (dlt h), if_pos (inl' h), getD_in _ h, l02Same_eq n _ _ (by omega) (by omega), Option.bind_some, wr1 (by omega)]
   rw [List.drop_eq_getElem_cons h] at hm
   by_cases e : rows[i] = t
   ·rw [if_pos (by simp [e])]
   ·rw [if_neg (by simp [e])]
    exact l02Has_l n hn rows t hr hs K k (i + 1) (by omega) ((List.mem_cons.1 hm).resolve_left fun h => e h.symm)
  ·rw [List.drop_of_length_le (by omega)] at hm
   cases hm
theorem sameTexts_l (n : Nat) (a : Tu) (ha : a.length ≤ 1048576) (K : Unit → Option Bool) : ∀ (k i : Nat), i ≤ a.length → a.length - i < k → laws_sameTexts.l0 n a a K k (i : Int) = K ()
 | 0, i, hi, hk => absurd hk (Nat.not_lt_zero _)
 | k + 1, i, hi, hk => by
  by_cases h : i < a.length
  ·conv => lhs; unfold laws_sameTexts.l0
   rw [if_pos (dlt h), if_pos (inl' h), if_pos (inl' h), seq_dec, if_neg (by simp), wr1 (by omega)]
   exact sameTexts_l n a ha K k (i + 1) (by omega) (by omega)
  ·conv => lhs; unfold laws_sameTexts.l0
   rw [if_neg (dnl h)]
theorem sameTexts_refl (n : Nat) (hn : 1100000 ≤ n) (a : Tu) (ha : a.length ≤ 1048576) : laws_sameTexts.F n a a = some true := by
 unfold laws_sameTexts.F
 have := sameTexts_l n a ha (fun _ => some true) n 0 (Nat.zero_le _) (by omega)
 rw [show ((0 : Nat) : Int) = 0 from rfl] at this
 rw [if_neg (by simp), this]
theorem sameRows_l (n : Nat) (hn : 1100000 ≤ n) (a : List Tu) (ha : a.length ≤ 1048576) (hs : ∀ t ∈ a, t.length ≤ 1048576) (K : Unit → Option Bool) : ∀ (k i : Nat), i ≤ a.length → a.length - i < k → laws_sameRows.l0 n a a K k (i : Int) = K ()
 | 0, i, hi, hk => absurd hk (Nat.not_lt_zero _)
 | k + 1, i, hi, hk => by
  by_cases h : i < a.length
  ·conv => lhs; unfold laws_sameRows.l0
   rw [if_pos (dlt h), if_pos (inl' h), if_pos (inl' h), getD_in _ h, sameTexts_refl n hn _ (hs _ (List.getElem_mem h)), Option.bind_some, if_neg (by simp), wr1 (by omega)]
   exact sameRows_l n hn a ha hs K k (i + 1) (by omega) (by omega)
  ·conv => lhs; unfold laws_sameRows.l0
   rw [if_neg (dnl h)]
theorem sameRows_refl (n : Nat) (hn : 1100000 ≤ n) (a : List Tu) (ha : a.length ≤ 1048576) (hs : ∀ t ∈ a, t.length ≤ 1048576) : laws_sameRows.F n a a = some true := by
 unfold laws_sameRows.F
 have := sameRows_l n hn a ha hs (fun _ => some true) n 0 (Nat.zero_le _) (by omega)
 rw [show ((0 : Nat) : Int) = 0 from rfl] at this
 rw [if_neg (by simp), this]
end Go.Abs
