/- Names that are always the same: both sides. Conditions: none. -/
import Derived.Test.YtpgedieoancjkaaDoorY7
namespace Go.Abs
set_option linter.unusedVariables false
set_option linter.unusedSimpArgs false
theorem itoa_small (k : Nat) (h : k ≤ 1000000) : (Lib.itoa (k : Int)).length ≤ 8 := by
 have e : Lib.itoa (k : Int) = Lib.decDigits k := by
  unfold Lib.itoa
  rw [if_neg (by omega), Int.toNat_natCast]
 rw [e]
 have := dec_len 6 k (by omega)
 omega
def vT (p : Nat) : ByteArray := bt (118 :: Lib.itoa (((p + 1 : Nat)) : Int))
def cnE (names : List ByteArray) (e : Ex) : Ex := if e.1 = 1 then (e.1, (vT (idxT names e.2.1), e.2.2)) else e
def canonR (r : Ru) : Ru := (r.1.map (cnE (namesOn [] r.1)), r.2)
theorem vT_eq (p : Nat) (h : p ≤ 100000) : ByteArray.size ⟨#[118]⟩ + ByteArray.size (bt (Lib.itoa (((p + 1 : Nat)) : Int))) ≤ lim ∧ (⟨#[118]⟩ : ByteArray) ++ bt (Lib.itoa (((p + 1 : Nat)) : Int)) = vT p := by
 have := itoa_small (p + 1) (by omega)
 rw [show (⟨#[118]⟩ : ByteArray) = bt [118] from rfl]
 refine ⟨by simp only [bt_size, List.length_cons, List.length_nil, lim]; omega, ?_⟩
 rw [bt_append]
 rfl
section
variable (n : Nat) (hn : 1100000 ≤ n)
theorem in_l (l : List ByteArray) (s : ByteArray) (hl : l.length ≤ 1048576) : ∀ (k i : Nat), i ≤ l.length → l.length - i < k → spec_l05In.l0 n l s (fun _ => some false) k (i : Int) = some (hasT (l.drop i) s)
 | 0, i, _, hk => absurd hk (Nat.not_lt_zero _)
 | k + 1, i, hi, hk => by
  by_cases h : i < l.length
  ·conv => lhs; unfold spec_l05In.l0
   rw [if_pos (dlt h), if_pos (inl' h), getD_in _ h, seq_dec, List.drop_eq_getElem_cons h]
   unfold hasT
   rw [List.any_cons]
   by_cases e : l[i] = s
   ·rw [if_pos (by simp [e]), decide_eq_true e, Bool.true_or]
   ·rw [if_neg (by simp [e]), wr1 (by omega), in_l l s hl k (i + 1) (by omega) (by omega), decide_eq_false e, Bool.false_or]
    rfl
  ·conv => lhs; unfold spec_l05In.l0
   rw [if_neg (dnl h), List.drop_of_length_le (by omega)]
   rfl
theorem l05In_eq (hn : 1100000 ≤ n) (l : List ByteArray) (s : ByteArray) (hl : l.length ≤ 1048576) : spec_l05In.F n l s = some (hasT l s) := by
 unfold spec_l05In.F
 have := in_l n l s hl n 0 (Nat.zero_le _) (by omega)
 rw [show ((0 : Nat) : Int) = 0 from rfl, List.drop_zero] at this
 exact this
theorem index_l (l : List ByteArray) (s : ByteArray) (hl : l.length ≤ 1048576) : ∀ (k i : Nat), i ≤ l.length → l.length - i < k → slices_Index_string_string.l0 n l s (l.length : Int) (fun _ => some (-1)) k (i : Int) = some (if hasT (l.drop i) s = true then ((i + idxT (l.drop i) s : Nat) : Int) else -1)
 | 0, i, _, hk => absurd hk (Nat.not_lt_zero _)
 | k + 1, i, hi, hk => by
  by_cases h : i < l.length
  ·conv => lhs; unfold slices_Index_string_string.l0
   rw [if_pos (dlt h), if_pos (inl' h), getD_in _ h, seq_dec, List.drop_eq_getElem_cons h]
   unfold idxT
   rw [List.findIdx_cons]
   by_cases e : s = l[i]
   ·rw [if_pos (by simp [e]), if_pos (hasT_iff.2 (by rw [e]; exact List.mem_cons_self)), decide_eq_true e.symm]
    rfl
   ·have e' : ¬ l[i] = s := fun h => e h.symm
    rw [if_neg (by simp [e]), wr1 (by omega), index_l l s hl k (i + 1) (by omega) (by omega), decide_eq_false e']
    by_cases hm : hasT (l.drop (i + 1)) s = true
    ·rw [if_pos hm, if_pos (hasT_iff.2 (List.mem_cons_of_mem _ (hasT_iff.1 hm)))]
     simp only [cond_false]
     unfold idxT
     congr 2
     omega
    ·rw [if_neg hm, if_neg (fun h => by
      rcases List.mem_cons.1 (hasT_iff.1 h) with h | h
      ·exact e h
      ·exact hm (hasT_iff.2 h))]
  ·conv => lhs; unfold slices_Index_string_string.l0
   rw [if_neg (dnl h), List.drop_of_length_le (by omega), if_neg (fun h => by cases hasT_iff.1 h)]
theorem index_eq (hn : 1100000 ≤ n) (l : List ByteArray) (s : ByteArray) (hl : l.length ≤ 1048576) : slices_Index_string_string.F n l s = some (if hasT l s = true then (idxT l s : Int) else -1) := by
 unfold slices_Index_string_string.F
 have := index_l n l s hl n 0 (Nat.zero_le _) (by omega)
 rw [show ((0 : Nat) : Int) = 0 from rfl, List.drop_zero, Nat.zero_add] at this
 exact this
theorem contains_eq (hn : 1100000 ≤ n) (l : List ByteArray) (s : ByteArray) (hl : l.length ≤ 1048576) : slices_Contains_string_string.F n l s = some (hasT l s) := by
 unfold slices_Contains_string_string.F
 rw [index_eq n hn l s hl, Option.bind_some]
 by_cases h : hasT l s = true
 ·rw [if_pos h, h]
  simp
 ·rw [if_neg h, Bool.eq_false_iff.2 h]
  rfl
theorem allVars_l (hn : 1100000 ≤ n) (E : List Ex) (hE : E.length ≤ 1000) (K : List ByteArray → Option (List ByteArray)) : ∀ (k i : Nat), i ≤ E.length → E.length - i < k → impl_Rule_allVars.l0 n E (E.length : Int) K k (i : Int) (namesOn [] (E.take i)) = K (namesOn [] E)
 | 0, i, _, hk => absurd hk (Nat.not_lt_zero _)
 | k + 1, i, hi, hk => by
  have hlen := names_len (E.take i) []
  rw [List.length_take] at hlen
  simp only [List.length_nil] at hlen
  by_cases h : i < E.length
  ·have hs := names_succ h []
   have ih := allVars_l hn E hE K k (i + 1) (by omega) (by omega)
   rw [hs] at ih
   conv => lhs; unfold impl_Rule_allVars.l0
   simp only [getD_in _ h]
   rw [if_pos (dlt h), if_pos (inl' h), wr1 (by omega)]
   unfold nmAdd at ih
   by_cases c1 : (E[i]).1 = 1
   ·rw [if_pos c1] at ih
    rw [if_pos (by simp [c1]), contains_eq n hn _ _ (by omega), Option.bind_some]
    by_cases c2 : hasT (namesOn [] (E.take i)) (E[i]).2.1 = true
    ·rw [if_pos c2] at ih
     rw [if_neg (by simp [c2])]
     exact ih
    ·rw [if_neg c2] at ih
     rw [if_pos (by simpa using c2), if_pos (by simp [lim]; omega)]
     exact ih
   ·rw [if_neg c1] at ih
    rw [if_neg (by simpa using c1)]
    exact ih
  ·conv => lhs; unfold impl_Rule_allVars.l0
   rw [if_neg (dnl h), List.take_of_length_le (by omega)]
theorem allVars_eq (hn : 1100000 ≤ n) (r : Ru) (hE : r.1.length ≤ 1000) : impl_Rule_allVars.F n r = some (namesOn [] r.1) := by
 unfold impl_Rule_allVars.F
 have := allVars_l n hn r.1 hE (fun x => some x) n 0 (Nat.zero_le _) (by omega)
 rw [show ((0 : Nat) : Int) = 0 from rfl] at this
 exact this
theorem canon1_eq (hn : 1100000 ≤ n) (t : Int) (e : Ex) (names : List ByteArray) (hm : e.1 = 1 → e.2.1 ∈ names) (hl : names.length ≤ 1000) : impl_Rule_canon_1.F n t e names = some (cnE names e) := by
 unfold impl_Rule_canon_1.F cnE
 by_cases c1 : e.1 = 1
 ·have hlt := idx_lt (hm c1)
  obtain ⟨v1, v2⟩ := vT_eq (idxT names e.2.1) (by omega)
  rw [if_pos (by simp [c1]), if_pos c1, index_eq n hn _ _ (by omega), if_pos (hasT_iff.2 (hm c1)), Option.bind_some, wr1 (by omega)]
  unfold strconv_Itoa.F
  rw [if_pos (by omega), Option.bind_some]
  rw [show (⟨(Lib.itoa (((idxT names e.2.1 + 1 : Nat)) : Int)).toArray⟩ : ByteArray) = bt (Lib.itoa (((idxT names e.2.1 + 1 : Nat)) : Int)) from rfl, if_pos v1, v2]
 ·rw [if_neg (by simpa using c1), if_neg c1]
theorem ren_l0 (hn : 1100000 ≤ n) (r : Ru) (S : SmR r) (hE : r.1.length ≤ 1000) (r8 r9 : Ru) (x : Ex × List Ex) (K : Ru → Option Ru) : ∀ (k i : Nat), i ≤ r.1.length → r.1.length - i < k →
  impl_Rule_renamed_c1.l0 n (namesOn [] r.1) r.1 (r.1.length : Int) r8 r9 K k (i : Int) ((r.1.take i).map (cnE (namesOn [] r.1)), x) = K (r.1.map (cnE (namesOn [] r.1)), x)
 | 0, i, _, hk => absurd hk (Nat.not_lt_zero _)
 | k + 1, i, hi, hk => by
  have hlen := names_len r.1 []
  simp only [List.length_nil] at hlen
  by_cases h : i < r.1.length
  ·have hke := S.kids _ (List.getElem_mem h)
   have hm : (r.1[i]).1 = 1 → (r.1[i]).2.1 ∈ namesOn [] r.1 := fun h1 => by
    obtain ⟨h2, _⟩ := names_at h h1 []
    obtain ⟨t, ht⟩ := names_pre (r.1.drop (i + 1)) (namesOn [] (r.1.take (i + 1)))
    have : namesOn [] r.1 = namesOn [] (r.1.take (i + 1)) ++ t := by
     rw [← ht]
     unfold namesOn
     rw [← List.foldl_append, List.take_append_drop]
    rw [this]
    exact List.mem_append_left _ h2
   have ih := ren_l0 hn r S hE r8 r9 x K k (i + 1) (by omega) (by omega)
   rw [List.take_succ_eq_append_getElem h, List.map_append] at ih
   conv => lhs; unfold impl_Rule_renamed_c1.l0
   simp only [getD_in _ h, List.nil_append]
   rw [if_pos (dlt h), if_pos (inl' h), if_pos (by simp [lim]; omega)]
   rw [show ((r.1[i]).1, ((r.1[i]).2.1, (r.1[i]).2.2)) = r.1[i] from rfl, canon1_eq n hn _ _ _ hm (by omega), Option.bind_some, if_pos (by simp [lim]; omega), wr1 (by omega)]
   exact ih
  ·conv => lhs; unfold impl_Rule_renamed_c1.l0
   rw [if_neg (dnl h), List.take_of_length_le (by omega)]
theorem copyLit_eq (l : Ex) (h : l.2.2.length ≤ 1048576) : impl_copyLit.F n l = some l := by
 unfold impl_copyLit.F
 rw [if_pos (by simp [lim]; omega), List.nil_append]
theorem ren_l1 (r : Ru) (S : SmR r) (t16 : Ru) (E : List Ex) (hd : Ex) (K : Ru → Option Ru) : ∀ (k i : Nat), i ≤ r.2.2.length → r.2.2.length - i < k →
  impl_Rule_renamed_c1.l1 n r.2.2 (r.2.2.length : Int) t16 K k (i : Int) (E, (hd, r.2.2.take i)) = K (E, (hd, r.2.2))
 | 0, i, _, hk => absurd hk (Nat.not_lt_zero _)
 | k + 1, i, hi, hk => by
  have hB := S.body
  by_cases h : i < r.2.2.length
  ·have ih := ren_l1 r S t16 E hd K k (i + 1) (by omega) (by omega)
   rw [List.take_succ_eq_append_getElem h] at ih
   conv => lhs; unfold impl_Rule_renamed_c1.l1
   rw [if_pos (dlt h), if_pos (inl' h), getD_in _ h, copyLit_eq n _ (S.args _ (List.mem_cons_of_mem _ (List.getElem_mem h))), Option.bind_some, if_pos (by simp [lim]; omega), wr1 (by omega)]
   exact ih
  ·conv => lhs; unfold impl_Rule_renamed_c1.l1
   rw [if_neg (dnl h), List.take_of_length_le (by omega)]
theorem implCanon_eq (hn : 1100000 ≤ n) (r : Ru) (S : SmR r) (hE : r.1.length ≤ 1000) : impl_Rule_canon.F n r = some (canonR r) := by
 have hB := S.body
 unfold impl_Rule_canon.F impl_Rule_renamed_c1.F
 rw [allVars_eq n hn r hE, Option.bind_some, copyLit_eq n _ (S.args _ List.mem_cons_self), Option.bind_some]
 have e0 := fun K => ren_l0 n hn r S hE r ([], (Ex0, [])) (r.2.1, []) K n 0 (Nat.zero_le _) (by omega)
 simp only [List.take_zero, List.map_nil, show ((0 : Nat) : Int) = 0 from rfl] at e0
 rw [e0]
 have e1 := fun K => ren_l1 n r S ([], (Ex0, [])) (r.1.map (cnE (namesOn [] r.1))) r.2.1 K n 0 (Nat.zero_le _) (by omega)
 simp only [List.take_zero, show ((0 : Nat) : Int) = 0 from rfl] at e1
 rw [e1]
 rfl
theorem copy_l0 (r : Ru) (S : SmR r) (t4 : Ru) (x : Ex × List Ex) (K : Ru → Option Ru) : ∀ (k i : Nat), i ≤ r.1.length → r.1.length - i < k → spec_l13Copy.l0 n r t4 K k (i : Int) (r.1.take i, x) = K (r.1, x)
 | 0, i, _, hk => absurd hk (Nat.not_lt_zero _)
 | k + 1, i, hi, hk => by
  have hE := S.exps
  by_cases h : i < r.1.length
  ·have hke := S.kids _ (List.getElem_mem h)
   have ih := copy_l0 r S t4 x K k (i + 1) (by omega) (by omega)
   rw [List.take_succ_eq_append_getElem h] at ih
   conv => lhs; unfold spec_l13Copy.l0
   simp only [getD_in _ h, List.nil_append, if_pos (inl' h)]
   rw [if_pos (dlt h), if_pos (by simp [lim]; omega), if_pos (by simp [lim]; omega), wr1 (by omega)]
   exact ih
  ·conv => lhs; unfold spec_l13Copy.l0
   rw [if_neg (dnl h), List.take_of_length_le (by omega)]
theorem copy_l1 (r : Ru) (S : SmR r) (t9 : Ru) (E : List Ex) (hd : Ex) (K : Ru → Option Ru) : ∀ (k i : Nat), i ≤ r.2.2.length → r.2.2.length - i < k → spec_l13Copy.l1 n r t9 K k (i : Int) (E, (hd, r.2.2.take i)) = K (E, (hd, r.2.2))
 | 0, i, _, hk => absurd hk (Nat.not_lt_zero _)
 | k + 1, i, hi, hk => by
  have hB := S.body
  by_cases h : i < r.2.2.length
  ·have hke := S.args _ (List.mem_cons_of_mem _ (List.getElem_mem h))
   have ih := copy_l1 r S t9 E hd K k (i + 1) (by omega) (by omega)
   rw [List.take_succ_eq_append_getElem h] at ih
   conv => lhs; unfold spec_l13Copy.l1
   simp only [getD_in _ h, List.nil_append, if_pos (inl' h)]
   rw [if_pos (dlt h), if_pos (by simp [lim]; omega), if_pos (by simp [lim]; omega), wr1 (by omega)]
   exact ih
  ·conv => lhs; unfold spec_l13Copy.l1
   rw [if_neg (dnl h), List.take_of_length_le (by omega)]
theorem copy_eq (hn : 1100000 ≤ n) (r : Ru) (S : SmR r) : spec_l13Copy.F n r = some r := by
 have hE := S.exps
 have hB := S.body
 have hh := S.args _ (show r.2.1 ∈ litsOf r from List.mem_cons_self)
 unfold spec_l13Copy.F
 rw [if_pos (by simp [lim]; omega), List.nil_append]
 have e0 := fun K => copy_l0 n r S ([], (Ex0, [])) (r.2.1, []) K n 0 (Nat.zero_le _) (by omega)
 simp only [List.take_zero, show ((0 : Nat) : Int) = 0 from rfl] at e0
 have e1 := fun K => copy_l1 n r S ([], (Ex0, [])) r.1 r.2.1 K n 0 (Nat.zero_le _) (by omega)
 simp only [List.take_zero, show ((0 : Nat) : Int) = 0 from rfl] at e1
 refine (e0 _).trans ?_
 refine (e1 _).trans ?_
 rfl
theorem cn_l2 (hn : 1100000 ≤ n) (r t17 : Ru) {i : Nat} (hi : i < r.1.length) (names : List ByteArray) (hnd : names.Nodup) (hm : (r.1[i]).2.1 ∈ names) (hl : names.length ≤ 1000) (K : Ru → Option Ru) (D : List Ex) (hD : i < D.length) (x : Ex × List Ex) : ∀ (k j : Nat), j ≤ names.length → names.length - j < k →
  spec_l15Canon.l2 n (i : Int) r t17 names K k (j : Int) (D, x) = K (if j ≤ idxT names (r.1[i]).2.1 then D.set i ((D[i]).1, (vT (idxT names (r.1[i]).2.1), (D[i]).2.2)) else D, x)
 | 0, j, _, hk => absurd hk (Nat.not_lt_zero _)
 | k + 1, j, hj, hk => by
  have hlt := idx_lt hm
  by_cases h : j < names.length
  ·conv => lhs; unfold spec_l15Canon.l2
   simp only [getD_in _ h, getD_in _ hi, getD_in _ hD]
   rw [if_pos (dlt h), if_pos (inl' h), if_pos (inl' hi), seq_dec, wr1 (by omega)]
   by_cases e : names[j] = (r.1[i]).2.1
   ·have hp := idx_uniq hnd h e
    obtain ⟨v1, v2⟩ := vT_eq j (by omega)
    rw [if_pos (by simp [e]), numText n _ (by omega) (by omega) (by omega), Option.bind_some, if_pos v1, if_pos (inl' hD), v2, Int.toNat_natCast]
    have hD2 : i < (D.set i ((D[i]).1, (vT j, (D[i]).2.2))).length := by rw [List.length_set]; exact hD
    refine (cn_l2 hn r t17 hi names hnd hm hl K _ hD2 x k (j + 1) (by omega) (by omega)).trans ?_
    rw [if_neg (by omega), if_pos (by omega), ← hp]
   ·rw [if_neg (by simp [e]), cn_l2 hn r t17 hi names hnd hm hl K D hD x k (j + 1) (by omega) (by omega)]
    have hne : j ≠ idxT names (r.1[i]).2.1 := fun h => e (by
     have := idx_get hm
     simp only [← h] at this
     exact this)
    by_cases c : j ≤ idxT names (r.1[i]).2.1
    ·rw [if_pos c, if_pos (by omega)]
    ·rw [if_neg c, if_neg (by omega)]
  ·conv => lhs; unfold spec_l15Canon.l2
   rw [if_neg (dnl h), if_neg (by omega)]
theorem set_midX {α : Type} (A : List α) (x y : α) (B : List α) {i : Nat} (h : A.length = i) : (A ++ x :: B).set i y = A ++ y :: B := by
 subst h
 rw [List.set_append_right _ _ (Nat.le_refl _), Nat.sub_self, List.set_cons_zero]
theorem cn_set {E : List Ex} {f : Ex → Ex} {i : Nat} (hi : i < E.length) (y : Ex) (hy : y = f E[i]) : ((E.take i).map f ++ E.drop i).set i y = (E.take (i + 1)).map f ++ E.drop (i + 1) := by
 have h1 : ((E.take i).map f).length = i := by simp; omega
 rw [List.drop_eq_getElem_cons hi, List.take_succ_eq_append_getElem hi, List.map_append, set_midX _ _ _ _ h1, hy]
 simp
theorem cn_l0 (hn : 1100000 ≤ n) (r t5 : Ru) (S : SmR r) (hE : r.1.length ≤ 900) (K : Ru → Option Ru) : ∀ (k i : Nat), i ≤ r.1.length → r.1.length - i < k →
  spec_l15Canon.l0 n r t5 K k (i : Int) ((r.1.take i).map (cnE (namesOn [] r.1)) ++ r.1.drop i, r.2) (namesOn [] (r.1.take i)) = K (canonR r)
 | 0, i, _, hk => absurd hk (Nat.not_lt_zero _)
 | k + 1, i, hi, hk => by
  have hlen := names_len (r.1.take i) []
  rw [List.length_take] at hlen
  simp only [List.length_nil] at hlen
  by_cases h : i < r.1.length
  ·have hs := names_succ h []
   have ih := cn_l0 hn r t5 S hE K k (i + 1) (by omega) (by omega)
   rw [hs] at ih
   have hDl : i < ((r.1.take i).map (cnE (namesOn [] r.1)) ++ r.1.drop i).length := by simp; omega
   have hDi : ((r.1.take i).map (cnE (namesOn [] r.1)) ++ r.1.drop i)[i] = r.1[i] := by
    rw [List.getElem_append_right (by simp; omega)]
    simp [Nat.min_eq_left (Nat.le_of_lt h)]
   conv => lhs; unfold spec_l15Canon.l0
   simp only [getD_in _ h, if_pos (inl' h)]
   rw [if_pos (dlt h), wr1 (by omega)]
   by_cases c1 : (r.1[i]).1 = 1
   ·rw [if_neg (by simp [c1]), l05In_eq n hn _ _ (by omega), Option.bind_some]
    obtain ⟨hm, hx⟩ := names_at h c1 []
    rw [hs] at hm hx
    have hnd : (nmAdd (namesOn [] (r.1.take i)) r.1[i]).Nodup := nmAdd_nodup (names_nodup _ List.nodup_nil) _
    have hl2 := nmAdd_len (namesOn [] (r.1.take i)) r.1[i]
    have hj : ∀ Kn : Ru → Option Ru, spec_l15Canon.j1 n (i : Int) r t5 ((r.1.take i).map (cnE (namesOn [] r.1)) ++ r.1.drop i, r.2) (nmAdd (namesOn [] (r.1.take i)) r.1[i]) Kn = Kn ((r.1.take (i + 1)).map (cnE (namesOn [] r.1)) ++ r.1.drop (i + 1), r.2) := by
     intro Kn
     unfold spec_l15Canon.j1
     have := cn_l2 n hn r t5 h _ hnd hm (by omega) (fun t22 => Kn t22) _ hDl r.2 n 0 (Nat.zero_le _) (by omega)
     rw [show ((0 : Nat) : Int) = 0 from rfl] at this
     rw [this, if_pos (Nat.zero_le _), hDi, ← hx, cn_set h _ (by unfold cnE; rw [if_pos c1])]
    unfold nmAdd at hj ih
    rw [if_pos c1] at ih
    simp only [if_pos c1] at hj
    by_cases c2 : hasT (namesOn [] (r.1.take i)) (r.1[i]).2.1 = true
    ·rw [if_pos c2] at ih
     simp only [if_pos c2] at hj
     rw [if_neg (by simp [c2]), hj]
     exact ih
    ·rw [if_neg c2] at ih
     simp only [if_neg c2] at hj
     rw [if_pos (by simpa using c2), if_pos (by simp [lim]; omega), hj]
     exact ih
   ·have hc : cnE (namesOn [] r.1) r.1[i] = r.1[i] := by unfold cnE; rw [if_neg c1]
    have he : (r.1.take (i + 1)).map (cnE (namesOn [] r.1)) ++ r.1.drop (i + 1) = (r.1.take i).map (cnE (namesOn [] r.1)) ++ r.1.drop i := by
     rw [List.take_succ_eq_append_getElem h, List.map_append, List.map_cons, List.map_nil, hc]
     conv => rhs; rw [List.drop_eq_getElem_cons h]
     simp
    have hna : nmAdd (namesOn [] (r.1.take i)) r.1[i] = namesOn [] (r.1.take i) := by unfold nmAdd; rw [if_neg c1]
    rw [he, hna] at ih
    rw [if_pos (by simp [c1])]
    exact ih
  ·conv => lhs; unfold spec_l15Canon.l0
   rw [if_neg (dnl h), List.take_of_length_le (by omega), List.drop_of_length_le (by omega), List.append_nil]
   rfl
theorem specCanon_eq (hn : 1100000 ≤ n) (r : Ru) (S : SmR r) (hE : r.1.length ≤ 900) : spec_l15Canon.F n r = some (canonR r) := by
 unfold spec_l15Canon.F
 rw [copy_eq n hn r S, Option.bind_some]
 have := cn_l0 n hn r ([], (Ex0, [])) S hE (fun x => some x) n 0 (Nat.zero_le _) (by omega)
 simp only [List.take_zero, List.map_nil, List.nil_append, List.drop_zero, show ((0 : Nat) : Int) = 0 from rfl] at this
 exact this
end
end Go.Abs
