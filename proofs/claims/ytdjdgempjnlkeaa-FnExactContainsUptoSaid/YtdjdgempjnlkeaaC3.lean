/- Carries, Contains: both sides. Conditions: none. -/
import Derived.Test.YtdjdgempjnlkeaaC2
import Derived.Test.YtdjdgempjnlkeaaH
namespace Go.Abs
set_option linter.unusedVariables false
set_option linter.unusedSimpArgs false
section
variable (n : Nat) (hn : 1100000 ≤ n)
theorem index_l (l : List ByteArray) (s : ByteArray) (hl : l.length ≤ 1048576) : ∀ (k i : Nat), i ≤ l.length → l.length - i < k → slices_Index_string_string.l0 n l s (l.length : Int) (fun _ => some (-1)) k (i : Int) = some (if hasT (l.drop i) s = true then ((i + idxT (l.drop i) s : Nat) : Int) else -1)
 | 0, i, _, hk => absurd hk (Nat.not_lt_zero _)
 | k + 1, i, hi, hk => by
  by_cases h : i < l.length
  ·conv => lhs; unfold slices_Index_string_string.l0
   rw [if_pos (dlt h), if_pos (inl' h), getD_in _ h, seq_dec, List.drop_eq_getElem_cons h]
   unfold idxT
   rw [List.findIdx_cons]
   by_cases e : s = l[i]
   ·rw [if_pos (by simp [e]), if_pos (hasT_iff.2 (by rw [e]; exact List.mem_cons_self)), decide_eq_true e.symm]
    rfl
   ·have e' : ¬ l[i] = s := fun h => e h.symm
    rw [if_neg (by simp [e]), wr1 (by omega), index_l l s hl k (i + 1) (by omega) (by omega), decide_eq_false e']
    by_cases hm : hasT (l.drop (i + 1)) s = true
    ·rw [if_pos hm, if_pos (hasT_iff.2 (List.mem_cons_of_mem _ (hasT_iff.1 hm)))]
     simp only [cond_false]
     unfold idxT
     congr 2
     omega
    ·rw [if_neg hm, if_neg (fun h => by
      rcases List.mem_cons.1 (hasT_iff.1 h) with h | h
      ·exact e h
      ·exact hm (hasT_iff.2 h))]
  ·conv => lhs; unfold slices_Index_string_string.l0
   rw [if_neg (dnl h), List.drop_of_length_le (by omega), if_neg (fun h => by cases hasT_iff.1 h)]
theorem index_eq (hn : 1100000 ≤ n) (l : List ByteArray) (s : ByteArray) (hl : l.length ≤ 1048576) : slices_Index_string_string.F n l s = some (if hasT l s = true then (idxT l s : Int) else -1) := by
 unfold slices_Index_string_string.F
 have := index_l n l s hl n 0 (Nat.zero_le _) (by omega)
 rw [show ((0 : Nat) : Int) = 0 from rfl, List.drop_zero, Nat.zero_add] at this
 exact this
theorem contains_eq (hn : 1100000 ≤ n) (l : List ByteArray) (s : ByteArray) (hl : l.length ≤ 1048576) : slices_Contains_string_string.F n l s = some (hasT l s) := by
 unfold slices_Contains_string_string.F
 rw [index_eq n hn l s hl, Option.bind_some]
 by_cases h : hasT l s = true
 ·rw [if_pos h, h]
  simp
 ·rw [if_neg h, Bool.eq_false_iff.2 h]
  rfl
theorem allVars_l (hn : 1100000 ≤ n) (E : List Ex) (hE : E.length ≤ 1000) (K : List ByteArray → Option (List ByteArray)) : ∀ (k i : Nat), i ≤ E.length → E.length - i < k → impl_Rule_allVars.l0 n E (E.length : Int) K k (i : Int) (namesOn [] (E.take i)) = K (namesOn [] E)
 | 0, i, _, hk => absurd hk (Nat.not_lt_zero _)
 | k + 1, i, hi, hk => by
  have hlen := names_len (E.take i) []
  rw [List.length_take] at hlen
  simp only [List.length_nil] at hlen
  by_cases h : i < E.length
  ·have hs := names_succ h []
   have ih := allVars_l hn E hE K k (i + 1) (by omega) (by omega)
   rw [hs] at ih
   conv => lhs; unfold impl_Rule_allVars.l0
   simp only [getD_in _ h]
   rw [if_pos (dlt h), if_pos (inl' h), wr1 (by omega)]
   unfold nmAdd at ih
   by_cases c1 : (E[i]).1 = 1
   ·rw [if_pos c1] at ih
    rw [if_pos (by simp [c1]), contains_eq n hn _ _ (by omega), Option.bind_some]
    by_cases c2 : hasT (namesOn [] (E.take i)) (E[i]).2.1 = true
    ·rw [if_pos c2] at ih
     rw [if_neg (by simp [c2])]
     exact ih
    ·rw [if_neg c2] at ih
     rw [if_pos (by simpa using c2), if_pos (by simp [lim]; omega)]
     exact ih
   ·rw [if_neg c1] at ih
    rw [if_neg (by simpa using c1)]
    exact ih
  ·conv => lhs; unfold impl_Rule_allVars.l0
   rw [if_neg (dnl h), List.take_of_length_le (by omega)]
theorem allVars_eq (hn : 1100000 ≤ n) (r : Ru) (hE : r.1.length ≤ 1000) : impl_Rule_allVars.F n r = some (namesOn [] r.1) := by
 unfold impl_Rule_allVars.F
 have := allVars_l n hn r.1 hE (fun x => some x) n 0 (Nat.zero_le _) (by omega)
 rw [show ((0 : Nat) : Int) = 0 from rfl] at this
 exact this
end
def vlM (m : List ME) (s : ByteArray) : ByteArray := (Option.getD (mget .str KEx m s) (0, (ByteArray.empty, []))).2.1
theorem tg_size (x : Ex) : (tgE x).size = x.2.1.size + 1 := by
 unfold tgE
 rw [bt_size]
 rfl
theorem tg_extract (x : Ex) : ByteArray.extract (tgE x) (Int.toNat 1) (Int.toNat ((tgE x).size : Int)) = x.2.1 := by
 rw [Int.toNat_natCast]
 unfold tgE
 rw [bt_extract, bt_size, List.take_of_length_le (Nat.le_refl _), show Int.toNat 1 = 1 from rfl, List.drop_succ_cons, List.drop_zero, ← bt_of]
section
variable {n : Nat} {a b : Ru}
theorem im_fin (r : List ME) (NS : List ByteArray) (hN : NS.length ≤ 1048576) (t11 : List ByteArray × List ByteArray) (K : List ByteArray × List ByteArray → Option ((List ByteArray × List ByteArray) × Bool)) : ∀ (k i : Nat), i ≤ NS.length → NS.length - i < k →
  impl_carries.l0 n r NS (NS.length : Int) t11 K k (i : Int) (NS.take i, (NS.take i).map (vlM r)) = K (NS, NS.map (vlM r))
 | 0, i, _, hk => absurd hk (Nat.not_lt_zero _)
 | k + 1, i, hi, hk => by
  by_cases h : i < NS.length
  ·have ih := im_fin r NS hN t11 K k (i + 1) (by omega) (by omega)
   rw [List.take_succ_eq_append_getElem h, List.map_append] at ih
   conv => lhs; unfold impl_carries.l0
   simp only [getD_in _ h]
   rw [if_pos (dlt h), if_pos (inl' h), if_pos (by simp only [List.length_take, List.length_cons, List.length_nil, lim]; omega), if_pos (by simp only [List.length_map, List.length_take, List.length_cons, List.length_nil, lim]; omega), wr1 (by omega)]
   exact ih
  ·conv => lhs; unfold impl_carries.l0
   rw [if_neg (dnl h), List.take_of_length_le (by omega)]
theorem sp_fin (hn : 100000001 ≤ n) (r : List ME) (hr : r.length ≤ 100000000) (hE : a.1.length ≤ 1000) (hH : ∀ i (h : i < a.1.length), (a.1[i]).1 = 1 → Has r (a.1[i]).2.1) (t12 : List ByteArray × List ByteArray) (K : List ByteArray × List ByteArray → Option ((List ByteArray × List ByteArray) × Bool)) : ∀ (k i : Nat), i ≤ a.1.length → a.1.length - i < k →
  spec_Carries.l1 n a t12 (encM r) K k (i : Int) (namesOn [] (a.1.take i), (namesOn [] (a.1.take i)).map (vlM r)) = K (namesOn [] a.1, (namesOn [] a.1).map (vlM r))
 | 0, i, _, hk => absurd hk (Nat.not_lt_zero _)
 | k + 1, i, hi, hk => by
  have hlen := names_len (a.1.take i) []
  rw [List.length_take] at hlen
  simp only [List.length_nil] at hlen
  by_cases h : i < a.1.length
  ·have hs := names_succ h []
   have ih := sp_fin hn r hr hE hH t12 K k (i + 1) (by omega) (by omega)
   rw [hs] at ih
   conv => lhs; unfold spec_Carries.l1
   unfold spec_Carries.j2
   simp only [getD_in _ h]
   rw [if_pos (dlt h), if_pos (inl' h), wr1 (by omega)]
   unfold nmAdd at ih
   by_cases c1 : (a.1[i]).1 = 1
   ·rw [if_pos c1] at ih
    rw [if_pos (by simp [c1]), if_pos (inl' h), in5_eq (by omega) _ _ (by omega), Option.bind_some]
    by_cases c2 : hasT (namesOn [] (a.1.take i)) (a.1[i]).2.1 = true
    ·rw [if_pos c2] at ih
     rw [if_neg (by simp [c2])]
     exact ih
    ·rw [if_neg c2] at ih
     have hh := hH i h c1
     unfold Has at hh
     rw [if_pos (by simpa using c2), if_pos (inl' h), get_eq hn r _ hr, Option.bind_some]
     cases hg : mget .str KEx r (a.1[i]).2.1 with
     | none => rw [hg] at hh; cases hh
     | some x =>
      have hv : vlM r (a.1[i]).2.1 = x.2.1 := by unfold vlM; rw [hg]; rfl
      have hz := tg_size x
      dsimp only
      rw [if_pos (inl' h), if_pos (by simp only [List.length_cons, List.length_nil, lim]; omega), if_pos ⟨by decide, by omega, Int.le_refl _⟩, if_pos (by simp only [List.length_map, List.length_cons, List.length_nil, lim]; omega), tg_extract]
      rw [List.map_append, List.map_cons, List.map_nil, hv] at ih
      exact ih
   ·rw [if_neg c1] at ih
    rw [if_neg (by simpa using c1), if_neg (by simp)]
    exact ih
  ·conv => lhs; unfold spec_Carries.l1
   rw [if_neg (dnl h), List.take_of_length_le (by omega)]
theorem arg_of (hf : FormB a) (he : EOk a) {j : Nat} (hj : j < a.1.length) : ∃ l ∈ litsOf a, ∃ p ∈ l.2.2, exA a p = a.1[j] := by
 have hR := hf.form
 have hk : ∀ k, k < a.1.length → kidsN (a.1.getD k Ex0) = [] := by
  intro k hk
  have hg : a.1.getD k Ex0 = a.1[k] := by rw [List.getD_eq_getElem?_getD, List.getElem?_eq_getElem hk, Option.getD_some]
  have h1 := (hf.exps k hk).2
  have h2 := he _ (List.getElem_mem hk)
  rw [hg]
  unfold okE at h1
  have hs : sumK (a.1[k]).1 = false := by
   unfold sumK
   rcases h2 with h | h <;> rw [h] <;> rfl
  have h4 : decide ((a.1[k]).1 = 4) = false := by
   rcases h2 with h | h <;> rw [h] <;> rfl
  rw [hs, h4] at h1
  simp only [Bool.false_eq_true, if_false, Bool.false_or, Bool.and_eq_true, List.isEmpty_iff] at h1
  unfold kidsN
  rw [h1.2]
  rfl
 have h1 := hR.once j hj
 rw [sumTo_congr (g := fun _ => 0) fun k hk' => by rw [hk k hk']; rfl, sumTo_zero, Nat.add_zero] at h1
 have hm : j ∈ argsOfR a := List.count_pos_iff.1 (by omega)
 obtain ⟨l, hl, h2⟩ := List.mem_flatMap.1 hm
 obtain ⟨p, hp, h3⟩ := List.mem_map.1 h2
 refine ⟨l, hl, p, hp, ?_⟩
 unfold exA
 rw [h3, List.getD_eq_getElem?_getD, List.getElem?_eq_getElem hj, Option.getD_some]
noncomputable def plR (r : Ru) : Bool := !(Abs.seq (textR r) ByteArray.empty) && plainB r
theorem plR_form {r : Ru} (h : plR r = true) : FormB r ∧ EOk r ∧ r.2.2.length ≤ 6 := by
 unfold plR at h
 rw [Bool.and_eq_true, Bool.not_eq_true'] at h
 obtain ⟨c, h⟩ := h
 have hf : FormB r := by
  rw [seq_nil] at c
  unfold textR at c
  split at c
  ·exact formB_iff.1 (‹_ ∧ _›).1
  ·exact absurd c (by simp)
 unfold plainB at h
 simp only [Bool.and_eq_true, decide_eq_true_eq] at h
 refine ⟨hf, fun e he => ?_, h.1.1.1⟩
 have := List.all_eq_true.1 h.1.2 e he
 unfold okX
 simpa using this
theorem two_of (ha : plR a = true) (hb : plR b = true) (hb0 : Kd.bulk KRu a ≤ 1048576) (hb1 : Kd.bulk KRu b ≤ 1048576) : TwoR a b := by
 obtain ⟨f1, e1, l1⟩ := plR_form ha
 obtain ⟨f2, e2, l2⟩ := plR_form hb
 have A := argsIn_of f1
 have B := argsIn_of f2
 refine ⟨smT_of hb0, smT_of hb1, e1, e2, fun x hx => ?_, fun y hy => ?_, l1⟩
 ·rcases List.mem_cons.1 hx with rfl | h
  ·exact A.2
  ·exact A.1 x h
 ·rcases List.mem_cons.1 hy with rfl | h
  ·exact B.2
  ·exact B.1 y h
def carF (a b : Ru) : (List ByteArray × List ByteArray) × Bool :=
 if (becF a b a.2.1 b.2.1 []).1 = true then (match wayF a b a.2.2 (becF a b a.2.1 b.2.1 []).2 with
  | some r => ((namesOn [] a.1, (namesOn [] a.1).map (vlM r)), true)
  | none => (([], []), false))
 else (([], []), false)
theorem car_has {r : List ME} (hf : FormB a) (he : EOk a) (h1 : (becF a b a.2.1 b.2.1 []).1 = true) (h2 : wayF a b a.2.2 (becF a b a.2.1 b.2.1 []).2 = some r) : ∀ i (h : i < a.1.length), (a.1[i]).1 = 1 → Has r (a.1[i]).2.1 := by
 intro i hi hc
 obtain ⟨l, hl, p, hp, hx⟩ := arg_of hf he hi
 have h3 := becF_has (a := a) (b := b) a.2.1 b.2.1 []
 have h4 := wayF_has (a := a) (b := b) a.2.2 _ r h2
 rw [← hx] at hc ⊢
 rcases List.mem_cons.1 hl with rfl | hl
 ·exact h4.1 _ (h3.2 h1 p hp hc)
 ·exact h4.2 l hl p hp hc
theorem implCar (hn : big ≤ n) (ha : plR a = true) (hb : plR b = true) (hb0 : Kd.bulk KRu a ≤ 1048576) (hb1 : Kd.bulk KRu b ≤ 1048576) : impl_carries.F n a b = some (carF a b) := by
 have h := two_of ha hb hb0 hb1
 obtain ⟨f1, e1, l1⟩ := plR_form ha
 have hn1 : 1100010 < n := by unfold big at hn; omega
 have hfew := f1.few
 have hA := h.A _ (show a.2.1 ∈ litsOf a from List.mem_cons_self)
 have hB := h.B _ (show b.2.1 ∈ litsOf b from List.mem_cons_self)
 unfold impl_carries.F carF
 rw [becomes_eq (by omega) _ _ _ hA hB (h.S.args _ List.mem_cons_self), Option.bind_some]
 by_cases c : (becF a b a.2.1 b.2.1 []).1 = true
 ·rw [if_neg (by simp [c]), if_pos c, Option.bind_some]
  have e := carries1_eq h n 0 (becF a b a.2.1 b.2.1 []).2 (Nat.zero_le _) (by omega)
  rw [show ((0 : Nat) : Int) = 0 from rfl, List.drop_zero] at e
  rw [e, Option.bind_some]
  cases wayF a b a.2.2 (becF a b a.2.1 b.2.1 []).2 with
  | none => rw [if_pos (by simp [wayI])]
  | some r =>
   rw [if_neg (by simp [wayI]), allVars_eq n (by omega) a (by omega), Option.bind_some]
   have hl := names_len a.1 []
   simp only [List.length_nil] at hl
   have e2 := fun K => im_fin (n := n) r (namesOn [] a.1) (by omega) ([], []) K n 0 (Nat.zero_le _) (by omega)
   simp only [show ((0 : Nat) : Int) = 0 from rfl, List.take_zero, List.map_nil] at e2
   exact e2 _
 ·rw [if_pos (by simpa using c), if_neg c]
theorem implContains (hn : big ≤ n) (hb0 : Kd.bulk KRu a ≤ 1048576) (hb1 : Kd.bulk KRu b ≤ 1048576) : impl_Contains.F n a b = some (if plR a = true ∧ plR b = true then carF a b else (([], []), false)).2 := by
 unfold impl_Contains.F
 rw [implPlain hn hb0, Option.bind_some]
 by_cases c1 : plR a = true
 ·have c1' : (!(Abs.seq (textR a) ByteArray.empty) && plainB a) = true := c1
  rw [if_pos (by rw [c1']; rfl), implPlain hn hb1, Option.bind_some]
  by_cases c2 : plR b = true
  ·have c2' : (!(Abs.seq (textR b) ByteArray.empty) && plainB b) = true := c2
   rw [if_neg (by rw [c2']; simp), implCar hn c1 c2 hb0 hb1, Option.bind_some, if_pos ⟨c1, c2⟩]
  ·have c2' : (!(Abs.seq (textR b) ByteArray.empty) && plainB b) = false := Bool.eq_false_iff.2 c2
   rw [if_pos (by rw [c2']; rfl), if_neg (fun h => c2 h.2)]
 ·have c1' : (!(Abs.seq (textR a) ByteArray.empty) && plainB a) = false := Bool.eq_false_iff.2 c1
  rw [if_neg (by rw [c1']; simp), if_neg (fun h => c1 h.1)]
theorem specCar (hn : big ≤ n) (ha : plR a = true) (hb : plR b = true) (hb0 : Kd.bulk KRu a ≤ 1048576) (hb1 : Kd.bulk KRu b ≤ 1048576) (t7 : List ByteArray × List ByteArray) : spec_Carries.j0 n a b t7 = some (carF a b) := by
 have h := two_of ha hb hb0 hb1
 obtain ⟨f1, e1, l1⟩ := plR_form ha
 have hn1 : 100000010 < n := by unfold big at hn; omega
 have hfew := f1.few
 have hA := h.A _ (show a.2.1 ∈ litsOf a from List.mem_cons_self)
 have hB := h.B _ (show b.2.1 ∈ litsOf b from List.mem_cons_self)
 have hv0 : VOk [] := fun q hq => by cases hq
 have hal := h.S.args _ (show a.2.1 ∈ litsOf a from List.mem_cons_self)
 have hbo := becF_ok h (show a.2.1 ∈ litsOf a from List.mem_cons_self) (show b.2.1 ∈ litsOf b from List.mem_cons_self) hv0
 simp only [List.length_nil] at hbo
 unfold spec_Carries.j0 carF
 rw [show (([], []) : List ByteArray × List ByteArray) = encM [] from rfl, put_eq h.S h.T (by omega) h.Ea h.Eb _ _ [] hA hB hal hv0 (by simp only [List.length_nil]; omega), Option.bind_some]
 by_cases c : (becF a b a.2.1 b.2.1 []).1 = true
 ·rw [if_neg (by simp [c]), if_pos c]
  have e := way_eq h n 0 (becF a b a.2.1 b.2.1 []).2 (Nat.zero_le _) (by omega) hbo.1 (by omega)
  rw [show ((0 : Nat) : Int) = 0 from rfl, List.drop_zero] at e
  rw [e, Option.bind_some]
  cases hw : wayF a b a.2.2 (becF a b a.2.1 b.2.1 []).2 with
  | none => rw [if_pos (by simp [wayS])]
  | some r =>
   have hr := wayF_ok h a.2.2 _ r (fun x hx => List.mem_cons_of_mem _ hx) hbo.1 hw
   have e2 := fun K => sp_fin (n := n) (a := a) (by omega) r (by omega) (by omega) (car_has f1 e1 c hw) t7 K n 0 (Nat.zero_le _) (by omega)
   simp only [show ((0 : Nat) : Int) = 0 from rfl, List.take_zero] at e2
   rw [if_neg (by simp [wayS])]
   exact e2 _
 ·rw [if_pos (by simpa using c), if_neg c]
theorem specCarries (hn : big ≤ n) (hb0 : Kd.bulk KRu a ≤ 1048576) (hb1 : Kd.bulk KRu b ≤ 1048576) : spec_Carries.F n a b = some (if plR a = true ∧ plR b = true then carF a b else (([], []), false)) := by
 unfold spec_Carries.F
 rw [specPlain hn hb0, Option.bind_some]
 by_cases c1 : plR a = true
 ·have c1' : (!(Abs.seq (textR a) ByteArray.empty) && plainB a) = true := c1
  rw [if_pos (by rw [c1']; rfl), specPlain hn hb1, Option.bind_some]
  by_cases c2 : plR b = true
  ·have c2' : (!(Abs.seq (textR b) ByteArray.empty) && plainB b) = true := c2
   rw [if_neg (by rw [c2']; simp), specCar hn c1 c2 hb0 hb1, if_pos ⟨c1, c2⟩]
  ·have c2' : (!(Abs.seq (textR b) ByteArray.empty) && plainB b) = false := Bool.eq_false_iff.2 c2
   rw [if_pos (by rw [c2']; rfl), if_neg (fun h => c2 h.2)]
 ·have c1' : (!(Abs.seq (textR a) ByteArray.empty) && plainB a) = false := Bool.eq_false_iff.2 c1
  rw [if_neg (by rw [c1']; simp), if_neg (fun h => c1 h.1)]
end
end Go.Abs
