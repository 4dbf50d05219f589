/- The sums of groups: both sides alike. Conditions: none. -/
import Derived.Test.YtgdlicpmbgodjaaGreatDoorG9
namespace Go.Abs
set_option linter.unusedVariables false
set_option linter.unusedSimpArgs false
theorem sz_list (s : ByteArray) : s.data.toList.length = s.size := Array.length_toList
abbrev SO : Type := Option (Re × Bool)
open Classical in
noncomputable def numV (s : ByteArray) : Option Int := if h : ∃ x : Int, -1000000 ≤ x ∧ x ≤ 1000000 ∧ s.data.toList = Lib.itoa x then some (Classical.choose h) else none
theorem itoa_inj {x y : Int} (h0 : -1000000 ≤ x) (h1 : x ≤ 1000000) (h2 : -1000000 ≤ y) (h3 : y ≤ 1000000) (h : Lib.itoa x = Lib.itoa y) : x = y := by
 have a := atoi_itoa x h0 h1
 have b := atoi_itoa y h2 h3
 rw [h, b] at a
 cases a
 rfl
theorem numV_some {s : ByteArray} {x : Int} (h0 : -1000000 ≤ x) (h1 : x ≤ 1000000) (h : s.data.toList = Lib.itoa x) : numV s = some x := by
 have he : ∃ x : Int, -1000000 ≤ x ∧ x ≤ 1000000 ∧ s.data.toList = Lib.itoa x := ⟨x, h0, h1, h⟩
 unfold numV
 rw [dif_pos he]
 obtain ⟨a, b, c⟩ := Classical.choose_spec he
 rw [itoa_inj a b h0 h1 (c.symm.trans h)]
theorem numV_is {s : ByteArray} {x : Int} (h : numV s = some x) : -1000000 ≤ x ∧ x ≤ 1000000 ∧ s.data.toList = Lib.itoa x := by
 unfold numV at h
 split at h
 ·rename_i he
  cases h
  exact Classical.choose_spec he
 ·cases h
theorem numV_none {s : ByteArray} (h : numV s = none) : ¬ isNum s.data.toList := by
 rintro ⟨x, h0, h1, e⟩
 rw [numV_some h0 h1 e] at h
 cases h
theorem termNum_eq (n : Nat) (hn : 25 ≤ n) (s : ByteArray) : spec_TermNum.F n s = some (match numV s with | some x => (x, true) | none => (0, false)) := by
 obtain ⟨v, ok, h1, h2, h3⟩ := l01Number n s.data.toList hn
 rw [← bt_of] at h1
 unfold spec_TermNum.F
 rw [h1, Option.bind_some]
 cases ok with
 | true =>
  obtain ⟨a, b, c⟩ := h3 rfl
  rw [numV_some b c a]
  rfl
 | false =>
  have : numV s = none := by
   cases hv : numV s with
   | none => rfl
   | some x =>
    obtain ⟨a, b, c⟩ := numV_is hv
    have := h2.2 ⟨x, a, b, c⟩
    cases this
  rw [this]
  rfl
theorem kind_num (n : Nat) (hn : 1000 ≤ n) (s : ByteArray) (hs : okS s) : ∃ k : Nat, impl_kindOf.F n s = some (k : Int) ∧ (k = 1 ↔ numV s ≠ none) := by
 obtain ⟨j, hj, hz⟩ := hs
 have hz' : s.data.toList.length ≤ 200 := by rw [sz_list]; exact hz
 obtain ⟨k, h1, h2⟩ := kindOf_is n s.data.toList (by omega) (by omega)
 rw [← bt_of] at h1
 refine ⟨k, h1, fun e => ?_, fun e => ?_⟩
 ·subst e
  obtain ⟨h3, _⟩ := h2.sound (by omega)
  intro hv
  refine numV_none hv ?_
  generalize s.data.toList = l at h3
  cases h3
  rename_i x a b
  exact ⟨x, a, b, rfl⟩
 ·cases hv : numV s with
  | none => exact absurd hv e
  | some x =>
   obtain ⟨a, b, c⟩ := numV_is hv
   exact h2.complete 1 (by rw [c]; exact .num x a b) hz'
theorem numOf_eq (n : Nat) (s : ByteArray) (x : Int) (hz : s.size ≤ 200) (h : numV s = some x) : impl_numOf.F n s = some x := by
 obtain ⟨a, b, c⟩ := numV_is h
 rw [bt_of s, c]
 refine numOf_itoa n x a b ?_
 rw [← c, sz_list]
 exact hz
noncomputable def sumR (p : Nat) : List Tu → Int → Option Int
 | [], a => some a
 | t :: r, a => match numV (List.getD t p ByteArray.empty) with | none => none | some x => sumR p r (a + x)
theorem sumR_bound (p : Nat) : ∀ (l : List Tu) (a s : Int) , sumR p l a = some s → a - l.length * 1000000 ≤ s ∧ s ≤ a + l.length * 1000000
 | [], a, s, h => by
  unfold sumR at h
  cases h
  simp
 | t :: r, a, s, h => by
  unfold sumR at h
  cases hv : numV (List.getD t p ByteArray.empty) with
  | none => rw [hv] at h; cases h
  | some x =>
   rw [hv] at h
   obtain ⟨b, c, _⟩ := numV_is hv
   have := sumR_bound p r (a + x) s h
   simp only [List.length_cons]
   omega
noncomputable def sumAll (p : Nat) : List Gr → Option (List Tu)
 | [] => some []
 | g :: r => match sumR p g.2 0 with
  | none => none
  | some s => if -1000000 ≤ s ∧ s ≤ 1000000 then (match sumAll p r with | none => none | some l => some ((g.1 ++ [bt (Lib.itoa s)]) :: l)) else none
def GrOk2 (p : Nat) (gs : List Gr) : Prop := GrOk gs ∧ ∀ g ∈ gs, ∀ t ∈ g.2, okT t ∧ p < t.length
section
variable (n : Nat) (hn : 1100000 ≤ n) (p : Nat) (gs : List Gr) (hg : GrOk2 p gs)
include hn hg
theorem specS_l2 (B : Nat → Int) (hB : ∀ j, B j + 1000000 ≤ B (j + 1)) (hB2 : ∀ j, j ≤ 400 → B j ≤ 4000000000) (u v : Re) (i : Nat) (hi : i < gs.length) (K : Int → SO) : ∀ (k j : Nat) (a : Int), j ≤ (gs[i]).2.length → (gs[i]).2.length - j < k → - B j ≤ a → a ≤ B j →
  spec_SumBy.l2 n (p : Int) gs (i : Int) u v K k a (j : Int) = match sumR p ((gs[i]).2.drop j) a with | none => some ((0, []), false) | some s => K s
 | 0, j, a, hj, hk, _, _ => absurd hk (Nat.not_lt_zero _)
 | k + 1, j, a, hj, hk, ha, hb => by
  obtain ⟨g1, g2⟩ := hg.1.2 _ (List.getElem_mem hi)
  conv => lhs; unfold spec_SumBy.l2
  rw [if_pos (inl' hi), getD_in _ hi]
  by_cases h : j < (gs[i]).2.length
  ·obtain ⟨t1, t2⟩ := hg.2 _ (List.getElem_mem hi) _ (List.getElem_mem h)
   rw [if_pos (dlt h), if_pos (inl' hi), if_pos (inl' h), getD_in _ h, if_pos (by omega), Int.toNat_natCast, termNum_eq n (by omega), Option.bind_some, List.drop_eq_getElem_cons h]
   unfold sumR
   cases hv : numV (List.getD (gs[i]).2[j] p ByteArray.empty) with
   | none => rfl
   | some x =>
    obtain ⟨b, c, _⟩ := numV_is hv
    have hB1 := hB j
    have hB3 := hB2 j (by omega)
    dsimp only
    rw [if_neg (by simp), wrap64 _ (by omega) (by omega), wr1 (by omega)]
    exact specS_l2 B hB hB2 u v i hi K k (j + 1) (a + x) (by omega) (by omega) (by omega) (by omega)
  ·rw [if_neg (dnl h), List.drop_of_length_le (by omega)]
   rfl
theorem implS_l2 (B : Nat → Int) (hB : ∀ j, B j + 1000000 ≤ B (j + 1)) (hB2 : ∀ j, j ≤ 400 → B j ≤ 4000000000) (t20 t21 t28 : Int) (u v : Re) (gg : List Gr) (g : Gr) (hgm : g ∈ gs) (K : Int → SO) : ∀ (k j : Nat) (a : Int), j ≤ g.2.length → g.2.length - j < k → - B j ≤ a → a ≤ B j →
  impl_SumBy.l2 n (p : Int) t20 t21 (g.2.length : Int) u v g gg t28 K k a (j : Int) = match sumR p (g.2.drop j) a with | none => some ((0, []), false) | some s => K s
 | 0, j, a, hj, hk, _, _ => absurd hk (Nat.not_lt_zero _)
 | k + 1, j, a, hj, hk, ha, hb => by
  obtain ⟨g1, g2⟩ := hg.1.2 _ hgm
  conv => lhs; unfold impl_SumBy.l2
  by_cases h : j < g.2.length
  ·obtain ⟨t1, t2⟩ := hg.2 _ hgm _ (List.getElem_mem h)
   have hs : okS (List.getD g.2[j] p ByteArray.empty) := by
    rw [List.getD_eq_getElem?_getD, List.getElem?_eq_getElem t2]
    exact t1.2 _ (List.getElem_mem t2)
   obtain ⟨q, q1, q2⟩ := kind_num n (by omega) _ hs
   rw [if_pos (dlt h), if_pos (inl' h), getD_in _ h, if_pos (by omega), Int.toNat_natCast, q1, Option.bind_some, List.drop_eq_getElem_cons h]
   unfold sumR
   cases hv : numV (List.getD g.2[j] p ByteArray.empty) with
   | none =>
    have : q ≠ 1 := fun e => q2.1 e hv
    rw [if_pos (by simp; omega)]
   | some x =>
    have e1 : q = 1 := q2.2 (by rw [hv]; simp)
    obtain ⟨b, c, _⟩ := numV_is hv
    obtain ⟨_, _, hz⟩ := hs
    have hB1 := hB j
    have hB3 := hB2 j (by omega)
    rw [if_neg (by simp [e1]), if_pos (by omega), numOf_eq n _ x hz hv, Option.bind_some, wrap64 _ (by omega) (by omega), wr1 (by omega)]
    exact implS_l2 B hB hB2 t20 t21 t28 u v gg g hgm K k (j + 1) (a + x) (by omega) (by omega) (by omega) (by omega)
  ·rw [if_neg (dnl h), List.drop_of_length_le (by omega)]
   rfl
theorem specS_l1 (u : Re) (K : Re → SO) : ∀ (k i : Nat) (a : Int) (out : List Tu), i ≤ gs.length → gs.length - i < k → out.length ≤ i →
  spec_SumBy.l1 n (p : Int) gs u K k (i : Int) (a, out) = match sumAll p (gs.drop i) with | none => some ((0, []), false) | some l => K (a, out ++ l)
 | 0, i, a, out, hi, hk, _ => absurd hk (Nat.not_lt_zero _)
 | k + 1, i, a, out, hi, hk, hl => by
  have hlen := hg.1.1
  by_cases h : i < gs.length
  ·obtain ⟨g1, g2⟩ := hg.1.2 _ (List.getElem_mem h)
   have g6 := g1.1
   conv => lhs; unfold spec_SumBy.l1
   rw [if_pos (dlt h)]
   have s := fun KK => specS_l2 n hn p gs hg (fun j => (j : Int) * 1000000) (fun j => by omega) (fun j hj => by omega) u (a, out) i h KK n 0 0 (Nat.zero_le _) (by omega) (by simp) (by simp)
   simp only [show ((0 : Nat) : Int) = 0 from rfl, List.drop_zero] at s
   rw [s, List.drop_eq_getElem_cons h]
   unfold sumAll
   cases hs : sumR p (gs[i]).2 0 with
   | none => rfl
   | some z =>
    have hb := sumR_bound p _ _ _ hs
    dsimp only
    rw [l01Between_eq, Option.bind_some]
    by_cases c : -1000000 ≤ z ∧ z ≤ 1000000
    ·rw [if_neg (by rw [decide_eq_true c]; simp), if_pos (inl' h), getD_in _ h, if_pos (by simp [lim]; omega), numText n _ (by omega) (by omega) (by omega), Option.bind_some, if_pos (by simp [lim]; omega), if_pos (by show _ + 1 ≤ 4294967296; omega), wr1 (by omega), if_pos c]
     rw [specS_l1 u K k (i + 1) a _ (by omega) (by omega) (by simp; omega)]
     cases sumAll p (gs.drop (i + 1)) with
     | none => rfl
     | some l => simp
    ·rw [if_pos (by rw [decide_eq_false c]; simp), if_neg c]
  ·conv => lhs; unfold spec_SumBy.l1
   rw [if_neg (dnl h), List.drop_of_length_le (by omega)]
   simp [sumAll]
theorem implS_l1 (u : Re) (K : Re → SO) : ∀ (k i : Nat) (a : Int) (out : List Tu), i ≤ gs.length → gs.length - i < k → out.length ≤ i →
  impl_SumBy.l1 n (p : Int) (gs.length : Int) u gs K k (i : Int) (a, out) (i : Int) = match sumAll p (gs.drop i) with | none => some ((0, []), false) | some l => K (a, out ++ l)
 | 0, i, a, out, hi, hk, _ => absurd hk (Nat.not_lt_zero _)
 | k + 1, i, a, out, hi, hk, hl => by
  have hlen := hg.1.1
  by_cases h : i < gs.length
  ·obtain ⟨g1, g2⟩ := hg.1.2 _ (List.getElem_mem h)
   have g6 := g1.1
   conv => lhs; unfold impl_SumBy.l1
   rw [if_pos (dlt h), if_pos (inl' h), if_pos (Int.le_refl _), getD_in _ h]
   have s := fun KK => implS_l2 n hn p gs hg (fun j => (j : Int) * 1000000) (fun j => by omega) (fun j hj => by omega) (gs.length : Int) (i : Int) ((i : Int) + 1) u (a, out) gs gs[i] (List.getElem_mem h) KK n 0 0 (Nat.zero_le _) (by omega) (by simp) (by simp)
   simp only [show ((0 : Nat) : Int) = 0 from rfl, List.drop_zero] at s
   rw [s, List.drop_eq_getElem_cons h]
   unfold sumAll
   cases hs : sumR p (gs[i]).2 0 with
   | none => rfl
   | some z =>
    have hb := sumR_bound p _ _ _ hs
    dsimp only
    rw [in_eq, Option.bind_some]
    by_cases c : -1000000 ≤ z ∧ z ≤ 1000000
    ·unfold strconv_Itoa.F
     rw [if_neg (by rw [decide_eq_true c]; simp), if_pos (by omega), Option.bind_some, if_pos (by show _ + 1 ≤ 4294967296; omega), if_pos (by show _ + 1 ≤ 4294967296; omega), wr1 (by omega), if_pos c, show (i : Int) + 1 = ((i + 1 : Nat) : Int) by omega]
     rw [implS_l1 u K k (i + 1) a _ (by omega) (by omega) (by simp; omega)]
     cases sumAll p (gs.drop (i + 1)) with
     | none => rfl
     | some l => simp [bt_mk]
    ·rw [if_pos (by rw [decide_eq_false c]; simp), if_neg c]
  ·conv => lhs; unfold impl_SumBy.l1
   rw [if_neg (dnl h), List.drop_of_length_le (by omega)]
   simp [sumAll]
end
theorem sum_eq (n m : Nat) (hn : 1100000 ≤ n) (hm : 1100000 ≤ m) (r : Re) (by_ : List Int) (q : Int) (hb : by_.length ≤ 1048576) (hsz : ∀ t ∈ r.2, ∀ s ∈ t, s.size ≤ 1048576) (hlen : ∀ t ∈ r.2, t.length ≤ 1048576) :
  ∃ w, spec_SumBy.F n r by_ q = some w ∧ impl_SumBy.F m r by_ q = some w ∧ (w = ((0, []), false) ∨ ∃ l, sumAll q.toNat (grpS (keyOf by_) r.2) = some l ∧ w = (((by_.length : Int) + 1, l), true) ∧ Right r by_ ∧ by_.length < 6 ∧ 0 ≤ q ∧ q < r.1) := by
 obtain ⟨b, b1, b2, b3⟩ := right_eq n m hn hm r by_ hb hsz hlen
 unfold spec_SumBy.F impl_SumBy.F
 rw [b1, b2]
 cases b with
 | false => exact ⟨((0, []), false), rfl, rfl, .inl rfl⟩
 | true =>
  have R := b3 rfl
  have h0 := R.rel.base.1
  have h6 := R.rel.base.2.1
  have b6 : by_.length ≤ 6 := by have := R.len; omega
  simp only [Option.bind_some]
  by_cases e : by_.length = 6
  ·exact ⟨((0, []), false), by rw [if_pos (by simp), if_neg (by simp; omega)], by rw [if_pos (by simp), if_neg (by simp; omega)], .inl rfl⟩
  ·rw [if_pos (by simp), if_pos (by simp; omega), if_pos (by simp), if_pos (by simp; omega), l01Between_eq, in_eq, wrap64 _ (by omega) (by omega)]
   simp only [Option.bind_some]
   by_cases c : 0 ≤ q ∧ q ≤ r.1 - 1
   ·have ok := grp_ok R
    have hl := ok.1
    have ok2 : GrOk2 q.toNat (grpS (keyOf by_) r.2) := ⟨ok, fun g hgm t ht => by
     have ht' := grp_rows hgm t ht
     have := R.rel.len t ht'
     exact ⟨R.rel.base.2.2.2 t ht', by omega⟩⟩
    rw [if_neg (by rw [decide_eq_true c]; simp), if_neg (by rw [decide_eq_true c]; simp)]
    unfold spec_SumBy.j0 impl_SumBy.j0
    rw [specG_eq n hn r by_ R, b1, Option.bind_some, if_neg (by simp), Option.bind_some, implG_eq m hm r by_ R, Option.bind_some]
    have s := specS_l1 n hn q.toNat _ ok2 (0, []) (fun out13 => some (out13, true)) n 0 (IntKind.i64.wrap ((by_.length : Int) + 1)) [] (Nat.zero_le _) (by omega) (by simp)
    have s' := implS_l1 m hm q.toNat _ ok2 (0, []) (fun out13 => some (out13, true)) m 0 (IntKind.i64.wrap ((by_.length : Int) + 1)) [] (Nat.zero_le _) (by omega) (by simp)
    rw [show ((0 : Nat) : Int) = 0 from rfl, List.drop_zero, show ((q.toNat : Nat) : Int) = q by omega, wrap64 _ (by omega) (by omega)] at s s'
    rw [wrap64 _ (by omega) (by omega), s, s']
    cases hs : sumAll q.toNat (grpS (keyOf by_) r.2) with
    | none => exact ⟨_, rfl, rfl, .inl rfl⟩
    | some l => exact ⟨_, rfl, rfl, .inr ⟨l, rfl, rfl, R, by omega, c.1, by omega⟩⟩
   ·rw [if_pos (by rw [decide_eq_false c]; simp), if_pos (by rw [decide_eq_false c]; simp)]
    exact ⟨_, rfl, rfl, .inl rfl⟩
end Go.Abs
