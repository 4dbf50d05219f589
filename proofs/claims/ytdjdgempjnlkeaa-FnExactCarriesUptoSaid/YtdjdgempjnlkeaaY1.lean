/- The program's look at a rule's form. Conditions: none. -/
import Derived.Test.YtdjdgempjnlkeaaY0
namespace Go.Abs
set_option linter.unusedVariables false
set_option linter.unusedSimpArgs false
theorem in_eq (n : Nat) (a b c : Int) : impl_in.F n a b c = some (decide (b ≤ a ∧ a ≤ c)) := by
 unfold impl_in.F
 by_cases h1 : b ≤ a <;> by_cases h2 : a ≤ c <;> simp [h1, h2]
theorem inR_in {i : Nat} {k : Int} : decide ((0 : Int) ≤ k ∧ k ≤ (i : Int) - 1) = inR i k := by
 unfold inR
 by_cases h1 : (0 : Int) ≤ k <;> by_cases h2 : k < (i : Int)
 ·simp [h1, h2]; omega
 ·simp [h1, h2]; omega
 ·simp [h1]
 ·simp [h1]
def chkE : List Ex → Nat → Bool
 | [], _ => true
 | e :: l, i => okK i e && okE e && chkE l (i + 1)
def chkL (m : Nat) : List Ex → Nat → Bool
 | [], _ => true
 | l :: ls, i => (if i = 0 then decide (l.1 = 1) else true) && okL l && okA m l && chkL m ls (i + 1)
theorem okK_eq (i : Nat) (e : Ex) : okK i e = e.2.2.all (inR i) := rfl
theorem set_bump {u : List Int} {k : Int} {m i : Nat} (hm : u.length = m) (hi : i ≤ m) (hk : inR i k = true) (hu : ∀ q, 0 ≤ u.getD q 0 ∧ u.getD q 0 ≤ 4000000000000000000) :
  ((0 : Int) ≤ k ∧ k < (u.length : Int)) ∧ List.set u (Int.toNat k) (IntKind.i64.wrap (List.getD u (Int.toNat k) 0 + 1)) = bump u k.toNat := by
 unfold inR at hk
 simp only [Bool.and_eq_true, decide_eq_true_eq] at hk
 refine ⟨by omega, ?_⟩
 have := hu k.toNat
 rw [wrap64 _ (by omega) (by omega)]
 rfl
section
variable (n : Nat) (hn : 1100000 ≤ n) (r : Ru) (hE : r.1.length ≤ 1048576) (hkids : ∀ e ∈ r.1, e.2.2.length ≤ 1048576)
theorem isF_l1 (i : Nat) (t8 : List Ex) (t9 t10 : Int) (kids : List Int) (hk : kids.length ≤ 1048576) (t16 : Ex) (K : List Int → Option Bool) (m : Nat) (hi : i ≤ m) (him : i ≤ 4294967296) {C : Int} {u : List Int} (hu : Cnt u m C) (hC : C ≤ 4000000000000) (hn : 1100000 ≤ n) :
  impl_isFormed.l1 n (i : Int) t8 t9 t10 kids (kids.length : Int) r t16 K n 0 u = if kids.all (inR i) = true then K (bumps u (kids.map Int.toNat)) else some false := by
 have := kidLoop (fun k j u => impl_isFormed.l1 n (i : Int) t8 t9 t10 kids (kids.length : Int) r t16 K k j u) kids m i (some false) K hi (fun k j u h hm hq => by
   conv => lhs; unfold impl_isFormed.l1
   rw [if_pos (dlt h), if_pos (inl' h), getD_in _ h, wrap64 _ (by omega) (by omega), in_eq, inR_in, Option.bind_some, wr1 (by omega)]
   by_cases hin : inR i kids[j] = true
   ·obtain ⟨h1, h2⟩ := set_bump hm hi hin hq
    rw [if_neg (by simp [hin]), if_pos h1, if_pos h1, h2, if_pos hin]
   ·rw [if_pos (by simpa using hin), if_neg hin]) (fun k u => by
   conv => lhs; unfold impl_isFormed.l1
   rw [if_neg (by simp)]) n 0 u C (Nat.zero_le _) (by omega) hu (by omega)
 rw [List.drop_zero] at this
 exact this
theorem isF_l4 (t38 : List Ex) (t39 t40 : Int) (kids : List Int) (hk : kids.length ≤ 1048576) (K : List Int → Option Bool) (hE : r.1.length ≤ 1048576) {C : Int} {u : List Int} (hu : Cnt u r.1.length C) (hC : C ≤ 4000000000000) (hn : 1100000 ≤ n) :
  impl_isFormed.l4 n t38 t39 t40 kids (kids.length : Int) r K n 0 u = if kids.all (inR r.1.length) = true then K (bumps u (kids.map Int.toNat)) else some false := by
 have := kidLoop (fun k j u => impl_isFormed.l4 n t38 t39 t40 kids (kids.length : Int) r K k j u) kids r.1.length r.1.length (some false) K (Nat.le_refl _) (fun k j u h hm hq => by
   conv => lhs; unfold impl_isFormed.l4
   rw [if_pos (dlt h), if_pos (inl' h), getD_in _ h, wrap64 _ (by omega) (by omega), in_eq, inR_in, Option.bind_some, wr1 (by omega)]
   by_cases hin : inR r.1.length kids[j] = true
   ·obtain ⟨h1, h2⟩ := set_bump hm (Nat.le_refl _) hin hq
    rw [if_neg (by simp [hin]), if_pos h1, if_pos h1, h2, if_pos hin]
   ·rw [if_pos (by simpa using hin), if_neg hin]) (fun k u => by
   conv => lhs; unfold impl_isFormed.l4
   rw [if_neg (by simp)]) n 0 u C (Nat.zero_le _) (by omega) hu (by omega)
 rw [List.drop_zero] at this
 exact this
theorem Cnt.bumps {u : List Int} {m : Nat} {C : Int} (h : Cnt u m C) : ∀ (ks : List Nat), (∀ k ∈ ks, k < m) → Cnt (bumps u ks) m (C + (ks.length : Int)) := by
 intro ks
 induction ks generalizing u C with
 | nil => intro _; exact h.mono (by simp)
 | cons k ks ih =>
  intro hk
  have := ih (h.bump (hk k List.mem_cons_self)) fun x hx => hk x (List.mem_cons_of_mem _ hx)
  exact this.mono (by simp; omega)
theorem all_lt {m : Nat} {ks : List Int} (h : ks.all (inR m) = true) : ∀ k ∈ ks.map Int.toNat, k < m := by
 intro k hk
 obtain ⟨a, ha, rfl⟩ := List.mem_map.1 hk
 have := List.all_eq_true.1 h a ha
 unfold inR at this
 simp only [Bool.and_eq_true, decide_eq_true_eq] at this
 omega
theorem all_lt' {m i : Nat} (hi : i ≤ m) {ks : List Int} (h : ks.all (inR i) = true) : ∀ k ∈ ks.map Int.toNat, k < m := fun k hk => Nat.lt_of_lt_of_le (all_lt h k hk) hi
theorem isF_l0 (hn : 1100000 ≤ n) (hE : r.1.length ≤ 1048576) (hkids : ∀ e ∈ r.1, e.2.2.length ≤ 1048576) (K : List Int → Option Bool) : ∀ (k i : Nat) (u : List Int), i ≤ r.1.length → r.1.length - i < k → Cnt u r.1.length ((i : Int) * 1048576) →
  impl_isFormed.l0 n r.1 (r.1.length : Int) r K k (i : Int) u = if chkE (r.1.drop i) i = true then K (bumps u ((r.1.drop i).flatMap kidsN)) else some false
 | 0, i, u, _, hk, _ => absurd hk (Nat.not_lt_zero _)
 | k + 1, i, u, hi, hk, hu => by
  by_cases h : i < r.1.length
  ·have hke := hkids _ (List.getElem_mem h)
   conv => lhs; unfold impl_isFormed.l0
   rw [if_pos (dlt h), if_pos (inl' h)]
   simp only [getD_in _ h]
   rw [isF_l1 n r i r.1 _ _ _ hke _ _ r.1.length (by omega) (by omega) hu (by omega) hn, List.drop_eq_getElem_cons h]
   generalize r.1[i] = e at hke ⊢
   by_cases hK : e.2.2.all (inR i) = true
   ·rw [if_pos hK]
    have hu2 := (hu.bumps _ (all_lt' (Nat.le_of_lt h) hK)).mono (D := ((i + 1 : Nat) : Int) * 1048576) (by rw [List.length_map]; omega)
    have ih := isF_l0 hn hE hkids K k (i + 1) _ (by omega) (by omega) hu2
    have hc : chkE (e :: r.1.drop (i + 1)) i = (okE e && chkE (r.1.drop (i + 1)) (i + 1)) := by simp [chkE, okK_eq, hK]
    have hfl : bumps u ((e :: r.1.drop (i + 1)).flatMap kidsN) = bumps (bumps u (e.2.2.map Int.toNat)) ((r.1.drop (i + 1)).flatMap kidsN) := by
     rw [List.flatMap_cons, bumps_append]; rfl
    rw [hc, hfl, wr1 (by omega), ih]
    unfold impl_isSum.F
    simp only [in_eq, Option.bind_some]
    unfold okE sumK
    by_cases h1 : 1 ≤ e.1 ∧ e.1 ≤ 7
    ·by_cases h5 : 5 ≤ e.1
     ·by_cases hl : e.2.2.length = 2
      ·simp [h1, h5, hl, show ¬ e.1 ≤ 3 by omega]
      ·have : ¬ (e.2.2.length : Int) = 2 := by omega
       simp [h1, h5, hl, this]
     ·by_cases h4 : e.1 = 4
      ·simp [h4]
      ·have h3 : e.1 ≤ 3 := by omega
       cases hq : e.2.2 with
       | nil => simp [h1, h5, h3, h4]
       | cons a l => simp [h1, h5, h3, h4]
    ·have hd : decide (1 ≤ e.1 ∧ e.1 ≤ 7) = false := by simpa using h1
     have hd2 : (decide (1 ≤ e.1) && decide (e.1 ≤ 7)) = false := by
      cases ha : decide (1 ≤ e.1) <;> cases hb : decide (e.1 ≤ 7) <;> simp_all
     simp [hd, hd2]
   ·rw [if_neg hK, if_neg (by simp [chkE, okK_eq, hK])]
  ·obtain rfl : i = r.1.length := by omega
   conv => lhs; unfold impl_isFormed.l0
   rw [if_neg (by simp), List.drop_of_length_le (Nat.le_refl _)]
   rfl
theorem isF_j3 (hn : 1100000 ≤ n) (hE : r.1.length ≤ 1048576) (t32 : List Ex) (t33 t34 : Int) (l : Ex) (hl : l.2.2.length ≤ 1048576) (K : List Int → Option Bool) {C : Int} {u : List Int} (hu : Cnt u r.1.length C) (hC : C ≤ 4000000000000) :
  impl_isFormed.j3 n t32 t33 t34 r u l K = if okA r.1.length l = true then K (bumps u (kidsN l)) else some false := by
 unfold impl_isFormed.j3
 rw [isF_l4 n r t32 t33 t34 _ hl _ hE hu hC hn]
 rfl
theorem isF_l2 (hn : 1100000 ≤ n) (hE : r.1.length ≤ 1048576) (ts : List Ex) (hts : ts.length ≤ 1048577) (hargs : ∀ l ∈ ts, l.2.2.length ≤ 1048576) (K : List Int → Option Bool) : ∀ (k i : Nat) (u : List Int), i ≤ ts.length → ts.length - i < k → Cnt u r.1.length (1048576 * 1048576 + (i : Int) * 1048576) →
  impl_isFormed.l2 n ts (ts.length : Int) r K k (i : Int) u = if chkL r.1.length (ts.drop i) i = true then K (bumps u ((ts.drop i).flatMap kidsN)) else some false
 | 0, i, u, _, hk, _ => absurd hk (Nat.not_lt_zero _)
 | k + 1, i, u, hi, hk, hu => by
  by_cases h : i < ts.length
  ·have hle := hargs _ (List.getElem_mem h)
   conv => lhs; unfold impl_isFormed.l2
   rw [if_pos (dlt h), if_pos (inl' h)]
   simp only [getD_in _ h]
   rw [List.drop_eq_getElem_cons h]
   generalize ts[i] = l at hle ⊢
   have hj := fun K' => isF_j3 n r hn hE ts (ts.length : Int) (i : Int) l hle K' hu (by omega)
   simp only [hj, in_eq, Option.bind_some]
   have hfl : bumps u ((l :: ts.drop (i + 1)).flatMap kidsN) = bumps (bumps u (kidsN l)) ((ts.drop (i + 1)).flatMap kidsN) := by
    rw [List.flatMap_cons, bumps_append]
   have hc : chkL r.1.length (l :: ts.drop (i + 1)) i = ((if i = 0 then decide (l.1 = 1) else true) && (okL l && (okA r.1.length l && chkL r.1.length (ts.drop (i + 1)) (i + 1)))) := by
    simp only [chkL, Bool.and_assoc]
   rw [hfl, hc, wr1 (by omega)]
   have main : (if okA r.1.length l = true then impl_isFormed.l2 n ts (ts.length : Int) r K k ((i + 1 : Nat) : Int) (bumps u (kidsN l)) else some false) =
     if (okA r.1.length l && chkL r.1.length (ts.drop (i + 1)) (i + 1)) = true then K (bumps (bumps u (kidsN l)) ((ts.drop (i + 1)).flatMap kidsN)) else some false := by
    by_cases hA : okA r.1.length l = true
    ·have hu2 := (hu.bumps _ (all_lt (show l.2.2.all (inR r.1.length) = true from hA))).mono (D := 1048576 * 1048576 + ((i + 1 : Nat) : Int) * 1048576) (by rw [List.length_map]; omega)
     have ih := isF_l2 hn hE ts hts hargs K k (i + 1) _ (by omega) (by omega) hu2
     rw [if_pos hA, hA, Bool.true_and]
     exact ih
    ·rw [if_neg hA, if_neg (by simp [hA])]
   rw [main]
   generalize (okA r.1.length l && chkL r.1.length (ts.drop (i + 1)) (i + 1)) = b
   generalize K (bumps (bumps u (kidsN l)) ((ts.drop (i + 1)).flatMap kidsN)) = y
   have hi0 : decide ((i : Int) = 0) = decide (i = 0) := by simp
   have hl2 : decide ((l.2.2.length : Int) = 2) = decide (l.2.2.length = 2) := by
    by_cases hl : l.2.2.length = 2
    ·simp [hl]
    ·have : ¬ (l.2.2.length : Int) = 2 := by omega
     simp [hl, this]
   have hk3 : okL l = (decide (1 ≤ l.1 ∧ l.1 ≤ 3) && (!decide (l.1 = 3) || decide (l.2.2.length = 2))) := by
    unfold okL
    rw [Bool.decide_and]
   rw [hi0, hl2, hk3]
   by_cases c0 : i = 0
   ·simp only [c0, decide_true, if_true]
    cases decide (l.1 = 1) <;> cases decide (1 ≤ l.1 ∧ l.1 ≤ 3) <;> cases decide (l.1 = 3) <;> cases decide (l.2.2.length = 2) <;> cases b <;> rfl
   ·simp only [c0, decide_false, if_false]
    cases decide (1 ≤ l.1 ∧ l.1 ≤ 3) <;> cases decide (l.1 = 3) <;> cases decide (l.2.2.length = 2) <;> cases b <;> rfl
  ·obtain rfl : i = ts.length := by omega
   conv => lhs; unfold impl_isFormed.l2
   rw [if_neg (by simp), List.drop_of_length_le (Nat.le_refl _)]
   rfl
end
theorem contains_ne (n : Nat) (u : List Int) (hu : u.length ≤ 1048576) (hn : 1100000 ≤ n) : slices_ContainsFunc_int_int.F n u (fun a55 => (impl_isFormed_1.F n a55.1).bind some) = some (u.any fun x => !decide (x = 1)) := by
 have key : ∀ (k i : Nat), i ≤ u.length → u.length - i < k → ∃ z : Int, slices_IndexFunc_int_int.l0 n u (fun a55 => (impl_isFormed_1.F n a55.1).bind some) (u.length : Int) (fun _ => some (-1)) k (i : Int) = some z ∧ decide (z ≥ 0) = (u.drop i).any fun x => !decide (x = 1) := by
  intro k
  induction k with
  | zero => intro i _ h; exact absurd h (Nat.not_lt_zero _)
  | succ k ih =>
   intro i hi hk
   by_cases h : i < u.length
   ·conv => enter [1, z, 1, 1]; unfold slices_IndexFunc_int_int.l0
    simp only [if_pos (dlt h), if_pos (inl' h), getD_in _ h, impl_isFormed_1.F, Option.bind_some]
    rw [List.drop_eq_getElem_cons h]
    by_cases e : u[i] = 1
    ·obtain ⟨z, z1, z2⟩ := ih (i + 1) (by omega) (by omega)
     refine ⟨z, ?_, ?_⟩
     ·rw [if_neg (by simp [e]), wr1 (by omega)]
      exact z1
     ·rw [z2, List.any_cons]
      simp [e]
    ·exact ⟨(i : Int), by rw [if_pos (by simp [e])], by rw [List.any_cons]; simp [e]⟩
   ·refine ⟨-1, ?_, ?_⟩
    ·conv => lhs; unfold slices_IndexFunc_int_int.l0
     rw [if_neg (dnl h)]
    ·rw [List.drop_of_length_le (by omega)]
     rfl
 obtain ⟨z, z1, z2⟩ := key n 0 (Nat.zero_le _) (by omega)
 unfold slices_ContainsFunc_int_int.F slices_IndexFunc_int_int.F
 rw [show (0 : Int) = ((0 : Nat) : Int) from rfl, z1, Option.bind_some]
 rw [List.drop_zero] at z2
 show some (decide (z ≥ 0)) = _
 rw [z2]
theorem chkE_iff : ∀ {l : List Ex} {i : Nat}, chkE l i = true ↔ ∀ j (h : j < l.length), okK (i + j) l[j] = true ∧ okE l[j] = true
 | [], i => ⟨fun _ j h => absurd h (Nat.not_lt_zero _), fun _ => rfl⟩
 | e :: l, i => by
  have ih := chkE_iff (l := l) (i := i + 1)
  simp only [chkE, Bool.and_eq_true]
  rw [ih]
  constructor
  ·rintro ⟨h1, h2⟩ j hj
   cases j with
   | zero => exact h1
   | succ j =>
    have := h2 j (by simpa using hj)
    rw [show i + (j + 1) = i + 1 + j by omega]
    exact this
  ·intro h
   refine ⟨h 0 (by simp), fun j hj => ?_⟩
   have := h (j + 1) (by simpa using hj)
   rw [show i + (j + 1) = i + 1 + j by omega] at this
   exact this
theorem chkL_iff {m : Nat} : ∀ {l : List Ex} {i : Nat}, chkL m l (i + 1) = true ↔ ∀ x ∈ l, okL x = true ∧ okA m x = true
 | [], i => ⟨fun _ _ h => by (cases h), fun _ => rfl⟩
 | e :: l, i => by
  have ih := chkL_iff (m := m) (l := l) (i := i + 1)
  simp only [chkL, Nat.add_eq_zero_iff, Nat.one_ne_zero, and_false, if_false, Bool.true_and, Bool.and_eq_true]
  rw [ih]
  constructor
  ·rintro ⟨h1, h2⟩ x hx
   rcases List.mem_cons.1 hx with rfl | hx
   ·exact h1
   ·exact h2 x hx
  ·intro h
   exact ⟨h e List.mem_cons_self, fun x hx => h x (List.mem_cons_of_mem _ hx)⟩
def formB (r : Ru) : Bool := chkE r.1 0 && chkL r.1.length (litsOf r) 0 && decide (r.1.length ≤ 60) && !((usesR r).any fun x => !decide (x = 1))
theorem formB_iff {r : Ru} : formB r = true ↔ FormB r := by
 unfold formB
 simp only [Bool.and_eq_true, decide_eq_true_eq, Bool.not_eq_true', List.any_eq_false, Bool.not_eq_false', Bool.not_eq_true]
 rw [chkE_iff]
 have hl : chkL r.1.length (litsOf r) 0 = true ↔ r.2.1.1 = 1 ∧ ∀ l ∈ litsOf r, okL l = true ∧ okA r.1.length l = true := by
  unfold litsOf
  simp only [chkL, if_true, Bool.and_eq_true, decide_eq_true_eq]
  rw [chkL_iff]
  constructor
  ·rintro ⟨⟨⟨h1, h2⟩, h3⟩, h4⟩
   refine ⟨h1, fun x hx => ?_⟩
   rcases List.mem_cons.1 hx with rfl | hx
   ·exact ⟨h2, h3⟩
   ·exact h4 x hx
  ·rintro ⟨h1, h2⟩
   exact ⟨⟨⟨h1, (h2 _ List.mem_cons_self).1⟩, (h2 _ List.mem_cons_self).2⟩, fun x hx => h2 x (List.mem_cons_of_mem _ hx)⟩
 rw [hl]
 constructor
 ·rintro ⟨⟨⟨h1, h2, h3⟩, h4⟩, h5⟩
  exact ⟨h4, fun i h => by have := h1 i h; rwa [Nat.zero_add] at this, h2, h3, fun x hx => by simpa using h5 x hx⟩
 ·intro h
  exact ⟨⟨⟨fun i hi => by have := h.exps i hi; rwa [Nat.zero_add], h.head, h.lits⟩, h.few⟩, fun x hx => by simpa using h.once x hx⟩
structure SmR (r : Ru) : Prop where
 exps : r.1.length ≤ 1048576
 body : r.2.2.length ≤ 1048576
 kids : ∀ e ∈ r.1, e.2.2.length ≤ 1048576
 args : ∀ l ∈ litsOf r, l.2.2.length ≤ 1048576
 all : bxR r ≤ 8000000
theorem isFormed_eq (n : Nat) (hn : 1100000 ≤ n) (r : Ru) (S : SmR r) : impl_isFormed.F n r = some (formB r) := by
 have hE := S.exps
 have hB := S.body
 have hlen : (litsOf r).length = r.2.2.length + 1 := rfl
 unfold impl_isFormed.F
 rw [if_pos (by refine ⟨by omega, Int.le_refl _, ?_⟩; simp [lim]; omega), Int.toNat_natCast]
 have h0 : Cnt (List.replicate r.1.length (0 : Int)) r.1.length (((0 : Nat) : Int) * 1048576) := ⟨by simp, fun q => by
  rw [List.getD_eq_getElem?_getD, List.getElem?_replicate]
  split <;> simp⟩
 have e0 := fun K => isF_l0 n r hn hE S.kids K n 0 _ (Nat.zero_le _) (by omega) h0
 simp only [show ((0 : Nat) : Int) = 0 from rfl, List.drop_zero] at e0
 rw [e0]
 unfold formB
 by_cases c1 : chkE r.1 0 = true
 ·rw [if_pos c1, c1, Bool.true_and]
  have hk : ∀ k ∈ r.1.flatMap kidsN, k < r.1.length := by
   intro k hk
   obtain ⟨e, he, hk⟩ := List.mem_flatMap.1 hk
   obtain ⟨i, hi, rfl⟩ := List.mem_iff_getElem.1 he
   have := all_lt (show r.1[i].2.2.all (inR i) = true by have := (chkE_iff.1 c1 i hi).1; rwa [Nat.zero_add] at this) k hk
   omega
  have hC : ((r.1.flatMap kidsN).length : Int) ≤ 1048576 * 1048576 := by
   have : ∀ l : List Ex, (∀ e ∈ l, e.2.2.length ≤ 1048576) → (l.flatMap kidsN).length ≤ l.length * 1048576 := by
    intro l
    induction l with
    | nil => intro _; simp
    | cons e l ih =>
     intro h
     have h1 := ih fun x hx => h x (List.mem_cons_of_mem _ hx)
     have h2 := h e List.mem_cons_self
     rw [List.flatMap_cons, List.length_append, List.length_cons]
     have : (kidsN e).length = e.2.2.length := List.length_map ..
     omega
   have h1 := this r.1 S.kids
   have : r.1.length * 1048576 ≤ 1048576 * 1048576 := Nat.mul_le_mul_right _ hE
   omega
  have hu := (Cnt.bumps h0 _ hk).mono (D := 1048576 * 1048576 + ((0 : Nat) : Int) * 1048576) (by omega)
  unfold impl_Rule_lits.F
  rw [if_pos (by simp [lim]; omega), Option.bind_some]
  have e2 := fun K => isF_l2 n r hn hE ([r.2.1] ++ r.2.2) (by simp; omega) S.args K n 0 _ (Nat.zero_le _) (by simp; omega) hu
  simp only [show ((0 : Nat) : Int) = 0 from rfl, List.drop_zero] at e2
  rw [e2, show [r.2.1] ++ r.2.2 = litsOf r from rfl]
  by_cases c2 : chkL r.1.length (litsOf r) 0 = true
  ·rw [if_pos c2, c2, Bool.true_and]
   by_cases c3 : r.1.length ≤ 60
   ·rw [if_pos (by simp; omega), decide_eq_true c3, Bool.true_and]
    have hul : (bumps (bumps (List.replicate r.1.length 0) (r.1.flatMap kidsN)) ((litsOf r).flatMap kidsN)).length ≤ 1048576 := by rw [bumps_len, bumps_len]; simp; omega
    rw [contains_ne n _ hul hn, Option.bind_some]
    rfl
   ·rw [if_neg (by simp; omega), decide_eq_false c3]
    rfl
  ·rw [if_neg c2]
   have : chkL r.1.length (litsOf r) 0 = false := by simpa using c2
   rw [this]
   rfl
 ·rw [if_neg c1]
  have : chkE r.1 0 = false := by simpa using c1
  rw [this]
  rfl
end Go.Abs
