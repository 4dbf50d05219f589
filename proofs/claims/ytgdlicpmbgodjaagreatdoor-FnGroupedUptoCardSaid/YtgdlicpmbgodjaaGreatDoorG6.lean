/- A relation and places are right: both sides alike. Conditions: none. -/
import Derived.Test.YtgdlicpmbgodjaaGreatDoorG5
namespace Go.Abs
set_option linter.unusedVariables false
set_option linter.unusedSimpArgs false
def chk (m : Int) (by_ : List Int) : Nat → Nat → Bool
 | 0, _ => true
 | f + 1, i => (decide (0 ≤ List.getD by_ i 0 ∧ List.getD by_ i 0 ≤ m) && (decide (i = 0) || decide (List.getD by_ (i - 1) 0 < List.getD by_ i 0))) && chk m by_ f (i + 1)
theorem wm1 {i : Nat} (h0 : 0 < i) (h : i ≤ 4294967296) : IntKind.i64.wrap ((i : Int) - 1) = ((i - 1 : Nat) : Int) := by rw [wrap64 _ (by omega) (by omega)]; omega
theorem specRight_l (n : Nat) (by_ : List Int) (r : Re) (hb : by_.length ≤ 1048576) (K : Unit → Option Bool) : ∀ (f i k : Nat), i + f = by_.length → f < k →
  spec_l19Right.l1 n by_ r K k (i : Int) = if chk (IntKind.i64.wrap (r.1 - 1)) by_ f i = true then K () else some false
 | _, _, 0, _, hk => absurd hk (Nat.not_lt_zero _)
 | 0, i, k + 1, hi, hk => by
  conv => lhs; unfold spec_l19Right.l1
  rw [if_neg (dnl (by omega))]
  simp [chk]
 | f + 1, i, k + 1, hi, hk => by
  have h : i < by_.length := by omega
  conv => lhs; unfold spec_l19Right.l1
  rw [if_pos (dlt h), if_pos (inl' h), l01Between_eq, Int.toNat_natCast, wr1 (by omega)]
  simp only [Option.bind_some]
  have ih := specRight_l n by_ r hb K f (i + 1) k (by omega) (by omega)
  unfold chk
  by_cases c1 : 0 ≤ List.getD by_ i 0 ∧ List.getD by_ i 0 ≤ IntKind.i64.wrap (r.1 - 1)
  ·rw [if_pos (by rw [decide_eq_true c1]; rfl)]
   by_cases c0 : i = 0
   ·subst c0
    rw [if_neg (by simp), ih, decide_eq_true c1]
    simp
   ·rw [if_pos (by simp; omega), if_pos (inl' h), wm1 (by omega) (by omega), if_pos (by omega), Int.toNat_natCast]
    by_cases c2 : List.getD by_ i 0 ≤ List.getD by_ (i - 1) 0
    ·rw [if_pos (by simpa using c2), if_neg]
     simp only [Bool.and_eq_true, Bool.or_eq_true, decide_eq_true_eq]
     rintro ⟨⟨_, h1 | h1⟩, _⟩
     ·exact c0 h1
     ·omega
    ·rw [if_neg (by simpa using c2), ih]
     have c3 : List.getD by_ (i - 1) 0 < List.getD by_ i 0 := by omega
     rw [decide_eq_true c1, decide_eq_true c3]
     simp
  ·rw [if_neg (by rw [decide_eq_false c1]; simp), if_neg]
   rw [decide_eq_false c1]
   simp
theorem implRight_l (n : Nat) (by_ : List Int) (r : Re) (hb : by_.length ≤ 1048576) (K : Unit → Option Bool) : ∀ (f i k : Nat), i + f = by_.length → f < k →
  impl_isBy.l0 n by_ by_ (by_.length : Int) r K k (i : Int) = if chk (IntKind.i64.wrap (r.1 - 1)) by_ f i = true then K () else some false
 | _, _, 0, _, hk => absurd hk (Nat.not_lt_zero _)
 | 0, i, k + 1, hi, hk => by
  conv => lhs; unfold impl_isBy.l0
  rw [if_neg (dnl (by omega))]
  simp [chk]
 | f + 1, i, k + 1, hi, hk => by
  have h : i < by_.length := by omega
  conv => lhs; unfold impl_isBy.l0
  rw [if_pos (dlt h), if_pos (inl' h), in_eq, Int.toNat_natCast, wr1 (by omega)]
  simp only [Option.bind_some]
  have ih := implRight_l n by_ r hb K f (i + 1) k (by omega) (by omega)
  unfold chk
  by_cases c1 : 0 ≤ List.getD by_ i 0 ∧ List.getD by_ i 0 ≤ IntKind.i64.wrap (r.1 - 1)
  ·rw [if_pos (by rw [decide_eq_true c1]; rfl)]
   by_cases c0 : i = 0
   ·subst c0
    rw [if_neg (by simp), ih, decide_eq_true c1]
    simp
   ·rw [if_pos (by simp; omega), wm1 (by omega) (by omega), if_pos (by omega), Int.toNat_natCast]
    by_cases c2 : List.getD by_ i 0 ≤ List.getD by_ (i - 1) 0
    ·rw [if_pos (by simpa using c2), if_neg]
     simp only [Bool.and_eq_true, Bool.or_eq_true, decide_eq_true_eq]
     rintro ⟨⟨_, h1 | h1⟩, _⟩
     ·exact c0 h1
     ·omega
    ·rw [if_neg (by simpa using c2), ih]
     have c3 : List.getD by_ (i - 1) 0 < List.getD by_ i 0 := by omega
     rw [decide_eq_true c1, decide_eq_true c3]
     simp
  ·rw [if_neg (by rw [decide_eq_false c1]; simp), if_neg]
   rw [decide_eq_false c1]
   simp
theorem chk_get {m : Int} {by_ : List Int} : ∀ {f i : Nat}, chk m by_ f i = true → ∀ j, i ≤ j → j < i + f → (0 ≤ List.getD by_ j 0 ∧ List.getD by_ j 0 ≤ m) ∧ (0 < j → List.getD by_ (j - 1) 0 < List.getD by_ j 0)
 | 0, i, _, j, h1, h2 => by omega
 | f + 1, i, h, j, h1, h2 => by
  unfold chk at h
  simp only [Bool.and_eq_true, Bool.or_eq_true, decide_eq_true_eq] at h
  obtain ⟨⟨a1, a2⟩, a3⟩ := h
  by_cases e : j = i
  ·subst e
   refine ⟨a1, fun h0 => ?_⟩
   rcases a2 with a2 | a2
   ·omega
   ·exact a2
  ·exact chk_get a3 j (by omega) (by omega)
theorem chk_len {m : Int} {by_ : List Int} (h : chk m by_ by_.length 0 = true) (hm : -1 ≤ m) : (by_.length : Int) ≤ m + 1 := by
 have key := chk_get h
 have low : ∀ j, j < by_.length → (j : Int) ≤ List.getD by_ j 0 := by
  intro j
  induction j with
  | zero => intro h0; exact (key 0 (Nat.le_refl _) (by omega)).1.1
  | succ j ih =>
   intro h0
   have := ih (by omega)
   have h2 := (key (j + 1) (by omega) (by omega)).2 (by omega)
   rw [Nat.add_sub_cancel] at h2
   omega
 by_cases e : by_.length = 0
 ·omega
 ·have h1 := low (by_.length - 1) (by omega)
  have h2 := (key (by_.length - 1) (by omega) (by omega)).1.2
  omega
structure Right (r : Re) (by_ : List Int) : Prop where
 rel : okRel r
 pl : ∀ t ∈ r.2, placesIn by_ t.length
 len : (by_.length : Int) ≤ r.1
 rise : ∀ j, 0 < j → j < by_.length → List.getD by_ (j - 1) 0 < List.getD by_ j 0
 inr : placesIn by_ r.1.toNat
theorem right_eq (n m : Nat) (hn : 1100000 ≤ n) (hm : 1100000 ≤ m) (r : Re) (by_ : List Int) (hb : by_.length ≤ 1048576) (hsz : ∀ t ∈ r.2, ∀ s ∈ t, s.size ≤ 1048576) (hlen : ∀ t ∈ r.2, t.length ≤ 1048576) :
  ∃ b, spec_l19Right.F n r by_ = some b ∧ impl_isBy.F m r by_ = some b ∧ (b = true → Right r by_) := by
 obtain ⟨b, b1, b2, b3⟩ := rel_eq n m hn hm r hsz hlen
 have s1 := specRight_l n by_ r hb (fun _ => some true) by_.length 0 n (by omega) (by omega)
 have s2 := implRight_l m by_ r hb (fun _ => (impl_isRel.F m r).bind fun r9 => some r9) by_.length 0 m (by omega) (by omega)
 rw [show ((0 : Nat) : Int) = 0 from rfl] at s1 s2
 unfold spec_l19Right.F impl_isBy.F spec_l19Right.j0
 rw [s1, s2, b1, b2]
 simp only [Option.bind_some]
 cases b with
 | false =>
  refine ⟨false, rfl, ?_, fun h => by cases h⟩
  split <;> rfl
 | true =>
  have ok := b3 rfl
  have R := relOk_is n hn r ok b1
  obtain ⟨h0, h6, _⟩ := ok
  have ew : IntKind.i64.wrap (r.1 - 1) = r.1 - 1 := wrap64 _ (by omega) (by omega)
  rw [ew]
  by_cases c : chk (r.1 - 1) by_ by_.length 0 = true
  ·have hl := chk_len c (by omega)
   have key := chk_get c
   have P : placesIn by_ r.1.toNat := by
    intro k hk
    obtain ⟨j, hj, rfl⟩ := List.getElem_of_mem hk
    have := (key j (Nat.zero_le _) (by omega)).1
    have e : List.getD by_ j 0 = by_[j] := by simp [hj]
    rw [e] at this
    omega
   refine ⟨true, ?_, by rw [if_pos c], fun _ => ⟨R, fun t ht => ?_, by omega, fun j h1 h2 => (key j (Nat.zero_le _) (by omega)).2 h1, P⟩⟩
   ·rw [if_pos (by simp), if_neg (by simp; omega), if_pos c]
   ·have := R.len t ht
    have e : t.length = r.1.toNat := by omega
    rw [e]
    exact P
  ·refine ⟨false, ?_, by rw [if_neg c], fun h => by cases h⟩
   rw [if_pos (by simp), if_neg c]
   split <;> rfl
end Go.Abs
