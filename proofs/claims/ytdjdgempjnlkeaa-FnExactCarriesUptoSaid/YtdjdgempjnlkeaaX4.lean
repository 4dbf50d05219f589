/- The form of a rule, as it is counted. Conditions: none. -/
import Derived.Test.YtdjdgempjnlkeaaX3
namespace Go.Abs
def bump (u : List Int) (k : Nat) : List Int := u.set k (u.getD k 0 + 1)
def bumps (u : List Int) (ks : List Nat) : List Int := ks.foldl bump u
theorem bump_len (u : List Int) (k : Nat) : (bump u k).length = u.length := List.length_set ..
theorem bumps_len : ∀ (ks : List Nat) (u : List Int), (bumps u ks).length = u.length
 | [], _ => rfl
 | k :: ks, u => (bumps_len ks (bump u k)).trans (bump_len u k)
theorem bumps_append (u : List Int) (a b : List Nat) : bumps u (a ++ b) = bumps (bumps u a) b := List.foldl_append
theorem bump_get {u : List Int} {k : Nat} (hk : k < u.length) (j : Nat) : (bump u k).getD j 0 = u.getD j 0 + (if j = k then 1 else 0) := by
 unfold bump
 simp only [List.getD_eq_getElem?_getD, List.getElem?_set]
 by_cases e : k = j
 ·subst e
  simp [hk]
 ·have : ¬ j = k := fun h => e h.symm
  simp [e, this]
theorem bumps_get : ∀ (ks : List Nat) (u : List Int), (∀ k ∈ ks, k < u.length) → ∀ j, (bumps u ks).getD j 0 = u.getD j 0 + (ks.count j : Int)
 | [], u, _, j => by simp [bumps]
 | k :: ks, u, h, j => by
  have hk := h k List.mem_cons_self
  have ih := bumps_get ks (bump u k) (fun x hx => by rw [bump_len]; exact h x (List.mem_cons_of_mem _ hx)) j
  show (bumps (bump u k) ks).getD j 0 = _
  rw [ih, bump_get hk, List.count_cons]
  by_cases e : j = k
  ·subst e
   simp
   omega
  ·have : ¬ k = j := fun h => e h.symm
   simp [e, this]
def okE (e : Ex) : Bool := decide (1 ≤ e.1) && decide (e.1 ≤ 7) && (if sumK e.1 = true then decide (e.2.2.length = 2) else decide (e.1 = 4) || e.2.2.isEmpty)
def okK (i : Nat) (e : Ex) : Bool := e.2.2.all fun k => decide (0 ≤ k) && decide (k < (i : Int))
def okA (m : Nat) (l : Ex) : Bool := l.2.2.all fun a => decide (0 ≤ a) && decide (a < (m : Int))
def okL (l : Ex) : Bool := decide (1 ≤ l.1) && decide (l.1 ≤ 3) && (!decide (l.1 = 3) || decide (l.2.2.length = 2))
def usesR (r : Ru) : List Int := bumps (bumps (List.replicate r.1.length 0) (r.1.flatMap kidsN)) (argsOfR r)
structure FormB (r : Ru) : Prop where
 few : r.1.length ≤ 60
 exps : ∀ i (h : i < r.1.length), okK i r.1[i] = true ∧ okE r.1[i] = true
 head : r.2.1.1 = 1
 lits : ∀ l ∈ litsOf r, okL l = true ∧ okA r.1.length l = true
 once : ∀ x ∈ usesR r, x = 1
theorem count_flat (E : List Ex) (j : Nat) : (E.flatMap kidsN).count j = sumTo (fun k => (kidsN (E.getD k Ex0)).count j) E.length := by
 have key : ∀ (pre post : List Ex), ((pre ++ post).take pre.length |>.flatMap kidsN).count j = sumTo (fun k => (kidsN ((pre ++ post).getD k Ex0)).count j) pre.length := by
  intro pre
  induction hn : pre.length generalizing pre with
  | zero => intro post; rfl
  | succ n ih =>
   intro post
   obtain ⟨a, x, rfl⟩ : ∃ a x, pre = a ++ [x] := ⟨pre.dropLast, pre.getLast (by intro e; rw [e] at hn; cases hn), (List.dropLast_concat_getLast _).symm⟩
   have ha : a.length = n := by simpa using hn
   have := ih a ha ([x] ++ post)
   rw [List.append_assoc]
   simp only [sumTo]
   rw [← this, List.take_succ_eq_append_getElem (by simp [ha]), List.flatMap_append, List.count_append]
   congr 1
   have hg : (a ++ ([x] ++ post)).getD n Ex0 = x := by simp [ha]
   rw [hg]
   simp [ha]
 have := key E []
 simpa using this
theorem FormB.low {r : Ru} (h : FormB r) : LowK r.1 := by
 intro i hi k hk
 have e : r.1.getD i Ex0 = r.1[i] := by simp [hi]
 rw [e] at hk
 obtain ⟨a, ha, rfl⟩ := List.mem_map.1 hk
 have := List.all_eq_true.1 (h.exps i hi).1 a ha
 simp only [Bool.and_eq_true, decide_eq_true_eq] at this
 omega
theorem okE_is {e : Ex} (h : okE e = true) : 1 ≤ e.1 ∧ e.1 ≤ 7 ∧ (sumK e.1 = true → e.2.2.length = 2) ∧ (e.1 ≠ 4 → sumK e.1 = false → e.2.2 = []) := by
 unfold okE at h
 simp only [Bool.and_eq_true, decide_eq_true_eq] at h
 refine ⟨h.1.1, h.1.2, fun hs => ?_, fun h4 hs => ?_⟩
 ·have h2 := h.2
  rw [if_pos hs] at h2
  exact of_decide_eq_true h2
 ·have h2 := h.2
  rw [if_neg (by simp [hs])] at h2
  simpa [h4] using h2
theorem FormB.args {r : Ru} (h : FormB r) : ∀ a ∈ argsOfR r, a < r.1.length := by
 intro a ha
 obtain ⟨l, hl, ha⟩ := List.mem_flatMap.1 ha
 obtain ⟨k, hk, rfl⟩ := List.mem_map.1 ha
 have := List.all_eq_true.1 (h.lits l hl).2 k hk
 simp only [Bool.and_eq_true, decide_eq_true_eq] at this
 omega
theorem FormB.form {r : Ru} (h : FormB r) : FormR r := by
 have hget : ∀ i (hi : i < r.1.length), r.1.getD i Ex0 = r.1[i] := fun i hi => by simp [hi]
 refine ⟨h.few, fun e he => ?_, fun e he k hk => ?_, ⟨h.low, fun i hi => ?_, fun i hi => ?_⟩, h.head, fun l hl => ?_, fun j hj => ?_⟩
 ·obtain ⟨i, hi, rfl⟩ := List.mem_iff_getElem.1 he
  have := okE_is (h.exps i hi).2
  exact ⟨this.1, this.2.1⟩
 ·obtain ⟨i, hi, rfl⟩ := List.mem_iff_getElem.1 he
  have := List.all_eq_true.1 (h.exps i hi).1 k hk
  simp only [Bool.and_eq_true, decide_eq_true_eq] at this
  exact this.1
 ·rw [hget i hi]
  exact (okE_is (h.exps i hi).2).2.2.2
 ·rw [hget i hi]
  exact (okE_is (h.exps i hi).2).2.2.1
 ·obtain ⟨h1, h2⟩ := h.lits l hl
  unfold okL at h1
  simp only [Bool.and_eq_true, decide_eq_true_eq, Bool.or_eq_true, Bool.not_eq_true', decide_eq_false_iff_not] at h1
  refine ⟨h1.1, fun e => h1.2.resolve_left (fun h => h e), fun a ha => ?_⟩
  have := List.all_eq_true.1 h2 a ha
  simpa only [Bool.and_eq_true, decide_eq_true_eq] using this
 ·have hk : ∀ k ∈ r.1.flatMap kidsN, k < (List.replicate r.1.length (0 : Int)).length := by
   intro k hk
   obtain ⟨e, he, hk⟩ := List.mem_flatMap.1 hk
   obtain ⟨i, hi, rfl⟩ := List.mem_iff_getElem.1 he
   have := h.low i hi k (by rw [hget i hi]; exact hk)
   simp
   omega
  have hlen : (bumps (List.replicate r.1.length (0 : Int)) (r.1.flatMap kidsN)).length = r.1.length := by rw [bumps_len]; simp
  have e1 := bumps_get (argsOfR r) (bumps (List.replicate r.1.length 0) (r.1.flatMap kidsN)) (fun k hk => by rw [hlen]; exact h.args k hk) j
  rw [bumps_get _ _ hk j] at e1
  have hj' : j < (usesR r).length := by unfold usesR; rw [bumps_len, hlen]; exact hj
  have h1 := h.once _ (List.getElem_mem hj')
  have e2 : (usesR r).getD j 0 = (usesR r)[j] := by simp [hj']
  have e0 : (List.replicate r.1.length (0 : Int)).getD j 0 = 0 := by simp [hj]
  show (argsOfR r).count j + sumTo (fun k => (kidsN (r.1.getD k Ex0)).count j) r.1.length = 1
  rw [← count_flat]
  have e3 : (usesR r).getD j 0 = _ := e1
  rw [e2, h1, e0] at e3
  omega
end Go.Abs
