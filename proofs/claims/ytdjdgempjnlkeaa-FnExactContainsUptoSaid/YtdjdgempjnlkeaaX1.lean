/- Sums over a tree that is laid in a list, each node used once: the lengths of what is used are the sum of what each node has of its own. Conditions: none. -/
namespace Go.Abs
def sumTo (f : Nat → Nat) : Nat → Nat
 | 0 => 0
 | n + 1 => sumTo f n + f n
theorem sumTo_congr {f g : Nat → Nat} : ∀ {n : Nat}, (∀ j, j < n → f j = g j) → sumTo f n = sumTo g n
 | 0, _ => rfl
 | n + 1, h => by simp only [sumTo]; rw [sumTo_congr (n := n) fun j hj => h j (by omega), h n (by omega)]
theorem sumTo_add (f g : Nat → Nat) : ∀ n, sumTo (fun j => f j + g j) n = sumTo f n + sumTo g n
 | 0 => rfl
 | n + 1 => by simp only [sumTo]; rw [sumTo_add f g n]; omega
theorem sumTo_zero : ∀ n, sumTo (fun _ => 0) n = 0
 | 0 => rfl
 | n + 1 => by simp only [sumTo]; rw [sumTo_zero n]
theorem sumTo_one (a : Nat) (x : Nat) : ∀ n, a < n → sumTo (fun j => if j = a then x else 0) n = x
 | 0, h => absurd h (Nat.not_lt_zero _)
 | n + 1, h => by
  simp only [sumTo]
  by_cases e : n = a
  ·subst e
   rw [if_pos rfl, sumTo_congr (g := fun _ => 0) fun j hj => by rw [if_neg (by omega)], sumTo_zero]
   omega
  ·rw [if_neg e, sumTo_one a x n (by omega)]
   omega
theorem sumTo_le {f : Nat → Nat} {n j : Nat} (h : j < n) : f j ≤ sumTo f n := by
 induction n with
 | zero => omega
 | succ n ih =>
  simp only [sumTo]
  by_cases e : j = n
  ·subst e; omega
  ·have := ih (by omega); omega
theorem sumTo_count (f : Nat → Nat) (n : Nat) : ∀ (l : List Nat), (∀ a ∈ l, a < n) → sumTo (fun j => l.count j * f j) n = (l.map f).sum
 | [], _ => by simp only [List.count_nil, Nat.zero_mul]; exact sumTo_zero n
 | a :: l, h => by
  have ih := sumTo_count f n l fun x hx => h x (List.mem_cons_of_mem _ hx)
  have e : sumTo (fun j => (a :: l).count j * f j) n = sumTo (fun j => l.count j * f j + (if j = a then f a else 0)) n := sumTo_congr fun j _ => by
   rw [List.count_cons]
   by_cases ha : j = a
   ·subst ha
    simp [Nat.add_mul]
   ·have : ¬ a = j := fun e => ha e.symm
    simp [ha, this]
  rw [e, sumTo_add, ih, sumTo_one a (f a) n (h a List.mem_cons_self), List.map_cons, List.sum_cons]
  omega
structure Once (n : Nat) (kids : Nat → List Nat) (args : List Nat) (len own : Nat → Nat) : Prop where
 low : ∀ i, i < n → ∀ k ∈ kids i, k < i
 arg : ∀ a ∈ args, a < n
 once : ∀ j, j < n → args.count j + sumTo (fun k => (kids k).count j) n = 1
 len : ∀ i, i < n → len i = own i + ((kids i).map len).sum
section
variable {n : Nat} {kids : Nat → List Nat} {args : List Nat} {len own : Nat → Nat} (h : Once n kids args len own)
def usesF (n : Nat) (kids : Nat → List Nat) (args : List Nat) (i j : Nat) : Nat := args.count j + (sumTo (fun k => (kids k).count j) n - sumTo (fun k => (kids k).count j) i)
theorem sumTo_mono (f : Nat → Nat) {i n : Nat} (hi : i ≤ n) : sumTo f i ≤ sumTo f n := by
 induction n with
 | zero =>
  have : i = 0 := by omega
  subst this
  exact Nat.le_refl _
 | succ n ih =>
  by_cases e : i = n + 1
  ·subst e; exact Nat.le_refl _
  ·have := ih (by omega)
   simp only [sumTo]
   omega
include h in
theorem Once.low0 {i j : Nat} (hj : j < n) (hi : i ≤ j + 1) : sumTo (fun k => (kids k).count j) i = 0 := by
 induction i with
 | zero => rfl
 | succ i ih =>
  simp only [sumTo]
  rw [ih (by omega)]
  have : (kids i).count j = 0 := List.count_eq_zero.2 fun hm => by
   have := h.low i (by omega) j hm
   omega
  rw [this]
include h in
theorem Once.step {i : Nat} (hi : i < n) : sumTo (fun j => usesF n kids args (i + 1) j * len j) (i + 1) = sumTo (fun j => usesF n kids args i j * len j) i + own i := by
 have h1 : usesF n kids args (i + 1) i = 1 := by
  unfold usesF
  rw [h.low0 hi (Nat.le_refl _), Nat.sub_zero]
  exact h.once i hi
 simp only [sumTo]
 rw [h1, Nat.one_mul, h.len i hi, ← sumTo_count len i (kids i) (h.low i hi)]
 have e : sumTo (fun j => usesF n kids args i j * len j) i = sumTo (fun j => usesF n kids args (i + 1) j * len j + (kids i).count j * len j) i := sumTo_congr fun j hj => by
  rw [← Nat.add_mul]
  congr 1
  unfold usesF
  have hm := sumTo_mono (fun k => (kids k).count j) (i := i + 1) (n := n) hi
  simp only [sumTo] at hm ⊢
  omega
 rw [e, sumTo_add]
 omega
include h in
theorem Once.part : ∀ i, i ≤ n → sumTo (fun j => usesF n kids args i j * len j) i = sumTo own i
 | 0, _ => rfl
 | i + 1, hi => by
  rw [h.step (by omega), Once.part i (by omega)]
  rfl
include h in
theorem Once.total : (args.map len).sum = sumTo own n := by
 rw [← h.part n (Nat.le_refl _), ← sumTo_count len n args h.arg]
 refine sumTo_congr fun j hj => ?_
 unfold usesF
 rw [Nat.sub_self, Nat.add_zero]
include h in
theorem Once.each {i : Nat} (hi : i < n) : len i ≤ sumTo own n := by
 have h1 : usesF n kids args (i + 1) i = 1 := by
  unfold usesF
  rw [h.low0 hi (Nat.le_refl _), Nat.sub_zero]
  exact h.once i hi
 have h2 := h.part (i + 1) hi
 have h3 := sumTo_le (f := fun j => usesF n kids args (i + 1) j * len j) (n := i + 1) (j := i) (Nat.lt_succ_self _)
 rw [h1, Nat.one_mul] at h3
 have h4 := sumTo_mono own (i := i + 1) (n := n) hi
 omega
end
end Go.Abs
