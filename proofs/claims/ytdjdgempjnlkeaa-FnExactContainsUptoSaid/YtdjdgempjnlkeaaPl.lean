/- Words for what the printed functions answer: loops, lists, numbers. Conditions: none. -/
import Derived.Test.YtdjdgempjnlkeaaRow
namespace Go.Abs
def big : Nat := 4294967296
theorem wrap64 (z : Int) (h0 : -4611686018427387904 ≤ z) (h1 : z ≤ 4611686018427387904) : IntKind.i64.wrap z = z := by
 simp only [IntKind.wrap, IntKind.signed, IntKind.bits]
 simp
 omega
theorem bind_eq {α β : Type} {o : Option α} {f : α → Option β} {a : α} {b : Option β} (h : o = some a) (h2 : f a = b) : o.bind f = b := by rw [h]; exact h2
theorem bind_total {α β : Type} {o : Option α} {f : α → Option β} (h : ∃ r, o = some r) (h2 : ∀ r, ∃ s, f r = some s) : ∃ s, o.bind f = some s := by
 obtain ⟨r, hr⟩ := h
 rw [hr]
 exact h2 r
theorem bind_some_of {α β : Type} {o : Option α} {f : α → Option β} {b : β} (h : ∃ r, o = some r) (h2 : ∀ r, f r = some b) : o.bind f = some b := by
 obtain ⟨r, hr⟩ := h
 rw [hr]
 exact h2 r
theorem seq_refl (a : ByteArray) : Abs.seq a a = true := by simp [Abs.seq]
section
variable {α : Type}
theorem getD_mid (pre post : List α) (x d : α) : List.getD (pre ++ x :: post) pre.length d = x := by simp [List.getD]
theorem set_mid (pre post : List α) (x y : α) : List.set (pre ++ x :: post) pre.length y = pre ++ y :: post := by simp
theorem mid_in (pre post : List α) (x : α) : (0 ≤ (List.length pre : Int) ∧ (List.length pre : Int) < (List.length (pre ++ x :: post) : Int)) = True := by
 simp; omega
theorem mid_lt (pre post : List α) (x : α) : ((List.length pre : Int) < (List.length (pre ++ x :: post) : Int)) = True := by
 simp; omega
theorem nn (n : Nat) : (0 ≤ (n : Int)) = True := by simp
theorem end_lt (pre : List α) : ((List.length pre : Int) < (List.length (pre ++ []) : Int)) = False := by
 simp
end
theorem bulk_mem {e : Kd} {l : List e.T} {x : e.T} (h : x ∈ l) : e.bulk x ≤ (List.map e.bulk l).sum := by
 induction l with
 | nil => cases h
 | cons y l ih =>
  simp only [List.map_cons, List.sum_cons]
  cases h with
  | head => omega
  | tail _ h => have := ih h; omega
theorem bulk_pos : ∀ (K : Kd) (x : K.T), 1 ≤ K.bulk x
 | .int _, _ => Nat.le_refl _
 | .bool, _ => Nat.le_refl _
 | .str, _ => Nat.le_add_left _ _
 | .err, _ => Nat.le_refl _
 | .raw _, _ => Nat.le_refl _
 | .mp _ _, _ => Nat.le_refl _
 | .fcell _ _ _, _ => Nat.le_refl _
 | .sl _, _ => Nat.le_add_left _ _
 | .st k, x => bulk_pos k x
 | .pair a b, x => Nat.le_trans (bulk_pos a x.1) (Nat.le_add_right _ _)
theorem bulk_len {e : Kd} (l : List e.T) : List.length l ≤ (List.map e.bulk l).sum := by
 induction l with
 | nil => exact Nat.le_refl _
 | cons x l ih =>
  have := bulk_pos e x
  simp only [List.map_cons, List.sum_cons, List.length_cons]
  omega
theorem bulk_sl {e : Kd} (l : List e.T) : Kd.bulk (.sl e) l = (List.map e.bulk l).sum + 1 := rfl
theorem getD_mem' {α : Type} (l : List α) (i : Int) (d : α) (h0 : 0 ≤ i) (h : i < (List.length l : Int)) : List.getD l (Int.toNat i) d ∈ l := by
 have hlt : Int.toNat i < l.length := by omega
 rw [List.getD_eq_getElem?_getD, List.getElem?_eq_getElem hlt]
 exact List.getElem_mem hlt
end Go.Abs
