/- Bytes and loops. Conditions: none. -/
import Derived.Test.YtdjdgempjnlkeaaYN
import Derived.Test.YtdjdgempjnlkeaaX5
import Derived.Test.YtdjdgempjnlkeaaX6
namespace Go.Abs
set_option linter.unusedVariables false
set_option linter.unusedSimpArgs false
section
variable {α : Type}
theorem dlt {l : List α} {i : Nat} (h : i < l.length) : decide ((i : Int) < (l.length : Int)) = true := by simp [h]
theorem dnl {l : List α} {i : Nat} (h : ¬ i < l.length) : ¬ decide ((i : Int) < (l.length : Int)) = true := by simp; omega
theorem inl' {l : List α} {i : Nat} (h : i < l.length) : (0 : Int) ≤ (i : Int) ∧ (i : Int) < (l.length : Int) := by omega
theorem getD_in {l : List α} {i : Nat} (d : α) (h : i < l.length) : List.getD l (Int.toNat (i : Int)) d = l[i] := by simp [h]
end
theorem wr1 {i : Nat} (h : i ≤ 4294967296) : IntKind.i64.wrap ((i : Int) + 1) = ((i + 1 : Nat) : Int) := by rw [wrap64 _ (by omega) (by omega)]; omega
def Cnt (u : List Int) (m : Nat) (C : Int) : Prop := u.length = m ∧ ∀ q, 0 ≤ u.getD q 0 ∧ u.getD q 0 ≤ C
theorem Cnt.bump {u : List Int} {m : Nat} {C : Int} (h : Cnt u m C) {k : Nat} (hk : k < m) : Cnt (bump u k) m (C + 1) := by
 refine ⟨(bump_len u k).trans h.1, fun q => ?_⟩
 rw [bump_get (by rw [h.1]; exact hk)]
 have := h.2 q
 split <;> omega
theorem Cnt.mono {u : List Int} {m : Nat} {C D : Int} (h : Cnt u m C) (hc : C ≤ D) : Cnt u m D := ⟨h.1, fun q => ⟨(h.2 q).1, Int.le_trans (h.2 q).2 hc⟩⟩
def inR (m : Nat) (k : Int) : Bool := decide (0 ≤ k) && decide (k < (m : Int))
theorem kidLoop {β : Type} (f : Nat → Int → List Int → Option β) (kids : List Int) (m i : Nat) (R : Option β) (K : List Int → Option β) (hi : i ≤ m)
  (hs : ∀ k j u (h : j < kids.length), u.length = m → (∀ q, 0 ≤ u.getD q 0 ∧ u.getD q 0 ≤ 4000000000000000000) → f (k + 1) (j : Int) u = if inR i kids[j] = true then f k ((j + 1 : Nat) : Int) (bump u kids[j].toNat) else R)
  (he : ∀ k u, f (k + 1) (kids.length : Int) u = K u) : ∀ (k j : Nat) (u : List Int) (C : Int), j ≤ kids.length → kids.length - j < k → Cnt u m C → C + (kids.length : Int) ≤ 4000000000000000000 + j →
  f k (j : Int) u = if (kids.drop j).all (inR i) = true then K (bumps u ((kids.drop j).map Int.toNat)) else R
 | 0, j, u, C, _, hk, _, _ => absurd hk (Nat.not_lt_zero _)
 | k + 1, j, u, C, hj, hk, hu, hC => by
  by_cases h : j < kids.length
  ·rw [hs k j u h hu.1 (fun q => ⟨(hu.2 q).1, by have := (hu.2 q).2; omega⟩), List.drop_eq_getElem_cons h]
   by_cases hin : inR i kids[j] = true
   ·have hlt : kids[j].toNat < m := by
     unfold inR at hin
     simp only [Bool.and_eq_true, decide_eq_true_eq] at hin
     omega
    rw [if_pos hin, kidLoop f kids m i R K hi hs he k (j + 1) _ (C + 1) (by omega) (by omega) (hu.bump hlt) (by omega)]
    simp only [List.all_cons, hin, Bool.true_and, List.map_cons]
    rfl
   ·rw [if_neg hin, if_neg (fun h' => by
     rw [List.all_cons, Bool.and_eq_true] at h'
     exact hin h'.1)]
  ·obtain rfl : j = kids.length := by omega
   rw [he, List.drop_of_length_le (Nat.le_refl _)]
   rfl
end Go.Abs
