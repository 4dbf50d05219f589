/- slices.Insert at []Tuple: its entry. Conditions: none. -/
import Derived.Test.YtgdlicpmbgodjaaGreatDoorA4
import Derived.Test.YtgdlicpmbgodjaaGreatDoorIns
set_option linter.unusedVariables false
namespace Go.Abs
open Go.Proofs
abbrev TU : Kd := .st (.sl .str)
@[reducible] def insA (m : Md) : List ASh := [.mv (.sl TU) (.own m), .ro (.int .i64), .mv (.sl TU) (.own m)]
@[reducible] def insR (m : Md) : List RSh := [.own (.sl TU) (.own m)]
def insF (xs : List TU.T) (i : Int) (vs : List TU.T) : Option (List TU.T) :=
 if 0 ≤ i ∧ i ≤ (xs.length : Int) ∧ 0 < vs.length ∧ xs.length + vs.length ≤ lim then some (xs.take i.toNat ++ vs ++ xs.drop i.toNat) else none
section
variable {α : Type} (xs vs : List α) (i : Nat) (hi : i ≤ xs.length)
include hi
theorem Z4j : (xs.take i ++ vs ++ xs.drop i).length = xs.length + vs.length := by
 simp only [List.length_append, List.length_take, List.length_drop];omega
theorem ZBA (k : Nat) (h : k < i) : (xs.take i ++ vs ++ xs.drop i)[k]? = xs[k]? := by
 rw [List.append_assoc, List.getElem?_append_left (by rw [List.length_take]; omega), List.getElem?_take_of_lt h]
theorem Z80 (k : Nat) (h : i ≤ k) (h2 : k < i + vs.length) : (xs.take i ++ vs ++ xs.drop i)[k]? = vs[k - i]? := by
 have e : (xs.take i).length = i := by rw [List.length_take]; omega
 rw [List.append_assoc, List.getElem?_append_right (by omega), e, List.getElem?_append_left (by omega)]
theorem ZBB (k : Nat) (h : i + vs.length ≤ k) : (xs.take i ++ vs ++ xs.drop i)[k]? = xs[k - vs.length]? := by
 have e : (xs.take i ++ vs).length = i + vs.length := by rw [List.length_append, List.length_take]; omega
 rw [List.getElem?_append_right (by omega), e, List.getElem?_drop]
 congr 1
 omega
end
theorem Z3P {α : Type} {a b : List α} {i j : Nat} (h : a[i]? = b[j]?) (hi : i < a.length) (hj : j < b.length) : a[i] = b[j] := by
 rw [List.getElem?_eq_getElem hi, List.getElem?_eq_getElem hj] at h;exact Option.some.inj h
theorem Z4H {L : List Value} {k : Nat} (h : k < L.length) : Z0Q L 1 k = [L[k]] := by
 simp only [Z0Q, Nat.mul_one];rw [List.drop_eq_getElem_cons h]
 rfl
theorem ins_own {S : Nat → Prop} {w w2 : World} {m : Md} {xs vs : List TU.T} {A : Option Addr} {L L2 : List Value} {G G2 : Nat → Nat → Prop} {F0 F2 : Nat → Prop} {i B O C : Nat}
  (hi : i ≤ xs.length) (hL : L.length = xs.length) (hL2 : L2.length = vs.length)
  (g1 : ∀ k b, G k b → F0 b) (g2 : ∀ k ad, A = some ad → ¬ G k ad.block) (g3 : ∀ k j b, k ≠ j → G k b → ¬ G j b) (g4 : ∀ k (h : k < xs.length), Own S w TU m xs[k] (Z0Q L 1 k) (G k))
  (k1 : ∀ k b, G2 k b → F2 b) (k3 : ∀ k j b, k ≠ j → G2 k b → ¬ G2 j b) (k4 : ∀ k (h : k < vs.length), Own S w TU m vs[k] (Z0Q L2 1 k) (G2 k))
  (h02 : ∀ b, F2 b → ¬ F0 b) (hA : ∀ ad, A = some ad → F0 ad.block) (z0 : ∀ b, F0 b → b < w.heap.size) (z2 : ∀ b, F2 b → b < w.heap.size) (hFS : ∀ b, F0 b → ¬ S b)
  (hx : Ext w w2 (fun b _ => ∃ ad, A = some ad ∧ ad.block = b)) (hB : (∃ ad, A = some ad ∧ ad.block = B) ∨ (w.heap.size ≤ B ∧ B < w2.heap.size))
  (hC : xs.length + vs.length ≤ C) (hc : CellsAt w2 B O (L.take i ++ L2 ++ L.drop i)) (hr : ZAC w2 B O C) :
  Own S w2 (.sl TU) (.own m) (xs.take i ++ vs ++ xs.drop i) [.slice (some ⟨B, O, none⟩) (xs.length + vs.length) C] (fun b => F0 b ∨ F2 b ∨ (w.heap.size ≤ b ∧ b < w2.heap.size)) := by
 have hSw : ∀ b o v, S b → w.cell? ⟨b, o, none⟩ = some v → w2.cell? ⟨b, o, none⟩ = some v := fun b o v hb hv =>
  hx.same (fun ⟨ad, h1, h2⟩ => hFS ad.block (hA ad h1) (by rw [h2]; exact hb)) hv
 have key := Z6u (S := S) (w := w2) (e := TU) (m := m) (xs := xs.take i ++ vs ++ xs.drop i) (L := L.take i ++ L2 ++ L.drop i) (b := B) (o := O) (cap := C)
  (F := fun b => F0 b ∨ F2 b ∨ (w.heap.size ≤ b ∧ b < w2.heap.size)) hc (by rw [Z4j _ _ _ hi]; exact hC) (by show ZAC w2 B O (C * 1); rw [Nat.mul_one]; exact hr)
  (by
   rcases hB with ⟨ad, h1, h2⟩ | h
   ·exact .inl (h2 ▸ hA ad h1)
   ·exact .inr (.inr h))
  (fun k b => (k < i ∧ G k b) ∨ (i ≤ k ∧ k < i + vs.length ∧ G2 (k - i) b) ∨ (i + vs.length ≤ k ∧ G (k - vs.length) b)) ?_ ?_ ?_ ?_
 ·rw [Z4j _ _ _ hi] at key
  exact key
 ·rintro k b (⟨_, a⟩ | ⟨_, _, a⟩ | ⟨_, a⟩)
  ·exact .inl (g1 _ b a)
  ·exact .inr (.inl (k1 _ b a))
  ·exact .inl (g1 _ b a)
 ·intro k h
  have hne : ∀ b, (F0 b ∨ F2 b) → (w.heap.size ≤ B ∧ B < w2.heap.size) → b ≠ B := fun b hb hw e => by
   rcases hb with hb | hb
   ·have := z0 b hb; omega
   ·have := z2 b hb; omega
  rcases h with ⟨_, a⟩ | ⟨_, _, a⟩ | ⟨_, a⟩
  ·rcases hB with ⟨ad, h1, h2⟩ | h
   ·exact g2 _ ad h1 (h2 ▸ a)
   ·exact hne B (.inl (g1 _ _ a)) h rfl
  ·rcases hB with ⟨ad, h1, h2⟩ | h
   ·exact h02 B (k1 _ _ a) (h2 ▸ hA ad h1)
   ·exact hne B (.inr (k1 _ _ a)) h rfl
  ·rcases hB with ⟨ad, h1, h2⟩ | h
   ·exact g2 _ ad h1 (h2 ▸ a)
   ·exact hne B (.inl (g1 _ _ a)) h rfl
 ·rintro k j b hne (⟨a0, a⟩ | ⟨a0, a1, a⟩ | ⟨a0, a⟩) (⟨c0, c⟩ | ⟨c0, c1, c⟩ | ⟨c0, c⟩)
  ·exact g3 _ _ b (by omega) a c
  ·exact h02 b (k1 _ b c) (g1 _ b a)
  ·exact g3 _ _ b (by omega) a c
  ·exact h02 b (k1 _ b a) (g1 _ b c)
  ·exact k3 _ _ b (by omega) a c
  ·exact h02 b (k1 _ b a) (g1 _ b c)
  ·exact g3 _ _ b (by omega) a c
  ·exact h02 b (k1 _ b c) (g1 _ b a)
  ·exact g3 _ _ b (by omega) a c
 ·intro k hk
  have hk' := hk;rw [Z4j _ _ _ hi] at hk';have hkL : k < (L.take i ++ L2 ++ L.drop i).length := by rw [Z4j _ _ _ (by omega)]; omega
  show Own S w2 TU m _ (Z0Q _ 1 k) _;rw [Z4H hkL]
  by_cases h1 : k < i
  ·rw [Z3P (ZBA xs vs i hi k h1) hk (by omega), Z3P (ZBA L L2 i (by omega) k h1) hkL (by omega), ← Z4H (by omega)]
   exact (g4 k (by omega)).mono (fun _ h => h) hSw (fun b hb => .inl ⟨h1, hb⟩) (fun b o hb => hx.cell b o (z0 b (g1 _ b hb)) (fun ⟨ad, h3, h4⟩ => g2 _ ad h3 (h4 ▸ hb)))
  ·by_cases h2 : k < i + vs.length
   ·rw [Z3P (Z80 xs vs i hi k (by omega) h2) hk (by omega), Z3P (Z80 L L2 i (by omega) k (by omega) (by omega)) hkL (by omega), ← Z4H (by omega)]
    exact (k4 (k - i) (by omega)).mono (fun _ h => h) hSw (fun b hb => .inr (.inl ⟨by omega, h2, hb⟩)) (fun b o hb => hx.cell b o (z2 b (k1 _ b hb)) (fun ⟨ad, h3, h4⟩ => h02 b (k1 _ b hb) (h4 ▸ hA ad h3)))
   ·have e0 : L2.length = vs.length := hL2
    have e1 := ZBB L L2 i (by omega) k (by omega);rw [e0] at e1;rw [Z3P (ZBB xs vs i hi k (by omega)) hk (by omega), Z3P e1 hkL (by omega), ← Z4H (by omega)];exact (g4 (k - vs.length) (by omega)).mono (fun _ h => h) hSw (fun b hb => .inr (.inr ⟨by omega, hb⟩)) (fun b o hb => hx.cell b o (z0 b (g1 _ b hb)) (fun ⟨ad, h3, h4⟩ => g2 _ ad h3 (h4 ▸ hb)))
theorem Z7S {w : World} {b o i : Nat} {L L2 : List Value} (hi : i ≤ L.length)
  (h1 : ∀ j (h : j < i), w.cell? ⟨b, o + j, none⟩ = some (L[j]'(by omega))) (h2 : ∀ j (h : j < L2.length), w.cell? ⟨b, o + (i + j), none⟩ = some L2[j])
  (h3 : ∀ j (h : j < (L.drop i).length), w.cell? ⟨b, o + (i + L2.length + j), none⟩ = some (L.drop i)[j]) : CellsAt w b o (L.take i ++ L2 ++ L.drop i) := by
 intro k hk;have hk' := hk;rw [Z4j _ _ _ hi] at hk'
 by_cases c1 : k < i
 ·rw [Z3P (ZBA L L2 i hi k c1) hk (by omega)]
  exact h1 k c1
 ·by_cases c2 : k < i + L2.length
  ·rw [Z3P (Z80 L L2 i hi k (by omega) c2) hk (by omega)]
   have := h2 (k - i) (by omega)
   rwa [show o + (i + (k - i)) = o + k by omega] at this
  ·have hd : k - (i + L2.length) < (L.drop i).length := by rw [List.length_drop]; omega
   rw [Z3P (ZBB L L2 i hi k (by omega)) hk (by omega)];have := h3 (k - (i + L2.length)) hd;rw [show o + (i + L2.length + (k - (i + L2.length))) = o + k by omega] at this;rw [this, List.getElem_drop]
   congr 2
   omega
theorem Z3s {w : World} {b o : Nat} (h : ∃ v, w.cell? ⟨b, o, none⟩ = some v) : ∃ t k, w.shape? b = some (t, k) ∧ o < k := by
 obtain ⟨v, hv⟩ := h;unfold World.cell? at hv;unfold World.shape?;dsimp only at hv ⊢
 split at hv
 ·rename_i c e fr hb
  rw [if_neg (by simp)] at hv;exact ⟨_, _, rfl, (Array.getElem?_eq_some_iff.1 hv).1⟩
 ·cases hv
end Go.Abs
