/- Functions of the library, by their contracts. Conditions: none. -/
import Derived.Test.YtdjdgempjnlkeaaTy
import Derived.Test.YtdjdgempjnlkeaaSh
namespace Go.Abs
open Go.Proofs
set_option linter.unusedVariables false
namespace strings_Join
def F (n : Nat) (a : List ByteArray) (b : ByteArray) : Option (ByteArray) := if List.length a ≤ lim ∧ (Lib.join (a.map (·.data.toList)) b.data.toList).length ≤ lim then some ⟨(Lib.join (a.map (·.data.toList)) b.data.toList).toArray⟩ else none
def ent (n : Nat) : FEnt := ⟨roA [.sl (.str), .str], roR [.str], fun v => F n v.1 v.2.1⟩
theorem ok (n : Nat) : EntOk Try.prog 90 (ent n) := by
 refine ent_gen (Ks := [.sl .str, .str]) (Rs := [.str]) Try.f90 (by kernel_rfl) (by kernel_rfl) (by kernel_rfl) ?_
 rintro ⟨a, b, _⟩ r hr S w vals hS hG ⟨v, r1, cs, rfl, h1, h2, v2, r2, cs2, rfl, k1, k2, rfl⟩
 have hr : F n a b = some r := hr
 unfold F at hr
 split at hr
 case isFalse => cases hr
 rename_i hs
 cases hr
 obtain rfl : v2 = .string b := RO.pv (K := .str) rfl k1 k2
 obtain ⟨B, cap, L, rfl, l1, l2, l3, l4, l5⟩ := ro_row (show RO S w (.sl .str) a cs from h1)
 obtain rfl : v = .slice B a.length cap := h2.1
 by_cases h0 : 0 < a.length
 ·obtain ⟨bk, o, rfl, hb⟩ := l4 h0
  refine (Try.strings_Join bk o cap a b w (fun j x hx => ?_) (hS bk hb) (by simp only [lim] at hs; omega) l1 (by simp only [lim] at hs; omega)).mono ?_
  ·obtain ⟨hj, rfl⟩ := List.getElem?_eq_some_iff.1 hx
   have e1 : elemAt L 1 j = [.string a[j]] := l5 j hj
   have hL : j < L.length := by rw [l2]; simpa [Kd.size] using hj
   rw [l3 bk o rfl j hL]
   simp only [elemAt, Nat.mul_one] at e1
   rw [List.drop_eq_getElem_cons hL] at e1
   simp only [List.take_succ_cons, List.take_zero, List.cons.injEq, and_true] at e1
   rw [e1]
  ·rintro e w2 ⟨rfl, hb2⟩
   exact ⟨⟨_, rfl, .str⟩, Ext.below hb2⟩
 ·obtain rfl : a = [] := List.length_eq_zero_iff.1 (by omega)
  refine (Try.strings_Join_none B cap b w).mono ?_
  rintro e w2 ⟨rfl, rfl⟩
  exact ⟨⟨_, rfl, .str⟩, Ext.refl _ _⟩
end strings_Join
end Go.Abs
