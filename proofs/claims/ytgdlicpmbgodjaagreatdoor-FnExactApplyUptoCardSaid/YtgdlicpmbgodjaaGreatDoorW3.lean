/- Changes made one by one: both sides alike. Conditions: none. -/
import Derived.Test.YtgdlicpmbgodjaaGreatDoorW2
namespace Go.Abs
set_option linter.unusedVariables false
set_option linter.unusedSimpArgs false
abbrev Ch : Type := Int × (List ByteArray) × Bool
abbrev Re0 : Re := (0, [])
def Z4P (d : List Re) (c : Ch) (b : Bool) : Option (List Re) :=
 if 0 ≤ c.1 ∧ c.1 < (d.length : Int) then
  if c.2.2 = true then
   if Z5A b (d.getD c.1.toNat Re0) c.2.1 = true then some (d.set c.1.toNat ((d.getD c.1.toNat Re0).1, Z6Z c.2.1 (d.getD c.1.toNat Re0).2)) else none
  else if inL c.2.1 (d.getD c.1.toNat Re0).2 = true then some (d.set c.1.toNat ((d.getD c.1.toNat Re0).1, Z33 (d.getD c.1.toNat Re0).2 [c.2.1])) else none
 else none
theorem ZAZ {d : List Re} (D : DbR d) (j : Nat) (h : j < d.length) {x : Re} (hx : Z2V x) : DbR (d.set j x) :=
 ⟨by rw [List.length_set]; exact D.len, fun y hy => by
  rcases List.mem_or_eq_of_mem_set hy with h | h
  ·exact D.rel y h
  ·rw [h]; exact hx⟩
theorem fitB_is {b : Bool} {r : Re} {t : Tu} (h : Z5A b r t = true) : b = true ∧ (t.length : Int) = r.1 ∧ inL t r.2 = false ∧ r.2.length < 400 := by
 unfold Z5A at h;simp only [Bool.and_eq_true, decide_eq_true_eq, Bool.not_eq_true'] at h;exact ⟨h.1.1.1, h.1.1.2, h.1.2, h.2⟩
theorem ZAU {d d' : List Re} {c : Ch} {b : Bool} (D : DbR d) (hok : b = true → okT c.2.1) (h : Z4P d c b = some d') : DbR d' := by
 unfold Z4P at h
 split at h
 ·rename_i hr
  obtain ⟨h0, h1⟩ := hr;obtain ⟨j, hj⟩ := Int.eq_ofNat_of_zero_le h0;rw [hj, Int.toNat_natCast] at h;have hjd : j < d.length := by omega
  have e : d.getD j Re0 = d[j] := by simp [hjd]
  rw [e] at h;have R := D.rel _ (List.getElem_mem hjd)
  split at h
  ·split at h
   ·rename_i hf
    cases h;obtain ⟨f1, f2, f3, f4⟩ := fitB_is hf;exact ZAZ D j hjd (ZB3 R (hok f1) f2 (fun hm => by rw [Z2g.2 hm] at f3; cases f3) f4)
   ·cases h
  ·split at h
   ·cases h
    exact ZAZ D j hjd (Z9j R _)
   ·cases h
 ·cases h
section
variable (n : Nat) (hn : 1100000 ≤ n) (L : List Ch) (hL : L.length ≤ 1048576) (k i : Nat) (h : i < L.length) (d : List Re) (D : DbR d) (b : Bool) (hok : b = true → okT L[i].2.1)
include hn hL D hok
theorem ZBK (hb : impl_isTuple.F n L[i].2.1 = some b) (K0 : List Re → Option (List Re × Bool)) :
  impl_Apply.l0 n L (L.length : Int) [] K0 (k + 1) (i : Int) d = match Z4P d L[i] b with | some d' => impl_Apply.l0 n L (L.length : Int) [] K0 k ((i + 1 : Nat) : Int) d' | none => some ([], false) := by
 have h20 := D.len
 conv => lhs; unfold impl_Apply.l0
 rw [if_pos (dlt h), if_pos (inl' h), Z0s _ h, Z9s, Option.bind_some, Z09 _ (by omega) (by omega), wr1 (by omega)];generalize L[i] = c at *;unfold Z4P
 by_cases hr : 0 ≤ c.1 ∧ c.1 < (d.length : Int)
 ·rw [if_neg (by simp; omega), if_pos hr, if_pos hr]
  obtain ⟨h0, h1⟩ := hr;obtain ⟨j, hj⟩ := Int.eq_ofNat_of_zero_le h0;rw [hj, Int.toNat_natCast];have hjd : j < d.length := by omega
  have e : d.getD j Re0 = d[j] := by simp [hjd]
  rw [e];have R := D.rel _ (List.getElem_mem hjd);have h4 := R.base.2.2.1
  by_cases ha : c.2.2 = true
  ·rw [if_pos ha, if_pos ha]
   obtain ⟨q, q1, q2⟩ := ZAl n hn d[j] R c.2.1 b hb hok;rw [q1, Option.bind_some]
   by_cases hf : Z5A b d[j] c.2.1 = true
   ·rw [if_neg (by simp [hf]), if_pos hf, q2 hf]
   ·rw [if_pos (by simpa using hf), if_neg hf]
  ·rw [if_neg ha, if_neg ha, ZA7 n d[j] c.2.1 (by omega) (by omega) (fun x hx => by have := (R.base.2.2.2 x hx).1; omega), Option.bind_some]
   by_cases hi : inL c.2.1 d[j].2 = true
   ·rw [if_neg (by simp [hi]), if_pos hi, del_eq n hn d[j] R _ c.2.1 (fun x hx => by
     show ((impl_Apply_1.F n x c).bind some) = _;unfold impl_Apply_1.F;rw [Z3m n x c.2.1 (by have := (R.base.2.2.2 x hx).1; omega) (by have := (R.base.2.2.2 x hx).1; omega)]
     rfl), Option.bind_some, if_pos rfl]
   ·rw [if_pos (by simpa using hi), if_neg hi]
 ·rw [if_pos (by simp; omega), if_neg hr]
theorem ZAX (hb : spec_TupleOk.F n L[i].2.1 = some b) (K0 : List Re → Option (List Re × Bool)) :
  spec_Apply.l0 n L [] K0 (k + 1) (i : Int) d = match Z4P d L[i] b with | some d' => spec_Apply.l0 n L [] K0 k ((i + 1 : Nat) : Int) d' | none => some ([], false) := by
 have h20 := D.len
 conv => lhs; unfold spec_Apply.l0
 rw [if_pos (dlt h), if_pos (inl' h), Z0s _ h, Z0c, Option.bind_some, Z09 _ (by omega) (by omega), wr1 (by omega)];unfold spec_Apply.j1;generalize L[i] = c at *
 by_cases hr : 0 ≤ c.1 ∧ c.1 < (d.length : Int)
 ·obtain ⟨j, hj⟩ := Int.eq_ofNat_of_zero_le hr.1
  have hjd : j < d.length := by omega
  have hin : (0 : Int) ≤ (j : Int) ∧ (j : Int) < (d.length : Int) := by omega
  have e : d.getD j Re0 = d[j] := by simp [hjd]
  have hst : Z4P d c b = if c.2.2 = true then (if Z5A b d[j] c.2.1 = true then some (d.set j (d[j].1, Z6Z c.2.1 d[j].2)) else none) else if inL c.2.1 d[j].2 = true then some (d.set j (d[j].1, Z33 d[j].2 [c.2.1])) else none := by
   unfold Z4P;rw [if_pos hr, hj, Int.toNat_natCast, e]
  have hset : ∀ x : Re, (d.set j x).getD j Re0 = x := fun x => by simp [hjd]
  have hsl : ∀ x : Re, (0 : Int) ≤ (j : Int) ∧ (j : Int) < ((d.set j x).length : Int) := fun x => by rw [List.length_set]; exact hin
  have R := D.rel _ (List.getElem_mem hjd);have h4 := R.base.2.2.1;have okr : ∀ x ∈ d[j].2, ∀ s ∈ x, okS s := fun x hx => (R.base.2.2.2 x hx).2
  have hHas : spec_l02Has.F n d[j].2 c.2.1 = some (inL c.2.1 d[j].2) := Z7B n d[j].2 c.2.1 (by omega) (by omega) (fun x hx => by have := (R.base.2.2.2 x hx).1; omega);have hmem : inL c.2.1 d[j].2 = true → b = true ∧ (c.2.1.length : Int) = d[j].1 := fun hi => by
   have hm := Z2g.1 hi;have := Z5K n hn _ (R.base.2.2.2 _ hm);rw [hb] at this;exact ⟨Option.some.inj this, R.len _ hm⟩
  generalize hS : Z4P d c b = S at hst ⊢;rw [if_pos (by simp; omega), hj, Int.toNat_natCast, e];simp only [if_pos hin]
  by_cases hl : (c.2.1.length : Int) = d[j].1
  ·rw [if_pos (by simp [hl]), hb, Option.bind_some]
   cases b with
   | false =>
    have hn0 : S = none := by
     rw [hst]
     by_cases ha : c.2.2 = true
     ·rw [if_pos ha, if_neg (by simp [Z5A])]
     ·rw [if_neg ha, if_neg (fun hi => by have := (hmem hi).1; cases this)]
    rw [hn0, if_neg (by simp)]
   | true =>
    have T := hok rfl;rw [if_pos (by simp), hHas, Option.bind_some]
    by_cases hi : inL c.2.1 d[j].2 = true
    ·by_cases ha : c.2.2 = true
     ·have hn0 : S = none := by rw [hst, if_pos ha, if_neg (by simp [Z5A, hi])]
      rw [hn0, if_pos (by simp [hi, ha])]
     ·have hs0 : S = some (d.set j (d[j].1, Z33 d[j].2 [c.2.1])) := by rw [hst, if_neg ha, if_pos hi]
      have hle : (Z33 d[j].2 [c.2.1]).length ≤ d[j].2.length := List.length_filter_le _ _;rw [hs0, if_neg (by simp [hi, ha]), if_neg ha, Z6j n hn d[j] R c.2.1 (Z2g.1 hi), Option.bind_some];simp only [if_pos (hsl _), hset];rw [if_neg (by simp; omega)]
    ·have hi' : inL c.2.1 d[j].2 = false := by simpa using hi
     by_cases ha : c.2.2 = true
     ·obtain ⟨z, hz⟩ := ZBF n hn d[j].2 c.2.1 (by omega) R.base.2.2.2 T
      have hlen := Z8w T.2 okr (fun hm => hi (Z2g.2 hm));rw [if_neg (by simp [hi', ha]), if_pos ha, hz, Option.bind_some];simp only [if_pos (hsl _), hset]
      by_cases h400 : d[j].2.length < 400
      ·have hs0 : S = some (d.set j (d[j].1, Z6Z c.2.1 d[j].2)) := by rw [hst, if_pos ha, if_pos (by simp [Z5A, hl, hi', h400])]
       rw [hs0, if_neg (by simp [hlen]; omega)]
      ·have hn0 : S = none := by rw [hst, if_pos ha, if_neg (by simp [Z5A, h400])]
       rw [hn0, if_pos (by simp [hlen]; omega)]
     ·have hn0 : S = none := by rw [hst, if_neg ha, if_neg hi]
      rw [hn0, if_pos (by simp [hi', ha])]
  ·have hn0 : S = none := by
    rw [hst]
    by_cases ha : c.2.2 = true
    ·rw [if_pos ha, if_neg (by simp [Z5A, hl])]
    ·rw [if_neg ha, if_neg (fun hi => hl (hmem hi).2)]
   rw [hn0, if_neg (by simp [hl])]
 ·have hn0 : Z4P d c b = none := by unfold Z4P; rw [if_neg hr]
  rw [hn0, if_neg (by simp; omega)]
end
theorem ZBp (n : Nat) (hn : 1100000 ≤ n) (L : List Ch) (hL : L.length ≤ 1048576) (hsz : ∀ c ∈ L, ∀ s ∈ c.2.1, s.size ≤ 1048576) : ∀ (k i : Nat) (d : List Re), i ≤ L.length → L.length - i < k → DbR d →
  ∃ w, spec_Apply.l0 n L [] (fun t => some (t, true)) k (i : Int) d = some w ∧ impl_Apply.l0 n L (L.length : Int) [] (fun t => some (t, true)) k (i : Int) d = some w ∧ (w.1 = [] ∨ DbR w.1)
 | 0, i, d, hi, hk, _ => absurd hk (Nat.not_lt_zero _)
 | k + 1, i, d, hi, hk, D => by
  by_cases h : i < L.length
  ·obtain ⟨b, b1, b2, b3⟩ := Z8N n n hn hn L[i].2.1 (hsz _ (List.getElem_mem h))
   rw [ZAX n hn L hL k i h d D b b3 b1, ZBK n hn L hL k i h d D b b3 b2];cases hs : Z4P d L[i] b with
   | none => exact ⟨([], false), rfl, rfl, .inl rfl⟩
   | some d' => exact ZBp n hn L hL hsz k (i + 1) d' (by omega) (by omega) (ZAU D b3 hs)
  ·refine ⟨(d, true), ?_, ?_, .inr D⟩
   ·conv => lhs; unfold spec_Apply.l0
    rw [if_neg (dnl h)]
   ·conv => lhs; unfold impl_Apply.l0
    rw [if_neg (dnl h)]
theorem apply_eq (n : Nat) (hn : 1100000 ≤ n) (d : List Re) (hd : d.length ≤ 1048576) (hs : ∀ x ∈ d, ∀ t ∈ x.2, ∀ s ∈ t, s.size ≤ 1048576) (hs2 : ∀ x ∈ d, ∀ t ∈ x.2, t.length ≤ 1048576)
  (L : List Ch) (hL : L.length ≤ 1048576) (hsz : ∀ c ∈ L, ∀ s ∈ c.2.1, s.size ≤ 1048576) :
  ∃ w, spec_Apply.F n d L = some w ∧ impl_Apply.F n d L = some w ∧ (w.1 = [] ∨ DbR w.1) := by
 obtain ⟨b, b1, b2, b3⟩ := shape_is n n hn hn d hd hs hs2;unfold spec_Apply.F impl_Apply.F;rw [b1, b2, Option.bind_some, Option.bind_some];cases b with
 | false => exact ⟨([], false), rfl, rfl, .inl rfl⟩
 | true =>
  have D := b3 rfl;rw [if_neg (by simp), if_neg (by simp), Z9n n hn d D, ZBZ n hn d D, Option.bind_some, Option.bind_some];obtain ⟨w, w1, w2, w3⟩ := ZBp n hn L hL hsz n 0 d (Nat.zero_le _) (by omega) D;rw [show ((0 : Nat) : Int) = 0 from rfl] at w1 w2;exact ⟨w, w1, w2, w3⟩
end Go.Abs
