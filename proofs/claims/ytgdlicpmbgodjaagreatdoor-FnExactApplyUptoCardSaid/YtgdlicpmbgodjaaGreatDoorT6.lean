/- The reference's l01Args at each constructor. Conditions: none. -/
import Derived.Test.YtgdlicpmbgodjaaGreatDoorT5
namespace Go.Abs
set_option linter.unusedVariables false
set_option linter.unusedSimpArgs false
def ZA4 (b : UInt8) : Bool := decide (b ≠ 34 ∧ b ≠ 40 ∧ b ≠ 41 ∧ b ≠ 44)
theorem Z7T {b : UInt8} (h : isW b = true) : ZA4 b = true := by
 unfold ZA4;apply decide_eq_true;refine ⟨?_, ?_, ?_, ?_⟩ <;> (rintro rfl; revert h; decide)
theorem Z5r {b : UInt8} (h : Z1r b = true) : ZA4 b = true := Z7T (by unfold isW; rw [h]; simp)
theorem Z5u {l : List UInt8} (h : l.all isW = true) : l.all ZA4 = true := by
 rw [List.all_eq_true] at h ⊢;exact fun b hb => Z7T (h b hb)
section
variable (n : Nat) (t6 : Int) (K : Unit → Option (ByteArray × (List ByteArray) × Bool)) (l : List UInt8) (hl : l.length ≤ 4294967290)
include hl
theorem Z3F : ∀ (m pre rest : List UInt8) (j : Nat) (d f : Int) (out : List ByteArray), m.all ZA4 = true → l = pre ++ (m ++ rest) →
  spec_l01Args.l1 n (bt l) t6 K (j + m.length) d false f (pre.length : Int) out = spec_l01Args.l1 n (bt l) t6 K j d false f ((pre.length + m.length : Nat) : Int) out
 | [], pre, rest, j, d, f, out, _, _ => rfl
 | c :: m, pre, rest, j, d, f, out, hm, he => by
  rw [List.all_cons, Bool.and_eq_true] at hm;obtain ⟨h1, h2, h3, h4⟩ := of_decide_eq_true hm.1;have e1 : l = pre ++ c :: (m ++ rest) := he;have hpl : pre.length ≤ 4294967296 := by rw [e1] at hl; simp at hl; omega
  rw [show j + (c :: m).length = (j + m.length) + 1 from by simp; omega]
  conv => lhs; rw [e1, a_calm n t6 K pre (m ++ rest) c (j + m.length) d f out hpl h1 h2 h3 h4, ← e1]
  have := Z3F m (pre ++ [c]) rest j d f out hm.2 (by rw [e1]; simp);rw [show (pre ++ [c] : List UInt8).length = pre.length + 1 by simp <;> omega] at this;rw [this]
  congr 2
  simp
  omega
theorem Z4R : ∀ (m pre rest : List UInt8) (j : Nat) (d f : Int) (out : List ByteArray), m.all Z0b = true → l = pre ++ (m ++ rest) →
  spec_l01Args.l1 n (bt l) t6 K (j + m.length) d true f (pre.length : Int) out = spec_l01Args.l1 n (bt l) t6 K j d true f ((pre.length + m.length : Nat) : Int) out
 | [], pre, rest, j, d, f, out, _, _ => rfl
 | c :: m, pre, rest, j, d, f, out, hm, he => by
  rw [List.all_cons, Bool.and_eq_true] at hm;have h1 : c ≠ 34 := by rintro rfl; exact absurd hm.1 (by decide)
  have e1 : l = pre ++ c :: (m ++ rest) := he;have hpl : pre.length ≤ 4294967296 := by rw [e1] at hl; simp at hl; omega
  rw [show j + (c :: m).length = (j + m.length) + 1 from by simp; omega]
  conv => lhs; rw [e1, Z9H n t6 K pre (m ++ rest) c (j + m.length) d f out hpl h1, ← e1]
  have := Z4R m (pre ++ [c]) rest j d f out hm.2 (by rw [e1]; simp);rw [show (pre ++ [c] : List UInt8).length = pre.length + 1 by simp <;> omega] at this;rw [this]
  congr 2
  simp
  omega
def ZBz (t : List UInt8) : Prop := ∀ (pre rest : List UInt8) (j : Nat) (d f : Int) (out : List ByteArray), 1 ≤ d → d + t.length ≤ 4294967296 * 4 → l = pre ++ (t ++ rest) →
  spec_l01Args.l1 n (bt l) t6 K (j + t.length) d false f (pre.length : Int) out = spec_l01Args.l1 n (bt l) t6 K j d false f ((pre.length + t.length : Nat) : Int) out
theorem Z4S : ∀ (bs : List (List UInt8)), (∀ x ∈ bs, ZBz n t6 K l x) → ∀ (pre rest : List UInt8) (j : Nat) (d f : Int) (out : List ByteArray), 2 ≤ d → d + (Z02 bs).length ≤ 4294967296 * 4 → l = pre ++ (Z02 bs ++ rest) →
  spec_l01Args.l1 n (bt l) t6 K (j + (Z02 bs).length) d false f (pre.length : Int) out = spec_l01Args.l1 n (bt l) t6 K j d false f ((pre.length + (Z02 bs).length : Nat) : Int) out
 | [], _, pre, rest, j, d, f, out, _, _, _ => rfl
 | b :: bs, hb, pre, rest, j, d, f, out, hd, hd2, he => by
  simp only [Z02, List.length_cons, List.length_append] at hd2;have e1 : l = pre ++ 44 :: (b ++ (Z02 bs ++ rest)) := by rw [he]; simp [Z02]
  have e2 : l = (pre ++ [44]) ++ (b ++ (Z02 bs ++ rest)) := by rw [e1]; simp
  have e3 : l = (pre ++ [44] ++ b) ++ (Z02 bs ++ rest) := by rw [e1]; simp
  have hpl : pre.length ≤ 4294967296 := by rw [e1] at hl; simp at hl; omega
  rw [show j + (Z02 (b :: bs)).length = (j + (Z02 bs).length + b.length) + 1 from by simp only [Z02, List.length_cons, List.length_append]; omega]
  conv => lhs; rw [e1, ZBu n t6 K pre (b ++ (Z02 bs ++ rest)) (j + (Z02 bs).length + b.length) d f out hpl (by omega), ← e1]
  have s1 := hb b List.mem_cons_self (pre ++ [44]) (Z02 bs ++ rest) (j + (Z02 bs).length) d f out (by omega) (by omega) e2;rw [show (pre ++ [44] : List UInt8).length = pre.length + 1 by simp <;> omega] at s1;rw [s1];have s2 := Z4S bs (fun x hx => hb x (List.mem_cons_of_mem _ hx)) (pre ++ [44] ++ b) rest j d f out hd (by omega) e3;rw [show (pre ++ [44] ++ b : List UInt8).length = pre.length + 1 + b.length by simp <;> omega] at s2;rw [s2]
  congr 2
  simp only [Z02, List.length_cons, List.length_append];omega
theorem scan_tm {k : Nat} {t : List UInt8} (h : Tm k t) : ZBz n t6 K l t := by
 induction h with
 | num x h0 h1 =>
  obtain ⟨c, r, hc, hcd, hr⟩ := Z4t h0 h1;intro pre rest j d f out hd hd2 he;refine Z3F n t6 K l hl _ pre rest j d f out ?_ he;rw [hc, List.all_cons];have : ZA4 c = true := by
   rcases hcd with rfl | h
   ·decide
   ·exact Z5r h
  rw [this, Bool.true_and, List.all_eq_true];intro b hb;rw [List.all_eq_true] at hr;exact Z5r (hr b hb)
 | sym m h hp =>
  intro pre rest j d f out hd hd2 he;have e1 : l = pre ++ 34 :: (m ++ 34 :: rest) := by rw [he]; simp
  have e2 : l = (pre ++ [34]) ++ (m ++ 34 :: rest) := by rw [e1]; simp
  have e3 : l = (pre ++ [34] ++ m) ++ 34 :: rest := by rw [e1]; simp
  have hpl : pre.length + m.length + 2 ≤ 4294967290 := by rw [e1] at hl; simp at hl; omega
  rw [show j + (34 :: (m ++ [34]) : List UInt8).length = (j + 1 + m.length) + 1 from by simp; omega]
  conv => lhs; rw [e1, Z8J n t6 K pre _ (j + 1 + m.length) d f false out (by omega), ← e1]
  have s1 := Z4R n t6 K l hl m (pre ++ [34]) (34 :: rest) (j + 1) d f out hp e2;rw [show (pre ++ [34] : List UInt8).length = pre.length + 1 by simp <;> omega] at s1;rw [show (!false) = true from rfl, s1];have s2 := Z8J n t6 K (pre ++ [34] ++ m) rest j d f true out (by simp; omega);rw [← e3, show (pre ++ [34] ++ m : List UInt8).length = pre.length + 1 + m.length by simp <;> omega] at s2;rw [s2]
  congr 2
  simp
  omega
 | con0 nm h =>
  obtain ⟨c, r, hc, _, _, hall⟩ := Z0w h;intro pre rest j d f out hd hd2 he;exact Z3F n t6 K l hl _ pre rest j d f out (Z5u hall) he
 | con nm a bs h ks hh ih =>
  obtain ⟨c, r, hc, _, _, hall⟩ := Z0w h;intro pre rest j d f out hd hd2 he;simp only [List.length_append, List.length_cons, List.length_nil] at hd2;have e1 : l = pre ++ (nm ++ 40 :: (a ++ (Z02 bs ++ 41 :: rest))) := by rw [he]; simp
  have e2 : l = (pre ++ nm) ++ 40 :: (a ++ (Z02 bs ++ 41 :: rest)) := by rw [e1]; simp
  have e3 : l = (pre ++ nm ++ [40]) ++ (a ++ (Z02 bs ++ 41 :: rest)) := by rw [e1]; simp
  have e4 : l = (pre ++ nm ++ [40] ++ a) ++ (Z02 bs ++ 41 :: rest) := by rw [e1]; simp
  have e5 : l = (pre ++ nm ++ [40] ++ a ++ Z02 bs) ++ 41 :: rest := by rw [e1]; simp
  have hpl : pre.length + nm.length + 1 + a.length + (Z02 bs).length + 1 ≤ 4294967290 := by rw [e1] at hl; simp at hl; omega
  rw [show j + (nm ++ 40 :: (a ++ (Z02 bs ++ [41])) : List UInt8).length = (j + 1 + (Z02 bs).length + a.length + 1) + nm.length from by simp; omega];rw [Z3F n t6 K l hl nm pre _ _ d f out (Z5u hall) e1];have s1 := ZBt n t6 K (pre ++ nm) (a ++ (Z02 bs ++ 41 :: rest)) (j + 1 + (Z02 bs).length + a.length) d f out (by simp; omega) ⟨by omega, by omega⟩;rw [← e2, show (pre ++ nm : List UInt8).length = pre.length + nm.length by simp <;> omega] at s1;rw [s1];have s2 := ih a List.mem_cons_self (pre ++ nm ++ [40]) (Z02 bs ++ 41 :: rest) (j + 1 + (Z02 bs).length) (d + 1) f out (by omega) (by omega) e3;rw [show (pre ++ nm ++ [40] : List UInt8).length = pre.length + nm.length + 1 by simp <;> omega] at s2;rw [s2];have s3 := Z4S n t6 K l hl bs (fun x hx => ih x (List.mem_cons_of_mem _ hx)) (pre ++ nm ++ [40] ++ a) (41 :: rest) (j + 1) (d + 1) f out (by omega) (by omega) e4;rw [show (pre ++ nm ++ [40] ++ a : List UInt8).length = pre.length + nm.length + 1 + a.length by simp <;> omega] at s3;rw [s3];have s4 := ZBv n t6 K (pre ++ nm ++ [40] ++ a ++ Z02 bs) rest j (d + 1) f out (by simp; omega) ⟨by omega, by omega⟩ (by omega);rw [← e5, show (pre ++ nm ++ [40] ++ a ++ Z02 bs : List UInt8).length = pre.length + nm.length + 1 + a.length + (Z02 bs).length by simp <;> omega] at s4;rw [s4]
  congr 2
  ·omega
  ·simp
   omega
theorem Z8P (at' : Nat) (ha : t6 = (at' : Int)) : ∀ (bs : List (List UInt8)) (a pre : List UInt8) (j : Nat) (out : List ByteArray), (∀ x ∈ a :: bs, ZBz n t6 K l x) → l = pre ++ (a ++ (Z02 bs ++ [41])) → at' ≤ pre.length → out.length ≤ pre.length →
  spec_l01Args.l1 n (bt l) t6 K (j + 1 + (a ++ Z02 bs).length) 1 false (pre.length : Int) (pre.length : Int) out = some (bt (l.take at'), out ++ (a :: bs).map bt, true)
 | [], a, pre, j, out, hp, he, hat, ho => by
  have e1 : l = (pre ++ a) ++ 41 :: [] := by rw [he]; simp [Z02]
  have hpl : pre.length + a.length + 1 ≤ 4294967290 := by rw [e1] at hl; simp at hl; omega
  have s1 := hp a List.mem_cons_self pre (Z02 [] ++ [41]) (j + 1) 1 pre.length out (by omega) (by omega) he;rw [show j + 1 + (a ++ Z02 []).length = j + 1 + a.length by simp [Z02], s1];have s2 := a_end n t6 K (pre ++ a) [] j pre.length at' ha out (by rw [← e1]; exact hl) (by simp) (by simp; omega) (by simp; omega);rw [← e1, show (pre ++ a : List UInt8).length = pre.length + a.length by simp <;> omega] at s2;rw [s2, List.drop_left];have : (pre ++ a).take at' = l.take at' := by rw [e1]; exact (List.take_append_of_le_length (by simp; omega)).symm
  rw [this]
  simp
 | b :: bs, a, pre, j, out, hp, he, hat, ho => by
  have e1 : l = (pre ++ a) ++ 44 :: (b ++ (Z02 bs ++ [41])) := by rw [he]; simp [Z02]
  have e2 : l = (pre ++ a ++ [44]) ++ (b ++ (Z02 bs ++ [41])) := by rw [e1]; simp
  have hpl : pre.length + a.length + 1 ≤ 4294967290 := by rw [e1] at hl; simp at hl; omega
  have s1 := hp a List.mem_cons_self pre (Z02 (b :: bs) ++ [41]) (j + 1 + (b ++ Z02 bs).length + 1) 1 pre.length out (by omega) (by omega) he;rw [show j + 1 + (a ++ Z02 (b :: bs)).length = j + 1 + (b ++ Z02 bs).length + 1 + a.length by simp [Z02]; omega, s1];have s2 := ZBs n t6 K (pre ++ a) (b ++ (Z02 bs ++ [41])) (j + 1 + (b ++ Z02 bs).length) pre.length out (by simp; omega) (by simp) (by simp; omega);rw [← e1, show (pre ++ a : List UInt8).length = pre.length + a.length by simp <;> omega, List.drop_left] at s2;rw [s2];have s3 := Z8P at' ha bs b (pre ++ a ++ [44]) j (out ++ [bt a]) (fun x hx => hp x (List.mem_cons_of_mem _ hx)) e2 (by simp; omega) (by simp; omega);rw [show (pre ++ a ++ [44] : List UInt8).length = pre.length + a.length + 1 by simp <;> omega] at s3;rw [s3]
  simp
end
theorem Z2b {l : List UInt8} (h : l.all isW = true) : l.all Z0O = true := by
 rw [List.all_eq_true] at h ⊢;intro b hb;have := h b hb;unfold Z0O
 by_cases e : b = 40
 ·subst e; exact absurd this (by decide)
 ·simp [e]
theorem Z6W (n : Nat) (l : List UInt8) (hl : l.length ≤ 4294960000) (hn : l.length + 2 ≤ n) : spec_l01Args.F n (bt l) =
  if (l.takeWhile Z0O).length = l.length then some (bt l, [], true)
  else spec_l01Args.l1 n (bt l) ((l.takeWhile Z0O).length : Int) (fun _ => some (ByteArray.empty, [], false)) n 0 false (((l.takeWhile Z0O).length + 1 : Nat) : Int) ((l.takeWhile Z0O).length : Int) [] := by
 unfold spec_l01Args.F;have hw : (l.takeWhile Z0O).length ≤ l.length := (List.takeWhile_prefix Z0O).length_le;have := ZBw n (fun t4 =>
  if decide (t4 = (ByteArray.size (bt l) : Int)) = true then
   some (bt l, [], true)
  else
   spec_l01Args.l1 n (bt l) t4 (fun _ =>
    some (ByteArray.empty, [], false)) n 0 false (IntKind.i64.wrap (t4 + 1)) t4 []) l [] n (by simp; omega) (by omega)
 simp only [List.nil_append, List.length_nil, Nat.zero_add] at this;rw [show ((0 : Nat) : Int) = 0 from rfl] at this;rw [this, Z0C, Z09 _ (by omega) (by omega)]
 by_cases h : (l.takeWhile Z0O).length = l.length
 ·rw [if_pos h, if_pos (by simp; omega)]
 ·rw [if_neg h, if_neg (by simp; omega)]
  rfl
theorem Z4J (n : Nat) (nm a : List UInt8) (bs : List (List UInt8)) (h : Z0o nm = true) (hh : ∀ x ∈ a :: bs, ∃ k, Tm k x)
  (hl : (nm ++ 40 :: (a ++ (Z02 bs ++ [41]))).length ≤ 4294960000) (hn : (nm ++ 40 :: (a ++ (Z02 bs ++ [41]))).length + 2 ≤ n) :
  spec_l01Args.F n (bt (nm ++ 40 :: (a ++ (Z02 bs ++ [41])))) = some (bt nm, (a :: bs).map bt, true) := by
 obtain ⟨c, r, hc, _, _, hall⟩ := Z0w h;have htw : (nm ++ 40 :: (a ++ (Z02 bs ++ [41]))).takeWhile Z0O = nm := Z1C (Z2b hall) (.inr ⟨40, _, rfl, by decide⟩);rw [Z6W n _ hl hn, htw, if_neg (by simp)];have hlen := hl;have hn' := hn;simp only [List.length_append, List.length_cons, List.length_nil] at hlen hn';obtain ⟨j, rfl⟩ : ∃ j, n = (j + 1 + (a ++ Z02 bs).length) + 1 := ⟨n - (2 + (a ++ Z02 bs).length), by simp only [List.length_append]; omega⟩
 rw [ZBt _ _ _ nm (a ++ (Z02 bs ++ [41])) _ 0 _ [] (by omega) ⟨by omega, by omega⟩];have := Z8P (j + 1 + (a ++ Z02 bs).length + 1) (nm.length : Int) (fun _ => some (ByteArray.empty, [], false)) (nm ++ 40 :: (a ++ (Z02 bs ++ [41]))) (by omega) nm.length rfl bs a (nm ++ [40]) j [] (fun x hx => by
  obtain ⟨k, hk⟩ := hh x hx;exact scan_tm _ _ _ _ (by omega) hk) (by simp) (by simp) (by simp)
 rw [show (nm ++ [40] : List UInt8).length = nm.length + 1 by simp <;> omega] at this;rw [show (0 : Int) + 1 = 1 from rfl, this, List.take_left]
 simp
theorem ZBn (n : Nat) (nm : List UInt8) (h : Z0o nm = true) (hn : nm.length + 2 ≤ n) : spec_l01Args.F n (bt nm) = some (bt nm, [], true) := by
 obtain ⟨c, r, hc, _, h20, hall⟩ := Z0w h;rw [Z6W n nm (by omega) hn, if_pos];exact Z1K.2 (Z2b hall)
end Go.Abs
