/- The reference's l01Args: what it splits, and that it splits each constructor. Conditions: none. -/
import Derived.Test.YtgdlicpmbgodjaaGreatDoorT4
namespace Go.Abs
set_option linter.unusedVariables false
set_option linter.unusedSimpArgs false
def Z0O (b : UInt8) : Bool := !decide (b = 40)
theorem Z2c {c d : UInt8} {v : Nat} (hd : d.toNat = v) : (c.toNat : Int) = (v : Int) ↔ c = d := by
 constructor
 ·intro h; exact UInt8.toNat_inj.1 (by omega)
 ·rintro rfl; omega
theorem e34 (c : UInt8) : decide ((c.toNat : Int) = 34) = decide (c = 34) := decide_eq_decide.2 (Z2c (d := 34) rfl)
theorem e40 (c : UInt8) : decide ((c.toNat : Int) = 40) = decide (c = 40) := decide_eq_decide.2 (Z2c (d := 40) rfl)
theorem e41 (c : UInt8) : decide ((c.toNat : Int) = 41) = decide (c = 41) := decide_eq_decide.2 (Z2c (d := 41) rfl)
theorem e44 (c : UInt8) : decide ((c.toNat : Int) = 44) = decide (c = 44) := decide_eq_decide.2 (Z2c (d := 44) rfl)
theorem ZBw (n : Nat) (K : Int → Option (ByteArray × (List ByteArray) × Bool)) : ∀ (r pre : List UInt8) (k : Nat), (pre ++ r).length ≤ 4294967296 → r.length + 1 ≤ k →
  spec_l01Args.l0 n (bt (pre ++ r)) K k (pre.length : Int) = K ((pre.length + (r.takeWhile Z0O).length : Nat) : Int)
 | r, pre, 0, _, hk => by omega
 | [], pre, k + 1, hl, hk => by
  unfold spec_l01Args.l0;rw [Z0C, if_neg (by simp)]
  rfl
 | c :: r, pre, k + 1, hl, hk => by
  unfold spec_l01Args.l0;rw [Z0C, if_pos (decide_eq_true (Z1g pre r c)), if_pos (Z0e pre r c), Z1S, e40, List.takeWhile_cons]
  by_cases h : c = 40
  ·have hn : Z0O c = false := by simp [Z0O, h]
   rw [hn]
   simp [h]
  ·have hn : Z0O c = true := by simp [Z0O, h]
   rw [hn, if_pos rfl, if_pos (by simpa using h)];simp only [List.length_append, List.length_cons] at hl;rw [Z09 _ (by omega) (by omega), Z2q pre c, Z1f, ZBw n K r (pre ++ [c]) k (by simp; omega) (by simpa using hk)]
   congr 2
   simp
   omega
section
variable (n : Nat) (t6 : Int) (K : Unit → Option (ByteArray × (List ByteArray) × Bool))
theorem Z8J (pre r : List UInt8) (k : Nat) (d f : Int) (q : Bool) (out : List ByteArray) (hl : pre.length ≤ 4294967296) :
  spec_l01Args.l1 n (bt (pre ++ 34 :: r)) t6 K (k + 1) d q f (pre.length : Int) out = spec_l01Args.l1 n (bt (pre ++ 34 :: r)) t6 K k d (!q) f ((pre.length + 1 : Nat) : Int) out := by
 conv => lhs; unfold spec_l01Args.l1
 rw [Z0C, if_pos (decide_eq_true (Z1g pre r 34)), if_pos (Z0e pre r 34), Z1S, if_pos (by decide), Z09 _ (by omega) (by omega)]
 rfl
theorem Z9H (pre r : List UInt8) (c : UInt8) (k : Nat) (d f : Int) (out : List ByteArray) (hl : pre.length ≤ 4294967296) (hc : c ≠ 34) :
  spec_l01Args.l1 n (bt (pre ++ c :: r)) t6 K (k + 1) d true f (pre.length : Int) out = spec_l01Args.l1 n (bt (pre ++ c :: r)) t6 K k d true f ((pre.length + 1 : Nat) : Int) out := by
 conv => lhs; unfold spec_l01Args.l1
 rw [Z0C, if_pos (decide_eq_true (Z1g pre r c)), if_pos (Z0e pre r c), Z1S, e34, if_neg (by simpa using hc), if_pos rfl, Z09 _ (by omega) (by omega)]
 rfl
theorem ZBt (pre r : List UInt8) (k : Nat) (d f : Int) (out : List ByteArray) (hl : pre.length ≤ 4294967296) (hd : -4611686018427387900 ≤ d ∧ d ≤ 4611686018427387900) :
  spec_l01Args.l1 n (bt (pre ++ 40 :: r)) t6 K (k + 1) d false f (pre.length : Int) out = spec_l01Args.l1 n (bt (pre ++ 40 :: r)) t6 K k (d + 1) false f ((pre.length + 1 : Nat) : Int) out := by
 conv => lhs; unfold spec_l01Args.l1
 rw [Z0C, if_pos (decide_eq_true (Z1g pre r 40)), if_pos (Z0e pre r 40), Z1S, if_neg (by decide), if_neg (by simp), if_pos (Z0e pre r 40), if_pos (by decide), Z09 _ (by omega) (by omega), Z09 _ (by omega) (by omega)]
 rfl
theorem ZBv (pre r : List UInt8) (k : Nat) (d f : Int) (out : List ByteArray) (hl : pre.length ≤ 4294967296) (hd : -4611686018427387900 ≤ d ∧ d ≤ 4611686018427387900) (h1 : d ≠ 1) :
  spec_l01Args.l1 n (bt (pre ++ 41 :: r)) t6 K (k + 1) d false f (pre.length : Int) out = spec_l01Args.l1 n (bt (pre ++ 41 :: r)) t6 K k (d - 1) false f ((pre.length + 1 : Nat) : Int) out := by
 conv => lhs; unfold spec_l01Args.l1
 rw [Z0C, if_pos (decide_eq_true (Z1g pre r 41)), if_pos (Z0e pre r 41), Z1S, if_neg (by decide), if_neg (by simp), if_pos (Z0e pre r 41), if_neg (by decide), if_pos (Z0e pre r 41), if_pos (by decide), Z09 (d - 1) (by omega) (by omega),
  if_neg (by simp; omega), Z09 _ (by omega) (by omega)]
 rfl
theorem ZBu (pre r : List UInt8) (k : Nat) (d f : Int) (out : List ByteArray) (hl : pre.length ≤ 4294967296) (h1 : d ≠ 1) :
  spec_l01Args.l1 n (bt (pre ++ 44 :: r)) t6 K (k + 1) d false f (pre.length : Int) out = spec_l01Args.l1 n (bt (pre ++ 44 :: r)) t6 K k d false f ((pre.length + 1 : Nat) : Int) out := by
 conv => lhs; unfold spec_l01Args.l1
 rw [Z0C, if_pos (decide_eq_true (Z1g pre r 44)), if_pos (Z0e pre r 44), Z1S, if_neg (by decide), if_neg (by simp), if_pos (Z0e pre r 44), if_neg (by decide), if_pos (Z0e pre r 44), if_neg (by decide), if_pos (Z0e pre r 44), if_pos (by decide),
  if_neg (by simp; omega), Z09 _ (by omega) (by omega)]
 rfl
theorem a_calm (pre r : List UInt8) (c : UInt8) (k : Nat) (d f : Int) (out : List ByteArray) (hl : pre.length ≤ 4294967296) (h1 : c ≠ 34) (h2 : c ≠ 40) (h3 : c ≠ 41) (h4 : c ≠ 44) :
  spec_l01Args.l1 n (bt (pre ++ c :: r)) t6 K (k + 1) d false f (pre.length : Int) out = spec_l01Args.l1 n (bt (pre ++ c :: r)) t6 K k d false f ((pre.length + 1 : Nat) : Int) out := by
 conv => lhs; unfold spec_l01Args.l1
 rw [Z0C, if_pos (decide_eq_true (Z1g pre r c)), if_pos (Z0e pre r c), Z1S, e34, e40, e41, e44, if_neg (by simpa using h1), if_neg (by simp), if_pos (Z0e pre r c), if_neg (by simpa using h2), if_pos (Z0e pre r c), if_neg (by simpa using h3), if_pos (Z0e pre r c),
  if_neg (by simpa using h4), Z09 _ (by omega) (by omega)]
 rfl
theorem Z37 (l : List UInt8) (f i : Nat) : ByteArray.extract (bt l) (Int.toNat (f : Int)) (Int.toNat (i : Int)) = bt ((l.take i).drop f) := by
 rw [Z1Y, Int.toNat_natCast, Int.toNat_natCast]
theorem ZBs (pre r : List UInt8) (k f : Nat) (out : List ByteArray) (hl : pre.length ≤ 4294967290) (hf : f ≤ pre.length) (ho : out.length ≤ pre.length) :
  spec_l01Args.l1 n (bt (pre ++ 44 :: r)) t6 K (k + 1) 1 false (f : Int) (pre.length : Int) out = spec_l01Args.l1 n (bt (pre ++ 44 :: r)) t6 K k 1 false ((pre.length + 1 : Nat) : Int) ((pre.length + 1 : Nat) : Int) (out ++ [bt (pre.drop f)]) := by
 conv => lhs; unfold spec_l01Args.l1
 have h1 : (0 : Int) ≤ (f : Int) ∧ (f : Int) ≤ (pre.length : Int) ∧ (pre.length : Int) ≤ ((pre ++ 44 :: r).length : Int) := ⟨by omega, by omega, by have := Z1g pre r 44; omega⟩;have h2 : ∀ x : ByteArray, List.length out + List.length [x] ≤ lim := fun x => by unfold lim; simp only [List.length_singleton]; omega
 rw [Z0C, if_pos (decide_eq_true (Z1g pre r 44)), if_pos (Z0e pre r 44), Z1S, if_neg (by decide), if_neg (by simp), if_pos (Z0e pre r 44), if_neg (by decide), if_pos (Z0e pre r 44), if_neg (by decide), if_pos (Z0e pre r 44), if_pos (by decide),
  if_pos (by simp), if_pos h1, if_pos (h2 _), Z09 _ (by omega) (by omega), Z37, List.take_left]
 rfl
theorem a_end (pre r : List UInt8) (k f a : Nat) (ha : t6 = (a : Int)) (out : List ByteArray) (hl : (pre ++ 41 :: r).length ≤ 4294967290) (hf : f ≤ pre.length) (hal : a ≤ pre.length) (ho : out.length ≤ pre.length) :
  spec_l01Args.l1 n (bt (pre ++ 41 :: r)) t6 K (k + 1) 1 false (f : Int) (pre.length : Int) out = some (bt (pre.take a), out ++ [bt (pre.drop f)], decide (r = [])) := by
 subst ha;have hlt := Z1g pre r 41
 conv => lhs; unfold spec_l01Args.l1
 have h0 : (0 : Int) ≤ 0 ∧ (0 : Int) ≤ (a : Int) ∧ (a : Int) ≤ ((pre ++ 41 :: r).length : Int) := ⟨by omega, by omega, by omega⟩;have h1 : (0 : Int) ≤ (f : Int) ∧ (f : Int) ≤ (pre.length : Int) ∧ (pre.length : Int) ≤ ((pre ++ 41 :: r).length : Int) := ⟨by omega, by omega, by omega⟩;have h2 : ∀ x : ByteArray, List.length out + List.length [x] ≤ lim := fun x => by unfold lim; simp only [List.length_singleton]; omega
 rw [Z0C, if_pos (decide_eq_true hlt), if_pos (Z0e pre r 41), Z1S, if_neg (by decide), if_neg (by simp), if_pos (Z0e pre r 41), if_neg (by decide), if_pos (Z0e pre r 41), if_pos (by decide), if_pos (by decide), if_pos h0, if_pos h1, if_pos (h2 _),
  Z37, List.take_left, Z09 _ (by omega) (by omega)]
 rw [show Int.toNat 0 = Int.toNat ((0 : Nat) : Int) from rfl, Z37, List.drop_zero, List.take_append_of_le_length hal]
 congr 4
 apply propext
 constructor
 ·intro h
  cases r with
  | nil => rfl
  | cons x r => simp only [List.length_append, List.length_cons] at h; omega
 ·rintro rfl
  simp only [List.length_append, List.length_cons, List.length_nil];omega
theorem Z5t (a : Nat) (ha : t6 = (a : Int)) (hK : K () = some (ByteArray.empty, [], false)) : ∀ (r pre : List UInt8) (k : Nat) (d : Int) (q : Bool) (f : Nat) (out : List ByteArray), (pre ++ r).length ≤ 4294967290 → r.length + 1 ≤ k →
  (-(4294967296 : Int) ≤ d - r.length ∧ d + r.length ≤ 4294967296 * 4) → f ≤ pre.length + (if pre.length = a then 1 else 0) → a ≤ pre.length → out.length ≤ pre.length → (pre.length = a → d = 0 ∧ q = false ∧ ∃ r', r = 40 :: r') →
  ∃ x ys ok, spec_l01Args.l1 n (bt (pre ++ r)) t6 K k d q (f : Int) (pre.length : Int) out = some (x, ys, ok) ∧
   (ok = true → x = bt ((pre ++ r).take a) ∧ ∃ (p : List UInt8) (bs : List (List UInt8)), ys = out ++ (p :: bs).map bt ∧ (pre ++ r).drop f = p ++ (Z02 bs ++ [41]))
 | r, pre, 0, _, _, _, _, _, hk, _, _, _, _, _ => by omega
 | [], pre, k + 1, d, q, f, out, hl, hk, hd, hf, hal, ho, hst => by
  unfold spec_l01Args.l1;rw [Z0C, if_neg (by simp), hK];exact ⟨_, _, _, rfl, fun h => by cases h⟩
 | c :: r, pre, k + 1, d, q, f, out, hl, hk, hd, hf, hal, ho, hst => by
  have hk' : r.length + 1 ≤ k := by simpa using hk
  have hpl : pre.length + (r.length + 1) ≤ 4294967290 := by simpa using hl
  have hl' : ((pre ++ [c]) ++ r).length ≤ 4294967290 := by rw [← Z1f]; exact hl
  have hp1 : (pre ++ [c]).length = pre.length + 1 := by simp
  have hne : ¬ (pre ++ [c]).length = a := by omega
  simp only [List.length_cons] at hd;have go : ∀ (d' : Int) (q' : Bool) (f' : Nat) (out' : List ByteArray), (-(4294967296 : Int) ≤ d' - r.length ∧ d' + r.length ≤ 4294967296 * 4) → f' ≤ pre.length + 1 → out'.length ≤ pre.length + 1 →
    ∃ x ys ok, spec_l01Args.l1 n (bt (pre ++ c :: r)) t6 K k d' q' (f' : Int) ((pre.length + 1 : Nat) : Int) out' = some (x, ys, ok) ∧
     (ok = true → x = bt ((pre ++ c :: r).take a) ∧ ∃ (p : List UInt8) (bs : List (List UInt8)), ys = out' ++ (p :: bs).map bt ∧ (pre ++ c :: r).drop f' = p ++ (Z02 bs ++ [41])) := by
   intro d' q' f' out' h1 h2 h3;have := Z5t a ha hK r (pre ++ [c]) k d' q' f' out' hl' hk' h1 (by rw [if_neg hne, hp1]; omega) (by omega) (by omega) (fun h => absurd h hne);rw [← Z1f, hp1] at this;exact this
  have hfb : f ≤ pre.length + 1 := by split at hf <;> omega
  by_cases h34 : c = 34
  ·subst h34
   rw [Z8J n t6 K pre r k d f q out (by omega)];exact go _ _ _ _ ⟨by omega, by omega⟩ hfb (by omega)
  ·cases q with
   | true =>
    rw [Z9H n t6 K pre r c k d f out (by omega) h34];exact go _ _ _ _ ⟨by omega, by omega⟩ hfb (by omega)
   | false =>
    by_cases h40 : c = 40
    ·subst h40
     rw [ZBt n t6 K pre r k d f out (by omega) ⟨by omega, by omega⟩];exact go _ _ _ _ ⟨by omega, by omega⟩ hfb (by omega)
    ·have hpa : pre.length ≠ a := by
      intro h;obtain ⟨_, _, r', hr'⟩ := hst h;cases hr';exact h40 rfl
     rw [if_neg hpa] at hf
     by_cases h41 : c = 41
     ·subst h41
      by_cases hd1 : d = 1
      ·subst hd1
       rw [a_end n t6 K pre r k f a ha out hl (by omega) hal ho];refine ⟨_, _, _, rfl, fun h => ?_⟩;have hr : r = [] := of_decide_eq_true h;subst hr;refine ⟨by rw [List.take_append_of_le_length hal], pre.drop f, [], by simp, ?_⟩;rw [List.drop_append_of_le_length (by omega)]
       rfl
      ·rw [ZBv n t6 K pre r k d f out (by omega) ⟨by omega, by omega⟩ hd1]
       exact go _ _ _ _ ⟨by omega, by omega⟩ hfb (by omega)
     ·by_cases h44 : c = 44
      ·subst h44
       by_cases hd1 : d = 1
       ·subst hd1
        rw [ZBs n t6 K pre r k f out (by omega) (by omega) ho];obtain ⟨x, ys, ok, h1, h2⟩ := go 1 false (pre.length + 1) (out ++ [bt (pre.drop f)]) ⟨by omega, by omega⟩ (by omega) (by simp; omega);refine ⟨x, ys, ok, h1, fun h => ?_⟩;obtain ⟨hx, p, bs, hys, hdr⟩ := h2 h;refine ⟨hx, pre.drop f, p :: bs, by rw [hys]; simp, ?_⟩;rw [List.drop_append_of_le_length (by omega)];have : (pre ++ 44 :: r).drop (pre.length + 1) = r := by rw [← List.drop_drop, List.drop_left]; rfl
        rw [this] at hdr;rw [hdr]
        simp [Z02]
       ·rw [ZBu n t6 K pre r k d f out (by omega) hd1]
        exact go _ _ _ _ ⟨by omega, by omega⟩ hfb (by omega)
      ·rw [a_calm n t6 K pre r c k d f out (by omega) h34 h40 h41 h44]
       exact go _ _ _ _ ⟨by omega, by omega⟩ hfb (by omega)
end
end Go.Abs
