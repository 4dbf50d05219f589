/- Letters, names and symbols: what the program's and the reference's small functions answer. Conditions: none. -/
import Derived.Test.YtgdlicpmbgodjaaGreatDoorT1
namespace Go.Abs
set_option linter.unusedVariables false
set_option linter.unusedSimpArgs false
theorem Z25 (b : Bool) : b = false ∨ b = true := by cases b <;> simp
def Z1r (b : UInt8) : Bool := decide (48 ≤ b.toNat ∧ b.toNat ≤ 57)
def Z5H (b : UInt8) : Bool := decide (65 ≤ b.toNat ∧ b.toNat ≤ 90)
def isLt (b : UInt8) : Bool := decide (97 ≤ b.toNat ∧ b.toNat ≤ 122) || Z5H b
def isW (b : UInt8) : Bool := isLt b || Z1r b || decide (b.toNat = 95)
def Z0b (b : UInt8) : Bool := decide (32 ≤ b.toNat ∧ b.toNat ≤ 126 ∧ b.toNat ≠ 34 ∧ b.toNat ≠ 92)
theorem Z9s (n : Nat) (a b c : Int) : impl_in.F n a b c = some (decide (b ≤ a ∧ a ≤ c)) := by
 unfold impl_in.F
 by_cases h : b ≤ a
 ·rw [if_pos (by simpa using h)]
  simp [h]
 ·rw [if_neg (by simpa using h)]
  simp [h]
theorem Z2i (n : Nat) (b : UInt8) : impl_isDigit.F n (b.toNat : Int) = some (Z1r b) := by
 unfold impl_isDigit.F Z1r
 by_cases h : 48 ≤ b.toNat
 ·rw [if_pos (by simp; omega)]
  congr 1
  rw [decide_eq_decide];omega
 ·rw [if_neg (by simp; omega)]
  congr 1
  symm
  rw [decide_eq_false_iff_not];omega
theorem Z9E (b : UInt8) : (if decide ((b.toNat : Int) ≥ 65) = true then some (decide ((b.toNat : Int) ≤ 90)) else some false) = some (Z5H b) := by
 unfold Z5H
 by_cases h : 65 ≤ b.toNat
 ·rw [if_pos (by simp; omega)]
  congr 1
  rw [decide_eq_decide];omega
 ·rw [if_neg (by simp; omega)]
  congr 1
  symm
  rw [decide_eq_false_iff_not];omega
theorem Z5g (n : Nat) (b : UInt8) : impl_isLetter.F n (b.toNat : Int) = some (isLt b) := by
 unfold impl_isLetter.F;rw [Z9E];unfold isLt
 by_cases h : 97 ≤ b.toNat
 ·rw [if_pos (by simp; omega)]
  by_cases h2 : b.toNat ≤ 122
  ·rw [if_neg (by simp; omega), decide_eq_true (⟨h, h2⟩ : 97 ≤ b.toNat ∧ b.toNat ≤ 122)]
   rfl
  ·rw [if_pos (by simp; omega), decide_eq_false (by omega : ¬ (97 ≤ b.toNat ∧ b.toNat ≤ 122))]
   rfl
 ·rw [if_neg (by simp; omega), decide_eq_false (by omega : ¬ (97 ≤ b.toNat ∧ b.toNat ≤ 122))]
  rfl
theorem Z8z (n : Nat) (b : UInt8) : impl_isWordByte.F n (b.toNat : Int) = some (isW b) := by
 unfold impl_isWordByte.F;rw [Z5g];simp only [Option.bind_some];rw [Z2i];simp only [Option.bind_some];unfold isW;cases isLt b
 ·cases Z1r b
  ·simp
   omega
  ·simp
 ·simp
theorem ZAc (n : Nat) (b : UInt8) : spec_l01Small.F n (b.toNat : Int) = some (decide (97 ≤ b.toNat ∧ b.toNat ≤ 122)) := by
 unfold spec_l01Small.F
 by_cases h : 97 ≤ b.toNat
 ·rw [if_pos (by simp; omega)]
  congr 1
  rw [decide_eq_decide];omega
 ·rw [if_neg (by simp; omega)]
  congr 1
  symm
  rw [decide_eq_false_iff_not];omega
theorem ZAe (n : Nat) (b : UInt8) : spec_l01Big.F n (b.toNat : Int) = some (Z5H b) := by
 unfold spec_l01Big.F;exact Z9E b
theorem ZAd (n : Nat) (b : UInt8) : spec_l01Digit.F n (b.toNat : Int) = some (Z1r b) := by
 rw [Z4o];unfold Z1r
 congr 1
 rw [decide_eq_decide];omega
theorem Z9Z (n : Nat) (b : UInt8) : spec_l01Letter.F n (b.toNat : Int) = some (isW b) := by
 unfold spec_l01Letter.F;rw [ZAc];simp only [Option.bind_some];rw [ZAe];simp only [Option.bind_some];rw [ZAd];simp only [Option.bind_some];unfold isW isLt;cases decide (97 ≤ b.toNat ∧ b.toNat ≤ 122)
 ·cases Z5H b
  ·cases Z1r b
   ·simp
    omega
   ·simp
  ·simp
 ·simp
def Z0o (l : List UInt8) : Bool := decide (1 ≤ l.length ∧ l.length ≤ 20) && (match l with | [] => false | c :: _ => Z5H c) && l.all isW
theorem Z1S (pre r : List UInt8) (c : UInt8) : Z0N (bt (pre ++ c :: r)) (pre.length : Int) = (c.toNat : Int) := by rw [ZA5, Z0X]
theorem Z26 (c : UInt8) (r : List UInt8) : Z0N (bt (c :: r)) 0 = (c.toNat : Int) := by have := ZA5 (c :: r) 0; simpa using this
theorem Z1g (pre r : List UInt8) (c : UInt8) : (pre.length : Int) < ((pre ++ c :: r).length : Int) := by simp; omega
theorem Z0e (pre r : List UInt8) (c : UInt8) : (0 : Int) ≤ (pre.length : Int) ∧ (pre.length : Int) < ((pre ++ c :: r).length : Int) := ⟨by omega, Z1g pre r c⟩
theorem Z2q (pre : List UInt8) (c : UInt8) : (pre.length : Int) + 1 = ((pre ++ [c]).length : Int) := by simp
theorem Z1f (pre r : List UInt8) (c : UInt8) : pre ++ c :: r = (pre ++ [c]) ++ r := by simp
theorem Z72 (n : Nat) (K : Unit → Option Bool) : ∀ (r pre : List UInt8) (k : Nat), (pre ++ r).length ≤ 4294967296 → r.length + 1 ≤ k →
  spec_l01Name.l1 n (bt (pre ++ r)) K k (pre.length : Int) = if r.all isW = true then K () else some false
 | r, pre, 0, _, hk => by omega
 | [], pre, k + 1, hl, hk => by
  unfold spec_l01Name.l1;rw [Z0C, if_neg (by simp)]
  rfl
 | c :: r, pre, k + 1, hl, hk => by
  unfold spec_l01Name.l1;rw [Z0C, if_pos (decide_eq_true (Z1g pre r c)), if_pos (Z0e pre r c), Z1S, Z9Z];simp only [Option.bind_some, List.all_cons];rcases Z25 (isW c) with hw | hw
  ·simp [hw]
  ·simp only [hw, Bool.not_true, Bool.false_eq_true, if_false, Bool.true_and]
   simp only [List.length_append, List.length_cons] at hl;rw [Z09 _ (by omega) (by omega), Z2q pre c, Z1f];exact Z72 n K r (pre ++ [c]) k (by simp; omega) (by simpa using hk)
theorem Z9q (n : Nat) (l : List UInt8) (hl : l.length ≤ 4294967296) (hn : l.length + 1 ≤ n) : spec_l01Name.F n (bt l) true = some (Z0o l) := by
 unfold spec_l01Name.F;rw [Z0C, Z0c];simp only [Option.bind_some]
 by_cases h : 1 ≤ l.length ∧ l.length ≤ 20
 ·rw [if_pos (by simp; omega), if_pos trivial]
  cases l with
  | nil => simp at h
  | cons c r =>
   rw [if_pos (by simp <;> omega), Z26, ZAe];simp only [Option.bind_some];unfold Z0o;rw [decide_eq_true h];rcases Z25 (Z5H c) with hb | hb
   ·simp [hb]
   ·simp only [hb, Bool.not_true, if_true, Bool.false_eq_true, if_false, Bool.true_and]
    unfold spec_l01Name.j0;have := Z72 n (fun _ => some true) (c :: r) [] n (by simpa using hl) hn;simp only [List.nil_append, List.length_nil] at this;rw [show ((0 : Nat) : Int) = 0 from rfl] at this;rw [this];rcases Z25 ((c :: r).all isW) with hw | hw <;> simp [hw]
 ·rw [if_neg (by simp; omega)]
  unfold Z0o;rw [decide_eq_false h]
  rfl
theorem ZB5 (n : Nat) (K : Int → Option Int) : ∀ (r pre : List UInt8) (k : Nat), pre ≠ [] → (pre ++ r).length ≤ 4294967296 → r.length + 1 ≤ k →
  impl_nameLong.l0 n (bt (pre ++ r)) K k (pre.length : Int) = K ((pre.length + (r.takeWhile isW).length : Nat) : Int)
 | r, pre, 0, _, _, hk => by omega
 | [], pre, k + 1, hp, hl, hk => by
  unfold impl_nameLong.l0;rw [Z0C, if_neg (by simp)]
  rfl
 | c :: r, pre, k + 1, hp, hl, hk => by
  unfold impl_nameLong.l0;rw [Z0C, if_pos (decide_eq_true (Z1g pre r c)), if_pos (Z0e pre r c), Z1S, Z8z];simp only [Option.bind_some, List.takeWhile_cons];have hp0 : 0 < pre.length := List.length_pos_iff.2 hp;rcases Z25 (isW c) with hw | hw
  ·simp [hw]
  ·simp only [hw, if_true]
   simp only [List.length_append, List.length_cons] at hl;rw [if_neg (by simp; omega), Z09 _ (by omega) (by omega), Z2q pre c, Z1f, ZB5 n K r (pre ++ [c]) k (by simp) (by simp; omega) (by simpa using hk)]
   congr 2
   simp
   omega
theorem Z4i (n : Nat) (l : List UInt8) (hl : l.length ≤ 4294967296) (hn : l.length + 1 ≤ n) :
  impl_nameLong.F n (bt l) = some ((match l with | [] => 0 | c :: _ => if isLt c = true then (l.takeWhile isW).length else 0 : Nat) : Int) := by
 unfold impl_nameLong.F;cases l with
 | nil =>
  obtain ⟨k, rfl⟩ : ∃ k, n = k + 1 := ⟨n - 1, by omega⟩
  unfold impl_nameLong.l0;rw [Z0C, if_neg (by simp)]
  rfl
 | cons c r =>
  obtain ⟨k, rfl⟩ : ∃ k, n = k + 1 := ⟨n - 1, by omega⟩
  unfold impl_nameLong.l0;simp only [List.length_cons] at hl hn;rw [Z0C, if_pos (by simp <;> omega), if_pos (by simp <;> omega), Z26, Z8z];simp only [Option.bind_some];have hz : decide ((0 : Int) > 0) = false := by simp
  have hin : (0 : Int) ≤ 0 ∧ 0 < ((c :: r).length : Int) := ⟨by omega, by simp <;> omega⟩;rw [Z5g, if_pos hz, if_pos hin];simp only [Option.bind_some];rcases Z25 (isLt c) with ht | ht
  ·rcases Z25 (isW c) with hw | hw <;> simp [hw, ht]
  ·have hw : isW c = true := by unfold isW; rw [ht]; rfl
   simp only [hw, ht, if_true];rw [Z09 _ (by omega) (by omega)];have := ZB5 (k + 1) (fun t6 => some t6) r [c] k (by simp) (by simp; omega) (by omega);simp only [List.length_singleton, List.singleton_append] at this;rw [show (0 : Int) + 1 = ((1 : Nat) : Int) from rfl, this]
   congr 2
   rw [List.takeWhile_cons, hw]
   simp
   omega
theorem Z1K {p : UInt8 → Bool} {l : List UInt8} : (l.takeWhile p).length = l.length ↔ l.all p = true := by
 induction l with
 | nil => simp
 | cons c r ih =>
  rw [List.takeWhile_cons, List.all_cons];cases hp : p c
  ·simp
  ·simp [ih]
theorem Z3r (n : Nat) (l : List UInt8) (hl : l.length ≤ 4294967296) (hn : l.length + 1 ≤ n) : impl_isBigName.F n (bt l) = some (Z0o l) := by
 unfold impl_isBigName.F;rw [Z0C, Z9s];simp only [Option.bind_some];unfold Z0o
 by_cases h : 1 ≤ l.length ∧ l.length ≤ 20
 ·rw [if_pos (by simp; omega), Z4i n l hl hn, decide_eq_true h]
  simp only [Option.bind_some, Bool.true_and];cases l with
  | nil => simp at h
  | cons c r =>
   dsimp only;rw [Z26];have hsz : 0 < ((c :: r).length : Int) := by simp <;> omega
   have hq : (decide ((c.toNat : Int) ≤ 90)) = true → isLt c = true → Z5H c = true := by
    intro h1 h2;have h1 := of_decide_eq_true h1;unfold isLt Z5H at *
    simp at *
    omega
   have hq2 : Z5H c = true → isLt c = true ∧ decide ((c.toNat : Int) ≤ 90) = true := by
    intro h1;unfold isLt Z5H at *
    simp at *
    omega
   rcases Z25 (isLt c) with hlt | hlt
   ·have hb : Z5H c = false := by cases hb : Z5H c with | false => rfl | true => rw [(hq2 hb).1] at hlt; cases hlt
    simp only [hlt, hb];rw [if_neg (by simp; omega)]
    rfl
   ·simp only [hlt, if_true]
    by_cases hall : (c :: r).all isW = true
    ·rw [Z1K.2 hall, if_pos (by simp), if_pos ⟨by omega, hsz⟩, hall]
     congr 1
     cases hb : Z5H c
     ·cases hd : decide ((c.toNat : Int) ≤ 90) with
      | false => rfl
      | true => rw [hq hd hlt] at hb; cases hb
     ·rw [(hq2 hb).2]; rfl
    ·have : ¬ ((c :: r).takeWhile isW).length = (c :: r).length := fun e => hall (Z1K.1 e)
     rw [if_neg (by simp only [decide_eq_true_eq]; omega), Bool.eq_false_iff.2 hall]
     simp
 ·rw [if_neg (by simp; omega), decide_eq_false h]
  rfl
theorem ZAY (n : Nat) : ∀ (r pre : List UInt8) (k : Nat), (pre ++ r).length ≤ 4294967296 → r.length + 1 ≤ k →
  impl_symbolLong.l0 n (bt (pre ++ r)) (fun _ => some 0) k (pre.length : Int) =
   some (if pre.length + (r.takeWhile Z0b).length ≤ 21 ∧ r[(r.takeWhile Z0b).length]? = some 34 then ((pre.length + (r.takeWhile Z0b).length + 1 : Nat) : Int) else 0)
 | r, pre, 0, _, hk => by omega
 | [], pre, k + 1, hl, hk => by
  unfold impl_symbolLong.l0;rw [Z0C, if_neg (by simp), if_neg (by simp)]
 | c :: r, pre, k + 1, hl, hk => by
  unfold impl_symbolLong.l0;simp only [List.length_append, List.length_cons] at hl;rw [Z0C, if_pos (decide_eq_true (Z1g pre r c))]
  by_cases h21 : pre.length ≤ 21
  ·rw [if_pos (by simp; omega)]
   unfold impl_symbolLong.j1;rw [Z0C, if_pos (Z0e pre r c), Z1S, List.takeWhile_cons]
   by_cases hq : c.toNat = 34
   ·have hpl : Z0b c = false := by unfold Z0b; simp; omega
    have hc : c = 34 := UInt8.toNat_inj.1 hq;rw [if_pos (by simp; omega), hpl, Z09 _ (by omega) (by omega), if_pos]
    ·simp
    ·simp [hc]; omega
   ·rw [if_neg (by simp; omega), if_pos (Z0e pre r c)]
    have hc : ¬ c = 34 := fun e => hq (by rw [e]; rfl)
    rcases Z25 (Z0b c) with hpl | hpl
    ·have hpl' := hpl
     simp only [Z0b, decide_eq_false_iff_not] at hpl;have z : ∀ (P : Prop) [Decidable P], (if (decide ((c.toNat : Int) < 32)) = false then (if (0 : Int) ≤ (pre.length : Int) ∧ (pre.length : Int) < ((pre ++ c :: r).length : Int) then (if (decide ((c.toNat : Int) > 126)) = false then (if (0 : Int) ≤ (pre.length : Int) ∧ (pre.length : Int) < ((pre ++ c :: r).length : Int) then (if decide ((c.toNat : Int) = 92) = true then some (0 : Int) else impl_symbolLong.l0 n (bt (pre ++ c :: r)) (fun _ => some 0) k (IntKind.i64.wrap ((pre.length : Int) + 1))) else none) else some 0) else none) else some 0) = some 0 := by
      intro P _
      by_cases h1 : c.toNat < 32
      ·rw [if_neg (by simp; omega)]
      ·rw [if_pos (by simp; omega), if_pos (Z0e pre r c)]
       by_cases h2 : 126 < c.toNat
       ·rw [if_neg (by simp; omega)]
       ·rw [if_pos (by simp; omega), if_pos (Z0e pre r c), if_pos (by simp; omega)]
     rw [z True, hpl']
     simp [hc]
    ·have hpl' := hpl
     simp only [Z0b, decide_eq_true_eq] at hpl;rw [hpl'];rw [if_pos (by simp; omega), if_pos (Z0e pre r c), if_pos (by simp; omega), if_pos (Z0e pre r c), if_neg (by simp; omega), Z09 _ (by omega) (by omega), Z2q pre c, Z1f];refine (ZAY n r (pre ++ [c]) k (by simp; omega) (by simpa using hk)).trans ?_
     congr 1
     simp only [if_true, List.length_append, List.length_singleton, List.length_cons, List.length_nil, Nat.zero_add, List.getElem?_cons_succ];have e1 : pre.length + 1 + (r.takeWhile Z0b).length = pre.length + ((r.takeWhile Z0b).length + 1) := by omega
     rw [e1]
  ·rw [if_neg (by simp; omega), if_neg (by omega)]
theorem Z61 (n : Nat) (c : UInt8) (r : List UInt8) (hl : r.length ≤ 4294967000) (hn : r.length + 1 ≤ n) :
  impl_symbolLong.F n (bt (c :: r)) = some (if (r.takeWhile Z0b).length ≤ 20 ∧ r[(r.takeWhile Z0b).length]? = some 34 then (((r.takeWhile Z0b).length + 2 : Nat) : Int) else 0) := by
 unfold impl_symbolLong.F;have := ZAY n r [c] n (by simp; omega) hn;simp only [List.length_singleton, List.singleton_append] at this;rw [show ((1 : Nat) : Int) = 1 from rfl] at this;rw [this]
 congr 1
 have e1 : 1 + (r.takeWhile Z0b).length + 1 = (r.takeWhile Z0b).length + 2 := by omega
 rw [e1]
 by_cases h : (r.takeWhile Z0b).length ≤ 20 ∧ r[(r.takeWhile Z0b).length]? = some 34
 ·rw [if_pos ⟨by omega, h.2⟩, if_pos h]
 ·rw [if_neg (by rintro ⟨h1, h2⟩; exact h ⟨by omega, h2⟩), if_neg h]
end Go.Abs
