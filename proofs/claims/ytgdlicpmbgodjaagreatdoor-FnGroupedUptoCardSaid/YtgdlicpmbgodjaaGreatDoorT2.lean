/- Letters, names and symbols: what the program's and the reference's small functions answer. Conditions: none. -/
import Derived.Test.YtgdlicpmbgodjaaGreatDoorT1
namespace Go.Abs
set_option linter.unusedVariables false
set_option linter.unusedSimpArgs false
theorem bcase (b : Bool) : b = false ∨ b = true := by cases b <;> simp
def isDg (b : UInt8) : Bool := decide (48 ≤ b.toNat ∧ b.toNat ≤ 57)
def isBg (b : UInt8) : Bool := decide (65 ≤ b.toNat ∧ b.toNat ≤ 90)
def isLt (b : UInt8) : Bool := decide (97 ≤ b.toNat ∧ b.toNat ≤ 122) || isBg b
def isW (b : UInt8) : Bool := isLt b || isDg b || decide (b.toNat = 95)
def plainB (b : UInt8) : Bool := decide (32 ≤ b.toNat ∧ b.toNat ≤ 126 ∧ b.toNat ≠ 34 ∧ b.toNat ≠ 92)
theorem in_eq (n : Nat) (a b c : Int) : impl_in.F n a b c = some (decide (b ≤ a ∧ a ≤ c)) := by
 unfold impl_in.F
 by_cases h : b ≤ a
 ·rw [if_pos (by simpa using h)]
  simp [h]
 ·rw [if_neg (by simpa using h)]
  simp [h]
theorem iDigit_eq (n : Nat) (b : UInt8) : impl_isDigit.F n (b.toNat : Int) = some (isDg b) := by
 unfold impl_isDigit.F isDg
 by_cases h : 48 ≤ b.toNat
 ·rw [if_pos (by simp; omega)]
  congr 1
  rw [decide_eq_decide]
  omega
 ·rw [if_neg (by simp; omega)]
  congr 1
  symm
  rw [decide_eq_false_iff_not]
  omega
theorem big_part (b : UInt8) : (if decide ((b.toNat : Int) ≥ 65) = true then some (decide ((b.toNat : Int) ≤ 90)) else some false) = some (isBg b) := by
 unfold isBg
 by_cases h : 65 ≤ b.toNat
 ·rw [if_pos (by simp; omega)]
  congr 1
  rw [decide_eq_decide]
  omega
 ·rw [if_neg (by simp; omega)]
  congr 1
  symm
  rw [decide_eq_false_iff_not]
  omega
theorem iLetter_eq (n : Nat) (b : UInt8) : impl_isLetter.F n (b.toNat : Int) = some (isLt b) := by
 unfold impl_isLetter.F
 rw [big_part]
 unfold isLt
 by_cases h : 97 ≤ b.toNat
 ·rw [if_pos (by simp; omega)]
  by_cases h2 : b.toNat ≤ 122
  ·rw [if_neg (by simp; omega), decide_eq_true (⟨h, h2⟩ : 97 ≤ b.toNat ∧ b.toNat ≤ 122)]
   rfl
  ·rw [if_pos (by simp; omega), decide_eq_false (by omega : ¬ (97 ≤ b.toNat ∧ b.toNat ≤ 122))]
   rfl
 ·rw [if_neg (by simp; omega), decide_eq_false (by omega : ¬ (97 ≤ b.toNat ∧ b.toNat ≤ 122))]
  rfl
theorem iWord_eq (n : Nat) (b : UInt8) : impl_isWordByte.F n (b.toNat : Int) = some (isW b) := by
 unfold impl_isWordByte.F
 rw [iLetter_eq]
 simp only [Option.bind_some]
 rw [iDigit_eq]
 simp only [Option.bind_some]
 unfold isW
 cases isLt b
 ·cases isDg b
  ·simp
   omega
  ·simp
 ·simp
theorem sSmall_eq (n : Nat) (b : UInt8) : spec_l01Small.F n (b.toNat : Int) = some (decide (97 ≤ b.toNat ∧ b.toNat ≤ 122)) := by
 unfold spec_l01Small.F
 by_cases h : 97 ≤ b.toNat
 ·rw [if_pos (by simp; omega)]
  congr 1
  rw [decide_eq_decide]
  omega
 ·rw [if_neg (by simp; omega)]
  congr 1
  symm
  rw [decide_eq_false_iff_not]
  omega
theorem sBig_eq (n : Nat) (b : UInt8) : spec_l01Big.F n (b.toNat : Int) = some (isBg b) := by
 unfold spec_l01Big.F
 exact big_part b
theorem sDigit_eq (n : Nat) (b : UInt8) : spec_l01Digit.F n (b.toNat : Int) = some (isDg b) := by
 rw [l01Digit_eq]
 unfold isDg
 congr 1
 rw [decide_eq_decide]
 omega
theorem sLetter_eq (n : Nat) (b : UInt8) : spec_l01Letter.F n (b.toNat : Int) = some (isW b) := by
 unfold spec_l01Letter.F
 rw [sSmall_eq]
 simp only [Option.bind_some]
 rw [sBig_eq]
 simp only [Option.bind_some]
 rw [sDigit_eq]
 simp only [Option.bind_some]
 unfold isW isLt
 cases decide (97 ≤ b.toNat ∧ b.toNat ≤ 122)
 ·cases isBg b
  ·cases isDg b
   ·simp
    omega
   ·simp
  ·simp
 ·simp
def bigName (l : List UInt8) : Bool := decide (1 ≤ l.length ∧ l.length ≤ 20) && (match l with | [] => false | c :: _ => isBg c) && l.all isW
theorem at_mid (pre r : List UInt8) (c : UInt8) : byteAt (bt (pre ++ c :: r)) (pre.length : Int) = (c.toNat : Int) := by rw [bt_at, getD_mid]
theorem at_zero (c : UInt8) (r : List UInt8) : byteAt (bt (c :: r)) 0 = (c.toNat : Int) := by have := bt_at (c :: r) 0; simpa using this
theorem lt_mid (pre r : List UInt8) (c : UInt8) : (pre.length : Int) < ((pre ++ c :: r).length : Int) := by simp; omega
theorem in_mid (pre r : List UInt8) (c : UInt8) : (0 : Int) ≤ (pre.length : Int) ∧ (pre.length : Int) < ((pre ++ c :: r).length : Int) := ⟨by omega, lt_mid pre r c⟩
theorem succ_mid (pre : List UInt8) (c : UInt8) : (pre.length : Int) + 1 = ((pre ++ [c]).length : Int) := by simp
theorem assoc_mid (pre r : List UInt8) (c : UInt8) : pre ++ c :: r = (pre ++ [c]) ++ r := by simp
theorem name_loop (n : Nat) (K : Unit → Option Bool) : ∀ (r pre : List UInt8) (k : Nat), (pre ++ r).length ≤ 4294967296 → r.length + 1 ≤ k →
  spec_l01Name.l1 n (bt (pre ++ r)) K k (pre.length : Int) = if r.all isW = true then K () else some false
 | r, pre, 0, _, hk => by omega
 | [], pre, k + 1, hl, hk => by
  unfold spec_l01Name.l1
  rw [bt_size, if_neg (by simp)]
  rfl
 | c :: r, pre, k + 1, hl, hk => by
  unfold spec_l01Name.l1
  rw [bt_size, if_pos (decide_eq_true (lt_mid pre r c)), if_pos (in_mid pre r c), at_mid, sLetter_eq]
  simp only [Option.bind_some, List.all_cons]
  rcases bcase (isW c) with hw | hw
  ·simp [hw]
  ·simp only [hw, Bool.not_true, Bool.false_eq_true, if_false, Bool.true_and]
   simp only [List.length_append, List.length_cons] at hl
   rw [wrap64 _ (by omega) (by omega), succ_mid pre c, assoc_mid]
   exact name_loop n K r (pre ++ [c]) k (by simp; omega) (by simpa using hk)
theorem l01Name_eq (n : Nat) (l : List UInt8) (hl : l.length ≤ 4294967296) (hn : l.length + 1 ≤ n) : spec_l01Name.F n (bt l) true = some (bigName l) := by
 unfold spec_l01Name.F
 rw [bt_size, l01Between_eq]
 simp only [Option.bind_some]
 by_cases h : 1 ≤ l.length ∧ l.length ≤ 20
 ·rw [if_pos (by simp; omega), if_pos trivial]
  cases l with
  | nil => simp at h
  | cons c r =>
   rw [if_pos (by simp <;> omega), at_zero, sBig_eq]
   simp only [Option.bind_some]
   unfold bigName
   rw [decide_eq_true h]
   rcases bcase (isBg c) with hb | hb
   ·simp [hb]
   ·simp only [hb, Bool.not_true, if_true, Bool.false_eq_true, if_false, Bool.true_and]
    unfold spec_l01Name.j0
    have := name_loop n (fun _ => some true) (c :: r) [] n (by simpa using hl) hn
    simp only [List.nil_append, List.length_nil] at this
    rw [show ((0 : Nat) : Int) = 0 from rfl] at this
    rw [this]
    rcases bcase ((c :: r).all isW) with hw | hw <;> simp [hw]
 ·rw [if_neg (by simp; omega)]
  unfold bigName
  rw [decide_eq_false h]
  rfl
theorem nl_loop (n : Nat) (K : Int → Option Int) : ∀ (r pre : List UInt8) (k : Nat), pre ≠ [] → (pre ++ r).length ≤ 4294967296 → r.length + 1 ≤ k →
  impl_nameLong.l0 n (bt (pre ++ r)) K k (pre.length : Int) = K ((pre.length + (r.takeWhile isW).length : Nat) : Int)
 | r, pre, 0, _, _, hk => by omega
 | [], pre, k + 1, hp, hl, hk => by
  unfold impl_nameLong.l0
  rw [bt_size, if_neg (by simp)]
  rfl
 | c :: r, pre, k + 1, hp, hl, hk => by
  unfold impl_nameLong.l0
  rw [bt_size, if_pos (decide_eq_true (lt_mid pre r c)), if_pos (in_mid pre r c), at_mid, iWord_eq]
  simp only [Option.bind_some, List.takeWhile_cons]
  have hp0 : 0 < pre.length := List.length_pos_iff.2 hp
  rcases bcase (isW c) with hw | hw
  ·simp [hw]
  ·simp only [hw, if_true]
   simp only [List.length_append, List.length_cons] at hl
   rw [if_neg (by simp; omega), wrap64 _ (by omega) (by omega), succ_mid pre c, assoc_mid, nl_loop n K r (pre ++ [c]) k (by simp) (by simp; omega) (by simpa using hk)]
   congr 2
   simp
   omega
theorem nameLong_eq (n : Nat) (l : List UInt8) (hl : l.length ≤ 4294967296) (hn : l.length + 1 ≤ n) :
  impl_nameLong.F n (bt l) = some ((match l with | [] => 0 | c :: _ => if isLt c = true then (l.takeWhile isW).length else 0 : Nat) : Int) := by
 unfold impl_nameLong.F
 cases l with
 | nil =>
  obtain ⟨k, rfl⟩ : ∃ k, n = k + 1 := ⟨n - 1, by omega⟩
  unfold impl_nameLong.l0
  rw [bt_size, if_neg (by simp)]
  rfl
 | cons c r =>
  obtain ⟨k, rfl⟩ : ∃ k, n = k + 1 := ⟨n - 1, by omega⟩
  unfold impl_nameLong.l0
  simp only [List.length_cons] at hl hn
  rw [bt_size, if_pos (by simp <;> omega), if_pos (by simp <;> omega), at_zero, iWord_eq]
  simp only [Option.bind_some]
  have hz : decide ((0 : Int) > 0) = false := by simp
  have hin : (0 : Int) ≤ 0 ∧ 0 < ((c :: r).length : Int) := ⟨by omega, by simp <;> omega⟩
  rw [iLetter_eq, if_pos hz, if_pos hin]
  simp only [Option.bind_some]
  rcases bcase (isLt c) with ht | ht
  ·rcases bcase (isW c) with hw | hw <;> simp [hw, ht]
  ·have hw : isW c = true := by unfold isW; rw [ht]; rfl
   simp only [hw, ht, if_true]
   rw [wrap64 _ (by omega) (by omega)]
   have := nl_loop (k + 1) (fun t6 => some t6) r [c] k (by simp) (by simp; omega) (by omega)
   simp only [List.length_singleton, List.singleton_append] at this
   rw [show (0 : Int) + 1 = ((1 : Nat) : Int) from rfl, this]
   congr 2
   rw [List.takeWhile_cons, hw]
   simp
   omega
theorem takeWhile_all {p : UInt8 → Bool} {l : List UInt8} : (l.takeWhile p).length = l.length ↔ l.all p = true := by
 induction l with
 | nil => simp
 | cons c r ih =>
  rw [List.takeWhile_cons, List.all_cons]
  cases hp : p c
  ·simp
  ·simp [ih]
theorem isBigName_eq (n : Nat) (l : List UInt8) (hl : l.length ≤ 4294967296) (hn : l.length + 1 ≤ n) : impl_isBigName.F n (bt l) = some (bigName l) := by
 unfold impl_isBigName.F
 rw [bt_size, in_eq]
 simp only [Option.bind_some]
 unfold bigName
 by_cases h : 1 ≤ l.length ∧ l.length ≤ 20
 ·rw [if_pos (by simp; omega), nameLong_eq n l hl hn, decide_eq_true h]
  simp only [Option.bind_some, Bool.true_and]
  cases l with
  | nil => simp at h
  | cons c r =>
   dsimp only
   rw [at_zero]
   have hsz : 0 < ((c :: r).length : Int) := by simp <;> omega
   have hq : (decide ((c.toNat : Int) ≤ 90)) = true → isLt c = true → isBg c = true := by
    intro h1 h2
    have h1 := of_decide_eq_true h1
    unfold isLt isBg at *
    simp at *
    omega
   have hq2 : isBg c = true → isLt c = true ∧ decide ((c.toNat : Int) ≤ 90) = true := by
    intro h1
    unfold isLt isBg at *
    simp at *
    omega
   rcases bcase (isLt c) with hlt | hlt
   ·have hb : isBg c = false := by cases hb : isBg c with | false => rfl | true => rw [(hq2 hb).1] at hlt; cases hlt
    simp only [hlt, hb]
    rw [if_neg (by simp; omega)]
    rfl
   ·simp only [hlt, if_true]
    by_cases hall : (c :: r).all isW = true
    ·rw [takeWhile_all.2 hall, if_pos (by simp), if_pos ⟨by omega, hsz⟩, hall]
     congr 1
     cases hb : isBg c
     ·cases hd : decide ((c.toNat : Int) ≤ 90) with
      | false => rfl
      | true => rw [hq hd hlt] at hb; cases hb
     ·rw [(hq2 hb).2]; rfl
    ·have : ¬ ((c :: r).takeWhile isW).length = (c :: r).length := fun e => hall (takeWhile_all.1 e)
     rw [if_neg (by simp only [decide_eq_true_eq]; omega), Bool.eq_false_iff.2 hall]
     simp
 ·rw [if_neg (by simp; omega), decide_eq_false h]
  rfl
theorem sl_loop (n : Nat) : ∀ (r pre : List UInt8) (k : Nat), (pre ++ r).length ≤ 4294967296 → r.length + 1 ≤ k →
  impl_symbolLong.l0 n (bt (pre ++ r)) (fun _ => some 0) k (pre.length : Int) =
   some (if pre.length + (r.takeWhile plainB).length ≤ 21 ∧ r[(r.takeWhile plainB).length]? = some 34 then ((pre.length + (r.takeWhile plainB).length + 1 : Nat) : Int) else 0)
 | r, pre, 0, _, hk => by omega
 | [], pre, k + 1, hl, hk => by
  unfold impl_symbolLong.l0
  rw [bt_size, if_neg (by simp), if_neg (by simp)]
 | c :: r, pre, k + 1, hl, hk => by
  unfold impl_symbolLong.l0
  simp only [List.length_append, List.length_cons] at hl
  rw [bt_size, if_pos (decide_eq_true (lt_mid pre r c))]
  by_cases h21 : pre.length ≤ 21
  ·rw [if_pos (by simp; omega)]
   unfold impl_symbolLong.j1
   rw [bt_size, if_pos (in_mid pre r c), at_mid, List.takeWhile_cons]
   by_cases hq : c.toNat = 34
   ·have hpl : plainB c = false := by unfold plainB; simp; omega
    have hc : c = 34 := UInt8.toNat_inj.1 hq
    rw [if_pos (by simp; omega), hpl, wrap64 _ (by omega) (by omega), if_pos]
    ·simp
    ·simp [hc]; omega
   ·rw [if_neg (by simp; omega), if_pos (in_mid pre r c)]
    have hc : ¬ c = 34 := fun e => hq (by rw [e]; rfl)
    rcases bcase (plainB c) with hpl | hpl
    ·have hpl' := hpl
     simp only [plainB, decide_eq_false_iff_not] at hpl
     have z : ∀ (P : Prop) [Decidable P], (if (decide ((c.toNat : Int) < 32)) = false then (if (0 : Int) ≤ (pre.length : Int) ∧ (pre.length : Int) < ((pre ++ c :: r).length : Int) then (if (decide ((c.toNat : Int) > 126)) = false then (if (0 : Int) ≤ (pre.length : Int) ∧ (pre.length : Int) < ((pre ++ c :: r).length : Int) then (if decide ((c.toNat : Int) = 92) = true then some (0 : Int) else impl_symbolLong.l0 n (bt (pre ++ c :: r)) (fun _ => some 0) k (IntKind.i64.wrap ((pre.length : Int) + 1))) else none) else some 0) else none) else some 0) = some 0 := by
      intro P _
      by_cases h1 : c.toNat < 32
      ·rw [if_neg (by simp; omega)]
      ·rw [if_pos (by simp; omega), if_pos (in_mid pre r c)]
       by_cases h2 : 126 < c.toNat
       ·rw [if_neg (by simp; omega)]
       ·rw [if_pos (by simp; omega), if_pos (in_mid pre r c), if_pos (by simp; omega)]
     rw [z True, hpl']
     simp [hc]
    ·have hpl' := hpl
     simp only [plainB, decide_eq_true_eq] at hpl
     rw [hpl']
     rw [if_pos (by simp; omega), if_pos (in_mid pre r c), if_pos (by simp; omega), if_pos (in_mid pre r c), if_neg (by simp; omega), wrap64 _ (by omega) (by omega), succ_mid pre c, assoc_mid]
     refine (sl_loop n r (pre ++ [c]) k (by simp; omega) (by simpa using hk)).trans ?_
     congr 1
     simp only [if_true, List.length_append, List.length_singleton, List.length_cons, List.length_nil, Nat.zero_add, List.getElem?_cons_succ]
     have e1 : pre.length + 1 + (r.takeWhile plainB).length = pre.length + ((r.takeWhile plainB).length + 1) := by omega
     rw [e1]
  ·rw [if_neg (by simp; omega), if_neg (by omega)]
theorem symbolLong_eq (n : Nat) (c : UInt8) (r : List UInt8) (hl : r.length ≤ 4294967000) (hn : r.length + 1 ≤ n) :
  impl_symbolLong.F n (bt (c :: r)) = some (if (r.takeWhile plainB).length ≤ 20 ∧ r[(r.takeWhile plainB).length]? = some 34 then (((r.takeWhile plainB).length + 2 : Nat) : Int) else 0) := by
 unfold impl_symbolLong.F
 have := sl_loop n r [c] n (by simp; omega) hn
 simp only [List.length_singleton, List.singleton_append] at this
 rw [show ((1 : Nat) : Int) = 1 from rfl] at this
 rw [this]
 congr 1
 have e1 : 1 + (r.takeWhile plainB).length + 1 = (r.takeWhile plainB).length + 2 := by omega
 rw [e1]
 by_cases h : (r.takeWhile plainB).length ≤ 20 ∧ r[(r.takeWhile plainB).length]? = some 34
 ·rw [if_pos ⟨by omega, h.2⟩, if_pos h]
 ·rw [if_neg (by rintro ⟨h1, h2⟩; exact h ⟨by omega, h2⟩), if_neg h]
end Go.Abs
