/- Terms: the grammar, and that the program's termAt reads the term at the front of a text. Conditions: none. -/
import Derived.Test.YtgdlicpmbgodjaaGreatDoorT2
namespace Go.Abs
set_option linter.unusedVariables false
set_option linter.unusedSimpArgs false
def Z02 : List (List UInt8) → List UInt8
 | [] => []
 | a :: bs => 44 :: (a ++ Z02 bs)
inductive Tm : Nat → List UInt8 → Prop where
 | num (x : Int) (h0 : -1000000 ≤ x) (h1 : x ≤ 1000000) : Tm 1 (Lib.itoa x)
 | sym (m : List UInt8) (h : m.length ≤ 20) (hp : m.all Z0b = true) : Tm 2 (34 :: (m ++ [34]))
 | con0 (nm : List UInt8) (h : Z0o nm = true) : Tm 3 nm
 | con (nm a : List UInt8) (bs : List (List UInt8)) (h : Z0o nm = true) (ks : List UInt8 → Nat) (hh : ∀ x ∈ a :: bs, Tm (ks x) x) : Tm 3 (nm ++ 40 :: (a ++ (Z02 bs ++ [41])))
theorem Tm.kind {k : Nat} {l : List UInt8} (h : Tm k l) : 1 ≤ k ∧ k ≤ 3 := by cases h <;> omega
def Z9V (l : List UInt8) : Prop := l = [] ∨ ∃ c r, l = c :: r ∧ (c = 44 ∨ c = 41)
theorem Z0w {nm : List UInt8} (h : Z0o nm = true) : ∃ c r, nm = c :: r ∧ Z5H c = true ∧ nm.length ≤ 20 ∧ nm.all isW = true := by
 unfold Z0o at h;simp only [Bool.and_eq_true, decide_eq_true_eq] at h;cases nm with
 | nil => simp at h
 | cons c r => exact ⟨c, r, rfl, h.1.2, h.1.1.2, h.2⟩
theorem Z4t {x : Int} (h0 : -1000000 ≤ x) (h1 : x ≤ 1000000) : ∃ c r, Lib.itoa x = c :: r ∧ (c = 45 ∨ Z1r c = true) ∧ r.all Z1r = true := by
 have all : ∀ u, (Lib.decDigits u).all Z1r = true := by
  intro u;rw [List.all_eq_true];intro b hb;unfold Z1r;exact decide_eq_true (Z5m u b hb)
 obtain ⟨u, hu, h | h⟩ := Z5b h0 h1
 ·exact ⟨45, _, h.2.2, .inl rfl, all u⟩
 ·obtain ⟨c, r, hc, h2, h3⟩ := Z6P u
  have := all u;rw [hc, List.all_cons, Bool.and_eq_true] at this;exact ⟨c, r, by rw [h.2, hc], .inr this.1, this.2⟩
theorem Tm.ne {k : Nat} {l : List UInt8} (h : Tm k l) : l ≠ [] := by
 cases h with
 | num x h0 h1 => obtain ⟨c, r, hc, _⟩ := Z4t h0 h1; rw [hc]; simp
 | sym m h hp => simp
 | con0 nm h => obtain ⟨c, r, hc, _⟩ := Z0w h; rw [hc]; simp
 | con nm a bs h ks hh => simp
theorem Z1C {p : UInt8 → Bool} {a r : List UInt8} (ha : a.all p = true) (hr : r = [] ∨ ∃ c t, r = c :: t ∧ p c = false) : (a ++ r).takeWhile p = a := by
 induction a with
 | nil =>
  rcases hr with rfl | ⟨c, t, rfl, hc⟩
  ·rfl
  ·simp [hc]
 | cons c a ih =>
  rw [List.all_cons, Bool.and_eq_true] at ha;rw [List.cons_append, List.takeWhile_cons, ha.1, if_pos rfl, ih ha.2]
theorem ZAT {p : UInt8 → Bool} (h1 : p 44 = false) (h2 : p 41 = false) {r : List UInt8} (h : Z9V r) : r = [] ∨ ∃ c t, r = c :: t ∧ p c = false := by
 rcases h with rfl | ⟨c, t, rfl, rfl | rfl⟩
 ·exact .inl rfl
 ·exact .inr ⟨_, _, rfl, h1⟩
 ·exact .inr ⟨_, _, rfl, h2⟩
theorem ZBU (n : Nat) (self : ByteArray → Option (Int × Int)) (K : Int → Option (Int × Int)) : ∀ (r pre : List UInt8) (k : Nat), (pre ++ r).length ≤ 4294967296 → r.length + 1 ≤ k →
  impl_termAt.l1 n self (bt (pre ++ r)) K k (pre.length : Int) = K ((pre.length + (r.takeWhile Z1r).length : Nat) : Int)
 | r, pre, 0, _, hk => by omega
 | [], pre, k + 1, hl, hk => by
  unfold impl_termAt.l1;rw [Z0C, if_neg (by simp)]
  rfl
 | c :: r, pre, k + 1, hl, hk => by
  unfold impl_termAt.l1;rw [Z0C, if_pos (decide_eq_true (Z1g pre r c)), if_pos (Z0e pre r c), Z1S, Z2i];simp only [Option.bind_some, List.takeWhile_cons];rcases Z25 (Z1r c) with hw | hw
  ·simp [hw]
  ·simp only [hw, if_true]
   simp only [List.length_append, List.length_cons] at hl;rw [Z09 _ (by omega) (by omega), Z2q pre c, Z1f, ZBU n self K r (pre ++ [c]) k (by simp; omega) (by simpa using hk)]
   congr 2
   simp
   omega
theorem num_at (n : Nat) (self : ByteArray → Option (Int × Int)) (c : UInt8) (r : List UInt8) (Kn : Unit → Option (Int × Int)) (hl : r.length ≤ 4294960000) (hn : r.length + 1 ≤ n) :
  (Z5G (c :: r.takeWhile Z1r) → impl_termAt.j0 n self (bt (c :: r)) true Kn = some (1, (((c :: r.takeWhile Z1r).length : Nat) : Int))) ∧
  (¬ Z5G (c :: r.takeWhile Z1r) → impl_termAt.j0 n self (bt (c :: r)) true Kn = Kn ()) := by
 have hw : (r.takeWhile Z1r).length ≤ r.length := (List.takeWhile_prefix Z1r).length_le;have htk : (c :: r).take (r.takeWhile Z1r).length.succ = c :: r.takeWhile Z1r := by
  rw [List.take_succ_cons]
  congr 1
  exact (List.prefix_iff_eq_take.1 (List.takeWhile_prefix Z1r)).symm
 have key : impl_termAt.j0 n self (bt (c :: r)) true Kn =
   (match Lib.atoiAll (c :: r.takeWhile Z1r) with
    | .ok v => if -1000000 ≤ v ∧ v ≤ 1000000 ∧ Lib.itoa v = c :: r.takeWhile Z1r then some (1, (((c :: r.takeWhile Z1r).length : Nat) : Int)) else Kn ()
    | _ => Kn ()) := by
  unfold impl_termAt.j0;rw [if_pos rfl];have := ZBU n self (fun t9 =>
   if (0 : Int) ≤ 0 ∧ (0 : Int) ≤ t9 ∧ t9 ≤ (ByteArray.size (bt (c :: r)) : Int) then
    (strconv_Atoi.F n (ByteArray.extract (bt (c :: r)) (Int.toNat 0) (Int.toNat t9))).bind fun r10 =>
    if (r10.2 && false) = true then
     none
    else
     if (r10.2 == false) = true then
      (impl_in.F n r10.1 (-1000000) 1000000).bind fun r11 =>
      if r11 = true then
       (strconv_Itoa.F n r10.1).bind fun r12 =>
       if (0 : Int) ≤ 0 ∧ (0 : Int) ≤ t9 ∧ t9 ≤ (ByteArray.size (bt (c :: r)) : Int) then
        if (Abs.seq r12 (ByteArray.extract (bt (c :: r)) (Int.toNat 0) (Int.toNat t9))) = true then
         some (1, t9)
        else
         Kn ()
       else
        none
      else
       Kn ()
     else
      Kn ()
   else
    none) r [c] n (by simp; omega) hn
  simp only [List.length_singleton, List.singleton_append] at this;rw [show ((1 : Nat) : Int) = 1 from rfl] at this;rw [this];have hin : (0 : Int) ≤ 0 ∧ (0 : Int) ≤ ((1 + (r.takeWhile Z1r).length : Nat) : Int) ∧ ((1 + (r.takeWhile Z1r).length : Nat) : Int) ≤ (ByteArray.size (bt (c :: r)) : Int) := by
   rw [Z0C, List.length_cons];omega
  have hex : ByteArray.extract (bt (c :: r)) (Int.toNat 0) (Int.toNat ((1 + (r.takeWhile Z1r).length : Nat) : Int)) = bt (c :: r.takeWhile Z1r) := by
   rw [Z1Y, Int.toNat_natCast, show Int.toNat 0 = 0 from rfl, List.drop_zero, Nat.add_comm, htk]
  have hlen : ((1 + (r.takeWhile Z1r).length : Nat) : Int) = (((c :: r.takeWhile Z1r).length : Nat) : Int) := by rw [List.length_cons, Nat.add_comm]
  rw [if_pos hin, hex];unfold strconv_Atoi.F;rw [if_pos (by rw [Z0C, List.length_cons]; omega), Z1B];simp only [Option.bind_some, Bool.and_false, Bool.false_eq_true, if_false];rcases Lib.atoiAll (c :: r.takeWhile Z1r) with v | _ | _
  ·dsimp only
   rw [if_pos (show (false == false) = true from rfl), Z9s];simp only [Option.bind_some]
   by_cases hr : -1000000 ≤ v ∧ v ≤ 1000000
   ·rw [if_pos (decide_eq_true hr)]
    unfold strconv_Itoa.F;rw [if_pos (by omega)];simp only [Option.bind_some];rw [if_pos hin, bt_mk, Z1D, hlen]
    by_cases he : Lib.itoa v = c :: r.takeWhile Z1r
    ·rw [if_pos (by simpa using he), if_pos ⟨hr.1, hr.2, he⟩]
    ·rw [if_neg (by simpa using he), if_neg (fun h => he h.2.2)]
   ·rw [if_neg (by simpa using hr), if_neg (fun h => hr ⟨h.1, h.2.1⟩)]
  ·rfl
  ·rfl
 rw [key]
 constructor
 ·rintro ⟨x, h0, h1, hx⟩
  rw [hx, Z1E x h0 h1];dsimp only;rw [if_pos ⟨h0, h1, rfl⟩]
 ·intro hno
  rcases h : Lib.atoiAll (c :: r.takeWhile Z1r) with v | _ | _
  ·dsimp only
   rw [if_neg];rintro ⟨h0, h1, h2⟩;exact hno ⟨v, h0, h1, h2.symm⟩
  ·rfl
  ·rfl
def TR (l : List UInt8) (res : Int × Int) : Prop := res = (0, 0) ∨ ∃ (k : Nat) (t rest : List UInt8), res = ((k : Int), (t.length : Int)) ∧ Tm k t ∧ l = t ++ rest
theorem Z1z (l : List UInt8) (p : Nat) : ByteArray.extract (bt l) (Int.toNat (p : Int)) (Int.toNat (ByteArray.size (bt l) : Int)) = bt (l.drop p) := by
 rw [Z1Y, Z0C, Int.toNat_natCast, Int.toNat_natCast, List.take_length]
theorem Z8p (n : Nat) (self : ByteArray → Option (Int × Int)) (l : List UInt8) (K : Int → Option (Int × Int)) (hl : l.length ≤ 4294960000)
  (hS : ∀ l' : List UInt8, l'.length < l.length → ∃ res, self (bt l') = some res ∧ TR l' res) : ∀ (k p : Nat), p < l.length → l.length - p + 1 ≤ k →
  impl_termAt.l4 n self (bt l) K k (p : Int) true = some (0, 0) ∨ ∃ (a : List UInt8) (bs : List (List UInt8)) (rest : List UInt8), l.drop (p + 1) = a ++ (Z02 bs ++ rest) ∧ (∀ x ∈ a :: bs, ∃ k, Tm k x) ∧
   impl_termAt.l4 n self (bt l) K k (p : Int) true = K ((p + 1 + (a ++ Z02 bs).length : Nat) : Int)
 | 0, p, _, hk => by omega
 | k + 1, p, hp, hk => by
  have hlen : (l.drop (p + 1)).length < l.length := by rw [List.length_drop]; omega
  obtain ⟨res, hres, htr⟩ := hS _ hlen;have hw1 : IntKind.i64.wrap ((p : Int) + 1) = ((p + 1 : Nat) : Int) := by rw [Z09 _ (by omega) (by omega)]; omega
  have hin : (0 : Int) ≤ ((p + 1 : Nat) : Int) ∧ ((p + 1 : Nat) : Int) ≤ (ByteArray.size (bt l) : Int) ∧ (ByteArray.size (bt l) : Int) ≤ (ByteArray.size (bt l) : Int) := by rw [Z0C]; omega
  have key : impl_termAt.l4 n self (bt l) K (k + 1) (p : Int) true =
    (if decide (res.1 = 0) = true then some (0, 0) else
     if (decide ((IntKind.i64.wrap ((p : Int) + (IntKind.i64.wrap (1 + res.2)))) < (ByteArray.size (bt l) : Int))) = true then
      if (0 : Int) ≤ (IntKind.i64.wrap ((p : Int) + (IntKind.i64.wrap (1 + res.2)))) ∧ (IntKind.i64.wrap ((p : Int) + (IntKind.i64.wrap (1 + res.2)))) < (ByteArray.size (bt l) : Int) then
       impl_termAt.l4 n self (bt l) K k (IntKind.i64.wrap ((p : Int) + (IntKind.i64.wrap (1 + res.2)))) (decide ((Z0N (bt l) (IntKind.i64.wrap ((p : Int) + (IntKind.i64.wrap (1 + res.2))))) = 44))
      else none
     else impl_termAt.l4 n self (bt l) K k (IntKind.i64.wrap ((p : Int) + (IntKind.i64.wrap (1 + res.2)))) false) := by
   conv => lhs; unfold impl_termAt.l4
   rw [if_pos rfl, hw1, if_pos hin, Z1z, hres]
   rfl
  rw [key];rcases htr with rfl | ⟨kk, t, rest, rfl, ht, hdr⟩
  ·left; rw [if_pos (by simp)]
  ·have hkk := ht.kind
   have htl : t.length + rest.length = l.length - (p + 1) := by rw [← List.length_drop, hdr, List.length_append]
   have hw2 : IntKind.i64.wrap ((p : Int) + (IntKind.i64.wrap (1 + (t.length : Int)))) = ((p + 1 + t.length : Nat) : Int) := by
    rw [Z09 (1 + (t.length : Int)) (by omega) (by omega), Z09 _ (by omega) (by omega)]; omega
   dsimp only;rw [if_neg (by simp; omega), hw2, Z0C];have stop : ∀ k', 1 ≤ k' → impl_termAt.l4 n self (bt l) K k' ((p + 1 + t.length : Nat) : Int) false = K ((p + 1 + t.length : Nat) : Int) := by
    intro k' hk';obtain ⟨j, rfl⟩ : ∃ j, k' = j + 1 := ⟨k' - 1, by omega⟩
    unfold impl_termAt.l4;rw [if_neg (by simp)]
   have fin : ∀ X, X = K ((p + 1 + t.length : Nat) : Int) → X = some (0, 0) ∨ ∃ (a : List UInt8) (bs : List (List UInt8)) (rest : List UInt8), l.drop (p + 1) = a ++ (Z02 bs ++ rest) ∧ (∀ x ∈ a :: bs, ∃ k, Tm k x) ∧
     X = K ((p + 1 + (a ++ Z02 bs).length : Nat) : Int) := by
    rintro X rfl;refine .inr ⟨t, [], rest, by rw [hdr]; rfl, fun x hx => ?_, by simp [Z02]⟩;simp only [List.mem_singleton] at hx;subst hx;exact ⟨kk, ht⟩
   have htne := ht.ne;have htpos : 0 < t.length := List.length_pos_iff.2 htne
   by_cases hlt : p + 1 + t.length < l.length
   ·rw [if_pos (by simp; omega), if_pos (by omega)]
    have hdrop : l.drop (p + 1 + t.length) = rest := by rw [← List.drop_drop, hdr, List.drop_left]
    cases rest with
    | nil => rw [List.drop_eq_nil_iff] at hdrop; omega
    | cons c r =>
     have hat : Z0N (bt l) ((p + 1 + t.length : Nat) : Int) = (c.toNat : Int) := by
      rw [ZA5]
      congr 2
      rw [List.getD_eq_getElem?_getD, ← List.head?_drop, hdrop]
      rfl
     rw [hat]
     by_cases hc : c = 44
     ·subst hc
      rw [show decide ((((44 : UInt8).toNat : Nat) : Int) = 44) = true from rfl];rcases Z8p n self l K hl hS k (p + 1 + t.length) hlt (by omega) with h | ⟨a, bs, rest2, h1, h2, h3⟩
      ·exact .inl h
      ·refine .inr ⟨t, a :: bs, rest2, ?_, fun x hx => ?_, ?_⟩
       ·have : r = a ++ (Z02 bs ++ rest2) := by
         rw [← h1, ← List.drop_drop, hdrop]
         rfl
        rw [hdr, this]
        simp [Z02]
       ·rcases List.mem_cons.1 hx with rfl | hx
        ·exact ⟨kk, ht⟩
        ·exact h2 x hx
       ·rw [h3]
        congr 2
        simp [Z02]
        omega
     ·have : decide ((c.toNat : Int) = 44) = false := by
       rw [decide_eq_false_iff_not];intro e;exact hc (UInt8.toNat_inj.1 (show c.toNat = (44 : UInt8).toNat by rw [show (44 : UInt8).toNat = 44 from rfl]; omega))
      rw [this];exact fin _ (stop k (by omega))
   ·rw [if_neg (by simp; omega)]
    exact fin _ (stop k (by omega))
theorem Z4n (n : Nat) (self : ByteArray → Option (Int × Int)) (K : Int → Option (Int × Int)) (L : Nat) (hL : L ≤ 4294960000) :
  ∀ (bs : List (List UInt8)) (a pre rest : List UInt8) (c : UInt8) (k : Nat), pre.length + 1 + (a ++ (Z02 bs ++ 41 :: rest)).length = L →
   (∀ x ∈ a :: bs, ∀ r, Z9V r → x.length + r.length < L → ∃ kx : Nat, 1 ≤ kx ∧ self (bt (x ++ r)) = some ((kx : Int), (x.length : Int))) → bs.length + 2 ≤ k →
   impl_termAt.l4 n self (bt (pre ++ c :: (a ++ (Z02 bs ++ 41 :: rest)))) K k (pre.length : Int) true = K ((pre.length + 1 + (a ++ Z02 bs).length : Nat) : Int)
 | bs, a, pre, rest, c, 0, _, _, hk => by omega
 | bs, a, pre, rest, c, k + 1, hlen, hC, hk => by
  have hstop : Z9V (Z02 bs ++ 41 :: rest) := by
   cases bs with
   | nil => exact .inr ⟨_, _, rfl, .inr rfl⟩
   | cons b bs => exact .inr ⟨_, _, rfl, .inl rfl⟩
  simp only [List.length_append, List.length_cons] at hlen;obtain ⟨kx, hkx, hself⟩ := hC a List.mem_cons_self _ hstop (by simp only [List.length_append, List.length_cons]; omega);have hsz : ByteArray.size (bt (pre ++ c :: (a ++ (Z02 bs ++ 41 :: rest)))) = L := by
   rw [Z0C]; simp only [List.length_append, List.length_cons]; omega
  have hw1 : IntKind.i64.wrap ((pre.length : Int) + 1) = ((pre.length + 1 : Nat) : Int) := by rw [Z09 _ (by omega) (by omega)]; omega
  have hdr : (pre ++ c :: (a ++ (Z02 bs ++ 41 :: rest))).drop (pre.length + 1) = a ++ (Z02 bs ++ 41 :: rest) := by
   rw [← List.drop_drop, List.drop_left]; rfl
  have hw2 : IntKind.i64.wrap ((pre.length : Int) + (IntKind.i64.wrap (1 + (a.length : Int)))) = ((pre.length + 1 + a.length : Nat) : Int) := by
   rw [Z09 (1 + (a.length : Int)) (by omega) (by omega), Z09 _ (by omega) (by omega)]; omega
  have hat : ∀ (d : UInt8) (r : List UInt8), Z02 bs ++ 41 :: rest = d :: r → Z0N (bt (pre ++ c :: (a ++ (Z02 bs ++ 41 :: rest)))) ((pre.length + 1 + a.length : Nat) : Int) = (d.toNat : Int) := by
   intro d r he;have e1 : pre ++ c :: (a ++ (Z02 bs ++ 41 :: rest)) = (pre ++ c :: a) ++ d :: r := by rw [he]; simp
   have e2 : pre.length + 1 + a.length = (pre ++ c :: a).length := by simp; omega
   rw [e1, e2, Z1S]
  unfold impl_termAt.l4;rw [if_pos rfl, hw1, if_pos (by rw [hsz]; omega), Z1z, hdr, hself];simp only [Option.bind_some];rw [if_neg (by simp; omega), hw2, if_pos (by rw [hsz]; simp; omega), if_pos (by rw [hsz]; omega)];cases bs with
  | nil =>
   rw [hat 41 rest rfl, show decide ((((41 : UInt8).toNat : Nat) : Int) = 44) = false from rfl];obtain ⟨j, rfl⟩ : ∃ j, k = j + 1 := ⟨k - 1, by simp at hk; omega⟩
   unfold impl_termAt.l4;rw [if_neg (by simp)]
   simp [Z02]
  | cons b bs =>
   rw [hat 44 _ rfl, show decide ((((44 : UInt8).toNat : Nat) : Int) = 44) = true from rfl];have e1 : pre ++ c :: (a ++ (Z02 (b :: bs) ++ 41 :: rest)) = (pre ++ c :: a) ++ 44 :: (b ++ (Z02 bs ++ 41 :: rest)) := by simp [Z02]
   have e2 : pre.length + 1 + a.length = (pre ++ c :: a).length := by simp; omega
   rw [e1, e2, Z4n n self K L hL bs b (pre ++ c :: a) rest 44 k (by simp only [Z02, List.length_append, List.length_cons] at hlen ⊢; omega)
    (fun x hx => hC x (List.mem_cons_of_mem _ hx)) (by simp at hk; omega)]
   congr 2
   simp [Z02]
   omega
theorem Z3T : Z1r 44 = false ∧ Z1r 41 = false ∧ isW 44 = false ∧ isW 41 = false ∧ isW 40 = false := by decide
theorem G_num (n : Nat) (self : ByteArray → Option (Int × Int)) (c : UInt8) (r : List UInt8) (hc : c = 45 ∨ Z1r c = true) :
  impl_termAt.G n self (bt (c :: r)) = impl_termAt.j0 n self (bt (c :: r)) true (fun _ => some (0, 0)) := by
 have hsz : 0 < (ByteArray.size (bt (c :: r)) : Int) := by rw [Z0C]; simp <;> omega
 unfold impl_termAt.G;rw [Z1R, Z1D, if_neg (by simp), if_pos ⟨by omega, hsz⟩, Z26];have h34 : ¬ (c.toNat : Int) = 34 := by
  rcases hc with rfl | hc
  ·decide
  ·unfold Z1r at hc
   have := of_decide_eq_true hc;omega
 rw [if_neg (by simpa using h34), if_pos ⟨by omega, hsz⟩];rcases hc with rfl | hc
 ·rw [if_neg (by decide)]
 ·have h45 : ¬ (c.toNat : Int) = 45 := by
   unfold Z1r at hc;have := of_decide_eq_true hc;omega
  rw [if_pos (by simpa using h45), if_pos ⟨by omega, hsz⟩, Z2i, hc]
  rfl
theorem G_sym (n : Nat) (self : ByteArray → Option (Int × Int)) (r : List UInt8) (hl : r.length ≤ 4294960000) (hn : r.length + 1 ≤ n) :
  impl_termAt.G n self (bt (34 :: r)) = some (if (r.takeWhile Z0b).length ≤ 20 ∧ r[(r.takeWhile Z0b).length]? = some 34 then (2, (((r.takeWhile Z0b).length + 2 : Nat) : Int)) else (0, 0)) := by
 have hsz : 0 < (ByteArray.size (bt (34 :: r)) : Int) := by rw [Z0C]; simp <;> omega
 unfold impl_termAt.G;rw [Z1R, Z1D, if_neg (by simp), if_pos ⟨by omega, hsz⟩, Z26, if_pos (by decide), Z61 n 34 r (by omega) hn];simp only [Option.bind_some]
 by_cases h : (r.takeWhile Z0b).length ≤ 20 ∧ r[(r.takeWhile Z0b).length]? = some 34
 ·rw [if_pos h, if_pos h, if_pos (by simp; omega)]
 ·rw [if_neg h, if_neg h, if_neg (by simp)]
theorem G_big (n : Nat) (self : ByteArray → Option (Int × Int)) (c : UInt8) (r : List UInt8) (hc : Z5H c = true) (hl : r.length ≤ 4294960000) (hn : r.length + 2 ≤ n) :
  impl_termAt.G n self (bt (c :: r)) =
   (if 20 < ((c :: r).takeWhile isW).length then some (0, 0) else match (c :: r).drop ((c :: r).takeWhile isW).length with
    | [] => some (3, (((c :: r).takeWhile isW).length : Int))
    | d :: t => if d = 40 then impl_termAt.j3 n self (bt (c :: r)) (((c :: r).takeWhile isW).length : Int) (fun _ => some (0, 0)) else some (3, (((c :: r).takeWhile isW).length : Int))) := by
 have hsz : 0 < (ByteArray.size (bt (c :: r)) : Int) := by rw [Z0C]; simp <;> omega
 have hc' := hc;unfold Z5H at hc';have hc' := of_decide_eq_true hc';have hdg : Z1r c = false := by unfold Z1r; exact decide_eq_false (by omega)
 have hlt : isLt c = true := by unfold isLt; rw [hc]; simp
 unfold impl_termAt.G;rw [Z1R, Z1D, if_neg (by simp), if_pos ⟨by omega, hsz⟩, Z26, if_neg (by simp; omega), if_pos ⟨by omega, hsz⟩, if_pos (by simp; omega), if_pos ⟨by omega, hsz⟩, Z2i, hdg];simp only [Option.bind_some];unfold impl_termAt.j0;rw [if_neg (by simp), if_pos ⟨by omega, hsz⟩, Z26, if_pos (by simp; omega), if_pos ⟨by omega, hsz⟩, decide_eq_true (by omega : (c.toNat : Int) ≤ 90)];unfold impl_termAt.j2;rw [if_pos rfl, Z4i n (c :: r) (by simp; omega) (by simp; omega)];dsimp only [Option.bind_some];rw [hlt, if_pos rfl];generalize hw : ((c :: r).takeWhile isW).length = w;have hwle : w ≤ (c :: r).length := by rw [← hw]; exact (List.takeWhile_prefix isW).length_le
 simp only [List.length_cons] at hwle
 by_cases h20 : 20 < w
 ·rw [if_pos h20, if_pos (by simp; omega)]
 ·rw [if_neg h20, if_neg (by simp; omega), Z0C]
  cases hd : (c :: r).drop w with
  | nil =>
   have := List.drop_eq_nil_iff.1 hd;rw [if_neg];simp only [List.length_cons] at this ⊢
   simp
   omega
  | cons d t =>
   have hlen := congrArg List.length hd;rw [List.length_drop] at hlen;simp only [List.length_cons] at hlen;have hat : Z0N (bt (c :: r)) (w : Int) = (d.toNat : Int) := by
    rw [ZA5, List.getD_eq_getElem?_getD, ← List.head?_drop, hd]
    rfl
   rw [if_pos (by simp only [List.length_cons, decide_eq_false_iff_not]; omega), if_pos (by simp only [List.length_cons]; omega), hat];dsimp only
   by_cases h40 : d = 40
   ·subst h40
    rw [if_neg (by decide), if_pos rfl]
   ·rw [if_neg h40, if_pos]
    simp only [Bool.not_eq_true', decide_eq_false_iff_not];intro e;exact h40 (UInt8.toNat_inj.1 (show d.toNat = (40 : UInt8).toNat by rw [show (40 : UInt8).toNat = 40 from rfl]; omega))
theorem G_other (n : Nat) (self : ByteArray → Option (Int × Int)) (c : UInt8) (r : List UInt8) (h1 : ¬ c = 34) (h2 : ¬ c = 45) (h3 : Z1r c = false) (h4 : Z5H c = false) :
  impl_termAt.G n self (bt (c :: r)) = some (0, 0) := by
 have hsz : 0 < (ByteArray.size (bt (c :: r)) : Int) := by rw [Z0C]; simp <;> omega
 have n1 : ¬ (c.toNat : Int) = 34 := fun e => h1 (UInt8.toNat_inj.1 (show c.toNat = (34 : UInt8).toNat by rw [show (34 : UInt8).toNat = 34 from rfl]; omega))
 have n2 : ¬ (c.toNat : Int) = 45 := fun e => h2 (UInt8.toNat_inj.1 (show c.toNat = (45 : UInt8).toNat by rw [show (45 : UInt8).toNat = 45 from rfl]; omega))
 unfold Z5H at h4;have h4 := of_decide_eq_false h4;unfold impl_termAt.G;rw [Z1R, Z1D, if_neg (by simp), if_pos ⟨by omega, hsz⟩, Z26, if_neg (by simpa using n1), if_pos ⟨by omega, hsz⟩, if_pos (by simpa using n2), if_pos ⟨by omega, hsz⟩, Z2i, h3];simp only [Option.bind_some];unfold impl_termAt.j0;rw [if_neg (by simp), if_pos ⟨by omega, hsz⟩, Z26]
 by_cases h65 : (c.toNat : Int) ≥ 65
 ·rw [if_pos (by simpa using h65), if_pos ⟨by omega, hsz⟩]
  unfold impl_termAt.j2;rw [if_neg (by simp; omega)]
 ·rw [if_neg (by simpa using h65)]
  unfold impl_termAt.j2;rw [if_neg (by simp)]
end Go.Abs
