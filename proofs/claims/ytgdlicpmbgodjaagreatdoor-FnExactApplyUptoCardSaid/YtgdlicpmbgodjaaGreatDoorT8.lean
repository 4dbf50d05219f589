/- The parts of a term, and how two terms stand to each other: both sides alike. Conditions: none. -/
import Derived.Test.YtgdlicpmbgodjaaGreatDoorT7
import Derived.Lib.IndexMore
namespace Go.Abs
set_option linter.unusedVariables false
set_option linter.unusedSimpArgs false
theorem Z5e : ∀ l : List UInt8, l.all Z0O = true → Lib.index l [40] = -1
 | [], _ => rfl
 | b :: l, h => by
  rw [List.all_cons, Bool.and_eq_true] at h;have hb : (40 == b) = false := by
   have := h.1;unfold Z0O at this
   simp at this
   simp
   exact fun e => this e.symm
  unfold Lib.index
  simp [List.isPrefixOf, hb, Z5e l h.2]
theorem Z5f : ∀ (a r : List UInt8), a.all Z0O = true → Lib.index (a ++ 40 :: r) [40] = (a.length : Int)
 | [], r, _ => by
  unfold Lib.index
  simp [List.isPrefixOf]
 | b :: a, r, h => by
  rw [List.all_cons, Bool.and_eq_true] at h;have hb : (40 == b) = false := by
   have := h.1;unfold Z0O at this
   simp at this
   simp
   exact fun e => this e.symm
  rw [List.cons_append];unfold Lib.index;have := Z5f a r h.2;have h2 : ¬ ((a.length : Int) == -1) = true := by simp
  rw [this];simp only [List.isPrefixOf, hb, Bool.false_and, Bool.false_eq_true, if_false];rw [if_neg h2]
  simp
def Z2j : List UInt8 → Bool
 | [] => false
 | c :: _ => decide (c = 44)
theorem Z4x (n : Nat) (l : List UInt8) : strings_HasPrefix.F n (bt l) ⟨#[44]⟩ = some (Z2j l) := by
 unfold strings_HasPrefix.F internal_stringslite_HasPrefix.F;have e : (⟨#[44]⟩ : ByteArray) = bt [44] := rfl;rw [e, Z0C, Z0C];cases l with
 | nil => rw [if_neg (by simp)]; rfl
 | cons c r =>
  rw [if_pos (by simp; omega), if_pos (by simp; omega), Z1Y, Z1D];simp only [List.length_singleton, Option.bind_some];rw [show Int.toNat ((1 : Nat) : Int) = 1 from rfl, show Int.toNat 0 = 0 from rfl]
  by_cases h : c = 44
  ·simp [h, Z2j]
  ·simp [h, Z2j]
inductive Parts : List UInt8 → List UInt8 → List (List UInt8) → Prop where
 | con0 (nm : List UInt8) (h : Z0o nm = true) : Parts nm nm []
 | con (nm a : List UInt8) (bs : List (List UInt8)) (h : Z0o nm = true) (hh : ∀ x ∈ a :: bs, ∃ k, Tm k x) : Parts (nm ++ 40 :: (a ++ (Z02 bs ++ [41]))) nm (a :: bs)
theorem Tm.parts {l : List UInt8} (h : Tm 3 l) : ∃ nm args, Parts l nm args := by
 cases h with
 | con0 nm h => exact ⟨_, _, .con0 _ h⟩
 | con nm a bs h ks hh => exact ⟨_, _, .con nm a bs h (fun x hx => ⟨_, hh x hx⟩)⟩
theorem Z5o (bs : List (List UInt8)) : bs.length ≤ (Z02 bs).length ∧ ∀ x ∈ bs, x.length ≤ (Z02 bs).length := by
 induction bs with
 | nil => exact ⟨Nat.le_refl _, fun x hx => by cases hx⟩
 | cons b bs ihb =>
  simp only [Z02, List.length_cons, List.length_append];refine ⟨by omega, fun x hx => ?_⟩;rcases List.mem_cons.1 hx with rfl | hx
  ·omega
  ·have := ihb.2 x hx; omega
theorem Parts.sub {l nm : List UInt8} {args : List (List UInt8)} (h : Parts l nm args) : args.length ≤ l.length ∧ ∀ x ∈ args, (∃ k, Tm k x) ∧ x.length + 2 ≤ l.length := by
 cases h with
 | con0 _ h => exact ⟨by simp, fun x hx => by cases hx⟩
 | con _ a bs h hh =>
  obtain ⟨c, r, hc, _⟩ := Z0w h;have h1 : 1 ≤ nm.length := by rw [hc]; simp
  have h2 := Z5o bs;simp only [List.length_append, List.length_cons, List.length_nil];refine ⟨by omega, fun x hx => ⟨hh x hx, ?_⟩⟩;rcases List.mem_cons.1 hx with rfl | hx
  ·omega
  ·have := h2.2 x hx; omega
theorem Z5R (n : Nat) (name : ByteArray) (K : List ByteArray → Option (ByteArray × List ByteArray)) : ∀ (bs : List (List UInt8)) (a : List UInt8) (out : List ByteArray) (k : Nat),
  (∀ x ∈ a :: bs, ∃ k, Tm k x) → (a ++ (Z02 bs ++ [41])).length ≤ 4294960000 → (a ++ (Z02 bs ++ [41])).length + 60 ≤ n → out.length + bs.length + 1 ≤ 4294960000 → bs.length + 2 ≤ k →
  impl_partsOf.l1 n name K k (bt (a ++ (Z02 bs ++ [41]))) out = K (out ++ (a :: bs).map bt)
 | bs, a, out, 0, _, _, _, _, hk => by omega
 | bs, a, out, k + 1, hh, hl, hn, ho, hk => by
  obtain ⟨ka, hka⟩ := hh a List.mem_cons_self;have hane : 0 < a.length := List.length_pos_iff.2 hka.ne;have hstop : Z9V (Z02 bs ++ [41]) := by
   cases bs with
   | nil => exact .inr ⟨_, _, rfl, .inr rfl⟩
   | cons b bs => exact .inr ⟨_, _, rfl, .inl rfl⟩
  have hl' := hl;have hn' := hn;simp only [List.length_append, List.length_cons, List.length_nil] at hl' hn';have hta := Z1J hka _ n hstop (by simp; omega) (by simp; omega);unfold impl_partsOf.l1;have e41 : (⟨#[41]⟩ : ByteArray) = bt [41] := rfl;rw [Z1R, e41, Z1D, Z1D];have n1 : ¬ (a ++ (Z02 bs ++ [41])) = [] := by simp
  have n2 : ¬ (a ++ (Z02 bs ++ [41])) = [41] := by
   intro h;have := congrArg List.length h;simp only [List.length_append, List.length_cons, List.length_nil] at this;omega
  rw [if_pos (by simp), if_pos (by rw [Bool.not_eq_true', beq_eq_false_iff_ne]; exact n2)];unfold impl_partsOf.j2;rw [hta];simp only [Option.bind_some];have i1 : (0 : Int) ≤ 0 ∧ (0 : Int) ≤ (a.length : Int) ∧ (a.length : Int) ≤ (ByteArray.size (bt (a ++ (Z02 bs ++ [41]))) : Int) := by rw [Z0C]; simp only [List.length_append]; omega
  have i2 : (0 : Int) ≤ (a.length : Int) ∧ (a.length : Int) ≤ (ByteArray.size (bt (a ++ (Z02 bs ++ [41]))) : Int) ∧ (ByteArray.size (bt (a ++ (Z02 bs ++ [41]))) : Int) ≤ (ByteArray.size (bt (a ++ (Z02 bs ++ [41]))) : Int) := by rw [Z0C]; simp only [List.length_append]; omega
  have x1 : ByteArray.extract (bt (a ++ (Z02 bs ++ [41]))) (Int.toNat 0) (Int.toNat (a.length : Int)) = bt a := by
   rw [Z1Y, Int.toNat_natCast, List.take_left]; rfl
  have x2 : ByteArray.extract (bt (a ++ (Z02 bs ++ [41]))) (Int.toNat (a.length : Int)) (Int.toNat (ByteArray.size (bt (a ++ (Z02 bs ++ [41]))) : Int)) = bt (Z02 bs ++ [41]) := by
   rw [Z1z, List.drop_left]
  rw [if_pos i1, x1, if_pos (by unfold lim; simp only [List.length_singleton]; omega), if_pos i2, x2, Z4x];simp only [Option.bind_some];cases bs with
  | nil =>
   obtain ⟨j, rfl⟩ : ∃ j, k = j + 1 := ⟨k - 1, by simp at hk; omega⟩
   rw [show Z2j (Z02 [] ++ [41]) = false from rfl, if_neg (by simp), show (Z02 [] ++ [41] : List UInt8) = [41] from rfl];unfold impl_partsOf.l1;rw [Z1R, e41, Z1D, Z1D, if_pos (by decide), if_neg (by decide)]
   rfl
  | cons b bs =>
   have e2 : Z02 (b :: bs) ++ [41] = 44 :: (b ++ (Z02 bs ++ [41])) := by simp [Z02]
   rw [e2, show Z2j (44 :: (b ++ (Z02 bs ++ [41]))) = true from rfl, if_pos rfl];have i3 : (0 : Int) ≤ 1 ∧ (1 : Int) ≤ (ByteArray.size (bt (44 :: (b ++ (Z02 bs ++ [41])))) : Int) ∧ (ByteArray.size (bt (44 :: (b ++ (Z02 bs ++ [41])))) : Int) ≤ (ByteArray.size (bt (44 :: (b ++ (Z02 bs ++ [41])))) : Int) := by
    rw [Z0C]; simp only [List.length_cons]; omega
   have x3 : ByteArray.extract (bt (44 :: (b ++ (Z02 bs ++ [41])))) (Int.toNat 1) (Int.toNat (ByteArray.size (bt (44 :: (b ++ (Z02 bs ++ [41])))) : Int)) = bt (b ++ (Z02 bs ++ [41])) := by
    have := Z1z (44 :: (b ++ (Z02 bs ++ [41]))) 1;rw [show ((1 : Nat) : Int) = 1 from rfl] at this;rw [this]
    rfl
   rw [if_pos i3, x3, Z5R n name K bs b (out ++ [bt a]) k (fun x hx => hh x (List.mem_cons_of_mem _ hx)) (by simp only [Z02, List.length_append, List.length_cons, List.length_nil] at hl' ⊢; omega)
    (by simp only [Z02, List.length_append, List.length_cons, List.length_nil] at hn' ⊢; omega) (by simp only [List.length_append, List.length_cons, List.length_nil] at ho ⊢; omega) (by simp at hk; omega)]
   simp
theorem Z4B {l nm : List UInt8} {args : List (List UInt8)} (h : Parts l nm args) (n m : Nat) (hl : l.length ≤ 200) (hn : 400 ≤ n) (hm : 400 ≤ m) :
  impl_partsOf.F n (bt l) = some (bt nm, args.map bt) ∧ spec_TermParts.F m (bt l) = some (bt nm, args.map bt) := by
 have hT : Tm 3 l := by
  cases h with
  | con0 _ h => exact .con0 _ h
  | con _ a bs h hh =>
   classical
   refine .con nm a bs h (fun x => if h : ∃ k, Tm k x then h.choose else 0) (fun x hx => ?_);have := hh x hx;show Tm (if h : ∃ k, Tm k x then h.choose else 0) x;rw [dif_pos this];exact this.choose_spec
 obtain ⟨k, hk, hIs⟩ := Z0j _ l m (Nat.le_refl _) (by omega) (by omega);have hk3 : k = 3 := hIs.complete 3 hT hl;subst hk3;unfold spec_TermParts.F;rw [hk];simp only [Option.bind_some];rw [if_neg (by simp), if_pos (by simp)];have e40 : (⟨#[40]⟩ : ByteArray) = bt [40] := rfl;cases h with
 | con0 _ h =>
  obtain ⟨c, r, hc, _, h20, hall⟩ := Z0w h;rw [ZBn m l h (by omega)];refine ⟨?_, rfl⟩;unfold impl_partsOf.F strings_Cut.F;rw [e40, if_pos (by rw [Z0C]; omega), Z1B, Z1B];unfold Lib.cut;rw [Z5e l (Z2b hall), if_neg (by omega)];simp only [Option.bind_some];rw [bt_mk, Z3r n l (by omega) (by omega), h]
  rfl
 | con _ a bs h hh =>
  obtain ⟨c, r, hc, _, h20, hall⟩ := Z0w h;have hl' := hl;simp only [List.length_append, List.length_cons, List.length_nil] at hl';rw [Z4J m nm a bs h hh (by omega) (by omega)];refine ⟨?_, rfl⟩;unfold impl_partsOf.F strings_Cut.F;rw [e40, if_pos (by rw [Z0C]; omega), Z1B, Z1B];unfold Lib.cut;rw [Z5f nm _ (Z2b hall), if_pos (by omega)];simp only [Option.bind_some, Int.toNat_natCast, List.take_left, List.length_singleton];rw [bt_mk, bt_mk, Z3r n nm (by omega) (by omega), h];simp only [Option.bind_some];rw [if_pos (by rfl), if_neg (by simp)];have hd : (nm ++ 40 :: (a ++ (Z02 bs ++ [41]))).drop (nm.length + 1) = a ++ (Z02 bs ++ [41]) := by rw [← List.drop_drop, List.drop_left]; rfl
  rw [hd];unfold impl_partsOf.j0;have hb := (Z5o bs).1;rw [Z5R n (bt nm) _ bs a [] n hh (by simp; omega) (by simp; omega) (by simp; omega) (by omega)]
  simp
def sgn (c : Int) : Prop := c = -1 ∨ c = 0 ∨ c = 1
theorem Z2x (n : Nat) (x y : Int) : cmp_Compare_int.F n x y = some (if x < y then -1 else if y < x then 1 else 0) := by
 unfold cmp_Compare_int.F cmp_isNaN_int.F;simp only [Option.bind_some, decide_true, Bool.not_true, Bool.false_eq_true, if_false]
 by_cases h1 : x < y
 ·rw [if_pos (by simpa using h1), if_pos h1]
 ·rw [if_neg (by simpa using h1), if_neg h1]
  by_cases h2 : y < x
  ·rw [if_pos (by simpa using h2), if_pos h2]
  ·rw [if_neg (by simpa using h2), if_neg h2]
theorem Z1L (n : Nat) (x : Int) : spec_l01Sign.F n x = some (if x < 0 then -1 else if 0 < x then 1 else 0) := by
 unfold spec_l01Sign.F
 by_cases h1 : x < 0
 ·rw [if_pos (by simpa using h1), if_pos h1]
 ·rw [if_neg (by simpa using h1), if_neg h1]
  by_cases h2 : 0 < x
  ·rw [if_pos (by simpa using h2), if_pos h2]
  ·rw [if_neg (by simpa using h2), if_neg h2]
theorem Z54 (n m : Nat) (x y : Int) (hx : -4611686018427387000 ≤ x - y ∧ x - y ≤ 4611686018427387000) :
  ∃ c, cmp_Compare_int.F n x y = some c ∧ spec_l01Sign.F m (IntKind.i64.wrap (x - y)) = some c ∧ sgn c ∧ (c = 0 ↔ x = y) := by
 rw [Z2x, Z1L, Z09 _ (by omega) (by omega)];refine ⟨_, rfl, ?_, ?_, ?_⟩
 ·congr 1
  split <;> split <;> first | rfl | omega | (split <;> omega) | (split <;> first | rfl | omega)
 ·unfold sgn
  split
  ·simp
  ·split <;> simp
 ·split
  ·simp; omega
  ·split
   ·simp; omega
   ·simp; omega
theorem slt_refl (a : ByteArray) : slt a a = false := by
 unfold slt;generalize a.toList = l
 induction l with
 | nil => rfl
 | cons c r ih => simp [Op.bytesLess, ih]
theorem Z2O (n : Nat) (a b : ByteArray) : cmp_Compare_string.F n a b = some (if slt a b = true then -1 else if Abs.seq a b = true then 0 else 1) := by
 unfold cmp_Compare_string.F cmp_isNaN_string.F;rw [Z0S, Z0S];simp only [Option.bind_some, Bool.not_true, Bool.false_eq_true, if_false];rcases Z25 (slt a b) with h1 | h1 <;> rcases Z25 (Abs.seq a b) with h2 | h2 <;> simp [h1, h2]
theorem Z28 (n : Nat) (a b : ByteArray) : spec_l01Texts.F n a b = some (if slt a b = true then -1 else if Abs.seq a b = true then 0 else 1) := by
 unfold spec_l01Texts.F;rcases Z25 (slt a b) with h1 | h1 <;> rcases Z25 (Abs.seq a b) with h2 | h2 <;> simp [h1, h2]
theorem Z8S (a b : ByteArray) : sgn (if slt a b = true then -1 else if Abs.seq a b = true then 0 else 1) := by
 unfold sgn
 split
 ·simp
 ·split <;> simp
theorem ZAM (a b : ByteArray) : (if slt a b = true then (-1 : Int) else if Abs.seq a b = true then 0 else 1) = 0 ↔ Abs.seq a b = true := by
 have hs : Abs.seq a b = true → slt a b = false := by
  intro h;have : a = b := by
   rw [Z3h a, Z3h b] at h ⊢;rw [Z1D] at h;rw [beq_iff_eq.1 h]
  subst this;exact slt_refl a
 rcases Z25 (Abs.seq a b) with h2 | h2
 ·rw [h2]
  rcases Z25 (slt a b) with h1 | h1 <;> simp [h1]
 ·rw [hs h2, h2]
  simp
theorem or_two (n : Nat) (hn : 3 ≤ n) (x y : Int) : cmp_Or_int.F n [x, y] = some (if x = 0 then y else x) := by
 obtain ⟨n, rfl⟩ : ∃ k, n = k + 3 := ⟨n - 3, by omega⟩
 unfold cmp_Or_int.F;unfold cmp_Or_int.l0
 by_cases hx : x = 0
 ·subst hx
  simp
  rw [show IntKind.i64.wrap 1 = 1 from by decide];unfold cmp_Or_int.l0
  by_cases hy : y = 0
  ·subst hy
   simp
   rw [show IntKind.i64.wrap 2 = 2 from by decide];unfold cmp_Or_int.l0
   simp
  ·simp [hy]
 ·simp [hx]
theorem Z5V (n : Nat) (x : Int) (h0 : -1000000 ≤ x) (h1 : x ≤ 1000000) (hl : (Lib.itoa x).length ≤ 200) : impl_numOf.F n (bt (Lib.itoa x)) = some x := by
 unfold impl_numOf.F strconv_Atoi.F;rw [if_pos (by rw [Z0C]; omega), Z1B, Z1E x h0 h1]
 rfl
theorem Z7P (n m : Nat) (f1 f2 g : ByteArray → ByteArray → Option Int) (others args : List ByteArray) : ∀ (r1 r2 pre1 pre2 : List (List UInt8)) (k j : Nat), pre1.length = pre2.length → r1.length = r2.length →
  (pre1 ++ r1).length ≤ 300 → r1.length + 1 ≤ k → r1.length + 1 ≤ j →
  (∀ x ∈ r1, ∀ y ∈ r2, ∃ c, f1 (bt x) (bt y) = some c ∧ g (bt x) (bt y) = some c ∧ sgn c) →
  ∃ c, impl_compareCons.l0 n f1 f2 ((pre2 ++ r2).map bt) ((pre1 ++ r1).map bt) (((pre1 ++ r1).map bt).length : Int) (fun _ => some 0) k (pre1.length : Int) = some c ∧
   spec_l01Cmp.l0 m g ((pre1 ++ r1).map bt) ((pre2 ++ r2).map bt) (fun _ => some 0) j (pre1.length : Int) = some c ∧ sgn c
 | r1, r2, pre1, pre2, 0, _, _, _, _, hk, _, _ => by omega
 | r1, r2, pre1, pre2, _, 0, _, _, _, _, hj, _ => by omega
 | [], r2, pre1, pre2, k + 1, j + 1, hp, hr, hl, hk, hj, hs => by
  unfold impl_compareCons.l0 spec_l01Cmp.l0;rw [List.length_map, if_neg (by simp), if_neg (by simp)];exact ⟨0, rfl, rfl, .inr (.inl rfl)⟩
 | x :: r1, [], pre1, pre2, k + 1, j + 1, hp, hr, hl, hk, hj, hs => by simp at hr
 | x :: r1, y :: r2, pre1, pre2, k + 1, j + 1, hp, hr, hl, hk, hj, hs => by
  simp only [List.length_append, List.length_cons] at hl hr hk hj;have h1 : (pre1.length : Int) < (((pre1 ++ x :: r1).map bt).length : Int) := by simp; omega
  have h2 : (pre1.length : Int) < (((pre2 ++ y :: r2).map bt).length : Int) := by simp; omega
  have get1 : List.getD ((pre1 ++ x :: r1).map bt) (Int.toNat (pre1.length : Int)) ByteArray.empty = bt x := by
   rw [Int.toNat_natCast, List.map_append, List.map_cons];have := Z0X (pre1.map bt) (r1.map bt) (bt x) ByteArray.empty;rw [List.length_map] at this;exact this
  have get2 : List.getD ((pre2 ++ y :: r2).map bt) (Int.toNat (pre1.length : Int)) ByteArray.empty = bt y := by
   rw [Int.toNat_natCast, hp, List.map_append, List.map_cons];have := Z0X (pre2.map bt) (r2.map bt) (bt y) ByteArray.empty;rw [List.length_map] at this;exact this
  obtain ⟨c, c1, c2, c3⟩ := hs x List.mem_cons_self y List.mem_cons_self;unfold impl_compareCons.l0 spec_l01Cmp.l0;rw [if_pos (decide_eq_true h1), if_pos ⟨by omega, h1⟩, if_pos ⟨by omega, h2⟩, get1, get2, c1, if_pos (decide_eq_true h1), if_pos ⟨by omega, h1⟩, if_pos ⟨by omega, h2⟩, c2];simp only [Option.bind_some]
  by_cases hc : c = 0
  ·subst hc
   rw [if_neg (by simp), if_neg (by simp), Z09 _ (by omega) (by omega)];have := Z7P n m f1 f2 g others args r1 r2 (pre1 ++ [x]) (pre2 ++ [y]) k j (by simp; omega) (by omega) (by simp; omega) (by omega) (by omega) (fun a ha b hb => hs a (List.mem_cons_of_mem _ ha) b (List.mem_cons_of_mem _ hb));rw [show (pre1 ++ [x]) ++ r1 = pre1 ++ x :: r1 by simp, show (pre2 ++ [y]) ++ r2 = pre2 ++ y :: r2 by simp, show ((pre1 ++ [x]).length : Int) = (pre1.length : Int) + 1 by simp] at this;exact this
  ·rw [if_pos (by simpa using hc), if_pos (by simpa using hc)]
   exact ⟨c, rfl, rfl, c3⟩
theorem ZC3 (n : Nat) (a b : ByteArray) : impl_compareTerms.F (n + 1) a b = impl_compareTerms.G n (impl_compareTerms.F n) (impl_compareCons.F n) a b := rfl
theorem CC_succ (n : Nat) (a b : ByteArray) : impl_compareCons.F (n + 1) a b = impl_compareCons.G n (impl_compareTerms.F n) (impl_compareCons.F n) a b := rfl
theorem Z6X (n : Nat) (a b : ByteArray) : spec_l01Cmp.F (n + 1) a b = spec_l01Cmp.G n (spec_l01Cmp.F n) a b := rfl
section
variable (n : Nat) (a b : ByteArray)
theorem CT_diff {k1 k2 : Nat} (ha : impl_kindOf.F n a = some (k1 : Int)) (hb : impl_kindOf.F n b = some (k2 : Int)) (h1 : k1 ≠ 0) (h2 : k2 ≠ 0) (h : k1 ≠ k2) :
  impl_compareTerms.F (n + 1) a b = cmp_Compare_int.F n (k1 : Int) (k2 : Int) := by
 rw [ZC3];unfold impl_compareTerms.G;rw [ha, hb];simp only [Option.bind_some];rw [if_pos (by simp; omega)];unfold impl_compareTerms.j0;rw [if_neg (by simp; omega), if_pos (by simp; omega), Z2x]
 rfl
theorem Z8L {k1 : Nat} (ha : impl_kindOf.F n a = some (k1 : Int)) (hb : impl_kindOf.F n b = some (k1 : Int)) (h1 : k1 ≠ 0) :
  impl_compareTerms.F (n + 1) a b = impl_compareTerms.j0 n (impl_compareTerms.F n) (impl_compareCons.F n) a b (k1 : Int) (k1 : Int) false (fun _ => (impl_compareCons.F n a b).bind fun r15 => some r15) := by
 rw [ZC3];unfold impl_compareTerms.G;rw [ha, hb];simp only [Option.bind_some];rw [if_pos (by simp; omega), decide_eq_false (by omega : ¬ (k1 : Int) = 0)]
theorem CT_num (ha : impl_kindOf.F n a = some ((1 : Nat) : Int)) (hb : impl_kindOf.F n b = some ((1 : Nat) : Int)) :
  impl_compareTerms.F (n + 1) a b = (impl_numOf.F n a).bind fun x => (impl_numOf.F n b).bind fun y => cmp_Compare_int.F n x y := by
 rw [Z8L n a b ha hb (by omega)];unfold impl_compareTerms.j0;rw [if_neg (by simp), if_neg (by decide), if_pos (by decide)]
 congr 1; funext x; congr 1; funext y
 rw [Z2x]; rfl
theorem CT_sym (ha : impl_kindOf.F n a = some ((2 : Nat) : Int)) (hb : impl_kindOf.F n b = some ((2 : Nat) : Int)) (h1 : 2 ≤ a.size ∧ a.size ≤ 1000) (h2 : 2 ≤ b.size ∧ b.size ≤ 1000) :
  impl_compareTerms.F (n + 1) a b = cmp_Compare_string.F n (ByteArray.extract a 1 (a.size - 1)) (ByteArray.extract b 1 (b.size - 1)) := by
 rw [Z8L n a b ha hb (by omega)];unfold impl_compareTerms.j0;rw [if_neg (by simp), if_neg (by decide), if_neg (by decide), if_pos (by decide), Z09 ((a.size : Int) - 1) (by omega) (by omega), Z09 ((b.size : Int) - 1) (by omega) (by omega), if_pos (by omega), if_pos (by omega)];rw [show Int.toNat ((a.size : Int) - 1) = a.size - 1 by omega, show Int.toNat ((b.size : Int) - 1) = b.size - 1 by omega, show Int.toNat 1 = 1 from rfl, Z2O]
 rfl
theorem CT_con (ha : impl_kindOf.F n a = some ((3 : Nat) : Int)) (hb : impl_kindOf.F n b = some ((3 : Nat) : Int)) :
  impl_compareTerms.F (n + 1) a b = (impl_compareCons.F n a b).bind fun r15 => some r15 := by
 rw [Z8L n a b ha hb (by omega)];unfold impl_compareTerms.j0;rw [if_neg (by simp), if_neg (by decide), if_neg (by decide), if_neg (by decide)]
theorem ZBx {k1 k2 : Nat} (ha : spec_TermKind.F n a = some (k1 : Int)) (hb : spec_TermKind.F n b = some (k2 : Int)) (h : k1 ≠ k2) :
  spec_l01Cmp.F (n + 1) a b = spec_l01Sign.F n (IntKind.i64.wrap ((k1 : Int) - (k2 : Int))) := by
 rw [Z6X];unfold spec_l01Cmp.G;rw [ha, hb];simp only [Option.bind_some];rw [if_pos (by simp; omega), Z1L]
 rfl
theorem SC_num (ha : spec_TermKind.F n a = some ((1 : Nat) : Int)) (hb : spec_TermKind.F n b = some ((1 : Nat) : Int)) :
  spec_l01Cmp.F (n + 1) a b = (spec_l01Number.F n a).bind fun r6 => (spec_l01Number.F n b).bind fun r7 => spec_l01Sign.F n (IntKind.i64.wrap (r6.1 - r7.1)) := by
 rw [Z6X];unfold spec_l01Cmp.G;rw [ha, hb];simp only [Option.bind_some];rw [if_neg (by decide), if_pos (by decide)]
 congr 1; funext x; congr 1; funext y
 rw [Z1L]; rfl
theorem SC_sym (ha : spec_TermKind.F n a = some ((2 : Nat) : Int)) (hb : spec_TermKind.F n b = some ((2 : Nat) : Int)) (h1 : 2 ≤ a.size ∧ a.size ≤ 1000) (h2 : 2 ≤ b.size ∧ b.size ≤ 1000) :
  spec_l01Cmp.F (n + 1) a b = spec_l01Texts.F n (ByteArray.extract a 1 (a.size - 1)) (ByteArray.extract b 1 (b.size - 1)) := by
 rw [Z6X];unfold spec_l01Cmp.G;rw [ha, hb];simp only [Option.bind_some];rw [if_neg (by decide), if_neg (by decide), if_pos (by decide), Z09 ((a.size : Int) - 1) (by omega) (by omega), Z09 ((b.size : Int) - 1) (by omega) (by omega), if_pos (by omega), if_pos (by omega)];rw [show Int.toNat ((a.size : Int) - 1) = a.size - 1 by omega, show Int.toNat ((b.size : Int) - 1) = b.size - 1 by omega, show Int.toNat 1 = 1 from rfl, Z28]
 rfl
theorem SC_con (ha : spec_TermKind.F n a = some ((3 : Nat) : Int)) (hb : spec_TermKind.F n b = some ((3 : Nat) : Int)) {p q : ByteArray × List ByteArray} (hp : spec_TermParts.F n a = some p) (hq : spec_TermParts.F n b = some q)
  (h1 : p.2.length ≤ 1000) (h2 : q.2.length ≤ 1000) :
  spec_l01Cmp.F (n + 1) a b = if Abs.seq p.1 q.1 = true then (if p.2.length = q.2.length then spec_l01Cmp.l0 n (spec_l01Cmp.F n) p.2 q.2 (fun _ => some 0) n 0 else spec_l01Sign.F n (IntKind.i64.wrap ((p.2.length : Int) - (q.2.length : Int)))) else spec_l01Texts.F n p.1 q.1 := by
 rw [Z6X];unfold spec_l01Cmp.G;rw [ha, hb];simp only [Option.bind_some];rw [if_neg (by decide), if_neg (by decide), if_neg (by decide), hp, hq];simp only [Option.bind_some];rcases Z25 (Abs.seq p.1 q.1) with hs | hs
 ·rw [hs, if_pos (by rfl), if_neg (by simp), Z28]
  rfl
 ·rw [hs, if_neg (by simp), if_pos rfl]
  by_cases hl : p.2.length = q.2.length
  ·rw [if_neg (by simp; omega), if_pos hl]
  ·rw [if_pos (by simp; omega), if_neg hl, Z1L]
   rfl
theorem CC_con (hn : 3 ≤ n) {p q : ByteArray × List ByteArray} (hp : impl_partsOf.F n a = some p) (hq : impl_partsOf.F n b = some q) :
  impl_compareCons.F (n + 1) a b = if Abs.seq p.1 q.1 = true then (if p.2.length = q.2.length then impl_compareCons.l0 n (impl_compareTerms.F n) (impl_compareCons.F n) q.2 p.2 (List.length p.2 : Int) (fun _ => some 0) n 0 else cmp_Compare_int.F n (p.2.length : Int) (q.2.length : Int)) else cmp_Compare_string.F n p.1 q.1 := by
 rw [CC_succ];unfold impl_compareCons.G;rw [hp, hq];simp only [Option.bind_some];rw [Z2O, Z2x];simp only [Option.bind_some];rw [or_two n hn];simp only [Option.bind_some];have hz := ZAM p.1 q.1;generalize (if slt p.1 q.1 = true then (-1 : Int) else if Abs.seq p.1 q.1 = true then 0 else 1) = T at hz ⊢;rcases Z25 (Abs.seq p.1 q.1) with hs | hs
 ·have hne : ¬ T = 0 := by
   intro h;rw [hz.1 h] at hs;cases hs
  rw [if_neg hne, if_pos (by simpa using hne), hs, if_neg (by simp)]
 ·rw [if_pos (hz.2 hs), hs, if_pos rfl]
  by_cases hl : p.2.length = q.2.length
  ·rw [if_pos hl, if_neg]
   rw [hl]
   simp
  ·rw [if_neg hl, if_pos]
   simp
   split
   ·simp
   ·split
    ·simp
    ·omega
end
theorem Z4O : ∀ (L : Nat) (a b : List UInt8) (ka kb n m : Nat), a.length ≤ L → Tm ka a → Tm kb b → a.length ≤ 200 → b.length ≤ 200 → 2 * L + 500 ≤ n → L + 500 ≤ m →
  ∃ c, impl_compareTerms.F n (bt a) (bt b) = some c ∧ spec_l01Cmp.F m (bt a) (bt b) = some c ∧ sgn c := by
 intro L
 induction L with
 | zero => intro a b ka kb n m h ha; exact absurd (List.length_eq_zero_iff.1 (by omega)) ha.ne
 | succ L ih =>
  intro a b ka kb n m hL ha hb hal hbl hn hm;obtain ⟨n, rfl⟩ : ∃ k, n = k + 2 := ⟨n - 2, by omega⟩
  obtain ⟨m, rfl⟩ : ∃ k, m = k + 1 := ⟨m - 1, by omega⟩
  obtain ⟨k1, a1, a2⟩ := Z4q (n + 1) a (by omega) (by omega);obtain ⟨k2, b1, b2⟩ := Z4q (n + 1) b (by omega) (by omega);have e1 := a2.complete ka ha hal;have e2 := b2.complete kb hb hbl;subst e1;subst e2;obtain ⟨k3, a3, a4⟩ := Z0j _ a m (Nat.le_refl _) (by omega) (by omega);obtain ⟨k4, b3, b4⟩ := Z0j _ b m (Nat.le_refl _) (by omega) (by omega);have e3 := a2.unique a4;have e4 := b2.unique b4;subst e3;subst e4;have hka := ha.kind;have hkb := hb.kind
  by_cases hk : k1 = k2
  ·subst hk
   have hk3 : k1 = 1 ∨ k1 = 2 ∨ k1 = 3 := by omega
   rcases hk3 with rfl | rfl | rfl
   ·rw [CT_num _ _ _ a1 b1, SC_num _ _ _ a3 b3]
    obtain ⟨x, h0, h1, rfl⟩ : Z5G a := by
     generalize hg : (1 : Nat) = k at ha
     cases ha <;> first | exact ⟨_, by assumption, by assumption, rfl⟩ | omega
    obtain ⟨y, h2, h3, rfl⟩ : Z5G b := by
     generalize hg : (1 : Nat) = k at hb
     cases hb <;> first | exact ⟨_, by assumption, by assumption, rfl⟩ | omega
    rw [Z5V _ x h0 h1 hal, Z5V _ y h2 h3 hbl];obtain ⟨v, ok, hv, hok, hve⟩ := Z2E m (Lib.itoa x) (by omega);obtain ⟨v2, ok2, hv2, hok2, hve2⟩ := Z2E m (Lib.itoa y) (by omega);have t1 := hve (hok.2 ⟨x, h0, h1, rfl⟩);have t2 := hve2 (hok2.2 ⟨y, h2, h3, rfl⟩);have i1 : v = x := by
     have := Z1E v t1.2.1 t1.2.2;rw [← t1.1, Z1E x h0 h1] at this
     injection this with this
     exact this.symm
    have i2 : v2 = y := by
     have := Z1E v2 t2.2.1 t2.2.2;rw [← t2.1, Z1E y h2 h3] at this
     injection this with this
     exact this.symm
    rw [hv, hv2];simp only [Option.bind_some];rw [i1, i2];obtain ⟨c, c1, c2, c3, _⟩ := Z54 (n + 1) m x y ⟨by omega, by omega⟩;exact ⟨c, c1, c2, c3⟩
   ·obtain ⟨p, rfl, hp⟩ : ∃ p : List UInt8, a = 34 :: (p ++ [34]) ∧ p.length ≤ 20 := by
     generalize hg : (2 : Nat) = k at ha
     cases ha <;> first | exact ⟨_, rfl, by assumption⟩ | omega
    obtain ⟨q, rfl, hq⟩ : ∃ q : List UInt8, b = 34 :: (q ++ [34]) ∧ q.length ≤ 20 := by
     generalize hg : (2 : Nat) = k at hb
     cases hb <;> first | exact ⟨_, rfl, by assumption⟩ | omega
    have s1 : 2 ≤ (bt (34 :: (p ++ [34]))).size ∧ (bt (34 :: (p ++ [34]))).size ≤ 1000 := by rw [Z0C]; simp; omega
    have s2 : 2 ≤ (bt (34 :: (q ++ [34]))).size ∧ (bt (34 :: (q ++ [34]))).size ≤ 1000 := by rw [Z0C]; simp; omega
    rw [CT_sym _ _ _ a1 b1 s1 s2, SC_sym _ _ _ a3 b3 s1 s2, Z2O, Z28];exact ⟨_, rfl, rfl, Z8S _ _⟩
   ·obtain ⟨nm, xs, hpa⟩ := ha.parts
    obtain ⟨nm2, ys, hpb⟩ := hb.parts;obtain ⟨p1, p2⟩ := Z4B hpa n m hal (by omega) (by omega);obtain ⟨q1, q2⟩ := Z4B hpb n m hbl (by omega) (by omega);have ha3 := hpa.sub;have hb3 := hpb.sub;rw [CT_con _ _ _ a1 b1, CC_con _ _ _ (by omega) p1 q1, SC_con _ _ _ a3 b3 p2 q2 (by simp; omega) (by simp; omega)];rcases Z25 (Abs.seq (bt nm) (bt nm2)) with hs | hs
    ·rw [hs, if_neg (by simp), if_neg (by simp), Z2O, Z28]
     exact ⟨_, rfl, rfl, Z8S _ _⟩
    ·rw [hs, if_pos rfl, if_pos rfl]
     simp only [List.length_map]
     by_cases hl : xs.length = ys.length
     ·rw [if_pos hl, if_pos hl]
      have := Z7P n m (impl_compareTerms.F n) (impl_compareCons.F n) (spec_l01Cmp.F m) [] [] xs ys [] [] n m rfl hl (by simp; omega) (by omega) (by omega) (fun x hx y hy => by
       obtain ⟨⟨kx, hkx⟩, hlx⟩ := ha3.2 x hx;obtain ⟨⟨ky, hky⟩, hly⟩ := hb3.2 y hy;exact ih x y kx ky n m (by omega) hkx hky (by omega) (by omega) (by omega) (by omega))
      simp only [List.nil_append, List.length_nil, List.length_map] at this;rw [show ((0 : Nat) : Int) = 0 from rfl] at this;obtain ⟨c, c1, c2, c3⟩ := this;rw [c1, c2];exact ⟨c, rfl, rfl, c3⟩
     ·rw [if_neg hl, if_neg hl]
      obtain ⟨c, c1, c2, c3, _⟩ := Z54 n m (xs.length : Int) (ys.length : Int) ⟨by omega, by omega⟩;rw [c1, c2];exact ⟨c, rfl, rfl, c3⟩
  ·rw [CT_diff _ _ _ a1 b1 (by omega) (by omega) hk, ZBx _ _ _ a3 b3 hk]
   obtain ⟨c, c1, c2, c3, _⟩ := Z54 (n + 1) m (k1 : Int) (k2 : Int) ⟨by omega, by omega⟩;exact ⟨c, c1, c2, c3⟩
end Go.Abs
