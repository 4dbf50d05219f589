/- The ways to carry one body to another one: both sides. Conditions: none. -/
import Derived.Test.YtdjdgempjnlkeaaC1
namespace Go.Abs
set_option linter.unusedVariables false
set_option linter.unusedSimpArgs false
def wayF (a b : Ru) : List Ex → List ME → Option (List ME)
 | [], m => some m
 | x :: xs, m => b.2.2.findSome? fun y => if (becF a b x y m).1 = true then wayF a b xs (becF a b x y m).2 else none
theorem wayF_cons (a b : Ru) (x : Ex) (xs : List Ex) (m : List ME) : wayF a b (x :: xs) m = b.2.2.findSome? fun y => if (becF a b x y m).1 = true then wayF a b xs (becF a b x y m).2 else none := rfl
def wayI (o : Option (List ME)) : List ME × Bool := match o with | some r => (r, true) | none => ([], false)
def wayS (m : List ME) (o : Option (List ME)) : (List ByteArray × List ByteArray) × Bool := match o with | some r => (encM r, true) | none => (encM m, false)
structure TwoR (a b : Ru) : Prop where
 S : SmT a
 T : SmT b
 Ea : EOk a
 Eb : EOk b
 A : ∀ x ∈ litsOf a, KIn a x.2.2
 B : ∀ y ∈ litsOf b, KIn b y.2.2
 six : a.2.2.length ≤ 6
theorem becF_ok {a b : Ru} (h : TwoR a b) {x y : Ex} (hx : x ∈ litsOf a) (hy : y ∈ litsOf b) {m : List ME} (hm : VOk m) : VOk (becF a b x y m).2 ∧ (becF a b x y m).2.length ≤ m.length + 1048576 := by
 have hl := h.S.args x hx
 unfold becF
 split
 ·refine ⟨becL_ok h.Eb _ hm fun p hp => h.B y hy p.2 (List.of_mem_zip hp).2, ?_⟩
  have := becL_len (a := a) (b := b) (x.2.2.zip y.2.2) m
  rw [List.length_zip] at this
  omega
 ·exact ⟨hm, Nat.le_add_right _ _⟩
theorem wayF_ok {a b : Ru} (h : TwoR a b) : ∀ (xs : List Ex) (m r : List ME), (∀ x ∈ xs, x ∈ litsOf a) → VOk m → wayF a b xs m = some r → VOk r ∧ r.length ≤ m.length + 1048576 * xs.length
 | [], m, r, _, hm, hr => by cases hr; exact ⟨hm, by omega⟩
 | x :: xs, m, r, hx, hm, hr => by
  have hr' : (b.2.2.findSome? fun y => if (becF a b x y m).1 = true then wayF a b xs (becF a b x y m).2 else none) = some r := hr
  obtain ⟨y, hy, h1⟩ := List.exists_of_findSome?_eq_some hr'
  split at h1
  ·have h2 := becF_ok h (hx x List.mem_cons_self) (List.mem_cons_of_mem _ hy) hm
   have h3 := wayF_ok h xs _ r (fun z hz => hx z (List.mem_cons_of_mem _ hz)) h2.1 h1
   refine ⟨h3.1, ?_⟩
   rw [List.length_cons]
   omega
  ·cases h1
section
variable {n : Nat} {a b : Ru}
theorem way_li (hn : 1100000 ≤ n) (h : TwoR a b) {j : Nat} (hj : j < a.2.2.length) (self : Int → List ME → Ru → Ru → Option (Ru × Ru) → Option (List ME × Bool))
  (hs : ∀ m, self ((j + 1 : Nat) : Int) m a b (some (a, b)) = some (wayI (wayF a b (a.2.2.drop (j + 1)) m))) (K : Unit → Option (List ME × Bool)) (m : List ME) : ∀ (k i : Nat), i ≤ b.2.2.length → b.2.2.length - i < k →
  impl_carries_1.l0 n self (j : Int) a b (some (a, b)) b.2.2 (b.2.2.length : Int) K k (i : Int) m =
   match (b.2.2.drop i).findSome? (fun y => if (becF a b a.2.2[j] y m).1 = true then wayF a b (a.2.2.drop (j + 1)) (becF a b a.2.2[j] y m).2 else none) with | some r => some (r, true) | none => K ()
 | 0, i, _, hk => absurd hk (Nat.not_lt_zero _)
 | k + 1, i, hi, hk => by
  have hB := h.T.body
  have hA := h.S.body
  by_cases hlt : i < b.2.2.length
  ·have ih := way_li hn h hj self hs K m k (i + 1) (by omega) (by omega)
   have hx : a.2.2[j] ∈ litsOf a := List.mem_cons_of_mem _ (List.getElem_mem hj)
   have hy : b.2.2[i] ∈ litsOf b := List.mem_cons_of_mem _ (List.getElem_mem hlt)
   rw [List.drop_eq_getElem_cons hlt, List.findSome?_cons]
   conv => lhs; unfold impl_carries_1.l0
   unfold maps_Clone_map_string_Exp_string_Exp.F
   simp only [getD_in _ hlt, getD_in _ hj]
   rw [if_pos (dlt hlt), if_pos (inl' hlt), Option.bind_some, if_pos (inl' hj), becomes_eq hn _ _ _ (h.A _ hx) (h.B _ hy) (h.S.args _ hx), Option.bind_some, wr1 (by omega), wr1 (by omega)]
   generalize becF a b a.2.2[j] b.2.2[i] m = r
   obtain ⟨r1, r2⟩ := r
   cases r1 with
   | false =>
    rw [if_pos (by simp)]
    simp only [Bool.false_eq_true, if_false]
    exact ih
   | true =>
    rw [if_neg (by simp)]
    show (self ((j + 1 : Nat) : Int) r2 a b (some (a, b))).bind _ = _
    rw [hs r2, Option.bind_some]
    simp only [if_true]
    cases wayF a b (a.2.2.drop (j + 1)) r2 with
    | some r => rfl
    | none =>
     show (if ([], false).2 = true then _ else _) = _
     rw [if_neg (by simp)]
     exact ih
  ·have e0 : b.2.2.drop i = [] := List.drop_of_length_le (by omega)
   conv => lhs; unfold impl_carries_1.l0
   rw [if_neg (dnl hlt), e0]
   rfl
theorem carries1_eq (h : TwoR a b) : ∀ (N j : Nat) (m : List ME), j ≤ a.2.2.length → (a.2.2.length - j) + 1100000 < N →
  impl_carries_1.F N (j : Int) m a b (some (a, b)) = some (wayI (wayF a b (a.2.2.drop j) m))
 | 0, _, _, _, hN => absurd hN (Nat.not_lt_zero _)
 | N + 1, j, m, hj, hN => by
  have hB := h.T.body
  show impl_carries_1.G N (impl_carries_1.F N) (j : Int) m a b (some (a, b)) = _
  unfold impl_carries_1.G
  by_cases hlt : j < a.2.2.length
  ·rw [if_neg (by simp; omega)]
   have e := way_li (n := N) (by omega) h hlt (impl_carries_1.F N) (fun m' => carries1_eq h N (j + 1) m' (by omega) (by omega)) (fun _ => some ([], false)) m N 0 (Nat.zero_le _) (by omega)
   rw [show ((0 : Nat) : Int) = 0 from rfl, List.drop_zero] at e
   rw [e, List.drop_eq_getElem_cons hlt, wayF_cons]
   cases (b.2.2.findSome? fun y => if (becF a b a.2.2[j] y m).1 = true then wayF a b (a.2.2.drop (j + 1)) (becF a b a.2.2[j] y m).2 else none) <;> rfl
  ·rw [if_pos (by simp; omega), List.drop_of_length_le (by omega)]
   rfl
theorem way_ls (hn : 100000001 ≤ n) (h : TwoR a b) {j : Nat} (hj : j < a.2.2.length) (self : Ru → Ru → Int → List ByteArray × List ByteArray → Option ((List ByteArray × List ByteArray) × Bool)) (m : List ME) (hm : VOk m) (hl : m.length + 1048576 * (a.2.2.length - j) ≤ 100000000)
  (hs : ∀ m', VOk m' → m'.length + 1048576 * (a.2.2.length - (j + 1)) ≤ 100000000 → self a b ((j + 1 : Nat) : Int) (encM m') = some (wayS m' (wayF a b (a.2.2.drop (j + 1)) m'))) (t10 : List ByteArray × List ByteArray) (K : Unit → Option ((List ByteArray × List ByteArray) × Bool)) : ∀ (k i : Nat), i ≤ b.2.2.length → b.2.2.length - i < k →
  spec_l16Way.l0 n self (j : Int) a b (encM m) t10 K k (i : Int) =
   match (b.2.2.drop i).findSome? (fun y => if (becF a b a.2.2[j] y m).1 = true then wayF a b (a.2.2.drop (j + 1)) (becF a b a.2.2[j] y m).2 else none) with | some r => some (encM r, true) | none => K ()
 | 0, i, _, hk => absurd hk (Nat.not_lt_zero _)
 | k + 1, i, hi, hk => by
  have hB := h.T.body
  have hA := h.S.body
  by_cases hlt : i < b.2.2.length
  ·have ih := way_ls hn h hj self m hm hl hs t10 K k (i + 1) (by omega) (by omega)
   have hx : a.2.2[j] ∈ litsOf a := List.mem_cons_of_mem _ (List.getElem_mem hj)
   have hy : b.2.2[i] ∈ litsOf b := List.mem_cons_of_mem _ (List.getElem_mem hlt)
   have hxl := h.S.args _ hx
   have hbo := becF_ok h hx hy hm
   rw [List.drop_eq_getElem_cons hlt, List.findSome?_cons]
   conv => lhs; unfold spec_l16Way.l0
   simp only [getD_in _ hlt, getD_in _ hj]
   rw [if_pos (dlt hlt), if_pos (inl' hj), if_pos (inl' hlt), put_eq h.S h.T hn h.Ea h.Eb _ _ m (h.A _ hx) (h.B _ hy) hxl hm (by omega), Option.bind_some, wr1 (by omega), wr1 (by omega)]
   revert hbo
   generalize becF a b a.2.2[j] b.2.2[i] m = r
   obtain ⟨r1, r2⟩ := r
   intro hbo
   cases r1 with
   | false =>
    rw [if_pos (by simp)]
    simp only [Bool.false_eq_true, if_false]
    exact ih
   | true =>
    rw [if_neg (by simp)]
    show (self a b ((j + 1 : Nat) : Int) (encM r2)).bind _ = _
    rw [hs r2 hbo.1 (by have := hbo.2; dsimp only at this; omega), Option.bind_some]
    simp only [if_true]
    cases wayF a b (a.2.2.drop (j + 1)) r2 with
    | some r => rfl
    | none =>
     show (if (encM r2, false).2 = true then _ else _) = _
     rw [if_neg (by simp)]
     exact ih
  ·have e0 : b.2.2.drop i = [] := List.drop_of_length_le (by omega)
   conv => lhs; unfold spec_l16Way.l0
   rw [if_neg (dnl hlt), e0]
   rfl
theorem way_eq (h : TwoR a b) : ∀ (N j : Nat) (m : List ME), j ≤ a.2.2.length → (a.2.2.length - j) + 100000001 < N → VOk m → m.length + 1048576 * (a.2.2.length - j) ≤ 100000000 →
  spec_l16Way.F N a b (j : Int) (encM m) = some (wayS m (wayF a b (a.2.2.drop j) m))
 | 0, _, _, _, hN, _, _ => absurd hN (Nat.not_lt_zero _)
 | N + 1, j, m, hj, hN, hm, hl => by
  have hB := h.T.body
  show spec_l16Way.G N (spec_l16Way.F N) a b (j : Int) (encM m) = _
  unfold spec_l16Way.G
  by_cases hlt : j < a.2.2.length
  ·rw [if_neg (by simp; omega)]
   have e := way_ls (n := N) (by omega) h hlt (spec_l16Way.F N) m hm hl (fun m' h1 h2 => way_eq h N (j + 1) m' (by omega) (by omega) h1 h2) ([], []) (fun _ => some (encM m, false)) N 0 (Nat.zero_le _) (by omega)
   rw [show ((0 : Nat) : Int) = 0 from rfl, List.drop_zero] at e
   rw [e, List.drop_eq_getElem_cons hlt, wayF_cons]
   cases (b.2.2.findSome? fun y => if (becF a b a.2.2[j] y m).1 = true then wayF a b (a.2.2.drop (j + 1)) (becF a b a.2.2[j] y m).2 else none) <;> rfl
  ·rw [if_pos (by simp; omega), List.drop_of_length_le (by omega)]
   rfl
def Has (m : List ME) (s : ByteArray) : Prop := (mget .str KEx m s).isSome = true
theorem has_app {m : List ME} {q : ME} {s : ByteArray} (h : Has m s) : Has (m ++ [q]) s := by
 unfold Has at h ⊢
 induction m with
 | nil => cases h
 | cons p m ih =>
  rw [mget_cons] at h
  rw [List.cons_append, mget_cons]
  split
  ·rfl
  ·rename_i c
   rw [if_neg c] at h
   exact ih h
theorem has_last (m : List ME) (s : ByteArray) (x : Ex) : Has (m ++ [(s, x)]) s := by
 unfold Has
 induction m with
 | nil =>
  rw [List.nil_append, mget_cons, keq_str]
  simp
 | cons p m ih =>
  rw [List.cons_append, mget_cons]
  split
  ·rfl
  ·exact ih
theorem becS_has {x y : Ex} {m : List ME} : (∀ s, Has m s → Has (becS x y m).2 s) ∧ (x.1 = 1 → Has (becS x y m).2 x.2.1) := by
 unfold becS
 by_cases c : x.1 = 1
 ·rw [if_pos c]
  cases hg : mget .str KEx m x.2.1 with
  | none => exact ⟨fun s h => has_app h, fun _ => has_last _ _ _⟩
  | some w => exact ⟨fun s h => h, fun _ => by unfold Has; dsimp only; rw [hg]; rfl⟩
 ·rw [if_neg c]
  exact ⟨fun s h => h, fun h => absurd h c⟩
theorem becL_has : ∀ (l : List (Int × Int)) (m : List ME), (∀ s, Has m s → Has (becL a b l m).2 s) ∧ ((becL a b l m).1 = true → ∀ p ∈ l, (exA a p.1).1 = 1 → Has (becL a b l m).2 (exA a p.1).2.1)
 | [], m => ⟨fun s h => h, fun _ p hp => by cases hp⟩
 | p :: l, m => by
  have h1 := becS_has (x := exA a p.1) (y := exA b p.2) (m := m)
  generalize hw : becS (exA a p.1) (exA b p.2) m = w at h1
  obtain ⟨w1, w2⟩ := w
  cases w1 with
  | false =>
   rw [becL_f hw]
   exact ⟨h1.1, fun h => by cases h⟩
  | true =>
   rw [becL_t hw]
   have ih := becL_has l w2
   refine ⟨fun s h => ih.1 s (h1.1 s h), fun h q hq c => ?_⟩
   rcases List.mem_cons.1 hq with rfl | hq
   ·exact ih.1 _ (h1.2 c)
   ·exact ih.2 h q hq c
theorem becF_has (x y : Ex) (m : List ME) : (∀ s, Has m s → Has (becF a b x y m).2 s) ∧ ((becF a b x y m).1 = true → ∀ p ∈ x.2.2, (exA a p).1 = 1 → Has (becF a b x y m).2 (exA a p).2.1) := by
 unfold becF
 split
 ·rename_i c
  have h := becL_has (a := a) (b := b) (x.2.2.zip y.2.2) m
  refine ⟨h.1, fun h1 p hp c1 => ?_⟩
  obtain ⟨i, hi, rfl⟩ := List.getElem_of_mem hp
  have hi2 : i < y.2.2.length := by omega
  exact h.2 h1 (x.2.2[i], y.2.2[i]) (List.mem_iff_getElem.2 ⟨i, by rw [List.length_zip]; omega, List.getElem_zip⟩) c1
 ·exact ⟨fun s h => h, fun h => by cases h⟩
theorem wayF_has : ∀ (xs : List Ex) (m r : List ME), wayF a b xs m = some r → (∀ s, Has m s → Has r s) ∧ ∀ x ∈ xs, ∀ p ∈ x.2.2, (exA a p).1 = 1 → Has r (exA a p).2.1
 | [], m, r, h => by cases h; exact ⟨fun _ h => h, fun x hx => by cases hx⟩
 | x :: xs, m, r, hr => by
  have hr' : (b.2.2.findSome? fun y => if (becF a b x y m).1 = true then wayF a b xs (becF a b x y m).2 else none) = some r := hr
  obtain ⟨y, hy, h1⟩ := List.exists_of_findSome?_eq_some hr'
  split at h1
  ·rename_i c
   have h2 := becF_has (a := a) (b := b) x y m
   have h3 := wayF_has xs _ r h1
   refine ⟨fun s hs => h3.1 s (h2.1 s hs), fun z hz p hp c1 => ?_⟩
   rcases List.mem_cons.1 hz with rfl | hz
   ·exact h3.1 _ (h2.2 c p hp c1)
   ·exact h3.2 z hz p hp c1
  ·cases h1
end
end Go.Abs
