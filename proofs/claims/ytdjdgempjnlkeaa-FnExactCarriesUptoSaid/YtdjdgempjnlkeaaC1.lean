/- What makes one literal another one: both sides. Conditions: none. -/
import Derived.Test.YtdjdgempjnlkeaaPI
import Derived.Test.YtdjdgempjnlkeaaF1
namespace Go.Abs
set_option linter.unusedVariables false
set_option linter.unusedSimpArgs false
abbrev ME : Type := ByteArray × Ex
def tgE (x : Ex) : ByteArray := bt ((if x.1 = 1 then 118 else 116) :: x.2.1.data.toList)
def okX (x : Ex) : Prop := x.1 = 1 ∨ x.1 = 3
def sameX (x y : Ex) : Bool := decide (x.1 = y.1) && decide (x.2.1 = y.2.1)
theorem tgE_eq {x y : Ex} (hx : okX x) (hy : okX y) : decide (tgE x = tgE y) = sameX x y := by
 unfold sameX
 rw [← Bool.decide_and, decide_eq_decide]
 unfold tgE
 constructor
 ·intro e
  have := bt_inj e
  simp only [List.cons.injEq] at this
  obtain ⟨h1, h2⟩ := this
  refine ⟨?_, by rw [bt_of x.2.1, h2, ← bt_of]⟩
  rcases hx with a | a <;> rcases hy with b | b <;> rw [a, b] at h1 ⊢ <;> simp at h1
 ·rintro ⟨h1, h2⟩
  rw [h1, h2]
def encM (m : List ME) : List ByteArray × List ByteArray := (m.map (·.1), m.map fun q => tgE q.2)
section
variable {n : Nat}
theorem get_l (m : List ME) (s : ByteArray) (hm : m.length ≤ 100000000) : ∀ (k i : Nat), i ≤ m.length → m.length - i < k →
  spec_l09Env_get.l0 n s (encM m) (fun _ => some (ByteArray.empty, false)) k (i : Int) = some (match mget .str KEx (m.drop i) s with | some x => (tgE x, true) | none => (ByteArray.empty, false))
 | 0, i, _, hk => absurd hk (Nat.not_lt_zero _)
 | k + 1, i, hi, hk => by
  have l1 : (encM m).1.length = m.length := List.length_map _
  have l2 : (encM m).2.length = m.length := List.length_map _
  by_cases h : i < m.length
  ·have h1 : i < (encM m).1.length := by omega
   have h2 : i < (encM m).2.length := by omega
   have g1 : (encM m).1[i] = m[i].1 := List.getElem_map _
   have g2 : (encM m).2[i] = tgE m[i].2 := List.getElem_map _
   conv => lhs; unfold spec_l09Env_get.l0
   rw [if_pos (dlt h1), if_pos (inl' h1), getD_in _ h1, seq_dec, if_pos (inl' h2), getD_in _ h2, g1, g2, List.drop_eq_getElem_cons h, mget_cons, keq_str]
   by_cases e : m[i].1 = s
   ·rw [if_pos (by simp [e]), if_pos (by simp [e])]
   ·rw [if_neg (by simp [e]), if_neg (by simp; exact fun h => e h.symm), wr1 (by omega)]
    exact get_l m s hm k (i + 1) (by omega) (by omega)
  ·conv => lhs; unfold spec_l09Env_get.l0
   rw [if_neg (by rw [l1]; exact dnl h), List.drop_of_length_le (by omega)]
   rfl
theorem get_eq (hn : 100000001 ≤ n) (m : List ME) (s : ByteArray) (hm : m.length ≤ 100000000) :
  spec_l09Env_get.F n (encM m) s = some (match mget .str KEx m s with | some x => (tgE x, true) | none => (ByteArray.empty, false)) := by
 unfold spec_l09Env_get.F
 have := get_l (n := n) m s hm n 0 (Nat.zero_le _) (by omega)
 rw [show ((0 : Nat) : Int) = 0 from rfl, List.drop_zero] at this
 exact this
theorem with_eq (m : List ME) (s : ByteArray) (x : Ex) (hm : m.length ≤ 100000000) : spec_l09Env_with.F n (encM m) s (tgE x) = some (encM (m ++ [(s, x)])) := by
 have l1 : (encM m).1.length = m.length := List.length_map _
 have l2 : (encM m).2.length = m.length := List.length_map _
 unfold spec_l09Env_with.F
 simp only [List.nil_append, List.length_nil, List.length_cons, l1, l2]
 rw [if_pos (by simp only [lim]; omega), if_pos (by simp only [lim]; omega), if_pos (by simp only [lim]; omega), if_pos (by simp only [lim]; omega)]
 unfold encM
 rw [List.map_append, List.map_append]
 rfl
theorem mput_new {m : List ME} {s : ByteArray} {x : Ex} (h : mget .str KEx m s = none) : mput .str KEx m s x = m ++ [(s, x)] := by
 induction m with
 | nil => rfl
 | cons q m ih =>
  rw [mget_cons] at h
  rw [mput_cons]
  by_cases e : keq .str s q.1 = true
  ·rw [if_pos e] at h; cases h
  ·rw [if_neg e] at h
   rw [if_neg e, ih h]
   rfl
def becS (x y : Ex) (m : List ME) : Bool × List ME :=
 if x.1 = 1 then (match mget .str KEx m x.2.1 with
  | none => (true, m ++ [(x.2.1, y)])
  | some h => (sameX h y, m))
 else (sameX x y, m)
def becL (a b : Ru) : List (Int × Int) → List ME → Bool × List ME
 | [], m => (true, m)
 | p :: l, m => let r := becS (exA a p.1) (exA b p.2) m; if r.1 = true then becL a b l r.2 else (false, r.2)
def becF (a b : Ru) (x y : Ex) (m : List ME) : Bool × List ME :=
 if x.2.1 = y.2.1 ∧ x.2.2.length = y.2.2.length then becL a b (x.2.2.zip y.2.2) m else (false, m)
def KIn (r : Ru) (l : List Int) : Prop := ∀ a ∈ l, 0 ≤ a ∧ a < (r.1.length : Int)
def VOk (m : List ME) : Prop := ∀ q ∈ m, okX q.2
def EOk (r : Ru) : Prop := ∀ e ∈ r.1, okX e
theorem exA_ok {r : Ru} (h : EOk r) {a : Int} (ha : 0 ≤ a ∧ a < (r.1.length : Int)) : okX (exA r a) := by
 have hlt : a.toNat < r.1.length := by omega
 have he : exA r a = r.1[a.toNat] := by
  unfold exA
  rw [List.getD_eq_getElem?_getD, List.getElem?_eq_getElem hlt, Option.getD_some]
 rw [he]
 exact h _ (List.getElem_mem hlt)
theorem mget_mem {m : List ME} {s : ByteArray} {x : Ex} (h : mget .str KEx m s = some x) : ∃ q ∈ m, q.2 = x := by
 induction m with
 | nil => cases h
 | cons q m ih =>
  rw [mget_cons] at h
  split at h
  ·cases h; exact ⟨q, List.mem_cons_self, rfl⟩
  ·obtain ⟨p, h1, h2⟩ := ih h
   exact ⟨p, List.mem_cons_of_mem _ h1, h2⟩
theorem becS_ok {x y : Ex} {m : List ME} (hm : VOk m) (hy : okX y) : VOk (becS x y m).2 := by
 unfold becS
 split
 ·split
  ·intro q hq
   rcases List.mem_append.1 hq with h | h
   ·exact hm q h
   ·rw [List.mem_singleton.1 h]; exact hy
  ·exact hm
 ·exact hm
theorem becS_len (x y : Ex) (m : List ME) : (becS x y m).2.length ≤ m.length + 1 := by
 unfold becS
 split
 ·split <;> simp
 ·exact Nat.le_succ _
variable {a b : Ru}
theorem becL_ok (hb : EOk b) : ∀ (l : List (Int × Int)) {m : List ME}, VOk m → (∀ p ∈ l, 0 ≤ p.2 ∧ p.2 < (b.1.length : Int)) → VOk (becL a b l m).2
 | [], m, hm, _ => hm
 | p :: l, m, hm, hl => by
  unfold becL
  have h1 := becS_ok (x := exA a p.1) hm (exA_ok hb (hl p List.mem_cons_self))
  dsimp only
  split
  ·exact becL_ok hb l h1 fun q hq => hl q (List.mem_cons_of_mem _ hq)
  ·exact h1
theorem becL_len : ∀ (l : List (Int × Int)) (m : List ME), (becL a b l m).2.length ≤ m.length + l.length
 | [], m => Nat.le_refl _
 | p :: l, m => by
  unfold becL
  have h1 := becS_len (exA a p.1) (exA b p.2) m
  have h2 := becL_len l (becS (exA a p.1) (exA b p.2) m).2
  dsimp only
  split
  ·rw [List.length_cons]; omega
  ·rw [List.length_cons]; show (becS _ _ _).2.length ≤ _; omega
theorem exA_def (r : Ru) (a : Int) : List.getD r.1 a.toNat (0, (ByteArray.empty, [])) = exA r a := rfl
theorem becL_t {p : Int × Int} {l : List (Int × Int)} {m m' : List ME} (h : becS (exA a p.1) (exA b p.2) m = (true, m')) : becL a b (p :: l) m = becL a b l m' := by
 conv => lhs; unfold becL
 dsimp only
 rw [h]
 rfl
theorem becL_f {p : Int × Int} {l : List (Int × Int)} {m m' : List ME} (h : becS (exA a p.1) (exA b p.2) m = (false, m')) : becL a b (p :: l) m = (false, m') := by
 conv => lhs; unfold becL
 dsimp only
 rw [h]
 rfl
theorem bec_l (A : List Int) (y : Ex) (hA : KIn a A) (hY : KIn b y.2.2) (he : A.length = y.2.2.length) (hl : A.length ≤ 1048576) (K : List ME → Option (Bool × List ME)) : ∀ (k i : Nat) (m : List ME), i ≤ A.length → A.length - i < k →
  impl_becomes.l1 n A (A.length : Int) a b y K k (i : Int) m = if (becL a b ((A.drop i).zip (y.2.2.drop i)) m).1 = true then K (becL a b ((A.drop i).zip (y.2.2.drop i)) m).2 else some (false, (becL a b ((A.drop i).zip (y.2.2.drop i)) m).2)
 | 0, i, _, _, hk => absurd hk (Nat.not_lt_zero _)
 | k + 1, i, m, hi, hk => by
  by_cases h : i < A.length
  ·have h2 : i < y.2.2.length := by omega
   have ih := fun m => bec_l A y hA hY he hl K k (i + 1) m (by omega) (by omega)
   rw [List.drop_eq_getElem_cons h, List.drop_eq_getElem_cons h2, List.zip_cons_cons]
   conv => lhs; unfold impl_becomes.l1
   simp only [getD_in _ h, getD_in _ h2]
   rw [if_pos (dlt h), if_pos (inl' h), if_pos (hA _ (List.getElem_mem h)), if_pos (inl' h2), if_pos (hY _ (List.getElem_mem h2)), exA_def a, exA_def b, wr1 (by omega)]
   have goT : ∀ m', becS (exA a A[i]) (exA b (y.2.2)[i]) m = (true, m') → impl_becomes.l1 n A (A.length : Int) a b y K k ((i + 1 : Nat) : Int) m' =
     if (becL a b ((A[i], (y.2.2)[i]) :: (A.drop (i + 1)).zip (y.2.2.drop (i + 1))) m).1 = true then K (becL a b ((A[i], (y.2.2)[i]) :: (A.drop (i + 1)).zip (y.2.2.drop (i + 1))) m).2 else some (false, (becL a b ((A[i], (y.2.2)[i]) :: (A.drop (i + 1)).zip (y.2.2.drop (i + 1))) m).2) := by
    intro m' hw
    rw [becL_t hw]
    exact ih m'
   have goF : ∀ m', becS (exA a A[i]) (exA b (y.2.2)[i]) m = (false, m') → some (false, m') =
     if (becL a b ((A[i], (y.2.2)[i]) :: (A.drop (i + 1)).zip (y.2.2.drop (i + 1))) m).1 = true then K (becL a b ((A[i], (y.2.2)[i]) :: (A.drop (i + 1)).zip (y.2.2.drop (i + 1))) m).2 else some (false, (becL a b ((A[i], (y.2.2)[i]) :: (A.drop (i + 1)).zip (y.2.2.drop (i + 1))) m).2) := by
    intro m' hw
    rw [becL_f hw]
    rfl
   revert goT goF
   generalize exA a A[i] = x
   generalize exA b (y.2.2)[i] = z
   intro goT goF
   simp only [seq_dec]
   by_cases c : x.1 = 1
   ·rw [if_pos (by simp [c])]
    cases hg : mget .str KEx m x.2.1 with
    | none =>
     rw [if_pos (by simp)]
     refine goT _ ?_
     unfold becS
     rw [if_pos c, hg, mput_new hg]
    | some w =>
     have hw : becS x z m = (sameX w z, m) := by unfold becS; rw [if_pos c, hg]
     rw [if_neg (by simp)]
     simp only [Option.getD_some]
     by_cases c1 : w.1 = z.1
     ·rw [if_pos (by simp [c1])]
      by_cases c2 : w.2.1 = z.2.1
      ·rw [if_neg (by simp [c2])]
       exact goT m (by rw [hw]; simp [sameX, c1, c2])
      ·rw [if_pos (by simp [c2])]
       exact goF m (by rw [hw]; simp [sameX, c2])
     ·rw [if_neg (by simp [c1])]
      exact goF m (by rw [hw]; simp [sameX, c1])
   ·have hw : becS x z m = (sameX x z, m) := by unfold becS; rw [if_neg c]
    rw [if_neg (by simp [c])]
    by_cases c1 : x.1 = z.1
    ·rw [if_pos (by simp [c1])]
     by_cases c2 : x.2.1 = z.2.1
     ·rw [if_neg (by simp [c2])]
      exact goT m (by rw [hw]; simp [sameX, c1, c2])
     ·rw [if_pos (by simp [c2])]
      exact goF m (by rw [hw]; simp [sameX, c2])
    ·rw [if_neg (by simp [c1])]
     exact goF m (by rw [hw]; simp [sameX, c1])
  ·conv => lhs; unfold impl_becomes.l1
   rw [if_neg (dnl h), List.drop_of_length_le (by omega)]
   rfl
theorem becomes_eq (hn : 1100000 ≤ n) (x y : Ex) (m : List ME) (hX : KIn a x.2.2) (hY : KIn b y.2.2) (hl : x.2.2.length ≤ 1048576) : impl_becomes.F n a b x y m = some (becF a b x y m) := by
 unfold impl_becomes.F becF
 rw [seq_dec]
 by_cases c1 : x.2.1 = y.2.1
 ·rw [if_pos (by simp [c1])]
  by_cases c2 : x.2.2.length = y.2.2.length
  ·rw [if_neg (by simp [c2]), if_pos ⟨c1, c2⟩]
   unfold impl_becomes.j0
   have e := fun K => bec_l (n := n) (a := a) (b := b) x.2.2 y hX hY c2 hl K n 0 m (Nat.zero_le _) (by omega)
   simp only [show ((0 : Nat) : Int) = 0 from rfl, List.drop_zero] at e
   rw [e]
   generalize becL a b (x.2.2.zip y.2.2) m = r
   obtain ⟨r1, r2⟩ := r
   cases r1 <;> rfl
  ·rw [if_pos (by simp; omega), if_neg (fun h => c2 h.2)]
 ·rw [if_neg (by simp [c1]), if_neg (fun h => c1 h.1)]
theorem put_l (S : SmT a) (T : SmT b) (hn : 100000001 ≤ n) (Ea : EOk a) (Eb : EOk b) (x y : Ex) (t18 : List ByteArray × List ByteArray) (hA : KIn a x.2.2) (hY : KIn b y.2.2) (he : x.2.2.length = y.2.2.length) (hl : x.2.2.length ≤ 1048576)
  (K : List ByteArray × List ByteArray → Option ((List ByteArray × List ByteArray) × Bool)) : ∀ (k i : Nat) (m : List ME), i ≤ x.2.2.length → x.2.2.length - i < k → VOk m → m.length + (x.2.2.length - i) ≤ 100000000 →
  spec_l16Put.l1 n a x b y t18 K k (i : Int) (encM m) = if (becL a b ((x.2.2.drop i).zip (y.2.2.drop i)) m).1 = true then K (encM (becL a b ((x.2.2.drop i).zip (y.2.2.drop i)) m).2) else some (encM (becL a b ((x.2.2.drop i).zip (y.2.2.drop i)) m).2, false)
 | 0, i, _, _, hk, _, _ => absurd hk (Nat.not_lt_zero _)
 | k + 1, i, m, hi, hk, hm, hlen => by
  by_cases h : i < x.2.2.length
  ·have h2 : i < y.2.2.length := by omega
   have ih := fun m h1 h2 => put_l S T hn Ea Eb x y t18 hA hY he hl K k (i + 1) m (by omega) (by omega) h1 h2
   have ha := hA _ (List.getElem_mem h)
   have hb := hY _ (List.getElem_mem h2)
   rw [List.drop_eq_getElem_cons h, List.drop_eq_getElem_cons h2, List.zip_cons_cons]
   conv => lhs; unfold spec_l16Put.l1
   simp only [getD_in _ h, getD_in _ h2]
   rw [if_pos (dlt h), if_pos (inl' h), if_pos ha, if_pos (inl' h2), l16_eq T hb, Option.bind_some, exA_def a, wr1 (by omega)]
   have htx : tx b (y.2.2)[i] = tgE (exA b (y.2.2)[i]) := rfl
   have hx := exA_ok Ea ha
   have hz := exA_ok Eb hb
   have hsz : (exA a (x.2.2)[i]).2.1.size ≤ 8000000 := by
    have hlt : ((x.2.2)[i]).toNat < a.1.length := by omega
    have he : exA a (x.2.2)[i] = a.1[((x.2.2)[i]).toNat] := by
     unfold exA
     rw [List.getD_eq_getElem?_getD, List.getElem?_eq_getElem hlt, Option.getD_some]
    rw [he]
    exact S.text _ (List.getElem_mem hlt)
   rw [htx]
   have goT : ∀ m', becS (exA a (x.2.2)[i]) (exA b (y.2.2)[i]) m = (true, m') → spec_l16Put.l1 n a x b y t18 K k ((i + 1 : Nat) : Int) (encM m') =
     if (becL a b (((x.2.2)[i], (y.2.2)[i]) :: (x.2.2.drop (i + 1)).zip (y.2.2.drop (i + 1))) m).1 = true then K (encM (becL a b (((x.2.2)[i], (y.2.2)[i]) :: (x.2.2.drop (i + 1)).zip (y.2.2.drop (i + 1))) m).2) else some (encM (becL a b (((x.2.2)[i], (y.2.2)[i]) :: (x.2.2.drop (i + 1)).zip (y.2.2.drop (i + 1))) m).2, false) := by
    intro m' hw
    have hwo := becS_ok (x := exA a (x.2.2)[i]) hm hz
    have hwl := becS_len (exA a (x.2.2)[i]) (exA b (y.2.2)[i]) m
    rw [hw] at hwo hwl
    rw [becL_t hw]
    exact ih m' hwo (by dsimp only at hwl; omega)
   have goF : ∀ m', becS (exA a (x.2.2)[i]) (exA b (y.2.2)[i]) m = (false, m') → some (encM m', false) =
     if (becL a b (((x.2.2)[i], (y.2.2)[i]) :: (x.2.2.drop (i + 1)).zip (y.2.2.drop (i + 1))) m).1 = true then K (encM (becL a b (((x.2.2)[i], (y.2.2)[i]) :: (x.2.2.drop (i + 1)).zip (y.2.2.drop (i + 1))) m).2) else some (encM (becL a b (((x.2.2)[i], (y.2.2)[i]) :: (x.2.2.drop (i + 1)).zip (y.2.2.drop (i + 1))) m).2, false) := by
    intro m' hw
    rw [becL_f hw]
    rfl
   revert goT goF hx hz hsz
   generalize exA a (x.2.2)[i] = u
   generalize exA b (y.2.2)[i] = z
   intro hx hz hsz goT goF
   by_cases c : u.1 = 1
   ·rw [if_neg (by simp [c]), get_eq hn m _ (by omega), Option.bind_some]
    cases hg : mget .str KEx m u.2.1 with
    | none =>
     dsimp only
     rw [if_neg (by simp), if_pos (by simp), with_eq m _ _ (by omega), Option.bind_some]
     refine goT _ ?_
     unfold becS
     rw [if_pos c, hg]
    | some v =>
     have hw : becS u z m = (sameX v z, m) := by unfold becS; rw [if_pos c, hg]
     obtain ⟨q, q1, q2⟩ := mget_mem hg
     have hv : okX v := q2 ▸ hm q q1
     dsimp only
     simp only [seq_dec, tgE_eq hv hz]
     rw [if_pos trivial]
     cases hs : sameX v z with
     | true =>
      rw [if_neg (by simp), if_neg (by simp)]
      exact goT m (by rw [hw, hs])
     | false =>
      rw [if_pos (by simp)]
      exact goF m (by rw [hw, hs])
   ·have h3 : u.1 = 3 := hx.resolve_left c
    have hw : becS u z m = (sameX u z, m) := by unfold becS; rw [if_neg c]
    have e0 : (⟨#[116]⟩ : ByteArray) ++ u.2.1 = tgE u := by
     unfold tgE
     rw [if_neg c, show (⟨#[116]⟩ : ByteArray) = bt [116] from rfl, bt_of u.2.1, bt_append, bt_list]
     rfl
    rw [if_pos (by simp [c]), if_pos (by rw [show (⟨#[116]⟩ : ByteArray) = bt [116] from rfl]; simp only [bt_size, List.length_cons, List.length_nil, lim]; omega), e0]
    simp only [seq_dec, tgE_eq hx hz]
    cases hs : sameX u z with
    | true =>
     rw [if_neg (by simp)]
     exact goT m (by rw [hw, hs])
    | false =>
     rw [if_pos (by simp)]
     exact goF m (by rw [hw, hs])
  ·conv => lhs; unfold spec_l16Put.l1
   rw [if_neg (dnl h), List.drop_of_length_le (by omega)]
   rfl
theorem put_eq (S : SmT a) (T : SmT b) (hn : 100000001 ≤ n) (Ea : EOk a) (Eb : EOk b) (x y : Ex) (m : List ME) (hX : KIn a x.2.2) (hY : KIn b y.2.2) (hl : x.2.2.length ≤ 1048576) (hm : VOk m) (hlen : m.length + x.2.2.length ≤ 100000000) :
  spec_l16Put.F n a x b y (encM m) = some (encM (becF a b x y m).2, (becF a b x y m).1) := by
 unfold spec_l16Put.F becF
 rw [seq_dec]
 by_cases c1 : x.2.1 = y.2.1
 ·rw [if_pos (by simp [c1])]
  by_cases c2 : x.2.2.length = y.2.2.length
  ·rw [if_neg (by simp [c2]), if_pos ⟨c1, c2⟩]
   unfold spec_l16Put.j0
   have e := fun K => put_l (n := n) S T hn Ea Eb x y ([], []) hX hY c2 hl K n 0 m (Nat.zero_le _) (by omega) hm (by omega)
   simp only [show ((0 : Nat) : Int) = 0 from rfl, List.drop_zero] at e
   rw [e]
   generalize becL a b (x.2.2.zip y.2.2) m = r
   obtain ⟨r1, r2⟩ := r
   cases r1 <;> rfl
  ·rw [if_pos (by simp; omega), if_neg (fun h => c2 h.2)]
 ·rw [if_neg (by simp [c1]), if_neg (fun h => c1 h.1)]
end
end Go.Abs
