/- The reference's TermKind and the program's kindOf: both answer the kind of a term. Conditions: none. -/
import Derived.Test.YtgdlicpmbgodjaaGreatDoorT6
namespace Go.Abs
set_option linter.unusedVariables false
set_option linter.unusedSimpArgs false
theorem ZC2 (n : Nat) (s : ByteArray) : spec_TermKind.F (n + 1) s = spec_TermKind.G n (spec_TermKind.F n) s := rfl
theorem Z8U (n : Nat) (self : ByteArray → Option Int) (K : Unit → Option Int) (x : UInt8) : ∀ (r pre : List UInt8) (k : Nat), (pre ++ r).length ≤ 4294967290 → r.length + 1 ≤ k →
  spec_TermKind.l2 n self (bt (pre ++ (r ++ [x]))) K k (pre.length : Int) = if r.all Z0b = true then K () else some 0
 | r, pre, 0, _, hk => by omega
 | [], pre, k + 1, hl, hk => by
  simp only [List.append_nil] at hl;unfold spec_TermKind.l2;rw [Z0C, Z09 _ (by omega) (by omega), if_neg (by simp)]
  rfl
 | c :: r, pre, k + 1, hl, hk => by
  simp only [List.length_append, List.length_cons] at hl;have e1 : pre ++ (c :: r ++ [x]) = pre ++ c :: (r ++ [x]) := rfl;have hw : IntKind.i64.wrap ((pre.length : Int) + 1) = ((pre ++ [c]).length : Int) := by rw [Z09 _ (by omega) (by omega), Z2q pre c]
  have hc := c.toNat_lt;rw [e1];unfold spec_TermKind.l2;rw [Z0C, hw, if_pos (by simp; omega), if_pos (Z0e pre _ c), Z1S, Z09 (c.toNat : Int) (by omega) (by omega), Z0c, List.all_cons];simp only [Option.bind_some];have e92 : decide ((c.toNat : Int) = 92) = decide (c = 92) := decide_eq_decide.2 (Z2c (d := 92) rfl);rcases Z25 (Z0b c) with hp | hp
  ·rw [hp]
   simp only [Z0b, decide_eq_false_iff_not] at hp
   by_cases h1 : 32 ≤ c.toNat ∧ c.toNat ≤ 126
   ·rw [if_pos (by simp; omega), if_pos (Z0e pre _ c)]
    by_cases h2 : c.toNat = 34
    ·rw [if_neg (by simp; omega)]
     simp
    ·rw [if_pos (by simp; omega), if_pos (Z0e pre _ c), if_pos (by simp; omega)]
     simp
   ·rw [if_neg (by simp; omega)]
    simp
  ·rw [hp]
   simp only [Z0b, decide_eq_true_eq] at hp;rw [if_pos (by simp; omega), if_pos (Z0e pre _ c), if_pos (by simp; omega), if_pos (Z0e pre _ c), if_neg (by simp; omega), Z1f];rw [Z8U n self K x r (pre ++ [c]) k (by simp; omega) (by simpa using hk)]
   rfl
theorem Z5a (n : Nat) (self : ByteArray → Option Int) (K : Unit → Option Int) (κ : List UInt8 → Nat) : ∀ (r pre : List (List UInt8)) (k : Nat), (pre ++ r).length ≤ 4294967290 → r.length + 1 ≤ k →
  (∀ x ∈ r, self (bt x) = some (κ x : Int)) → spec_TermKind.l4 n self ((pre ++ r).map bt) K k (pre.length : Int) = if r.all (fun x => !decide (κ x = 0)) = true then K () else some 0
 | r, pre, 0, _, hk, _ => by omega
 | [], pre, k + 1, hl, hk, hs => by
  unfold spec_TermKind.l4;rw [List.length_map, if_neg (by simp)]
  rfl
 | c :: r, pre, k + 1, hl, hk, hs => by
  simp only [List.length_append, List.length_cons] at hl;have hlen : (pre.length : Int) < (((pre ++ c :: r).map bt).length : Int) := by simp; omega
  have hget : List.getD ((pre ++ c :: r).map bt) (Int.toNat (pre.length : Int)) ByteArray.empty = bt c := by
   rw [Int.toNat_natCast, List.map_append, List.map_cons];have := Z0X (pre.map bt) (r.map bt) (bt c) ByteArray.empty;rw [List.length_map] at this;exact this
  unfold spec_TermKind.l4;rw [if_pos (decide_eq_true hlen), if_pos ⟨by omega, hlen⟩, hget, hs c List.mem_cons_self];simp only [Option.bind_some]
  by_cases h : κ c = 0
  ·rw [if_pos (by simp; omega), if_neg (by simp [h])]
  ·have e : (c :: r).all (fun x => !decide (κ x = 0)) = r.all (fun x => !decide (κ x = 0)) := by simp [h]
   rw [e];rw [if_neg (by simp; omega), Z09 _ (by omega) (by omega), show (pre.length : Int) + 1 = ((pre ++ [c]).length : Int) by simp, show pre ++ c :: r = (pre ++ [c]) ++ r by simp,
    Z5a n self K κ r (pre ++ [c]) k (by simp; omega) (by simpa using hk) (fun x hx => hs x (List.mem_cons_of_mem _ hx))]
structure IsKind (l : List UInt8) (k : Nat) : Prop where
 le : k ≤ 3
 sound : k ≠ 0 → Tm k l ∧ l.length ≤ 200
 complete : ∀ k', Tm k' l → l.length ≤ 200 → k = k'
theorem IsKind.unique {l : List UInt8} {k k' : Nat} (h : IsKind l k) (h' : IsKind l k') : k = k' := by
 by_cases h0 : k = 0
 ·by_cases h1 : k' = 0
  ·omega
  ·obtain ⟨h2, h3⟩ := h'.sound h1
   exact h.complete k' h2 h3
 ·obtain ⟨h2, h3⟩ := h.sound h0
  exact (h'.complete k h2 h3).symm
theorem Z0g {l : List UInt8} (h : ∀ k, Tm k l → l.length ≤ 200 → False) : IsKind l 0 := ⟨by omega, fun h => absurd rfl h, fun k hk hl => (h k hk hl).elim⟩
theorem Z4q (n : Nat) (l : List UInt8) (hl : l.length ≤ 4294960000) (hn : l.length + 60 ≤ n) : ∃ k : Nat, impl_kindOf.F n (bt l) = some (k : Int) ∧ IsKind l k := by
 obtain ⟨res, h1, h2⟩ := Z6e l.length l n (Nat.le_refl _) hl hn;have hc : ∀ k, Tm k l → res = ((k : Int), (l.length : Int)) := by
  intro k hk;have := Z1J hk [] n (.inl rfl) (by simpa using hl) (by simpa using hn);rw [List.append_nil, h1] at this;exact Option.some.inj this
 unfold impl_kindOf.F;rw [h1, Z0C];simp only [Option.bind_some]
 by_cases h200 : 200 < l.length
 ·rw [if_neg (by simp; omega)]
  exact ⟨0, rfl, Z0g (fun k _ h => by omega)⟩
 ·rw [if_pos (by simp; omega)]
  rcases h2 with rfl | ⟨k, t, rest, rfl, ht, rfl⟩
  ·have h0 : ∀ k, Tm k l → False := by
    intro k hk;have := congrArg Prod.fst (hc k hk);have := hk.kind
    simp at *
    omega
   refine ⟨0, ?_, Z0g (fun k hk _ => h0 k hk)⟩
   split <;> rfl
  ·by_cases hr : rest = []
   ·subst hr
    rw [List.append_nil] at hc h200 ⊢;rw [if_neg (by simp)];have := ht.kind;refine ⟨k, rfl, ⟨by omega, fun _ => ⟨ht, by omega⟩, fun k' hk' _ => ?_⟩⟩;have := congrArg Prod.fst (hc k' hk')
    simp at this
    omega
   ·rw [if_pos]
    ·refine ⟨0, rfl, Z0g (fun k' hk' _ => ?_)⟩
     have := congrArg Prod.snd (hc k' hk')
     simp at this
     exact hr (List.length_eq_zero_iff.1 (by omega))
    ·have : 0 < rest.length := List.length_pos_iff.2 hr
     simp
     omega
theorem Z0j : ∀ (L : Nat) (l : List UInt8) (n : Nat), l.length ≤ L → l.length ≤ 4294960000 → l.length + 60 ≤ n → ∃ k : Nat, spec_TermKind.F n (bt l) = some (k : Int) ∧ IsKind l k := by
 intro L
 induction L with
 | zero =>
  intro l n hl _ hn;obtain ⟨n, rfl⟩ : ∃ m, n = m + 1 := ⟨n - 1, by omega⟩
  have : l = [] := List.length_eq_zero_iff.1 (by omega);subst this;rw [ZC2];unfold spec_TermKind.G;rw [Z1R, Z1D, if_neg (by simp)];exact ⟨0, rfl, Z0g (fun k h _ => h.ne rfl)⟩
 | succ L ih =>
  intro l n hl hL hn;obtain ⟨n, rfl⟩ : ∃ m, n = m + 1 := ⟨n - 1, by omega⟩
  cases l with
  | nil =>
   rw [ZC2];unfold spec_TermKind.G;rw [Z1R, Z1D, if_neg (by simp)];exact ⟨0, rfl, Z0g (fun k h _ => h.ne rfl)⟩
  | cons c r =>
   rw [ZC2];unfold spec_TermKind.G;rw [Z1R, Z1D, if_pos (by simp), Z0C]
   by_cases h200 : 200 < (c :: r).length
   ·rw [if_pos (by simp only [decide_eq_true_eq]; omega)]
    exact ⟨0, rfl, Z0g (fun k _ h => by omega)⟩
   ·rw [if_neg (by simp only [decide_eq_true_eq]; omega)]
    have h200' := h200;simp only [List.length_cons] at h200' hl hn;unfold spec_TermKind.j0;obtain ⟨v, ok, hv, hok, _⟩ := Z2E n (c :: r) (by omega);rw [hv];simp only [Option.bind_some];cases ok with
    | true =>
     rw [if_pos rfl];obtain ⟨x, hx0, hx1, hx⟩ := hok.1 rfl;refine ⟨1, rfl, ⟨by omega, fun _ => ⟨by rw [hx]; exact Tm.num x hx0 hx1, by omega⟩, fun k' hk' hlen => ?_⟩⟩;have e1 := Z1J hk' [] 400 (.inl rfl) (by simp; omega) (by simp; omega);have e2 := Z1J (Tm.num x hx0 hx1) [] 400 (.inl rfl) (by rw [← hx]; simp; omega) (by rw [← hx]; simp; omega);rw [← hx, e1] at e2;have := congrArg Prod.fst (Option.some.inj e2)
     simp at this
     omega
    | false =>
     have hnn : ¬ Z5G (c :: r) := fun h => by have := hok.2 h; cases this
     have hsz : 0 < ((c :: r).length : Int) := by simp <;> omega
     rw [if_neg (by simp), Z0C, if_pos ⟨by omega, hsz⟩, Z26, e34]
     by_cases h34 : c = 34
     ·subst h34
      rw [if_pos (by simp), Z0c];simp only [Option.bind_some];have symInv : ∀ k, Tm k (34 :: r) → ∃ m : List UInt8, r = m ++ [34] ∧ m.length ≤ 20 ∧ m.all Z0b = true ∧ k = 2 := by
       intro k hk;generalize he : (34 :: r : List UInt8) = t at hk;cases hk with
       | num x h0 h1 => exact absurd ⟨x, h0, h1, he⟩ hnn
       | sym m h hp => injection he with _ he; exact ⟨m, he, h, hp, rfl⟩
       | con0 nm h => obtain ⟨c', r', hc', hb, _⟩ := Z0w h; rw [hc'] at he; injection he with he _; subst he; exact absurd hb (by decide)
       | con nm a bs h ks hh => obtain ⟨c', r', hc', hb, _⟩ := Z0w h; rw [hc'] at he; injection he with he _; subst he; exact absurd hb (by decide)
      by_cases hsz2 : 2 ≤ (34 :: r : List UInt8).length ∧ (34 :: r : List UInt8).length ≤ 22
      ·rw [if_pos (by simp only [Bool.not_eq_false', decide_eq_true_eq]; omega)]
       simp only [List.length_cons] at hsz2;obtain ⟨m, x, rfl⟩ : ∃ m x, r = m ++ [x] := ⟨r.dropLast, r.getLast (by rintro rfl; simp at hsz2), (List.dropLast_concat_getLast _).symm⟩
       have hlm : (m ++ [x]).length = m.length + 1 := by simp
       have hw : IntKind.i64.wrap (((34 :: (m ++ [x]) : List UInt8).length : Int) - 1) = ((34 :: m : List UInt8).length : Int) := by
        rw [Z09 _ (by simp; omega) (by simp; omega)]; simp
       have hat : Z0N (bt (34 :: (m ++ [x]))) ((34 :: m : List UInt8).length : Int) = (x.toNat : Int) := Z1S (34 :: m) [] x;rw [hw, if_pos ⟨by omega, by simp only [List.length_cons, List.length_append, List.length_nil]; omega⟩, hat, e34]
       by_cases hx : x = 34
       ·subst hx
        rw [if_neg (by simp)];unfold spec_TermKind.j1;have := Z8U n (spec_TermKind.F n) (fun _ => some 2) 34 m [34] n (by simp; omega) (by omega);simp only [List.length_singleton, List.singleton_append] at this;rw [show ((1 : Nat) : Int) = 1 from rfl] at this;rw [this]
        by_cases hm : m.all Z0b = true
        ·rw [if_pos hm]
         refine ⟨2, rfl, ⟨by omega, fun _ => ⟨Tm.sym m (by omega) hm, by simp; omega⟩, fun k' hk' _ => ?_⟩⟩;obtain ⟨_, _, _, _, h⟩ := symInv k' hk';omega
        ·rw [if_neg hm]
         refine ⟨0, rfl, Z0g (fun k' hk' _ => ?_)⟩;obtain ⟨m', h1, _, h3, _⟩ := symInv k' hk';have := List.append_inj_left' h1 rfl;subst this;exact hm h3
       ·rw [if_pos (by simpa using hx)]
        refine ⟨0, rfl, Z0g (fun k' hk' _ => ?_)⟩;obtain ⟨m', h1, _, h3, _⟩ := symInv k' hk';have := List.append_inj_right' h1 rfl
        injection this with this
        exact hx this
      ·rw [if_neg (by simp only [Bool.not_eq_false', decide_eq_true_eq]; omega)]
       refine ⟨0, rfl, Z0g (fun k' hk' _ => ?_)⟩;obtain ⟨m', h1, h2, h3, _⟩ := symInv k' hk';rw [h1] at hsz2
       simp at hsz2
       omega
     ·rw [if_neg (by simpa using h34)]
      have conInv : ∀ k, Tm k (c :: r) → k = 3 ∧ ((Z0o (c :: r) = true) ∨ ∃ nm a bs, c :: r = nm ++ 40 :: (a ++ (Z02 bs ++ [41])) ∧ Z0o nm = true ∧ ∀ x ∈ a :: bs, ∃ k, Tm k x) := by
       intro k hk;generalize he : c :: r = t at hk;cases hk with
       | num x h0 h1 => exact absurd ⟨x, h0, h1, he⟩ hnn
       | sym m h hp => injection he with he _; exact absurd he h34
       | con0 nm h => exact ⟨rfl, .inl h⟩
       | con nm a bs h ks hh => exact ⟨rfl, .inr ⟨nm, a, bs, rfl, h, fun x hx => ⟨_, hh x hx⟩⟩⟩
      have goArgs : ∀ (nm : List UInt8) (ls : List (List UInt8)), ls.length ≤ (c :: r).length → (∀ x ∈ ls, x.length < (c :: r).length) → spec_l01Args.F n (bt (c :: r)) = some (bt nm, ls.map bt, true) → nm.length ≤ (c :: r).length →
        ∃ κ : List UInt8 → Nat, (∀ x ∈ ls, IsKind x (κ x)) ∧ ((spec_l01Args.F n (bt (c :: r))).bind fun r9 =>
         if (!r9.2.2) = false then
          (spec_l01Name.F n r9.1 true).bind fun r10 =>
          if (!r10) = true then
           some 0
          else
           spec_TermKind.j3 n (spec_TermKind.F n) r9.2.1
         else
          some 0) = if Z0o nm = true then (if ls.all (fun x => !decide (κ x = 0)) = true then some 3 else some 0) else some 0 := by
       intro nm ls hlen hsub hA hnm;have hex : ∃ κ : List UInt8 → Nat, ∀ x ∈ ls, spec_TermKind.F n (bt x) = some (κ x : Int) ∧ IsKind x (κ x) := by
        classical
        refine ⟨fun x => if h : ∃ k : Nat, spec_TermKind.F n (bt x) = some (k : Int) ∧ IsKind x k then h.choose else 0, fun x hx => ?_⟩;have h1 := hsub x hx;simp only [List.length_cons] at h1;have := ih x n (by omega) (by omega) (by omega);show spec_TermKind.F n (bt x) = some (((if h : ∃ k : Nat, spec_TermKind.F n (bt x) = some (k : Int) ∧ IsKind x k then h.choose else 0 : Nat) : Nat) : Int) ∧ IsKind x (if h : ∃ k : Nat, spec_TermKind.F n (bt x) = some (k : Int) ∧ IsKind x k then h.choose else 0);rw [dif_pos this];exact this.choose_spec
       obtain ⟨κ, hκ⟩ := hex;refine ⟨κ, fun x hx => (hκ x hx).2, ?_⟩;simp only [List.length_cons] at hnm hlen;rw [hA];simp only [Option.bind_some];rw [if_pos (by simp), Z9q n nm (by omega) (by omega)];simp only [Option.bind_some]
       by_cases hb : Z0o nm = true
       ·rw [if_neg (by rw [hb]; simp), if_pos hb]
        unfold spec_TermKind.j3;have := Z5a n (spec_TermKind.F n) (fun _ => some 3) κ ls [] n (by simp; omega) (by omega) (fun x hx => (hκ x hx).1);simp only [List.nil_append, List.length_nil] at this;rw [show ((0 : Nat) : Int) = 0 from rfl] at this;exact this
       ·rw [if_pos (by rw [Bool.eq_false_iff.2 hb]; rfl), if_neg hb]
      have noOpen : Z0o (c :: r) = true → ((c :: r).takeWhile Z0O).length = (c :: r).length := by
       intro h;obtain ⟨c', r', hc', _, _, hall⟩ := Z0w h;exact Z1K.2 (Z2b hall)
      have conOpen : ∀ (nm : List UInt8) (X : List UInt8), c :: r = nm ++ 40 :: X → ((c :: r).takeWhile Z0O).length ≠ (c :: r).length := by
       intro nm X he h;have := Z1K.1 h;rw [List.all_eq_true] at this;have h40 := this 40 (by rw [he]; simp);exact absurd h40 (by decide)
      have hstart := Z6W n (c :: r) (by omega) (by simp only [List.length_cons]; omega);have hwle : ((c :: r).takeWhile Z0O).length ≤ (c :: r).length := (List.takeWhile_prefix Z0O).length_le
      by_cases htw : ((c :: r).takeWhile Z0O).length = (c :: r).length
      ·rw [if_pos htw] at hstart
       obtain ⟨κ, _, hres⟩ := goArgs (c :: r) [] (by simp) (fun x hx => by cases hx) hstart (Nat.le_refl _);rw [hres]
       by_cases hb : Z0o (c :: r) = true
       ·rw [if_pos hb, if_pos (by simp)]
        exact ⟨3, rfl, ⟨by omega, fun _ => ⟨Tm.con0 _ hb, by omega⟩, fun k' hk' _ => (conInv k' hk').1.symm⟩⟩
       ·rw [if_neg hb]
        refine ⟨0, rfl, Z0g (fun k' hk' _ => ?_)⟩;rcases (conInv k' hk').2 with h | ⟨nm, a, bs, h, _⟩
        ·exact hb h
        ·exact conOpen _ _ h htw
      ·rw [if_neg htw] at hstart
       have hs := Z45 Z0O (c :: r);have hdrop : ∃ r', (c :: r).drop ((c :: r).takeWhile Z0O).length = 40 :: r' := by
        cases hd : (c :: r).drop ((c :: r).takeWhile Z0O).length with
        | nil => exact absurd (List.drop_eq_nil_iff.1 hd) (by omega)
        | cons d t =>
         have hno : Z0O d = false := by
          have h1 : (c :: r).takeWhile Z0O = ((c :: r).takeWhile Z0O ++ d :: t).takeWhile Z0O := by
           conv => lhs; rw [hs, hd]
          rcases Z25 (Z0O d) with h | h
          ·exact h
          ·have h2 : ∀ (A : List UInt8), A.all Z0O = true → (A ++ d :: t).takeWhile Z0O = A ++ d :: t.takeWhile Z0O := by
            intro A
            induction A with
            | nil => intro _; rw [List.nil_append, List.takeWhile_cons, h, if_pos rfl]; rfl
            | cons x A ihA => intro hA; rw [List.all_cons, Bool.and_eq_true] at hA; rw [List.cons_append, List.takeWhile_cons, hA.1, if_pos rfl, ihA hA.2]; rfl
           rw [h2 _ (ZAF Z0O (c :: r))] at h1;have := congrArg List.length h1
           simp at this
         have : d = 40 := by
          unfold Z0O at hno;simpa using hno
         exact ⟨t, by rw [this]⟩
       generalize hW : (c :: r).takeWhile Z0O = W at *;obtain ⟨r', hr'⟩ := hdrop;rw [hr'] at hs;have hA := Z5t n (W.length : Int) (fun _ => some (ByteArray.empty, [], false)) W.length rfl rfl (40 :: r') W n 0 false (W.length + 1) [] (by rw [← hs]; omega) (by have := congrArg List.length hs; simp only [List.length_append, List.length_cons] at this; simp only [List.length_cons]; omega)
        (by have := congrArg List.length hs; simp only [List.length_append, List.length_cons] at this; simp only [List.length_cons]; omega) (by rw [if_pos rfl]; omega) (Nat.le_refl _) (by simp) (fun _ => ⟨rfl, rfl, r', rfl⟩)
       obtain ⟨x, ys, ok, h1, h2⟩ := hA;rw [← hs] at h1 h2;rw [h1] at hstart;cases ok with
       | false =>
        rw [hstart];simp only [Option.bind_some];rw [if_neg (by simp)];refine ⟨0, rfl, Z0g (fun k' hk' _ => ?_)⟩;rcases (conInv k' hk').2 with h | ⟨nm, a, bs, h, hb, hh⟩
        ·exact htw (noOpen h)
        ·have := Z4J n nm a bs hb hh (by rw [← h]; omega) (by rw [← h]; simp only [List.length_cons]; omega)
         rw [← h, hstart] at this
         simp at this
       | true =>
        obtain ⟨hx, p, bs, hys, hdr⟩ := h2 rfl;have htk : (c :: r).take W.length = W := by rw [hs, List.take_left]
        rw [htk] at hx;have hr2 : r' = p ++ (Z02 bs ++ [41]) := by
         rw [← hdr]
         conv => rhs; rw [hs]
         rw [← List.drop_drop, List.drop_left]
         rfl
        have hfull : c :: r = W ++ 40 :: (p ++ (Z02 bs ++ [41])) := by rw [hs, hr2]
        have hlenF := congrArg List.length hfull;simp only [List.length_append, List.length_cons, List.length_nil] at hlenF;have hbl : ∀ bs : List (List UInt8), bs.length ≤ (Z02 bs).length ∧ ∀ x ∈ bs, x.length ≤ (Z02 bs).length := by
         intro bs
         induction bs with
         | nil => exact ⟨Nat.le_refl _, fun x hx => by cases hx⟩
         | cons b bs ihb =>
          simp only [Z02, List.length_cons, List.length_append];refine ⟨by omega, fun x hx => ?_⟩;rcases List.mem_cons.1 hx with rfl | hx
          ·omega
          ·have := ihb.2 x hx; omega
        have hsub : ∀ x ∈ p :: bs, x.length < (c :: r).length := by
         intro x hx;rw [List.length_cons];rcases List.mem_cons.1 hx with rfl | hx
         ·omega
         ·have := (hbl bs).2 x hx; omega
        rw [hx, hys, List.nil_append] at hstart;obtain ⟨κ, hκ, hres⟩ := goArgs W (p :: bs) (by have := (hbl bs).1; simp only [List.length_cons]; omega) hsub hstart (by omega);rw [hres]
        by_cases hb : Z0o W = true
        ·rw [if_pos hb]
         by_cases hall : (p :: bs).all (fun x => !decide (κ x = 0)) = true
         ·rw [if_pos hall]
          refine ⟨3, rfl, ⟨by omega, fun _ => ⟨?_, by omega⟩, fun k' hk' _ => (conInv k' hk').1.symm⟩⟩;rw [hfull];refine Tm.con W p bs hb κ (fun x hx => ((hκ x hx).sound ?_).1);rw [List.all_eq_true] at hall;have := hall x hx;simpa using this
         ·rw [if_neg hall]
          refine ⟨0, rfl, Z0g (fun k' hk' _ => ?_)⟩;rcases (conInv k' hk').2 with h | ⟨nm, a, bs', h, hb', hh⟩
          ·exact htw (noOpen h)
          ·have := Z4J n nm a bs' hb' hh (by rw [← h]; omega) (by rw [← h]; simp only [List.length_cons]; omega)
           rw [← h, hstart] at this;have e1 : (p :: bs).map bt = (a :: bs').map bt := congrArg (fun q : ByteArray × List ByteArray × Bool => q.2.1) (Option.some.inj this);have e2 : p :: bs = a :: bs' := by
            have := congrArg (List.map fun s : ByteArray => s.data.toList) e1;rw [List.map_map, List.map_map] at this;simpa [Function.comp_def, Z1B] using this
           apply hall;rw [List.all_eq_true];intro x hx;obtain ⟨kx, hkx⟩ := hh x (by rw [← e2]; exact hx);have hlx := hsub x hx;have := (hκ x hx).complete kx hkx (by omega);have hk0 := hkx.kind
           simp
           omega
        ·rw [if_neg hb]
         refine ⟨0, rfl, Z0g (fun k' hk' _ => ?_)⟩;rcases (conInv k' hk').2 with h | ⟨nm, a, bs', h, hb', hh⟩
         ·exact htw (noOpen h)
         ·have := Z4J n nm a bs' hb' hh (by rw [← h]; omega) (by rw [← h]; simp only [List.length_cons]; omega)
          rw [← h, hstart] at this;have e1 : bt W = bt nm := congrArg (fun q : ByteArray × List ByteArray × Bool => q.1) (Option.some.inj this);rw [bt_inj e1] at hb;exact hb hb'
theorem Z8t (n m : Nat) (s : ByteArray) (hl : s.size ≤ 4294960000) (hn : s.size + 60 ≤ n) (hm : s.size + 60 ≤ m) :
  ∃ k : Nat, spec_TermKind.F n s = some (k : Int) ∧ impl_kindOf.F m s = some (k : Int) ∧ IsKind s.data.toList k := by
 rw [Z3h s] at hl hn hm ⊢;rw [Z0C] at hl hn hm;obtain ⟨k, h1, h2⟩ := Z0j _ _ n (Nat.le_refl _) hl hn;obtain ⟨k', h3, h4⟩ := Z4q m _ hl hm;have := h2.unique h4;subst this;rw [Z1B];exact ⟨k, h1, h3, h2⟩
end Go.Abs
