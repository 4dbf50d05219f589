/- The program's termAt: it answers soundly, and reads each term. Conditions: none. -/
import Derived.Test.YtgdlicpmbgodjaaGreatDoorT3
namespace Go.Abs
set_option linter.unusedVariables false
set_option linter.unusedSimpArgs false
theorem Z45 (p : UInt8 → Bool) (l : List UInt8) : l = l.takeWhile p ++ l.drop (l.takeWhile p).length := by
 have := (List.prefix_iff_eq_take.1 (List.takeWhile_prefix (l := l) p))
 conv => lhs; rw [← List.take_append_drop (l.takeWhile p).length l]
 rw [← this]
theorem ZAF (p : UInt8 → Bool) (l : List UInt8) : (l.takeWhile p).all p = true := by
 induction l with
 | nil => rfl
 | cons c r ih =>
  rw [List.takeWhile_cons];rcases Z25 (p c) with h | h
  ·simp [h]
  ·simp only [h, if_true, List.all_cons, ih, Bool.and_self]
theorem name_of {c : UInt8} {r : List UInt8} (hc : Z5H c = true) (h : ¬ 20 < ((c :: r).takeWhile isW).length) : Z0o ((c :: r).takeWhile isW) = true := by
 have hw : isW c = true := by unfold isW isLt; rw [hc]; simp
 unfold Z0o;rw [ZAF];rw [List.takeWhile_cons, hw, if_pos rfl] at h ⊢;simp only [List.length_cons] at h ⊢
 simp [hc]
 omega
theorem Z59 (n : Nat) (s : ByteArray) : impl_termAt.F (n + 1) s = impl_termAt.G n (impl_termAt.F n) s := rfl
theorem Z6e : ∀ (L : Nat) (l : List UInt8) (n : Nat), l.length ≤ L → L ≤ 4294960000 → l.length + 60 ≤ n → ∃ res, impl_termAt.F n (bt l) = some res ∧ TR l res := by
 intro L
 induction L with
 | zero =>
  intro l n hl _ hn;obtain ⟨n, rfl⟩ : ∃ m, n = m + 1 := ⟨n - 1, by omega⟩
  have : l = [] := List.length_eq_zero_iff.1 (by omega);subst this;rw [Z59];unfold impl_termAt.G;rw [Z1R, Z1D, if_pos (by simp)];exact ⟨_, rfl, .inl rfl⟩
 | succ L ih =>
  intro l n hl hL hn;obtain ⟨n, rfl⟩ : ∃ m, n = m + 1 := ⟨n - 1, by omega⟩
  cases l with
  | nil =>
   rw [Z59];unfold impl_termAt.G;rw [Z1R, Z1D, if_pos (by simp)];exact ⟨_, rfl, .inl rfl⟩
  | cons c r =>
   simp only [List.length_cons] at hl hn;rw [Z59]
   by_cases hq : c = 34
   ·subst hq
    rw [G_sym n _ r (by omega) (by omega)];refine ⟨_, rfl, ?_⟩
    by_cases h : (r.takeWhile Z0b).length ≤ 20 ∧ r[(r.takeWhile Z0b).length]? = some 34
    ·rw [if_pos h]
     have hs := Z45 Z0b r;cases hd : r.drop (r.takeWhile Z0b).length with
     | nil =>
      have h2 := h.2;rw [← List.head?_drop, hd] at h2;cases h2
     | cons d t =>
      have h2 := h.2;rw [← List.head?_drop, hd] at h2;cases h2;rw [hd] at hs;refine .inr ⟨2, 34 :: (r.takeWhile Z0b ++ [34]), t, ?_, Tm.sym _ h.1 (ZAF _ _), ?_⟩
      ·congr 1
       simp only [List.length_cons, List.length_append, List.length_nil]
      ·conv => lhs; rw [hs]
       simp
    ·rw [if_neg h]; exact .inl rfl
   ·by_cases hnum : c = 45 ∨ Z1r c = true
    ·rw [G_num n _ c r hnum]
     obtain ⟨h1, h2⟩ := num_at n (impl_termAt.F n) c r (fun _ => some (0, 0)) (by omega) (by omega)
     by_cases hN : Z5G (c :: r.takeWhile Z1r)
     ·rw [h1 hN]
      obtain ⟨x, hx0, hx1, hx⟩ := hN;refine ⟨_, rfl, .inr ⟨1, c :: r.takeWhile Z1r, r.drop (r.takeWhile Z1r).length, rfl, ?_, ?_⟩⟩
      ·rw [hx]; exact Tm.num x hx0 hx1
      ·rw [List.cons_append, ← Z45]
     ·rw [h2 hN]
      exact ⟨_, rfl, .inl rfl⟩
    ·by_cases hb : Z5H c = true
     ·rw [G_big n _ c r hb (by omega) (by omega)]
      by_cases h20 : 20 < ((c :: r).takeWhile isW).length
      ·rw [if_pos h20]; exact ⟨_, rfl, .inl rfl⟩
      ·rw [if_neg h20]
       have hnm := name_of hb h20;have hs := Z45 isW (c :: r);have hwle : ((c :: r).takeWhile isW).length ≤ (c :: r).length := (List.takeWhile_prefix isW).length_le;cases hd : (c :: r).drop ((c :: r).takeWhile isW).length with
       | nil =>
        rw [hd, List.append_nil] at hs;dsimp only;refine ⟨_, rfl, .inr ⟨3, (c :: r).takeWhile isW, [], rfl, Tm.con0 _ hnm, ?_⟩⟩;rw [List.append_nil];exact hs
       | cons d t =>
        dsimp only
        by_cases h40 : d = 40
        ·subst h40
         rw [if_pos rfl];unfold impl_termAt.j3;have hdl := congrArg List.length hd;rw [List.length_drop] at hdl;simp only [List.length_cons] at hdl;have hlt : ((c :: r).takeWhile isW).length < (c :: r).length := by simp only [List.length_cons]; omega
         rcases Z8p n (impl_termAt.F n) (c :: r) (fun t22 =>
           if (decide (t22 < (ByteArray.size (bt (c :: r)) : Int))) = true then
            if (0 : Int) ≤ t22 ∧ t22 < (ByteArray.size (bt (c :: r)) : Int) then
             if decide ((Z0N (bt (c :: r)) t22) = 41) = true then
              some (3, IntKind.i64.wrap (t22 + 1))
             else
              (fun _ => some (0, 0)) ()
            else
             none
           else
            (fun _ => some (0, 0)) ()) (by simp only [List.length_cons]; omega)
          (fun l' hl' => ih l' n (by simp only [List.length_cons] at hl'; omega) (by omega) (by simp only [List.length_cons] at hl'; omega)) n _ hlt (by simp only [List.length_cons]; omega) with h | ⟨a, bs, rest, h1, h2, h3⟩
         ·exact ⟨_, h, .inl rfl⟩
         ·rw [h3]
          dsimp only;have ht : t = a ++ (Z02 bs ++ rest) := by rw [← h1, ← List.drop_drop, hd]; rfl
          have hfull : c :: r = ((c :: r).takeWhile isW ++ 40 :: (a ++ Z02 bs)) ++ rest := by
           conv => lhs; rw [hs, hd, ht]
           simp
          have hlen2 : ((c :: r).takeWhile isW).length + 1 + (a ++ Z02 bs).length = ((c :: r).takeWhile isW ++ 40 :: (a ++ Z02 bs)).length := by
           simp only [List.length_append, List.length_cons]; omega
          cases rest with
          | nil =>
           have hl2 := congrArg List.length hfull;rw [List.append_nil, ← hlen2] at hl2;rw [Z0C, if_neg (by simp only [decide_eq_true_eq]; omega)];exact ⟨_, rfl, .inl rfl⟩
          | cons e u =>
           rw [hlen2];have hat : Z0N (bt (c :: r)) ((((c :: r).takeWhile isW ++ 40 :: (a ++ Z02 bs)).length : Nat) : Int) = (e.toNat : Int) := by
            conv => lhs; arg 1; rw [hfull]
            exact Z1S _ _ _
           have hl3 : ((((c :: r).takeWhile isW ++ 40 :: (a ++ Z02 bs)).length : Nat) : Int) < (ByteArray.size (bt (c :: r)) : Int) := by
            rw [Z0C];have hl2 := congrArg List.length hfull;rw [List.length_append] at hl2;have h9 : (e :: u).length = u.length + 1 := rfl;omega
           have hl4 : ((c :: r).takeWhile isW ++ 40 :: (a ++ Z02 bs)).length ≤ 4294960000 := by
            rw [Z0C] at hl3;have hcr : (c :: r).length ≤ 4294960000 := by simp only [List.length_cons]; omega
            exact Nat.le_trans (Nat.le_of_lt (Int.ofNat_lt.1 hl3)) hcr
           rw [if_pos (decide_eq_true hl3), if_pos ⟨by omega, hl3⟩, hat]
           by_cases h41 : e = 41
           ·subst h41
            rw [if_pos (by decide), Z09 _ (by omega) (by omega)];have hks : ∃ ks : List UInt8 → Nat, ∀ x ∈ a :: bs, Tm (ks x) x := by
             classical
             refine ⟨fun x => if h : ∃ k, Tm k x then h.choose else 0, fun x hx => ?_⟩;have := h2 x hx;show Tm (if h : ∃ k, Tm k x then h.choose else 0) x;rw [dif_pos this];exact this.choose_spec
            obtain ⟨ks, hks⟩ := hks;refine ⟨_, rfl, .inr ⟨3, (c :: r).takeWhile isW ++ 40 :: (a ++ (Z02 bs ++ [41])), u, ?_, Tm.con _ a bs hnm ks hks, ?_⟩⟩
            ·congr 1
             simp only [List.length_append, List.length_cons, List.length_nil];omega
            ·conv => lhs; rw [hfull]
             simp
           ·rw [if_neg]
            ·exact ⟨_, rfl, .inl rfl⟩
            ·simp only [decide_eq_true_eq]
             intro he;exact h41 (UInt8.toNat_inj.1 (show e.toNat = (41 : UInt8).toNat by rw [show (41 : UInt8).toNat = 41 from rfl]; omega))
        ·rw [if_neg h40]
         rw [hd] at hs;exact ⟨_, rfl, .inr ⟨3, (c :: r).takeWhile isW, d :: t, rfl, Tm.con0 _ hnm, hs⟩⟩
     ·rw [G_other n _ c r hq (fun e => hnum (.inl e)) (Bool.eq_false_iff.2 (fun e => hnum (.inr e))) (Bool.eq_false_iff.2 hb)]
      exact ⟨_, rfl, .inl rfl⟩
theorem stopW {rest : List UInt8} (h : Z9V rest) : rest = [] ∨ ∃ c t, rest = c :: t ∧ isW c = false := ZAT Z3T.2.2.1 Z3T.2.2.2.1 h
theorem Z1J {k : Nat} {t : List UInt8} (h : Tm k t) : ∀ (rest : List UInt8) (n : Nat), Z9V rest → t.length + rest.length ≤ 4294960000 → t.length + rest.length + 60 ≤ n →
  impl_termAt.F n (bt (t ++ rest)) = some ((k : Int), (t.length : Int)) := by
 induction h with
 | num x h0 h1 =>
  intro rest n hs hl hn;obtain ⟨n, rfl⟩ : ∃ m, n = m + 1 := ⟨n - 1, by omega⟩
  obtain ⟨c, r, hc, hcd, hr⟩ := Z4t h0 h1;rw [hc] at hl hn;simp only [List.length_cons] at hl hn;have htw : (r ++ rest).takeWhile Z1r = r := Z1C hr (ZAT Z3T.1 Z3T.2.1 hs);rw [hc, Z59, List.cons_append, G_num n _ c (r ++ rest) hcd, (num_at n _ c (r ++ rest) _ (by simp; omega) (by simp; omega)).1 (by rw [htw, ← hc]; exact ⟨x, h0, h1, rfl⟩), htw]
  rfl
 | sym m h hp =>
  intro rest n hs hl hn;obtain ⟨n, rfl⟩ : ∃ m, n = m + 1 := ⟨n - 1, by omega⟩
  simp only [List.length_cons, List.length_append, List.length_nil] at hl hn;have htw : ((m ++ [34]) ++ rest).takeWhile Z0b = m := by
   rw [List.append_assoc];exact Z1C hp (.inr ⟨34, rest, rfl, by decide⟩)
  rw [Z59, List.cons_append, G_sym n _ _ (by simp; omega) (by simp; omega), htw, if_pos ⟨h, by simp⟩]
  congr 2
  simp only [List.length_cons, List.length_append, List.length_nil]
 | con0 nm h =>
  intro rest n hs hl hn;obtain ⟨n, rfl⟩ : ∃ m, n = m + 1 := ⟨n - 1, by omega⟩
  obtain ⟨c, r, rfl, hb, h20, hall⟩ := Z0w h;simp only [List.length_cons] at hl hn h20;have htw : (c :: (r ++ rest)).takeWhile isW = c :: r := Z1C (a := c :: r) hall (stopW hs);rw [Z59, List.cons_append, G_big n _ c (r ++ rest) hb (by simp; omega) (by simp; omega), htw, if_neg (by simp; omega)];have hd : (c :: (r ++ rest)).drop (c :: r).length = rest := by rw [← List.cons_append, List.drop_left]
  rw [hd];rcases hs with rfl | ⟨d, u, rfl, rfl | rfl⟩
  ·rfl
  ·rfl
  ·rfl
 | con nm a bs h ks hh ih =>
  intro rest n hs hl hn;obtain ⟨n, rfl⟩ : ∃ m, n = m + 1 := ⟨n - 1, by omega⟩
  obtain ⟨c, r, rfl, hb, h20, hall⟩ := Z0w h;simp only [List.length_cons, List.length_append, List.length_nil] at hl hn h20;have e1 : (c :: r ++ 40 :: (a ++ (Z02 bs ++ [41]))) ++ rest = c :: (r ++ 40 :: (a ++ (Z02 bs ++ 41 :: rest))) := by simp
  have htw : (c :: (r ++ 40 :: (a ++ (Z02 bs ++ 41 :: rest)))).takeWhile isW = c :: r := Z1C (a := c :: r) hall (.inr ⟨40, _, rfl, Z3T.2.2.2.2⟩);have hd : (c :: (r ++ 40 :: (a ++ (Z02 bs ++ 41 :: rest)))).drop (c :: r).length = 40 :: (a ++ (Z02 bs ++ 41 :: rest)) := by rw [← List.cons_append, List.drop_left]
  rw [e1, Z59, G_big n _ c _ hb (by simp; omega) (by simp; omega), htw, if_neg (by simp; omega), hd];dsimp only;rw [if_pos rfl];unfold impl_termAt.j3;have hbs : bs.length ≤ (Z02 bs).length := by
   clear ih hh hl hn e1 htw hd
   induction bs with
   | nil => simp
   | cons b bs ihb => simp only [Z02, List.length_cons, List.length_append]; omega
  have key := Z4n n (impl_termAt.F n) (fun t22 =>
    if (decide (t22 < (ByteArray.size (bt (c :: (r ++ 40 :: (a ++ (Z02 bs ++ 41 :: rest))))) : Int))) = true then
     if (0 : Int) ≤ t22 ∧ t22 < (ByteArray.size (bt (c :: (r ++ 40 :: (a ++ (Z02 bs ++ 41 :: rest))))) : Int) then
      if decide ((Z0N (bt (c :: (r ++ 40 :: (a ++ (Z02 bs ++ 41 :: rest))))) t22) = 41) = true then
       some (3, IntKind.i64.wrap (t22 + 1))
      else
       (fun _ => some (0, 0)) ()
     else
      none
    else
     (fun _ => some (0, 0)) ()) (r.length + 1 + (1 + (a.length + ((Z02 bs).length + (1 + rest.length))))) (by omega) bs a (c :: r) rest 40 n
   (by simp only [List.length_append, List.length_cons]; omega)
   (fun x hx r' hr' hlt => ⟨ks x, (hh x hx).kind.1, ih x hx r' n hr' (by omega) (by omega)⟩) (by omega)
  rw [List.cons_append] at key;rw [key];dsimp only;have e2 : c :: (r ++ 40 :: (a ++ (Z02 bs ++ 41 :: rest))) = (c :: r ++ 40 :: (a ++ Z02 bs)) ++ 41 :: rest := by simp
  have e3 : (c :: r).length + 1 + (a ++ Z02 bs).length = (c :: r ++ 40 :: (a ++ Z02 bs)).length := by simp only [List.length_append, List.length_cons]; omega
  rw [e2, e3, Z0C, if_pos (decide_eq_true (Z1g _ _ _)), if_pos (Z0e _ _ _), Z1S, if_pos (by decide), Z09 _ (by simp only [List.length_append, List.length_cons]; omega) (by simp only [List.length_append, List.length_cons]; omega)]
  congr 2
  simp only [List.length_append, List.length_cons, List.length_nil];omega
end Go.Abs
