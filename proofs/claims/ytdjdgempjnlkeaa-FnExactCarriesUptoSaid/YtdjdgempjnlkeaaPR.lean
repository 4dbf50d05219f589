/- Plain rules: both sides. Conditions: none. -/
import Derived.Test.YtdjdgempjnlkeaaMB
import Derived.Test.YtdjdgempjnlkeaaMx
import Derived.Test.YtdjdgempjnlkeaaX6
namespace Go.Abs
set_option linter.unusedVariables false
set_option linter.unusedSimpArgs false
def exA (r : Ru) (a : Int) : Ex := r.1.getD a.toNat Ex0
def tx (r : Ru) (a : Int) : ByteArray := bt ((if (exA r a).1 = 1 then 118 else 116) :: (exA r a).2.1.data.toList)
def bodyA (r : Ru) : List Int := r.2.2.flatMap (·.2.2)
def varIn (r : Ru) (l : List Int) (s : ByteArray) : Bool := l.any fun a => decide ((exA r a).1 = 1 ∧ (exA r a).2.1 = s)
def plainB (r : Ru) : Bool := decide (r.2.2.length ≤ 6) && r.2.2.all (fun l => decide (l.1 = 1)) && r.1.all (fun e => decide (e.1 = 1 ∨ e.1 = 3)) && r.2.1.2.2.all (fun a => !decide ((exA r a).1 = 1) || varIn r (bodyA r) (exA r a).2.1)
theorem tx_eq (r : Ru) (a b : Int) (h : (exA r b).1 = 1) : tx r a = tx r b ↔ (exA r a).1 = 1 ∧ (exA r a).2.1 = (exA r b).2.1 := by
 unfold tx
 rw [if_pos h]
 constructor
 ·intro e
  have := bt_inj e
  simp only [List.cons.injEq] at this
  obtain ⟨h1, h2⟩ := this
  refine ⟨?_, ?_⟩
  ·by_cases c : (exA r a).1 = 1
   ·exact c
   ·rw [if_neg c] at h1; cases h1
  ·rw [bt_of (exA r a).2.1, h2, ← bt_of]
 ·rintro ⟨h1, h2⟩
  rw [if_pos h1, h2]
theorem has_tx (r : Ru) (b : Int) (h : (exA r b).1 = 1) (l : List Int) : hasT (l.map (tx r)) (tx r b) = varIn r l (exA r b).2.1 := by
 unfold hasT varIn
 rw [List.any_map]
 congr 1
 funext a
 show decide (tx r a = tx r b) = _
 rw [decide_eq_decide]
 exact tx_eq r a b h
section
variable {n : Nat} {r : Ru}
theorem l16_eq (S : SmT r) {a : Int} (ha : 0 ≤ a ∧ a < (r.1.length : Int)) : spec_l16Text.F n r a = some (tx r a) := by
 have hlt : a.toNat < r.1.length := by omega
 have hsz := S.text _ (List.getElem_mem hlt)
 have hg : List.getD r.1 a.toNat (0, (ByteArray.empty, [])) = exA r a := rfl
 have he : exA r a = r.1[a.toNat] := by
  unfold exA
  rw [List.getD_eq_getElem?_getD, List.getElem?_eq_getElem hlt, Option.getD_some]
 unfold spec_l16Text.F
 rw [if_pos ha, hg, he]
 unfold tx
 rw [he]
 have h1 : (⟨#[118]⟩ : ByteArray) = bt [118] := rfl
 have h2 : (⟨#[116]⟩ : ByteArray) = bt [116] := rfl
 have h3 : (r.1[a.toNat]).2.1 = bt (r.1[a.toNat]).2.1.data.toList := bt_of _
 have hl : (r.1[a.toNat]).2.1.data.toList.length = (r.1[a.toNat]).2.1.size := rfl
 by_cases c : (r.1[a.toNat]).1 = 1
 ·rw [if_pos (by simp [c]), if_pos ha, if_pos c, h1, h3, if_pos (by simp only [bt_size, List.length_cons, List.length_nil, lim]; omega), bt_append, bt_list]
  rfl
 ·rw [if_neg (by simp [c]), if_pos ha, if_neg c, h2, h3, if_pos (by simp only [bt_size, List.length_cons, List.length_nil, lim]; omega), bt_append, bt_list]
  rfl
theorem in5_l (l : List ByteArray) (s : ByteArray) (hl : l.length ≤ 10000000) : ∀ (k i : Nat), i ≤ l.length → l.length - i < k → spec_l05In.l0 n l s (fun _ => some false) k (i : Int) = some (hasT (l.drop i) s)
 | 0, i, _, hk => absurd hk (Nat.not_lt_zero _)
 | k + 1, i, hi, hk => by
  by_cases h : i < l.length
  ·conv => lhs; unfold spec_l05In.l0
   rw [if_pos (dlt h), if_pos (inl' h), getD_in _ h, seq_dec, List.drop_eq_getElem_cons h]
   unfold hasT
   rw [List.any_cons]
   by_cases e : l[i] = s
   ·rw [if_pos (by simp [e]), decide_eq_true e, Bool.true_or]
   ·rw [if_neg (by simp [e]), wr1 (by omega), in5_l l s hl k (i + 1) (by omega) (by omega), decide_eq_false e, Bool.false_or]
    rfl
  ·conv => lhs; unfold spec_l05In.l0
   rw [if_neg (dnl h), List.drop_of_length_le (by omega)]
   rfl
theorem in5_eq (hn : 10000001 ≤ n) (l : List ByteArray) (s : ByteArray) (hl : l.length ≤ 10000000) : spec_l05In.F n l s = some (hasT l s) := by
 unfold spec_l05In.F
 have := in5_l (n := n) l s hl n 0 (Nat.zero_le _) (by omega)
 rw [show ((0 : Nat) : Int) = 0 from rfl, List.drop_zero] at this
 exact this
def ArgsIn (r : Ru) : Prop := (∀ l ∈ r.2.2, ∀ a ∈ l.2.2, 0 ≤ a ∧ a < (r.1.length : Int)) ∧ ∀ a ∈ r.2.1.2.2, 0 ≤ a ∧ a < (r.1.length : Int)
theorem argsIn_of (h : FormB r) : ArgsIn r := by
 refine ⟨fun l hl a ha => ?_, fun a ha => ?_⟩
 ·have := (h.lits l (List.mem_cons_of_mem _ hl)).2
  unfold okA at this
  simpa using List.all_eq_true.1 this a ha
 ·have := (h.lits r.2.1 List.mem_cons_self).2
  unfold okA at this
  simpa using List.all_eq_true.1 this a ha
theorem sp_l2 (S : SmT r) (t7 : Nat) (h7 : t7 < r.2.2.length) (hA : ∀ a ∈ (r.2.2[t7]).2.2, 0 ≤ a ∧ a < (r.1.length : Int)) (K : List ByteArray → Option Bool) : ∀ (k i : Nat) (out : List ByteArray), i ≤ (r.2.2[t7]).2.2.length → (r.2.2[t7]).2.2.length - i < k → out.length + (r.2.2[t7]).2.2.length ≤ 10000000 + i →
  spec_PlainRule.l2 n (t7 : Int) r K k (i : Int) out = K (out ++ ((r.2.2[t7]).2.2.drop i).map (tx r))
 | 0, i, _, _, hk, _ => absurd hk (Nat.not_lt_zero _)
 | k + 1, i, out, hi, hk, ho => by
  have hB := S.args _ (List.mem_cons_of_mem _ (List.getElem_mem h7))
  by_cases h : i < (r.2.2[t7]).2.2.length
  ·conv => lhs; unfold spec_PlainRule.l2
   simp only [getD_in _ h7, if_pos (inl' h7), getD_in _ h]
   rw [if_pos (dlt h), if_pos (inl' h), l16_eq S (hA _ (List.getElem_mem h)), Option.bind_some, if_pos (by simp [lim]; omega), wr1 (by omega),
    sp_l2 S t7 h7 hA K k (i + 1) _ (by omega) (by omega) (by simp; omega), List.drop_eq_getElem_cons h, List.map_cons, List.append_assoc]
   rfl
  ·conv => lhs; unfold spec_PlainRule.l2
   simp only [getD_in _ h7, if_pos (inl' h7)]
   rw [if_neg (dnl h), List.drop_of_length_le (by omega)]
   simp
theorem sp_l1 (S : SmT r) (hn : 10000001 ≤ n) (hA : ArgsIn r) (K : List ByteArray → Option Bool) : ∀ (k i : Nat) (out : List ByteArray), i ≤ r.2.2.length → r.2.2.length - i < k → out.length + ((r.2.2.drop i).map fun l => l.2.2.length).sum ≤ 10000000 →
  spec_PlainRule.l1 n r K k (i : Int) out = if (r.2.2.drop i).all (fun l => decide (l.1 = 1)) = true then K (out ++ ((r.2.2.drop i).flatMap (·.2.2)).map (tx r)) else some false
 | 0, i, _, _, hk, _ => absurd hk (Nat.not_lt_zero _)
 | k + 1, i, out, hi, hk, ho => by
  have hB := S.body
  by_cases h : i < r.2.2.length
  ·have hB2 := S.args _ (List.mem_cons_of_mem _ (List.getElem_mem h))
   rw [List.drop_eq_getElem_cons h] at ho ⊢
   simp only [List.map_cons, List.sum_cons] at ho
   conv => lhs; unfold spec_PlainRule.l1
   simp only [getD_in _ h, if_pos (inl' h)]
   rw [if_pos (dlt h)]
   by_cases c : (r.2.2[i]).1 = 1
   ·have e2 := sp_l2 (n := n) S i h (hA.1 _ (List.getElem_mem h)) (fun t12 => spec_PlainRule.l1 n r K k (IntKind.i64.wrap ((i : Int) + 1)) t12) n 0 out (Nat.zero_le _) (by omega) (by omega)
    rw [show ((0 : Nat) : Int) = 0 from rfl, List.drop_zero] at e2
    rw [if_neg (by simp [c]), e2, wr1 (by omega), sp_l1 S hn hA K k (i + 1) _ (by omega) (by omega) (by rw [List.length_append, List.length_map]; omega), List.all_cons, decide_eq_true c, Bool.true_and, List.flatMap_cons, List.map_append, List.append_assoc]
   ·rw [if_pos (by simp [c]), List.all_cons, decide_eq_false c, Bool.false_and, if_neg (by simp)]
  ·conv => lhs; unfold spec_PlainRule.l1
   rw [if_neg (dnl h), List.drop_of_length_le (by omega)]
   simp
theorem sp_l3 (S : SmT r) (t16 : List ByteArray) (K : Unit → Option Bool) : ∀ (k i : Nat), i ≤ r.1.length → r.1.length - i < k →
  spec_PlainRule.l3 n r t16 K k (i : Int) = if (r.1.drop i).all (fun e => decide (e.1 = 1 ∨ e.1 = 3)) = true then K () else some false
 | 0, i, _, hk => absurd hk (Nat.not_lt_zero _)
 | k + 1, i, hi, hk => by
  have hB := S.exps
  by_cases h : i < r.1.length
  ·rw [List.drop_eq_getElem_cons h]
   conv => lhs; unfold spec_PlainRule.l3
   simp only [getD_in _ h, if_pos (inl' h)]
   rw [if_pos (dlt h), wr1 (by omega), sp_l3 S t16 K k (i + 1) (by omega) (by omega), List.all_cons]
   by_cases c1 : (r.1[i]).1 = 1
   ·rw [if_neg (by simp [c1]), decide_eq_true (.inl c1), Bool.true_and]
   ·by_cases c3 : (r.1[i]).1 = 3
    ·rw [if_pos (by simp [c1]), if_neg (by simp [c3]), decide_eq_true (.inr c3), Bool.true_and]
    ·have e : decide ((r.1[i]).1 = 1 ∨ (r.1[i]).1 = 3) = false := by simp [c1, c3]
     rw [if_pos (by simp [c1]), if_pos (by simp [c3]), e, Bool.false_and, if_neg (by simp)]
  ·conv => lhs; unfold spec_PlainRule.l3
   rw [if_neg (dnl h), List.drop_of_length_le (by omega)]
   simp
theorem sp_l4 (S : SmT r) (hn : 10000001 ≤ n) (hA : ArgsIn r) (l : List Int) (hl : l.length ≤ 10000000) (K : Unit → Option Bool) : ∀ (k i : Nat), i ≤ r.2.1.2.2.length → r.2.1.2.2.length - i < k →
  spec_PlainRule.l4 n r (l.map (tx r)) K k (i : Int) = if (r.2.1.2.2.drop i).all (fun a => !decide ((exA r a).1 = 1) || varIn r l (exA r a).2.1) = true then K () else some false
 | 0, i, _, hk => absurd hk (Nat.not_lt_zero _)
 | k + 1, i, hi, hk => by
  have hB := S.args _ (show r.2.1 ∈ litsOf r from List.mem_cons_self)
  by_cases h : i < r.2.1.2.2.length
  ·have ha := hA.2 _ (List.getElem_mem h)
   have hg : List.getD r.1 (r.2.1.2.2[i]).toNat (0, (ByteArray.empty, [])) = exA r r.2.1.2.2[i] := rfl
   rw [List.drop_eq_getElem_cons h]
   conv => lhs; unfold spec_PlainRule.l4
   simp only [getD_in _ h, if_pos (inl' h)]
   rw [if_pos (dlt h), if_pos ha, hg, wr1 (by omega), sp_l4 S hn hA l hl K k (i + 1) (by omega) (by omega), List.all_cons]
   by_cases c1 : (exA r r.2.1.2.2[i]).1 = 1
   ·rw [if_pos (by simp [c1]), l16_eq S ha, Option.bind_some, in5_eq hn _ _ (by simpa using hl), Option.bind_some, has_tx r _ c1]
    cases varIn r l (exA r r.2.1.2.2[i]).2.1 <;> simp [c1]
   ·rw [if_neg (by simp [c1])]
    simp [c1]
  ·conv => lhs; unfold spec_PlainRule.l4
   rw [if_neg (dnl h), List.drop_of_length_le (by omega)]
   simp
theorem args_sum : ∀ l : List Ex, (l.map fun x => x.2.2.length).sum ≤ (l.map bx).sum
 | [] => Nat.le_refl _
 | x :: l => by
  have := args_sum l
  have := bx_def x
  simp only [List.map_cons, List.sum_cons]
  omega
theorem specPlain (hn : big ≤ n) (hb : Kd.bulk KRu r ≤ 1048576) : spec_PlainRule.F n r = some (!(Abs.seq (textR r) ByteArray.empty) && plainB r) := by
 have S := smT_of hb
 unfold spec_PlainRule.F
 rw [specText hn hb, Option.bind_some]
 cases c : Abs.seq (textR r) ByteArray.empty with
 | true => rw [if_neg (by simp)]; rfl
 | false =>
  rw [if_pos rfl]
  have hf : FormB r := by
   rw [seq_nil] at c
   unfold textR at c
   split at c
   ·exact formB_iff.1 (‹_ ∧ _›).1
   ·exact absurd c (by simp)
  have hA := argsIn_of hf
  have hn' : 10000001 ≤ n := by unfold big at hn; omega
  have hbx := bulk_le hb
  have hs : (r.2.2.map fun x => x.2.2.length).sum ≤ 1048576 := by
   have := args_sum r.2.2
   unfold bxR at hbx
   omega
  have hE := S.exps
  have hB := S.body
  have hH := S.args _ (show r.2.1 ∈ litsOf r from List.mem_cons_self)
  by_cases c6 : r.2.2.length ≤ 6
  ·rw [if_neg (by simp; omega)]
   unfold spec_PlainRule.j0
   have e1 := fun K => sp_l1 (n := n) S hn' hA K n 0 [] (Nat.zero_le _) (by omega) (by simpa using (by omega : (r.2.2.map fun x => x.2.2.length).sum ≤ 10000000))
   have e3 := fun t K => sp_l3 (n := n) S t K n 0 (Nat.zero_le _) (by omega)
   have e4 := fun K => sp_l4 (n := n) S hn' hA (bodyA r) (by unfold bodyA; rw [List.length_flatMap]; omega) K n 0 (Nat.zero_le _) (by omega)
   simp only [show ((0 : Nat) : Int) = 0 from rfl, List.drop_zero, List.nil_append] at e1 e3 e4
   rw [e1]
   unfold plainB
   rw [decide_eq_true c6]
   by_cases b1 : (r.2.2.all fun l => decide (l.1 = 1)) = true
   ·rw [if_pos b1, e3, b1]
    by_cases b2 : (r.1.all fun e => decide (e.1 = 1 ∨ e.1 = 3)) = true
    ·rw [if_pos b2, b2]
     show spec_PlainRule.l4 n r ((bodyA r).map (tx r)) _ n 0 = _
     rw [e4]
     by_cases b3 : (r.2.1.2.2.all fun a => !decide ((exA r a).1 = 1) || varIn r (bodyA r) (exA r a).2.1) = true
     ·rw [if_pos b3, b3]; rfl
     ·rw [if_neg b3, Bool.eq_false_iff.2 b3]; rfl
    ·rw [if_neg b2, Bool.eq_false_iff.2 b2]; rfl
   ·rw [if_neg b1, Bool.eq_false_iff.2 b1]; rfl
  ·rw [if_pos (by simp; omega)]
   unfold plainB
   rw [decide_eq_false c6]
   rfl
end
end Go.Abs
