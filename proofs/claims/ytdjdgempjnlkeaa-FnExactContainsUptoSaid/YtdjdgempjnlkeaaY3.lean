/- The program's text of a rule. Conditions: none. -/
import Derived.Test.YtdjdgempjnlkeaaY2
namespace Go.Abs
set_option linter.unusedVariables false
set_option linter.unusedSimpArgs false
theorem sum_mem {α : Type} (f : α → Nat) : ∀ {l : List α} {x : α}, x ∈ l → f x ≤ (l.map f).sum
 | y :: l, x, h => by
  simp only [List.map_cons, List.sum_cons]
  rcases List.mem_cons.1 h with rfl | h
  ·omega
  ·have := sum_mem f h
   omega
theorem lit_rule {r : Ru} {l : Ex} (hl : l ∈ litsOf r) : (litB r.1 l).length ≤ (ruleB r).length := by
 unfold ruleB
 simp only [List.length_append]
 rcases List.mem_cons.1 hl with rfl | hl
 ·omega
 ·have hne : r.2.2 ≠ [] := fun e => by rw [e] at hl; cases hl
  rw [if_neg hne]
  simp only [List.length_append, join_len, List.map_map]
  have := sum_mem (List.length ∘ litB r.1) hl
  have e : (List.length ∘ litB r.1) l = (litB r.1 l).length := rfl
  omega
section
variable {r : Ru}
theorem litText_eq (h : FormB r) (S : SmR r) {n : Nat} (hn : 1100000 ≤ n) {l : Ex} (hl : l ∈ litsOf r) : impl_Rule_litText.F n r l = some (bt (litB r.1 l)) := by
 have hlen := Nat.le_trans (lit_rule hl) (h.total S)
 obtain ⟨hok, hA⟩ := h.lits l hl
 have hF := h.form.lits l hl
 have hargs := S.args l hl
 have e1 : l.2.1 = bt l.2.1.data.toList := bt_of _
 unfold impl_Rule_litText.F
 unfold litB at hlen ⊢
 by_cases c3 : l.1 = 3
 ·rw [if_pos c3] at hlen ⊢
  rw [if_pos (by simp [c3])]
  match hab : l.2.2, hF.two c3 with
  | [a, b], _ =>
   have ha := hF.arg a (by rw [hab]; simp)
   have hb := hF.arg b (by rw [hab]; simp)
   obtain ⟨p, rfl⟩ := Int.eq_ofNat_of_zero_le ha.1
   obtain ⟨q, rfl⟩ := Int.eq_ofNat_of_zero_le hb.1
   have hN : kidsN l = [p, q] := by unfold kidsN; rw [hab]; simp
   rw [hN] at hlen ⊢
   simp only [List.length_append, List.length_cons, List.length_nil] at hlen
   rw [if_pos (by simp), show List.getD [(p : Int), (q : Int)] 0 0 = (p : Int) from rfl, expText_eq h S hn (by omega), Option.bind_some, e1, show (⟨#[32]⟩ : ByteArray) = bt [32] from rfl,
    if_pos (by simp only [bt_size, List.length_cons, List.length_nil, lim]; omega), if_pos (by simp only [bt_append, bt_size, List.length_append, List.length_cons, List.length_nil, lim]; omega),
    if_pos (by simp only [bt_append, bt_size, List.length_append, List.length_cons, List.length_nil, lim]; omega), if_pos (by simp), show List.getD [(p : Int), (q : Int)] 1 0 = (q : Int) from rfl, expText_eq h S hn (by omega), Option.bind_some,
    if_pos (by simp only [bt_append, bt_size, List.length_append, List.length_cons, List.length_nil, lim]; omega)]
   simp only [bt_append, bt_list]
 ·rw [if_neg c3] at hlen ⊢
  rw [if_neg (by simpa using c3)]
  simp only [List.length_append, List.length_cons, List.length_nil] at hlen
  have ht := expTexts_eq h S hn l.2.2 hargs hA (by
   show (Lib.join ((kidsN l).map (textOf r.1)) [44, 32]).length ≤ _
   omega)
  have ht : impl_Rule_expTexts.F n r l.2.2 = some (bt (Lib.join ((kidsN l).map (textOf r.1)) [44, 32])) := ht
  by_cases c2 : l.1 = 2
  ·rw [if_pos c2] at hlen ⊢
   simp only [List.length_cons, List.length_nil] at hlen
   rw [if_pos (by simp [c2]), ht, e1, show (⟨#[33]⟩ : ByteArray) = bt [33] from rfl, show (⟨#[40]⟩ : ByteArray) = bt [40] from rfl, show (⟨#[41]⟩ : ByteArray) = bt [41] from rfl,
    if_pos (by simp only [bt_append, bt_size, List.length_append, List.length_cons, List.length_nil, lim]; omega), if_pos (by simp only [bt_append, bt_size, List.length_append, List.length_cons, List.length_nil, lim]; omega), Option.bind_some,
    if_pos (by simp only [bt_append, bt_size, List.length_append, List.length_cons, List.length_nil, lim]; omega), if_pos (by simp only [bt_append, bt_size, List.length_append, List.length_cons, List.length_nil, lim]; omega)]
   simp only [bt_append, bt_list]
  ·rw [if_neg c2] at hlen ⊢
   simp only [List.length_nil, Nat.zero_add] at hlen
   rw [if_neg (by simpa using c2), ht, e1, show (⟨#[40]⟩ : ByteArray) = bt [40] from rfl, show (⟨#[41]⟩ : ByteArray) = bt [41] from rfl,
    if_pos (by simp only [bt_append, bt_size, List.length_append, List.length_cons, List.length_nil, lim]; omega), Option.bind_some,
    if_pos (by simp only [bt_append, bt_size, List.length_append, List.length_cons, List.length_nil, lim]; omega), if_pos (by simp only [bt_append, bt_size, List.length_append, List.length_cons, List.length_nil, lim]; omega)]
   simp only [bt_append, bt_list, List.nil_append]
theorem ruleText_l0 (h : FormB r) (S : SmR r) {n : Nat} (hn : 1100000 ≤ n) (out4 : ByteArray) (K : List ByteArray → Option ByteArray) : ∀ (k j : Nat), j ≤ r.2.2.length → r.2.2.length - j < k →
  impl_ruleText.l0 n out4 r.2.2 (r.2.2.length : Int) r K k (j : Int) (((r.2.2.take j).map (litB r.1)).map bt) = K ((r.2.2.map (litB r.1)).map bt)
 | 0, j, _, hj => absurd hj (Nat.not_lt_zero _)
 | k + 1, j, hj, hk1 => by
  have hB := S.body
  by_cases hlt : j < r.2.2.length
  ·conv => lhs; unfold impl_ruleText.l0
   rw [if_pos (dlt hlt), if_pos (inl' hlt), getD_in _ hlt, litText_eq h S hn (List.mem_cons_of_mem _ (List.getElem_mem hlt)), Option.bind_some, if_pos (by simp [lim]; omega), wr1 (by omega)]
   have := ruleText_l0 h S hn out4 K k (j + 1) (by omega) (by omega)
   rw [List.take_succ_eq_append_getElem hlt, List.map_append, List.map_append] at this
   exact this
  ·conv => lhs; unfold impl_ruleText.l0
   rw [if_neg (dnl hlt), List.take_of_length_le (by omega)]
noncomputable def textR (r : Ru) : ByteArray := if formB r = true ∧ (ruleB r).length ≤ 3000 then bt (ruleB r) else ByteArray.empty
theorem implText_eq (n : Nat) (hn : 1100000 ≤ n) (r : Ru) (S : SmR r) : impl_ruleText.F n r = some (textR r) := by
 have hB := S.body
 unfold impl_ruleText.F textR
 rw [isFormed_eq n hn r S, Option.bind_some]
 by_cases hf : formB r = true
 ·have h := formB_iff.1 hf
  have hT := h.total S
  have hH : litB r.1 r.2.1 = litB r.1 r.2.1 := rfl
  rw [if_neg (by simp [hf]), litText_eq h S hn List.mem_cons_self, Option.bind_some]
  have hl := fun K => ruleText_l0 h S hn (bt (litB r.1 r.2.1)) K n 0 (Nat.zero_le _) (by omega)
  simp only [show ((0 : Nat) : Int) = 0 from rfl, List.take_zero, List.map_nil] at hl
  rw [hl]
  by_cases hb : r.2.2 = []
  ·have hr : ruleB r = litB r.1 r.2.1 ++ [46] := by unfold ruleB; rw [if_pos hb, List.append_nil]
   rw [hr] at hT ⊢
   simp only [List.length_append, List.length_cons, List.length_nil] at hT
   rw [if_neg (by simp [hb]), show (⟨#[46]⟩ : ByteArray) = bt [46] from rfl, if_pos (by simp only [bt_size, List.length_cons, List.length_nil, lim]; omega), bt_append, bt_size]
   by_cases hs : (litB r.1 r.2.1 ++ [46]).length ≤ 3000
   ·rw [if_neg (by simp at hs ⊢; omega), if_pos ⟨hf, hs⟩]
   ·rw [if_pos (by simp at hs ⊢; omega), if_neg (fun hh => hs hh.2)]
  ·have hr : ruleB r = litB r.1 r.2.1 ++ ([32, 58, 45, 32] ++ Lib.join (r.2.2.map (litB r.1)) [44, 32]) ++ [46] := by unfold ruleB; rw [if_neg hb]
   have hpos : 0 < r.2.2.length := List.length_pos_iff.2 hb
   rw [hr] at hT ⊢
   have hT' := hT
   simp only [List.length_append, List.length_cons, List.length_nil] at hT'
   rw [if_pos (by simp; omega), join_bt n _ (by simp; omega) (by omega), Option.bind_some, show (⟨#[46]⟩ : ByteArray) = bt [46] from rfl, show (⟨#[32, 58, 45, 32]⟩ : ByteArray) = bt [32, 58, 45, 32] from rfl,
    if_pos (by simp only [bt_append, bt_size, List.length_append, List.length_cons, List.length_nil, lim]; omega), if_pos (by simp only [bt_append, bt_size, List.length_append, List.length_cons, List.length_nil, lim]; omega),
    if_pos (by simp only [bt_append, bt_size, List.length_append, List.length_cons, List.length_nil, lim]; omega)]
   simp only [bt_append, bt_size]
   by_cases hs : (litB r.1 r.2.1 ++ ([32, 58, 45, 32] ++ Lib.join (r.2.2.map (litB r.1)) [44, 32]) ++ [46]).length ≤ 3000
   ·rw [if_neg (by rw [decide_eq_true_eq]; omega), if_pos ⟨hf, hs⟩]
   ·rw [if_pos (by rw [decide_eq_true_eq]; omega), if_neg (fun hh => hs hh.2)]
 ·rw [if_pos (by simp [hf]), if_neg (fun hh => hf hh.1)]
end
end Go.Abs
