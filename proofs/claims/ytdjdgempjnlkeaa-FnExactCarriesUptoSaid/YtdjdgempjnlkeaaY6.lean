/- The reference's text of a rule is the program's. Conditions: none. -/
import Derived.Test.YtdjdgempjnlkeaaY5
namespace Go.Abs
set_option linter.unusedVariables false
set_option linter.unusedSimpArgs false
theorem outs_ok {E : List Ex} (h : ∀ j, j < E.length → (textOf E j).length ≤ 3000) : TxOk E (outsE E) E.length :=
 ⟨by simp [outsE], fun j hj => ⟨by simp [outsE, hj], h j hj⟩⟩
section
variable (n : Nat) (r : Ru)
theorem spL_l1 {o : List ByteArray} (ho : TxOk r.1 o r.1.length) (e : Ex) (hk : e.2.2.length ≤ 1048576) (hin : e.2.2.all (inR r.1.length) = true) (K : ByteArray → Option (ByteArray × Bool)) : ∀ (k j : Nat) (s : By), j ≤ e.2.2.length → e.2.2.length - j < k → 1 ≤ j →
  s.length + (e.2.2.length - j) * 3002 ≤ 4000000000 → spec_l04Lit.l1 n o e K k (bt s) (j : Int) = K (bt (s ++ tailB [44, 32] (((kidsN e).drop j).map (textOf r.1))))
 | 0, j, s, _, hj, _, _ => absurd hj (Nat.not_lt_zero _)
 | k + 1, j, s, hj, hk1, h1, hs => by
  have hkn : (kidsN e).length = e.2.2.length := List.length_map ..
  by_cases h : j < e.2.2.length
  ·have hm := List.all_eq_true.1 hin _ (List.getElem_mem h)
   obtain ⟨g1, g2, g3⟩ := out_get r ho hm (Nat.le_refl _)
   have hkj : (kidsN e).drop j = e.2.2[j].toNat :: (kidsN e).drop (j + 1) := by
    rw [List.drop_eq_getElem_cons (by omega)]
    simp [kidsN]
   have hb : s.length + 3002 ≤ 4000000000 := by
    have : 1 * 3002 ≤ (e.2.2.length - j) * 3002 := Nat.mul_le_mul_right _ (by omega)
    omega
   conv => lhs; unfold spec_l04Lit.l1
   simp only [getD_in _ h]
   rw [if_pos (dlt h), if_pos (by simp; omega), show (⟨#[44, 32]⟩ : ByteArray) = bt [44, 32] from rfl, if_pos (by simp only [bt_size, List.length_cons, List.length_nil, lim]; omega), if_pos (inl' h), if_pos g1, g2,
    if_pos (by simp only [bt_append, bt_size, List.length_append, List.length_cons, List.length_nil, lim]; omega), bt_append, bt_append, wr1 (by omega),
    spL_l1 ho e hk hin K k (j + 1) _ (by omega) (by omega) (by omega) (by
     simp only [List.length_append, List.length_cons, List.length_nil]
     have : (e.2.2.length - j) * 3002 = (e.2.2.length - (j + 1)) * 3002 + 3002 := by
      rw [show e.2.2.length - j = (e.2.2.length - (j + 1)) + 1 by omega, Nat.add_mul, Nat.one_mul]
     omega), hkj, List.map_cons, tailB_cons]
   simp only [List.append_assoc]
  ·conv => lhs; unfold spec_l04Lit.l1
   rw [if_neg (dnl h), List.drop_of_length_le (by omega)]
   simp [tailB]
theorem tail_len (E : List Ex) : ∀ ks : List Nat, (∀ k ∈ ks, (textOf E k).length ≤ 3000) → (tailB [44, 32] (ks.map (textOf E))).length ≤ ks.length * 3002
 | [], _ => Nat.zero_le _
 | k :: ks, h => by
  have h1 := tail_len E ks fun x hx => h x (List.mem_cons_of_mem _ hx)
  have h2 := h k List.mem_cons_self
  rw [List.map_cons, tailB_cons]
  simp only [List.length_append, List.length_cons, List.length_nil, Nat.add_mul, Nat.one_mul]
  omega
theorem joinK_len {o : List ByteArray} (ho : TxOk r.1 o r.1.length) {e : Ex} (hk : e.2.2.length ≤ 1048576) (hin : e.2.2.all (inR r.1.length) = true) : (Lib.join ((kidsN e).map (textOf r.1)) [44, 32]).length ≤ 3147826000 := by
 have hall : ∀ k ∈ kidsN e, (textOf r.1 k).length ≤ 3000 := fun k hk => by
  obtain ⟨x, hx, rfl⟩ := List.mem_map.1 hk
  exact (out_get r ho (List.all_eq_true.1 hin x hx) (Nat.le_refl _)).2.2
 have hkn : (kidsN e).length = e.2.2.length := List.length_map ..
 cases hq : kidsN e with
 | nil => simp [Lib.join_nil]
 | cons a l =>
  rw [List.map_cons, join_tail, List.length_append]
  have h1 := tail_len r.1 l fun k hk => hall k (by rw [hq]; exact List.mem_cons_of_mem _ hk)
  have h2 := hall a (by rw [hq]; exact List.mem_cons_self)
  rw [hq, List.length_cons] at hkn
  have h3 : l.length * 3002 ≤ 1048575 * 3002 := Nat.mul_le_mul_right _ (by omega)
  omega
theorem spL_all (hn : 1100000 ≤ n) {o : List ByteArray} (ho : TxOk r.1 o r.1.length) (e : Ex) (hk : e.2.2.length ≤ 1048576) (hin : e.2.2.all (inR r.1.length) = true) (K : ByteArray → Option (ByteArray × Bool)) (s : By) (hs : s.length ≤ 9000000) :
  spec_l04Lit.l1 n o e K n (bt s) 0 = K (bt (s ++ Lib.join ((kidsN e).map (textOf r.1)) [44, 32])) := by
 obtain ⟨n', rfl⟩ : ∃ n', n = n' + 1 := ⟨n - 1, by omega⟩
 by_cases hne : e.2.2 = []
 ·conv => lhs; unfold spec_l04Lit.l1
  rw [if_neg (by simp [hne])]
  have : kidsN e = [] := by unfold kidsN; rw [hne]; rfl
  rw [this]
  simp [Lib.join_nil]
 ·obtain ⟨a, l, hq⟩ := List.exists_cons_of_ne_nil hne
  have h0 : 0 < e.2.2.length := List.length_pos_iff.2 hne
  have ha := List.all_eq_true.1 hin a (by rw [hq]; simp)
  obtain ⟨g1, g2, g3⟩ := out_get r ho ha (Nat.le_refl _)
  have hN : kidsN e = a.toNat :: l.map Int.toNat := by unfold kidsN; rw [hq]; rfl
  have ga : List.getD e.2.2 (Int.toNat 0) 0 = a := by rw [hq]; rfl
  conv => lhs; unfold spec_l04Lit.l1
  rw [ga, if_pos (by simp; omega), if_neg (by simp), if_pos (by omega), if_pos g1, g2, if_pos (by simp only [bt_append, bt_size, List.length_append, lim]; omega), bt_append, show IntKind.i64.wrap ((0 : Int) + 1) = ((1 : Nat) : Int) from rfl]
  rw [spL_l1 (n' + 1) r ho e hk hin K n' 1 _ (by omega) (by omega) (Nat.le_refl _) (by
   simp only [List.length_append]
   have : (e.2.2.length - 1) * 3002 ≤ 1048576 * 3002 := Nat.mul_le_mul_right _ (by omega)
   omega), hN]
  simp only [List.drop_succ_cons, List.drop_zero, List.map_cons, join_tail, List.append_assoc]
theorem spLit_eq (hn : 1100000 ≤ n) {o : List ByteArray} (ho : TxOk r.1 o r.1.length) (l : Ex) (hname : l.2.1.size ≤ 8000000) (hk : l.2.2.length ≤ 1048576) (hA : okA r.1.length l = true) :
  (okL l = true → spec_l04Lit.F n l o = some (bt (litB r.1 l), true) ∧ (litB r.1 l).length ≤ 3200000000) ∧ (¬ okL l = true → ∃ s, spec_l04Lit.F n l o = some (s, false)) := by
 have hin : l.2.2.all (inR r.1.length) = true := hA
 have e1 : l.2.1 = bt l.2.1.data.toList := bt_of _
 have es : l.2.1.data.toList.length ≤ 8000000 := hname
 have hj := joinK_len r ho hk hin
 have hkL : okL l = true ↔ (1 ≤ l.1 ∧ l.1 ≤ 3) ∧ (l.1 = 3 → l.2.2.length = 2) := by
  unfold okL
  simp only [Bool.and_eq_true, decide_eq_true_eq, Bool.or_eq_true, Bool.not_eq_true', decide_eq_false_iff_not]
  constructor
  ·rintro ⟨h1, h2⟩
   exact ⟨h1, fun e => h2.resolve_left (fun h => h e)⟩
  ·rintro ⟨h1, h2⟩
   refine ⟨h1, ?_⟩
   by_cases h3 : l.1 = 3
   ·exact .inr (h2 h3)
   ·exact .inl h3
 unfold spec_l04Lit.F litB
 by_cases c3 : l.1 = 3
 ·rw [if_pos (by simp [c3]), if_pos c3]
  by_cases hl : l.2.2.length = 2
  ·rw [if_neg (by simp [hl])]
   refine ⟨fun _ => ?_, fun h => absurd (hkL.2 ⟨by omega, fun _ => hl⟩) h⟩
   match hab : l.2.2, hl with
   | [a, b], _ =>
    have ha := List.all_eq_true.1 hin a (by rw [hab]; simp)
    have hb := List.all_eq_true.1 hin b (by rw [hab]; simp)
    obtain ⟨a1, a2, a3⟩ := out_get r ho ha (Nat.le_refl _)
    obtain ⟨b1, b2, b3⟩ := out_get r ho hb (Nat.le_refl _)
    have hN : kidsN l = [a.toNat, b.toNat] := by unfold kidsN; rw [hab]; rfl
    rw [hN, show List.getD [a, b] 0 0 = a from rfl, show List.getD [a, b] 1 0 = b from rfl, a2, b2, e1, show (⟨#[32]⟩ : ByteArray) = bt [32] from rfl, if_pos (by simp), if_pos a1,
     if_pos (by simp only [bt_size, List.length_cons, List.length_nil, lim]; omega), if_pos (by simp only [bt_append, bt_size, List.length_append, List.length_cons, List.length_nil, lim]; omega),
     if_pos (by simp only [bt_append, bt_size, List.length_append, List.length_cons, List.length_nil, lim]; omega), if_pos (by simp), if_pos b1, if_pos (by simp only [bt_append, bt_size, List.length_append, List.length_cons, List.length_nil, lim]; omega)]
    simp only [bt_append, bt_list, true_and]
    simp only [List.length_append, List.length_cons, List.length_nil]
    omega
  ·have : ¬ (l.2.2.length : Int) = 2 := by omega
   rw [if_pos (by simp [this])]
   exact ⟨fun h => absurd ((hkL.1 h).2 c3) hl, fun _ => ⟨_, rfl⟩⟩
 ·rw [if_neg (by simpa using c3), if_neg c3, e1, show (⟨#[40]⟩ : ByteArray) = bt [40] from rfl, show (⟨#[33]⟩ : ByteArray) = bt [33] from rfl, if_pos (by simp only [bt_size, List.length_cons, List.length_nil, lim]; omega)]
  have hj0 : ∀ (s : By), s.length ≤ 9000000 → spec_l04Lit.j0 n o (bt s) l = some (bt (s ++ Lib.join ((kidsN l).map (textOf r.1)) [44, 32] ++ [41]), if (decide (l.1 = 1)) = false then decide (l.1 = 2) else true) := by
   intro s hs
   unfold spec_l04Lit.j0
   rw [spL_all n r hn ho l hk hin _ s hs, show (⟨#[41]⟩ : ByteArray) = bt [41] from rfl, if_pos (by simp only [bt_size, List.length_append, List.length_cons, List.length_nil, lim]; omega), bt_append]
   cases decide (l.1 = 1) <;> rfl
  have hj0' : ∀ (s : By), s.length ≤ 9000000 → spec_l04Lit.j0 n o (bt s) (l.1, (bt l.2.1.data.toList, l.2.2)) = some (bt (s ++ Lib.join ((kidsN l).map (textOf r.1)) [44, 32] ++ [41]), if (decide (l.1 = 1)) = false then decide (l.1 = 2) else true) := by
   intro s hs
   have := hj0 s hs
   rw [← e1]
   exact this
  simp only [bt_append, bt_list, bt_size]
  by_cases c2 : l.1 = 2
  ·rw [if_pos (by simp [c2]), if_pos (by simp only [List.length_append, List.length_cons, List.length_nil, lim]; omega), hj0 _ (by simp only [List.length_append, List.length_cons, List.length_nil]; omega), if_pos c2]
   refine ⟨fun _ => ⟨?_, ?_⟩, fun h => absurd (hkL.2 ⟨by omega, fun h => absurd h c3⟩) h⟩
   ·simp [c2, List.append_assoc]
   ·simp only [List.length_append, List.length_cons, List.length_nil]
    omega
  ·rw [if_neg (by simpa using c2), hj0 _ (by simp only [List.length_append, List.length_cons, List.length_nil]; omega), if_neg c2]
   by_cases c1 : l.1 = 1
   ·refine ⟨fun _ => ⟨?_, ?_⟩, fun h => absurd (hkL.2 ⟨by omega, fun h => absurd h c3⟩) h⟩
    ·simp [c1]
    ·simp only [List.length_append, List.length_cons, List.length_nil]
     omega
   ·refine ⟨fun h => ?_, fun _ => ⟨bt (l.2.1.data.toList ++ [40] ++ Lib.join ((kidsN l).map (textOf r.1)) [44, 32] ++ [41]), ?_⟩⟩
    ·have := (hkL.1 h).1
     omega
    ·simp [c1, c2]
def tB : List By → By
 | [] => []
 | x :: l => [32, 58, 45, 32] ++ x ++ tailB [44, 32] l
theorem ruleB_tB (r : Ru) : ruleB r = litB r.1 r.2.1 ++ tB (r.2.2.map (litB r.1)) ++ [46] := by
 unfold ruleB
 cases hq : r.2.2 with
 | nil => simp [tB]
 | cons l ls => simp [tB, join_tail]
theorem tB_snoc (l : List By) (x : By) : tB (l ++ [x]) = tB l ++ (if l = [] then [32, 58, 45, 32] else [44, 32]) ++ x := by
 cases l with
 | nil => simp [tB, tailB]
 | cons y l => simp [tB, tailB]
theorem tB_pre (l m : List By) : ∃ t, tB (l ++ m) = tB l ++ t := by
 cases l with
 | nil => exact ⟨tB m, by simp [tB]⟩
 | cons x l => exact ⟨tailB [44, 32] m, by simp [tB, tailB]⟩
theorem spR_l1 (hn : 1100000 ≤ n) (S : SmT r) (hA : CondA r) (hb3 : r.2.2.length ≤ 3000) (hh : r.2.1.1 = 1) (hokH : okL r.2.1 = true) : ∀ (k j : Nat), j ≤ r.2.2.length → r.2.2.length - j < k → (∀ i (h : i < r.2.2.length), i < j → okL r.2.2[i] = true) →
  (litB r.1 r.2.1 ++ tB ((r.2.2.take j).map (litB r.1))).length ≤ 3200004000 →
  spec_RuleText.l1 n (outsE r.1) r (fun t24 =>
   if ByteArray.size t24 + ByteArray.size ⟨#[46]⟩ ≤ lim then
   if decide ((ByteArray.size (t24 ++ ⟨#[46]⟩) : Int) > 3000) = true then
   some ByteArray.empty
   else
   some (t24 ++ ⟨#[46]⟩)
   else
   none) k (bt (litB r.1 r.2.1 ++ tB ((r.2.2.take j).map (litB r.1)))) (j : Int) = some (textR r)
 | 0, j, _, hj, _, _ => absurd hj (Nat.not_lt_zero _)
 | k + 1, j, hj, hk, hok, hlen => by
  have ho := outs_ok hA.2.2.1
  have hend : ∀ s : By, s.length ≤ 3200004000 → (if ByteArray.size (bt s) + ByteArray.size ⟨#[46]⟩ ≤ lim then
   if decide ((ByteArray.size (bt s ++ ⟨#[46]⟩) : Int) > 3000) = true then
   some ByteArray.empty
   else
   some (bt s ++ ⟨#[46]⟩)
   else
   none) = some (if (s ++ [46]).length ≤ 3000 then bt (s ++ [46]) else ByteArray.empty) := by
   intro s hs
   rw [show (⟨#[46]⟩ : ByteArray) = bt [46] from rfl, if_pos (by simp only [bt_size, List.length_cons, List.length_nil, lim]; omega), bt_append, bt_size]
   by_cases h : (s ++ [46]).length ≤ 3000
   ·rw [if_neg (by rw [decide_eq_true_eq]; omega), if_pos h]
   ·rw [if_pos (by rw [decide_eq_true_eq]; omega), if_neg h]
  have hform : (∀ i (h : i < r.2.2.length), okL r.2.2[i] = true) → formB r = true := by
   intro hall
   rw [formB_iff]
   refine ⟨hA.1, fun i h => by have := chkE_iff.1 hA.2.1 i h; rwa [Nat.zero_add] at this, hh, fun l hl => ?_, fun x hx => ?_⟩
   ·refine ⟨?_, List.all_eq_true.1 hA.2.2.2.1 l hl⟩
    rcases List.mem_cons.1 hl with rfl | hl
    ·exact hokH
    ·obtain ⟨i, hi, rfl⟩ := List.mem_iff_getElem.1 hl
     exact hall i hi
   ·have := List.any_eq_false.1 hA.2.2.2.2 x hx
    simpa using this
  conv => lhs; unfold spec_RuleText.l1
  by_cases h : j < r.2.2.length
  ·rw [if_pos (dlt h)]
   by_cases hs : (litB r.1 r.2.1 ++ tB ((r.2.2.take j).map (litB r.1))).length ≤ 3000
   ·rw [if_pos (by rw [bt_size, decide_eq_true_eq]; omega)]
    have hmem : r.2.2[j] ∈ litsOf r := List.mem_cons_of_mem _ (List.getElem_mem h)
    obtain ⟨l1, l2⟩ := spLit_eq n r hn ho r.2.2[j] (S.name _ hmem) (S.args _ hmem) (List.all_eq_true.1 hA.2.2.2.1 _ hmem)
    have hj3 : ∀ (s : By) (Kn : ByteArray → Option ByteArray), s.length ≤ 3004 → (okL r.2.2[j] = true → spec_RuleText.j3 n (outsE r.1) (bt s) (j : Int) r Kn = Kn (bt (s ++ litB r.1 r.2.2[j]))) ∧ (¬ okL r.2.2[j] = true → spec_RuleText.j3 n (outsE r.1) (bt s) (j : Int) r Kn = some ByteArray.empty) := by
     intro s Kn hs
     unfold spec_RuleText.j3
     simp only [getD_in _ h]
     rw [if_pos (inl' h)]
     constructor
     ·intro hk
      obtain ⟨e1, e2⟩ := l1 hk
      rw [e1, Option.bind_some, if_neg (by simp), if_pos (by simp only [bt_size, lim]; omega), bt_append]
     ·intro hk
      obtain ⟨s', e1⟩ := l2 hk
      rw [e1, Option.bind_some, if_pos (by simp)]
    have hsep : spec_RuleText.j2 n (outsE r.1) (bt (litB r.1 r.2.1 ++ tB ((r.2.2.take j).map (litB r.1)))) (j : Int) r (fun t22 t23 => spec_RuleText.l1 n (outsE r.1) r (fun t24 =>
      if ByteArray.size t24 + ByteArray.size ⟨#[46]⟩ ≤ lim then
      if decide ((ByteArray.size (t24 ++ ⟨#[46]⟩) : Int) > 3000) = true then
      some ByteArray.empty
      else
      some (t24 ++ ⟨#[46]⟩)
      else
      none) k t22 t23) = spec_RuleText.j3 n (outsE r.1) (bt (litB r.1 r.2.1 ++ tB ((r.2.2.take j).map (litB r.1)) ++ (if (r.2.2.take j).map (litB r.1) = [] then [32, 58, 45, 32] else [44, 32]))) (j : Int) r (fun t => spec_RuleText.l1 n (outsE r.1) r (fun t24 =>
      if ByteArray.size t24 + ByteArray.size ⟨#[46]⟩ ≤ lim then
      if decide ((ByteArray.size (t24 ++ ⟨#[46]⟩) : Int) > 3000) = true then
      some ByteArray.empty
      else
      some (t24 ++ ⟨#[46]⟩)
      else
      none) k t ((j + 1 : Nat) : Int)) := by
     unfold spec_RuleText.j2
     rw [wr1 (by omega)]
     by_cases hj0 : j = 0
     ·subst hj0
      rw [if_pos (by simp), show (⟨#[32, 58, 45, 32]⟩ : ByteArray) = bt [32, 58, 45, 32] from rfl, if_pos (by simp only [bt_size, List.length_cons, List.length_nil, lim]; omega), bt_append, if_pos (by simp)]
     ·have hne : ¬ (r.2.2.take j).map (litB r.1) = [] := by
       intro e
       have : ((r.2.2.take j).map (litB r.1)).length = 0 := by rw [e]; rfl
       rw [List.length_map, List.length_take] at this
       omega
      rw [if_neg (by simp; omega), show (⟨#[44, 32]⟩ : ByteArray) = bt [44, 32] from rfl, if_pos (by simp only [bt_size, List.length_cons, List.length_nil, lim]; omega), bt_append, if_neg hne]
    rw [hsep]
    obtain ⟨q1, q2⟩ := hj3 (litB r.1 r.2.1 ++ tB ((r.2.2.take j).map (litB r.1)) ++ (if (r.2.2.take j).map (litB r.1) = [] then [32, 58, 45, 32] else [44, 32])) (fun t => spec_RuleText.l1 n (outsE r.1) r (fun t24 =>
      if ByteArray.size t24 + ByteArray.size ⟨#[46]⟩ ≤ lim then
      if decide ((ByteArray.size (t24 ++ ⟨#[46]⟩) : Int) > 3000) = true then
      some ByteArray.empty
      else
      some (t24 ++ ⟨#[46]⟩)
      else
      none) k t ((j + 1 : Nat) : Int)) (by
     rw [List.length_append]
     split <;> simp only [List.length_cons, List.length_nil] <;> omega)
    by_cases hk' : okL r.2.2[j] = true
    ·rw [q1 hk']
     have hst : litB r.1 r.2.1 ++ tB ((r.2.2.take j).map (litB r.1)) ++ (if (r.2.2.take j).map (litB r.1) = [] then [32, 58, 45, 32] else [44, 32]) ++ litB r.1 r.2.2[j] = litB r.1 r.2.1 ++ tB ((r.2.2.take (j + 1)).map (litB r.1)) := by
      rw [List.take_succ_eq_append_getElem h, List.map_append, List.map_cons, List.map_nil, tB_snoc]
      simp only [List.append_assoc]
     rw [hst]
     refine spR_l1 hn S hA hb3 hh hokH k (j + 1) (by omega) (by omega) (fun i hi hij => ?_) ?_
     ·by_cases e : i = j
      ·subst e; exact hk'
      ·exact hok i hi (by omega)
     ·rw [← hst]
      have := (l1 hk').2
      simp only [List.length_append] at hs ⊢
      split <;> simp only [List.length_cons, List.length_nil] <;> omega
    ·rw [q2 hk']
     unfold textR
     rw [if_neg]
     rintro ⟨hf, _⟩
     exact hk' ((formB_iff.1 hf).lits _ hmem).1
   ·rw [if_neg (by rw [bt_size, decide_eq_true_eq]; omega), hend _ hlen, if_neg (by simp only [List.length_append] at hs ⊢; omega)]
    unfold textR
    rw [if_neg]
    rintro ⟨_, hl⟩
    rw [ruleB_tB] at hl
    obtain ⟨t, ht⟩ := tB_pre ((r.2.2.take j).map (litB r.1)) ((r.2.2.drop j).map (litB r.1))
    rw [← List.map_append, List.take_append_drop] at ht
    rw [ht] at hl
    simp only [List.length_append] at hl hs
    omega
  ·have hj' : j = r.2.2.length := by omega
   rw [if_neg (dnl h), hend _ hlen]
   have hf := hform fun i hi => hok i hi (by omega)
   have e : (r.2.2.take j) = r.2.2 := List.take_of_length_le (by omega)
   rw [e, ← ruleB_tB]
   unfold textR
   by_cases hl : (ruleB r).length ≤ 3000
   ·rw [if_pos hl, if_pos ⟨hf, hl⟩]
   ·rw [if_neg hl, if_neg (fun hh => hl hh.2)]
theorem specText_eq (hn : 1100000 ≤ n) (S : SmT r) : spec_RuleText.F n r = some (textR r) := by
 have hB := S.body
 have hneg : ¬ (formB r = true ∧ (ruleB r).length ≤ 3000) → textR r = ByteArray.empty := fun h => by unfold textR; rw [if_neg h]
 unfold spec_RuleText.F
 by_cases c3 : r.2.2.length ≤ 3000
 ·rw [if_neg (by simp; omega)]
  obtain ⟨p, q⟩ := exps_eq n r hn S
  by_cases cA : CondA r
  ·rw [p cA, Option.bind_some, if_neg (by simp)]
   have ho := outs_ok cA.2.2.1
   have hmem : r.2.1 ∈ litsOf r := List.mem_cons_self
   obtain ⟨l1, l2⟩ := spLit_eq n r hn ho r.2.1 (S.name _ hmem) (S.args _ hmem) (List.all_eq_true.1 cA.2.2.2.1 _ hmem)
   by_cases hk : okL r.2.1 = true
   ·obtain ⟨e1, e2⟩ := l1 hk
    rw [e1, Option.bind_some, if_pos (by simp)]
    by_cases c1 : r.2.1.1 = 1
    ·rw [if_neg (by simp [c1])]
     unfold spec_RuleText.j0
     have := spR_l1 n r hn S cA c3 c1 hk n 0 (Nat.zero_le _) (by omega) (fun i _ h => absurd h (Nat.not_lt_zero _)) (by simp [tB]; omega)
     simp only [List.take_zero, List.map_nil, tB, List.append_nil, show ((0 : Nat) : Int) = 0 from rfl] at this
     exact this
    ·rw [if_pos (by simp [c1]), hneg fun h => c1 (formB_iff.1 h.1).head]
   ·obtain ⟨s, e1⟩ := l2 hk
    rw [e1, Option.bind_some, if_neg (by simp), hneg fun h => hk ((formB_iff.1 h.1).lits _ hmem).1]
  ·obtain ⟨o, e⟩ := q cA
   rw [e, Option.bind_some, if_pos (by simp), hneg]
   rintro ⟨hf, hl⟩
   have F := formB_iff.1 hf
   refine cA ⟨F.few, chkE_iff.2 fun j h => by rw [Nat.zero_add]; exact F.exps j h, fun j hj => Nat.le_trans (exp_le F.form hj) hl, List.all_eq_true.2 fun l hl => (F.lits l hl).2, ?_⟩
   rw [List.any_eq_false]
   intro x hx
   simpa using F.once x hx
 ·rw [if_pos (by simp; omega), hneg]
  rintro ⟨hf, hl⟩
  have := rule_ge (formB_iff.1 hf).form
  omega
end
end Go.Abs
