/- The reference's texts of exps. Conditions: none. -/
import Derived.Test.YtdjdgempjnlkeaaY3
namespace Go.Abs
set_option linter.unusedVariables false
set_option linter.unusedSimpArgs false
theorem textF_eqL {E : List Ex} {b : Nat} (h : ∀ i, i < b → ∀ k ∈ kidsN (E.getD i Ex0), k < i) : ∀ (f i : Nat), i < f → i < b → textF E f i = textOf E i
 | 0, i, hi, _ => absurd hi (Nat.not_lt_zero _)
 | f + 1, i, hi, hb => by
  show exB _ _ _ = exB _ _ _
  refine exB_congr fun k hk => ?_
  have := h i hb k hk
  rw [textF_eqL h f k (by omega) (by omega), textF_eqL h i k this (by omega)]
termination_by f i => f + i
theorem textOf_eqL {E : List Ex} {i : Nat} (h : ∀ j, j ≤ i → ∀ k ∈ kidsN (E.getD j Ex0), k < j) : textOf E i = exB (kindAt E) (textOf E) (E.getD i Ex0) := by
 show exB _ _ _ = exB _ _ _
 refine exB_congr fun k hk => ?_
 have := h i (Nat.le_refl _) k hk
 exact textF_eqL (b := i + 1) (fun j hj => h j (by omega)) i k this (by omega)
def TxOk (E : List Ex) (o : List ByteArray) (i : Nat) : Prop := o.length = E.length ∧ ∀ j, j < i → o.getD j ByteArray.empty = bt (textOf E j) ∧ (textOf E j).length ≤ 3000
section
variable (n : Nat) (hn : 1100000 ≤ n) (r : Ru)
theorem spE_l1 (i : Nat) (o : List ByteArray) (e : Ex) (hk : e.2.2.length ≤ 1048576) (K : List Int → Option (List ByteArray × Bool)) (m : Nat) (hi : i ≤ m) (him : i ≤ 4294967296) {C : Int} {u : List Int} (hu : Cnt u m C) (hC : C ≤ 4000000000000) (hn : 1100000 ≤ n) :
  spec_l04Exps.l1 n (i : Int) r o e K n 0 u = if e.2.2.all (inR i) = true then K (bumps u (kidsN e)) else some (o, false) := by
 have := kidLoop (fun k j u => spec_l04Exps.l1 n (i : Int) r o e K k j u) e.2.2 m i (some (o, false)) K hi (fun k j u h hm hq => by
   conv => lhs; unfold spec_l04Exps.l1
   simp only [getD_in _ h]
   rw [if_pos (dlt h), if_pos (inl' h), wrap64 _ (by omega) (by omega), l01Between_eq, inR_in, Option.bind_some, wr1 (by omega)]
   by_cases hin : inR i e.2.2[j] = true
   ·obtain ⟨h1, h2⟩ := set_bump hm hi hin hq
    rw [if_neg (by simp [hin]), if_pos (inl' h), if_pos h1, if_pos h1, h2, if_pos hin]
   ·rw [if_pos (by simpa using hin), if_neg hin]) (fun k u => by
   conv => lhs; unfold spec_l04Exps.l1
   rw [if_neg (by simp)]) n 0 u C (Nat.zero_le _) (by omega) hu (by omega)
 rw [List.drop_zero] at this
 exact this
theorem out_get {o : List ByteArray} {i : Nat} (ho : TxOk r.1 o i) {k : Int} (hk : inR i k = true) (hi : i ≤ r.1.length) : ((0 : Int) ≤ k ∧ k < (o.length : Int)) ∧ List.getD o (Int.toNat k) ByteArray.empty = bt (textOf r.1 k.toNat) ∧ (textOf r.1 k.toNat).length ≤ 3000 := by
 unfold inR at hk
 simp only [Bool.and_eq_true, decide_eq_true_eq] at hk
 have h1 := ho.1
 exact ⟨by omega, ho.2 k.toNat (by omega)⟩
def tailB (sep : By) (l : List By) : By := (l.map (sep ++ ·)).flatten
theorem tailB_cons (sep x : By) (l : List By) : tailB sep (x :: l) = sep ++ x ++ tailB sep l := by simp [tailB]
theorem join_tail (sep x : By) (l : List By) : Lib.join (x :: l) sep = x ++ tailB sep l := Lib.join_cons x l sep
theorem spE_l3 (t22 : Int) (u : List Int) {o : List ByteArray} {i : Nat} (ho : TxOk r.1 o i) (hi : i ≤ r.1.length) (e : Ex) (hk : e.2.2.length ≤ 1048576) (hin : e.2.2.all (inR i) = true) (K : ByteArray → Option (List ByteArray × Bool)) : ∀ (k j : Nat) (s : By), j ≤ e.2.2.length → e.2.2.length - j < k → 1 ≤ j →
  s.length + (e.2.2.length - j) * 3002 ≤ 4000000000 → spec_l04Exps.l3 n t22 r u o e K k (bt s) (j : Int) = K (bt (s ++ tailB [44, 32] (((kidsN e).drop j).map (textOf r.1))))
 | 0, j, s, _, hj, _, _ => absurd hj (Nat.not_lt_zero _)
 | k + 1, j, s, hj, hk1, h1, hs => by
  have hkn : (kidsN e).length = e.2.2.length := List.length_map ..
  by_cases h : j < e.2.2.length
  ·have hm := List.all_eq_true.1 hin _ (List.getElem_mem h)
   obtain ⟨g1, g2, g3⟩ := out_get r ho hm hi
   have hkj : (kidsN e).drop j = e.2.2[j].toNat :: (kidsN e).drop (j + 1) := by
    rw [List.drop_eq_getElem_cons (by omega)]
    simp [kidsN]
   have hb : s.length + 3002 ≤ 4000000000 := by
    have : 1 * 3002 ≤ (e.2.2.length - j) * 3002 := Nat.mul_le_mul_right _ (by omega)
    omega
   conv => lhs; unfold spec_l04Exps.l3
   simp only [getD_in _ h]
   rw [if_pos (dlt h), if_neg (by simp; omega), show (⟨#[44, 32]⟩ : ByteArray) = bt [44, 32] from rfl, if_pos (by simp only [bt_size, List.length_cons, List.length_nil, lim]; omega), if_pos (inl' h), if_pos g1, g2,
    if_pos (by simp only [bt_append, bt_size, List.length_append, List.length_cons, List.length_nil, lim]; omega), bt_append, bt_append, wr1 (by omega),
    spE_l3 t22 u ho hi e hk hin K k (j + 1) _ (by omega) (by omega) (by omega) (by
     simp only [List.length_append, List.length_cons, List.length_nil]
     have : (e.2.2.length - j) * 3002 = (e.2.2.length - (j + 1)) * 3002 + 3002 := by
      rw [show e.2.2.length - j = (e.2.2.length - (j + 1)) + 1 by omega, Nat.add_mul, Nat.one_mul]
     omega), hkj, List.map_cons, tailB_cons]
   simp only [List.append_assoc]
  ·conv => lhs; unfold spec_l04Exps.l3
   rw [if_neg (dnl h), List.drop_of_length_le (by omega)]
   simp [tailB]
theorem spSide_eq {o : List ByteArray} {i : Nat} (ho : TxOk r.1 o i) (hi : i ≤ r.1.length) {k : Int} (hk : inR i k = true) : spec_l04Side.F n r o k = some (bt (sideB (kindAt r.1 k.toNat) (textOf r.1 k.toNat))) := by
 obtain ⟨g1, g2, g3⟩ := out_get r ho hk hi
 have h1 := ho.1
 unfold spec_l04Side.F
 rw [if_pos (by omega), l01Between_eq, Option.bind_some]
 unfold sideB kindAt sumK
 have e0 : List.getD r.1 (Int.toNat k) (0, (ByteArray.empty, [])) = r.1.getD k.toNat Ex0 := rfl
 rw [e0, Bool.decide_and, if_pos g1, g2]
 by_cases c : (decide (5 ≤ (r.1.getD k.toNat Ex0).1) && decide ((r.1.getD k.toNat Ex0).1 ≤ 7)) = true
 ·rw [if_pos c, if_pos c, show (⟨#[40]⟩ : ByteArray) = bt [40] from rfl, show (⟨#[41]⟩ : ByteArray) = bt [41] from rfl, if_pos (by simp only [bt_append, bt_size, List.length_append, List.length_cons, List.length_nil, lim]; omega),
   if_pos (by simp only [bt_append, bt_size, List.length_append, List.length_cons, List.length_nil, lim]; omega)]
  simp only [bt_append]
 ·rw [if_neg c, if_neg c, if_pos g1]
theorem side_len {k : Int} {t : By} (h : t.length ≤ 3000) : (sideB k t).length ≤ 3002 := by
 unfold sideB
 split
 ·simp; omega
 ·omega
theorem spE_j4 (t30 : Int) (u : List Int) {o : List ByteArray} {i : Nat} (ho : TxOk r.1 o i) (hi : i ≤ r.1.length) (e : Ex) (hin : e.2.2.all (inR i) = true) (hs : sumK e.1 = true) (h2 : e.1 ≠ 4) (h3 : e.1 ≠ 2) (Kn : ByteArray → Option (List ByteArray × Bool)) :
  spec_l04Exps.j4 n t30 true r u o e Kn = if e.2.2.length = 2 then Kn (bt (exB (kindAt r.1) (textOf r.1) e)) else some (o, false) := by
 unfold spec_l04Exps.j4
 rw [if_pos rfl]
 by_cases hl : e.2.2.length = 2
 ·rw [if_neg (by simp [hl]), if_pos hl]
  match hab : e.2.2, hl with
  | [a, b], _ =>
   have ha := List.all_eq_true.1 hin a (by rw [hab]; simp)
   have hb := List.all_eq_true.1 hin b (by rw [hab]; simp)
   have la := (out_get r ho ha hi).2.2
   have lb := (out_get r ho hb hi).2.2
   have sa := side_len (k := kindAt r.1 a.toNat) la
   have sb := side_len (k := kindAt r.1 b.toNat) lb
   have hop : ((0 : Int) ≤ IntKind.i64.wrap (e.1 - 5) ∧ IntKind.i64.wrap (e.1 - 5) < (List.length ([⟨#[32, 43, 32]⟩, ⟨#[32, 45, 32]⟩, ⟨#[32, 42, 32]⟩] : List ByteArray) : Int)) ∧ List.getD ([⟨#[32, 43, 32]⟩, ⟨#[32, 45, 32]⟩, ⟨#[32, 42, 32]⟩] : List ByteArray) (Int.toNat (IntKind.i64.wrap (e.1 - 5))) ByteArray.empty = bt (opB e.1) ∧ (opB e.1).length = 3 := by
    unfold sumK at hs
    simp only [Bool.and_eq_true, decide_eq_true_eq] at hs
    have : e.1 = 5 ∨ e.1 = 6 ∨ e.1 = 7 := by omega
    rcases this with h | h | h <;> rw [h]
    ·exact ⟨by decide, rfl, rfl⟩
    ·exact ⟨by decide, rfl, rfl⟩
    ·exact ⟨by decide, rfl, rfl⟩
   obtain ⟨o1, o2, o3⟩ := hop
   rw [if_pos o1, if_pos (by simp), show List.getD [a, b] 0 0 = a from rfl, spSide_eq n r ho hi ha, Option.bind_some, o2, if_pos (by simp only [bt_append, bt_size, List.length_append, lim]; omega), if_pos (by simp), show List.getD [a, b] 1 0 = b from rfl, spSide_eq n r ho hi hb,
    Option.bind_some, if_pos (by simp only [bt_append, bt_size, List.length_append, lim]; omega)]
   simp only [bt_append]
   congr 2
   unfold exB
   rw [if_neg h3, if_neg (fun hh => h2 hh.1), if_pos hs]
   have hN : kidsN e = [a.toNat, b.toNat] := by unfold kidsN; rw [hab]; rfl
   rw [hN]
 ·have : ¬ (e.2.2.length : Int) = 2 := by omega
  rw [if_pos (by simp [this]), if_neg hl]
theorem spE_j2 (hn : 1100000 ≤ n) (u : List Int) {o : List ByteArray} {i : Nat} (ho : TxOk r.1 o i) (hi : i ≤ r.1.length) (e : Ex) (he : e.2.1.size ≤ 8000000) (hk : e.2.2.length ≤ 1048576) (hin : e.2.2.all (inR i) = true) (b : Bool) (hb : b = true ↔ e.1 = 1 ∨ e.1 = 3) (Kn : ByteArray → Option (List ByteArray × Bool)) :
  spec_l04Exps.j2 n (i : Int) e.1 b r u o e Kn = if (1 ≤ e.1 ∧ e.1 ≤ 7) ∧ (sumK e.1 = true → e.2.2.length = 2) then Kn (bt (exB (kindAt r.1) (textOf r.1) e)) else some (o, false) := by
 have e1 : e.2.1 = bt e.2.1.data.toList := bt_of _
 have es : e.2.1.data.toList.length ≤ 8000000 := he
 unfold spec_l04Exps.j2
 by_cases c1 : e.1 = 1 ∨ e.1 = 3
 ·rw [if_pos (hb.2 c1)]
  have hs : ¬ sumK e.1 = true := by rcases c1 with h | h <;> rw [h] <;> decide
  rw [if_pos ⟨by omega, fun h => absurd h hs⟩]
  unfold exB
  rw [if_neg (by omega), if_neg (by omega), if_neg hs, ← e1]
 rw [if_neg (fun h => c1 (hb.1 h))]
 by_cases c2 : e.1 = 2
 ·have hs : ¬ sumK e.1 = true := by rw [c2]; decide
  rw [if_pos (by simp [c2]), if_pos ⟨by omega, fun h => absurd h hs⟩]
  unfold exB
  rw [if_pos c2]
  rfl
 rw [if_neg (by simpa using c2)]
 by_cases c4 : e.1 = 4
 ·have hs : ¬ sumK e.1 = true := by rw [c4]; decide
  rw [if_pos (by simp [c4]), if_pos (show (1 ≤ e.1 ∧ e.1 ≤ 7) ∧ (sumK e.1 = true → e.2.2.length = 2) from ⟨by omega, fun h => absurd h hs⟩)]
  unfold exB
  rw [if_neg c2]
  by_cases hne : e.2.2 = []
  ·rw [if_neg (fun h => h.2 hne), if_neg hs]
   obtain ⟨n', rfl⟩ : ∃ n', n = n' + 1 := ⟨n - 1, by omega⟩
   unfold spec_l04Exps.l3
   rw [if_neg (by simp [hne]), if_neg (by simp [hne]), ← e1]
  ·obtain ⟨a, l, hq⟩ := List.exists_cons_of_ne_nil hne
   have h0 : 0 < e.2.2.length := List.length_pos_iff.2 hne
   have ha := List.all_eq_true.1 hin a (by rw [hq]; simp)
   obtain ⟨g1, g2, g3⟩ := out_get r ho ha hi
   have hN : kidsN e = a.toNat :: l.map Int.toNat := by unfold kidsN; rw [hq]; rfl
   rw [if_pos (show e.1 = 4 ∧ e.2.2 ≠ [] from ⟨c4, hne⟩)]
   obtain ⟨n', rfl⟩ : ∃ n', n = n' + 1 := ⟨n - 1, by omega⟩
   unfold spec_l04Exps.l3
   have hll : l.length + 1 = e.2.2.length := by rw [hq]; rfl
   have ga : List.getD e.2.2 (Int.toNat 0) 0 = a := by rw [hq]; rfl
   rw [ga]
   rw [if_pos (by simp; omega), if_pos (by simp), show (⟨#[40]⟩ : ByteArray) = bt [40] from rfl]
   rw [e1, if_pos (by simp only [bt_size, List.length_cons, List.length_nil, lim]; omega), if_pos (by omega), if_pos g1, g2, if_pos (by simp only [bt_append, bt_size, List.length_append, List.length_cons, List.length_nil, lim]; omega), bt_append, bt_append]
   rw [show IntKind.i64.wrap ((0 : Int) + 1) = ((1 : Nat) : Int) from rfl]
   have := spE_l3 (n' + 1) r (i : Int) u ho hi e hk hin (fun t29 =>
    if decide ((List.length e.2.2 : Int) > 0) = true then
    if ByteArray.size t29 + ByteArray.size ⟨#[41]⟩ ≤ lim then
    Kn (t29 ++ ⟨#[41]⟩)
    else
    none
    else
    Kn t29) n' 1 (e.2.1.data.toList ++ [40] ++ textOf r.1 a.toNat) (by omega) (by omega) (Nat.le_refl _) (by
     simp only [List.length_append, List.length_cons, List.length_nil]
     have : (e.2.2.length - 1) * 3002 ≤ 1048576 * 3002 := Nat.mul_le_mul_right _ (by omega)
     omega)
   refine this.trans ?_
   rw [if_pos (by simp; omega), show (⟨#[41]⟩ : ByteArray) = bt [41] from rfl]
   have hlen : ((e.2.1.data.toList ++ [40] ++ textOf r.1 a.toNat) ++ tailB [44, 32] (((kidsN e).drop 1).map (textOf r.1))).length ≤ 4000000000 := by
    have hl : ∀ ks : List Nat, (∀ k ∈ ks, (textOf r.1 k).length ≤ 3000) → (tailB [44, 32] (ks.map (textOf r.1))).length ≤ ks.length * 3002 := by
     intro ks
     induction ks with
     | nil => intro _; exact Nat.zero_le _
     | cons k ks ih =>
      intro h
      have h1 := ih fun x hx => h x (List.mem_cons_of_mem _ hx)
      have h2 := h k List.mem_cons_self
      rw [List.map_cons, tailB_cons]
      simp only [List.length_append, List.length_cons, List.length_nil, Nat.add_mul, Nat.one_mul]
      omega
    have h1 := hl ((kidsN e).drop 1) (fun k hk => by
     have hk := List.mem_of_mem_drop hk
     obtain ⟨x, hx, rfl⟩ := List.mem_map.1 hk
     exact (out_get r ho (List.all_eq_true.1 hin x hx) hi).2.2)
    have h2 : ((kidsN e).drop 1).length * 3002 ≤ 1048576 * 3002 := Nat.mul_le_mul_right _ (by
     rw [List.length_drop]
     have : (kidsN e).length = e.2.2.length := List.length_map ..
     omega)
    simp only [List.length_append, List.length_cons, List.length_nil]
    omega
   rw [if_pos (by simp only [bt_size, List.length_cons, List.length_nil, lim]; omega), bt_append]
   congr 2
   rw [hN]
   simp only [List.drop_succ_cons, List.drop_zero, List.map_cons, join_tail, bt_list, List.append_assoc]
 rw [if_neg (by simpa using c4)]
 by_cases hs : sumK e.1 = true
 ·have hk7 : 5 ≤ e.1 ∧ e.1 ≤ 7 := by
   unfold sumK at hs
   simpa using hs
  have key := fun Kn => spE_j4 n r (i : Int) u ho hi e hin hs c4 c2 Kn
  have hR : (if (1 ≤ e.1 ∧ e.1 ≤ 7) ∧ (sumK e.1 = true → e.2.2.length = 2) then Kn (bt (exB (kindAt r.1) (textOf r.1) e)) else some (o, false)) = if e.2.2.length = 2 then Kn (bt (exB (kindAt r.1) (textOf r.1) e)) else some (o, false) := by
   by_cases hl : e.2.2.length = 2
   ·rw [if_pos hl, if_pos ⟨by omega, fun _ => hl⟩]
   ·rw [if_neg hl, if_neg (fun h => hl (h.2 hs))]
  rw [hR]
  by_cases c5 : e.1 = 5
  ·rw [if_pos (by simp [c5]), show decide (e.1 = 5) = true by simp [c5], key]
  ·rw [if_neg (by simpa using c5)]
   by_cases c6 : e.1 = 6
   ·rw [if_pos (by simp [c6]), show decide (e.1 = 6) = true by simp [c6], key]
   ·rw [if_neg (by simpa using c6), show decide (e.1 = 7) = true by simp; omega, key]
 ·have hns : ¬ (5 ≤ e.1 ∧ e.1 ≤ 7) := by
   unfold sumK at hs
   simpa using hs
  rw [if_neg (by simp; omega), if_neg (by simp; omega), show decide (e.1 = 7) = false by simp; omega, if_neg (by omega)]
  unfold spec_l04Exps.j4
  rw [if_neg (by simp)]
theorem spE_j5 {o : List ByteArray} {i : Nat} (ho : o.length = r.1.length) (hi : i < r.1.length) (u : List Int) (e : Ex) (t : By) (Kn : List ByteArray → Option (List ByteArray × Bool)) :
  spec_l04Exps.j5 n (i : Int) (bt t) r u o e Kn = if (e.1 ≤ 3 → e.2.2 = []) ∧ t.length ≤ 3000 then Kn (o.set i (bt t)) else some (o, false) := by
 unfold spec_l04Exps.j5 spec_l04Exps.j6
 have hin : (0 : Int) ≤ (i : Int) ∧ (i : Int) < (o.length : Int) := by omega
 simp only [if_pos hin, Int.toNat_natCast, bt_size]
 by_cases c3 : e.1 ≤ 3
 ·rw [if_pos (by simpa using c3)]
  by_cases hk : e.2.2 = []
  ·rw [if_pos (by simp [hk])]
   by_cases ht : t.length ≤ 3000
   ·rw [if_neg (by simp; omega), if_pos ⟨fun _ => hk, ht⟩]
   ·rw [if_pos (by simp; omega), if_neg (fun h => ht h.2)]
  ·have := List.length_pos_iff.2 hk
   rw [if_neg (by simp; omega), if_neg (fun h => hk (h.1 c3))]
 ·rw [if_neg (by simpa using c3)]
  by_cases ht : t.length ≤ 3000
  ·rw [if_neg (by simp; omega), if_pos ⟨fun h => absurd h c3, ht⟩]
  ·rw [if_pos (by simp; omega), if_neg (fun h => ht h.2)]
end
end Go.Abs
