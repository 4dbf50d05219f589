/- The program's text of an exp. Conditions: none. -/
import Derived.Test.YtdjdgempjnlkeaaY1
namespace Go.Abs
set_option linter.unusedVariables false
set_option linter.unusedSimpArgs false
theorem isSum_eq (n : Nat) (k : Int) : impl_isSum.F n k = some (sumK k) := by
 unfold impl_isSum.F
 rw [in_eq, Option.bind_some]
 unfold sumK
 rw [Bool.decide_and]
section
variable {r : Ru} (h : FormB r) (S : SmR r)
theorem FormB.total (h : FormB r) (S : SmR r) : (ruleB r).length ≤ 56000010 := by
 have h1 := rule_le h.form
 have h2 := S.all
 omega
theorem FormB.tlen (h : FormB r) (S : SmR r) {i : Nat} (hi : i < r.1.length) : (textOf r.1 i).length ≤ 56000010 := Nat.le_trans (exp_le h.form hi) (h.total S)
abbrev Tx (r : Ru) (k : Int) : ByteArray := bt (textOf r.1 k.toNat)
theorem texts_l0 (g : Nat) (s75 : Ru → Int → Option ByteArray) (s76 : Ru → List Int → Option ByteArray) (s82 : Int → Ru → Option ByteArray) (kids : List Int) (hk : kids.length ≤ 1048576) (hself : ∀ k ∈ kids, s75 r k = some (Tx r k)) (K : List ByteArray → Option ByteArray) : ∀ (k j : Nat), j ≤ kids.length → kids.length - j < k →
  impl_Rule_expTexts.l0 g s75 s76 s82 kids (kids.length : Int) r K k (j : Int) ((kids.take j).map (Tx r)) = K (kids.map (Tx r))
 | 0, j, _, hj => absurd hj (Nat.not_lt_zero _)
 | k + 1, j, hj, hk1 => by
  by_cases h : j < kids.length
  ·conv => lhs; unfold impl_Rule_expTexts.l0
   rw [if_pos (dlt h), if_pos (inl' h), getD_in _ h, hself _ (List.getElem_mem h), Option.bind_some, if_pos (by simp [lim]; omega), wr1 (by omega)]
   have := texts_l0 g s75 s76 s82 kids hk hself K k (j + 1) (by omega) (by omega)
   rw [List.take_succ_eq_append_getElem h, List.map_append] at this
   exact this
  ·conv => lhs; unfold impl_Rule_expTexts.l0
   rw [if_neg (dnl h), List.take_of_length_le (by omega)]
theorem join_bt (n : Nat) (l : List By) (hl : l.length ≤ 4294967296) (hj : (Lib.join l [44, 32]).length ≤ 4294967296) : strings_Join.F n (l.map bt) ⟨#[44, 32]⟩ = some (bt (Lib.join l [44, 32])) := by
 unfold strings_Join.F
 have e : (l.map bt).map (fun x => x.data.toList) = l := by
  rw [List.map_map]
  conv => rhs; rw [← List.map_id l]
  exact List.map_congr_left fun a _ => bt_list a
 have e2 : ((⟨#[44, 32]⟩ : ByteArray).data.toList) = [44, 32] := rfl
 rw [e, e2, if_pos ⟨by rw [List.length_map]; exact hl, hj⟩]
 rfl
theorem texts_eq (g : Nat) (s75 : Ru → Int → Option ByteArray) (s76 : Ru → List Int → Option ByteArray) (s82 : Int → Ru → Option ByteArray) (kids : List Int) (hk : kids.length ≤ 1048576) (hg : 1048577 ≤ g) (hself : ∀ k ∈ kids, s75 r k = some (Tx r k))
  (hj : (Lib.join ((kids.map Int.toNat).map (textOf r.1)) [44, 32]).length ≤ 4294967296) : impl_Rule_expTexts.G g s75 s76 s82 r kids = some (bt (Lib.join ((kids.map Int.toNat).map (textOf r.1)) [44, 32])) := by
 unfold impl_Rule_expTexts.G
 have := texts_l0 g s75 s76 s82 kids hk hself (fun out9 => (strings_Join.F g out9 ⟨#[44, 32]⟩).bind fun r10 => some r10) g 0 (Nat.zero_le _) (by omega)
 rw [show ((0 : Nat) : Int) = 0 from rfl] at this
 rw [List.take_zero] at this
 refine this.trans ?_
 have e : kids.map (Tx r) = ((kids.map Int.toNat).map (textOf r.1)).map bt := by simp [List.map_map, Function.comp_def]
 rw [e, join_bt g _ (by simp; omega) hj, Option.bind_some]
theorem side_eq (g : Nat) (s75 : Ru → Int → Option ByteArray) (s76 : Ru → List Int → Option ByteArray) (s82 : Int → Ru → Option ByteArray) {k : Nat} (hk : k < r.1.length) (hself : s75 r (k : Int) = some (bt (textOf r.1 k))) (ht : (textOf r.1 k).length ≤ 56000010) :
  impl_Rule_expText_1.G g s75 s76 s82 (k : Int) r = some (bt (sideB (kindAt r.1 k) (textOf r.1 k))) := by
 unfold impl_Rule_expText_1.G
 have e0 : List.getD r.1 (Int.toNat (k : Int)) (0, (ByteArray.empty, [])) = r.1.getD k Ex0 := by rw [Int.toNat_natCast]
 rw [if_pos (inl' hk), e0, isSum_eq, Option.bind_some, hself]
 unfold sideB kindAt
 by_cases c : sumK (r.1.getD k Ex0).1 = true
 ·rw [if_pos c, if_pos c, Option.bind_some]
  rw [show (⟨#[40]⟩ : ByteArray) = bt [40] from rfl, show (⟨#[41]⟩ : ByteArray) = bt [41] from rfl]
  simp only [bt_append, bt_size, List.length_append, List.length_cons, List.length_nil]
  rw [if_pos (by simp only [lim]; omega), if_pos (by simp only [lim]; omega)]
 ·rw [if_neg c, if_neg c, Option.bind_some]
theorem sum_eq (g : Nat) (s75 : Ru → Int → Option ByteArray) (s76 : Ru → List Int → Option ByteArray) (s82 : Int → Ru → Option ByteArray) (e : Ex) (hs : sumK e.1 = true) {a b : Int} (hab : e.2.2 = [a, b]) {A B : By} (hA : s82 a r = some (bt A)) (hB : s82 b r = some (bt B))
  (hl : A.length + B.length ≤ 60000000) (Kn : Unit → Option ByteArray) : impl_Rule_expText.j0 g s75 s76 s82 true r e Kn = some (bt (A ++ opB e.1 ++ B)) := by
 have hop : ∃ c : UInt8, ((0 : Int) ≤ IntKind.i64.wrap (e.1 - 5) ∧ IntKind.i64.wrap (e.1 - 5) < (List.length ([⟨#[43]⟩, ⟨#[45]⟩, ⟨#[42]⟩] : List ByteArray) : Int)) ∧ List.getD ([⟨#[43]⟩, ⟨#[45]⟩, ⟨#[42]⟩] : List ByteArray) (Int.toNat (IntKind.i64.wrap (e.1 - 5))) ByteArray.empty = bt [c] ∧ opB e.1 = [32, c, 32] := by
  unfold sumK at hs
  simp only [Bool.and_eq_true, decide_eq_true_eq] at hs
  have : e.1 = 5 ∨ e.1 = 6 ∨ e.1 = 7 := by omega
  rcases this with h | h | h <;> rw [h]
  ·exact ⟨43, by decide, rfl, rfl⟩
  ·exact ⟨45, by decide, rfl, rfl⟩
  ·exact ⟨42, by decide, rfl, rfl⟩
 obtain ⟨c, h1, h2, h3⟩ := hop
 unfold impl_Rule_expText.j0
 rw [hab, show (⟨#[32]⟩ : ByteArray) = bt [32] from rfl, if_pos rfl, if_pos (by simp), show List.getD [a, b] 0 0 = a from rfl, hA, Option.bind_some, if_pos (by simp only [bt_size, List.length_cons, List.length_nil, lim]; omega), if_pos h1, h2,
  if_pos (by simp only [bt_append, bt_size, List.length_append, List.length_cons, List.length_nil, lim]; omega), if_pos (by simp only [bt_append, bt_size, List.length_append, List.length_cons, List.length_nil, lim]; omega), if_pos (by simp),
  show List.getD [a, b] 1 0 = b from rfl, hB, Option.bind_some, if_pos (by simp only [bt_append, bt_size, List.length_append, List.length_cons, List.length_nil, lim]; omega), h3]
 simp only [bt_append]
 congr 2
 simp
theorem expF (h : FormB r) (S : SmR r) : ∀ (i f : Nat), i < r.1.length → 1048600 + 3 * i ≤ f → (FF112 f).1 r (i : Int) = some (bt (textOf r.1 i)) := by
 intro i
 induction i using Nat.strongRecOn with
 | ind i ih =>
  intro f hi hf
  obtain ⟨g, rfl⟩ : ∃ g, f = g + 2 := ⟨f - 2, by omega⟩
  show impl_Rule_expText.G (g + 1) (FF112 (g + 1)).1 (FF112 (g + 1)).2.1 (FF112 (g + 1)).2.2 r (i : Int) = _
  have hlow := h.low i hi
  have hT := h.tlen S hi
  have hF := h.form.exps
  rw [textOf_eq h.low hi] at hT ⊢
  have e0 : List.getD r.1 (Int.toNat (i : Int)) (0, (ByteArray.empty, [])) = r.1.getD i Ex0 := by rw [Int.toNat_natCast]
  have hmem : r.1.getD i Ex0 ∈ r.1 := by
   have : r.1.getD i Ex0 = r.1[i] := by simp [hi]
   rw [this]
   exact List.getElem_mem hi
  have hkn := h.form.nn _ hmem
  have hkl := S.kids _ hmem
  have htwo := hF.two i hi
  unfold impl_Rule_expText.G
  rw [if_pos (inl' hi), e0]
  generalize r.1.getD i Ex0 = e at *
  have hkid : ∀ k ∈ e.2.2, ∃ q : Nat, k = (q : Int) ∧ q < i ∧ q < r.1.length ∧ q ∈ kidsN e := fun k hk => by
   obtain ⟨q, rfl⟩ := Int.eq_ofNat_of_zero_le (hkn k hk)
   have hq : q ∈ kidsN e := List.mem_map.2 ⟨_, hk, Int.toNat_natCast q⟩
   have := hlow q hq
   exact ⟨q, rfl, this, by omega, hq⟩
  by_cases c2 : e.1 = 2
  ·rw [if_pos (by simp [c2])]
   unfold exB
   rw [if_pos c2]
   rfl
  rw [if_neg (by simpa using c2)]
  by_cases c4 : e.1 = 4
  ·rw [if_pos (by simp [c4])]
   have hs4 : ¬ sumK e.1 = true := by rw [c4]; decide
   by_cases hk : e.2.2 = []
   ·rw [if_neg (by simp [hk])]
    unfold exB
    rw [if_neg c2, if_neg (fun hh => hh.2 hk), if_neg hs4, ← bt_of]
   ·have hpos : 0 < e.2.2.length := List.length_pos_iff.2 hk
    have hT' := hT
    unfold exB at hT' ⊢
    rw [if_neg c2, if_pos (show e.1 = 4 ∧ e.2.2 ≠ [] from ⟨c4, hk⟩)] at hT' ⊢
    simp only [List.length_append, List.length_cons, List.length_nil] at hT'
    have hte := texts_eq g (FF112 g).1 (FF112 g).2.1 (FF112 g).2.2 e.2.2 hkl (by omega) (fun k hk' => by
     obtain ⟨q, rfl, h1, h2, _⟩ := hkid k hk'
     rw [ih q h1 g h2 (by omega)]
     rfl) (by
     show (Lib.join ((kidsN e).map (textOf r.1)) [44, 32]).length ≤ _
     omega)
    have hte2 : (FF112 (g + 1)).2.1 r e.2.2 = some (bt (Lib.join ((kidsN e).map (textOf r.1)) [44, 32])) := hte
    rw [if_pos (by simp; omega), hte2]
    have e1 : e.2.1 = bt e.2.1.data.toList := bt_of _
    rw [e1, show (⟨#[40]⟩ : ByteArray) = bt [40] from rfl, show (⟨#[41]⟩ : ByteArray) = bt [41] from rfl]
    simp only [bt_list, bt_append, bt_size, List.length_append, List.length_cons, List.length_nil, Option.bind_some]
    rw [if_pos (by simp only [lim]; omega), if_pos (by simp only [lim]; omega), if_pos (by simp only [lim]; omega)]
  rw [if_neg (by simpa using c4)]
  by_cases hs : sumK e.1 = true
  ·have hlen := htwo hs
   match hab : e.2.2, hlen with
   | [a, b], _ =>
    obtain ⟨p, rfl, p1, p2, p3⟩ := hkid a (by rw [hab]; simp)
    obtain ⟨q, rfl, q1, q2, q3⟩ := hkid b (by rw [hab]; simp)
    have hA := side_eq g (FF112 g).1 (FF112 g).2.1 (FF112 g).2.2 p2 (ih p p1 g p2 (by omega)) (h.tlen S p2)
    have hB := side_eq g (FF112 g).1 (FF112 g).2.1 (FF112 g).2.2 q2 (ih q q1 g q2 (by omega)) (h.tlen S q2)
    have hN : kidsN e = [p, q] := by unfold kidsN; rw [hab]; simp
    have hx : exB (kindAt r.1) (textOf r.1) e = sideB (kindAt r.1 p) (textOf r.1 p) ++ opB e.1 ++ sideB (kindAt r.1 q) (textOf r.1 q) := by
     unfold exB
     rw [if_neg c2, if_neg (fun hh => c4 hh.1), if_pos hs, hN]
    rw [hx] at hT ⊢
    simp only [List.length_append] at hT
    have key := fun Kn => sum_eq (r := r) (g + 1) (FF112 (g + 1)).1 (FF112 (g + 1)).2.1 (FF112 (g + 1)).2.2 e hs hab (show (FF112 (g + 1)).2.2 (p : Int) r = _ from hA) (show (FF112 (g + 1)).2.2 (q : Int) r = _ from hB) (by omega) Kn
    by_cases c5 : e.1 = 5
    ·rw [if_pos (by simp [c5]), show decide (e.1 = 5) = true by simp [c5], key]
    ·rw [if_neg (by simpa using c5)]
     by_cases c6 : e.1 = 6
     ·rw [if_pos (by simp [c6]), show decide (e.1 = 6) = true by simp [c6], key]
     ·rw [if_neg (by simpa using c6)]
      have c7 : e.1 = 7 := by
       unfold sumK at hs
       simp only [Bool.and_eq_true, decide_eq_true_eq] at hs
       omega
      rw [show decide (e.1 = 7) = true by simp [c7], key]
  ·have hns : ¬ (5 ≤ e.1 ∧ e.1 ≤ 7) := by
    unfold sumK at hs
    simpa using hs
   have hx : exB (kindAt r.1) (textOf r.1) e = e.2.1.data.toList := by
    unfold exB
    rw [if_neg c2, if_neg (fun hh => c4 hh.1), if_neg hs]
   rw [hx, if_neg (by simp; omega), if_neg (by simp; omega), show decide (e.1 = 7) = false by simp; omega]
   unfold impl_Rule_expText.j0
   rw [if_neg (by simp), ← bt_of]
theorem expText_eq (h : FormB r) (S : SmR r) {n : Nat} (hn : 1100000 ≤ n) {i : Nat} (hi : i < r.1.length) : impl_Rule_expText.F n r (i : Int) = some (bt (textOf r.1 i)) :=
 expF h S i n hi (by have := h.few; omega)
theorem expTexts_eq (h : FormB r) (S : SmR r) {n : Nat} (hn : 1100000 ≤ n) (kids : List Int) (hk : kids.length ≤ 1048576) (hin : kids.all (inR r.1.length) = true)
  (hj : (Lib.join ((kids.map Int.toNat).map (textOf r.1)) [44, 32]).length ≤ 4294967296) : impl_Rule_expTexts.F n r kids = some (bt (Lib.join ((kids.map Int.toNat).map (textOf r.1)) [44, 32])) := by
 obtain ⟨g, rfl⟩ : ∃ g, n = g + 1 := ⟨n - 1, by omega⟩
 show impl_Rule_expTexts.G g (FF112 g).1 (FF112 g).2.1 (FF112 g).2.2 r kids = _
 refine texts_eq g _ _ _ kids hk (by omega) (fun k hk' => ?_) hj
 have := List.all_eq_true.1 hin k hk'
 unfold inR at this
 simp only [Bool.and_eq_true, decide_eq_true_eq] at this
 obtain ⟨q, rfl⟩ := Int.eq_ofNat_of_zero_le this.1
 have hq : q < r.1.length := by omega
 rw [expF h S q g hq (by have := h.few; omega)]
 rfl
end
end Go.Abs
