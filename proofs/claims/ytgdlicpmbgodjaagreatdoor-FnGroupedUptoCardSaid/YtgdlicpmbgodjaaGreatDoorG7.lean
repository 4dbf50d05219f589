/- The reference's groups. Conditions: none. -/
import Derived.Test.YtgdlicpmbgodjaaGreatDoorG6
namespace Go.Abs
set_option linter.unusedVariables false
set_option linter.unusedSimpArgs false
theorem keyOf_ok {by_ : List Int} {t : Tu} (hp : placesIn by_ t.length) (hb : by_.length ≤ 6) (ht : okT t) : okT (keyOf by_ t) := by
 refine ⟨by unfold keyOf; rw [List.length_map]; exact hb, fun s hs => ?_⟩
 unfold keyOf at hs
 obtain ⟨k, hk, rfl⟩ := List.mem_map.1 hs
 have h := hp k hk
 have hlt : k.toNat < t.length := by omega
 refine ht.2 _ ?_
 rw [List.getD_eq_getElem?_getD, List.getElem?_eq_getElem hlt]
 exact List.getElem_mem hlt
theorem rowsOf_cons (κ : Tu → Tu) (t : Tu) (l : List Tu) (k : Tu) : rowsOf κ (t :: l) k = if κ t = k then t :: rowsOf κ l k else rowsOf κ l k := by
 unfold rowsOf
 rw [List.filter_cons]
 by_cases e : κ t = k <;> simp [e]
theorem insT_len (t : Tu) : ∀ l : List Tu, (insT t l).length ≤ l.length + 1
 | [] => Nat.le_refl _
 | x :: r => by
  have := insT_len t r
  unfold insT
  split
  ·simp; omega
  ·split <;> simp
theorem keysAll_len (κ : Tu → Tu) : ∀ (r ks : List Tu), (keysAll κ r ks).length ≤ r.length + ks.length
 | [], ks => by simp [keysAll]
 | t :: r, ks => by
  have h1 := keysAll_len κ r (insT (κ t) ks)
  have h2 := insT_len (κ t) ks
  show (keysAll κ r (insT (κ t) ks)).length ≤ _
  simp only [List.length_cons]
  omega
theorem Right.by6 {r : Re} {by_ : List Int} (hR : Right r by_) : by_.length ≤ 6 := by
 have h1 := hR.len
 have h2 := hR.rel.base.2.1
 omega
section
variable (n : Nat) (hn : 1100000 ≤ n) (r : Re) (by_ : List Int) (hR : Right r by_)
include hn hR
theorem specG_l0 (u : List Gr) (K : List Tu → Option (List Gr)) : ∀ (k i : Nat) (ks : List Tu), i ≤ r.2.length → r.2.length - i < k → ks.length ≤ i → (∀ x ∈ ks, okT x) →
  spec_GroupsOf.l0 n by_ r u K k (i : Int) ks = K (keysAll (keyOf by_) (r.2.drop i) ks)
 | 0, i, ks, hi, hk, _, _ => absurd hk (Nat.not_lt_zero _)
 | k + 1, i, ks, hi, hk, hl, ok => by
  have hrow := hR.rel.base.2.2.1
  by_cases h : i < r.2.length
  ·have ht := hR.rel.base.2.2.2 _ (List.getElem_mem h)
   have hp := hR.pl _ (List.getElem_mem h)
   have b6 := hR.by6
   have kok := keyOf_ok hp b6 ht
   obtain ⟨b, hb⟩ := l02Put_eq n hn ks (keyOf by_ r.2[i]) (by omega) ok kok
   conv => lhs; unfold spec_GroupsOf.l0
   rw [if_pos (dlt h), if_pos (inl' h), getD_in _ h, l19Key_eq n by_ _ (by omega) (by omega) hp, Option.bind_some, hb, Option.bind_some, wr1 (by omega)]
   rw [specG_l0 u K k (i + 1) (insT (keyOf by_ r.2[i]) ks) (by omega) (by omega) (by have := insT_len (keyOf by_ r.2[i]) ks; omega) (fun x hx => by
    rcases (insT_mem (fun y hy => (ok y hy).2) kok.2 x).1 hx with rfl | hx
    ·exact kok
    ·exact ok x hx), List.drop_eq_getElem_cons h]
   rfl
  ·conv => lhs; unfold spec_GroupsOf.l0
   rw [if_neg (dnl h), List.drop_of_length_le (by omega)]
   rfl
theorem specG_l2 (keys : List Tu) (j : Nat) (hj : j < keys.length) (u : List Gr) (K : Gr → Option (List Gr)) : ∀ (k i : Nat) (g : Gr), i ≤ r.2.length → r.2.length - i < k → g.2.length ≤ i →
  spec_GroupsOf.l2 n by_ (j : Int) r u keys K k (i : Int) g = K (g.1, g.2 ++ rowsOf (keyOf by_) (r.2.drop i) keys[j])
 | 0, i, g, hi, hk, _ => absurd hk (Nat.not_lt_zero _)
 | k + 1, i, g, hi, hk, hl => by
  have hrow := hR.rel.base.2.2.1
  by_cases h : i < r.2.length
  ·have ht := hR.rel.base.2.2.2 _ (List.getElem_mem h)
   have hp := hR.pl _ (List.getElem_mem h)
   have b6 := hR.by6
   have kok := keyOf_ok hp b6 ht
   have k6 := kok.1
   have t6 := ht.1
   conv => lhs; unfold spec_GroupsOf.l2
   rw [if_pos (dlt h), if_pos (inl' h), getD_in _ h, l19Key_eq n by_ _ (by omega) (by omega) hp, Option.bind_some, if_pos (inl' hj), getD_in _ hj, l02Same_eq n _ _ (by omega) (by omega), Option.bind_some, wr1 (by omega)]
   rw [List.drop_eq_getElem_cons h]
   by_cases e : keyOf by_ r.2[i] = keys[j]
   ·rw [if_pos (by simp [e]), if_pos (inl' h), l02Tuple_eq n _ (by omega), Option.bind_some, if_pos (by simp [lim]; omega), specG_l2 keys j hj u K k (i + 1) _ (by omega) (by omega) (by simp; omega)]
    rw [rowsOf_cons, if_pos e, List.append_assoc]
    rfl
   ·rw [if_neg (by simp [e]), specG_l2 keys j hj u K k (i + 1) _ (by omega) (by omega) (by omega), rowsOf_cons, if_neg e]
  ·conv => lhs; unfold spec_GroupsOf.l2
   rw [if_neg (dnl h), List.drop_of_length_le (by omega)]
   simp [rowsOf]
theorem specG_l1 (keys : List Tu) (hkl : keys.length ≤ 1048576) (hk6 : ∀ x ∈ keys, x.length ≤ 6) (K : List Gr → Option (List Gr)) : ∀ (k i : Nat) (out : List Gr), i ≤ keys.length → keys.length - i < k → out.length ≤ i →
  spec_GroupsOf.l1 n by_ r keys K k (i : Int) out = K (out ++ (keys.drop i).map fun k => (k, rowsOf (keyOf by_) r.2 k))
 | 0, i, out, hi, hk, _ => absurd hk (Nat.not_lt_zero _)
 | k + 1, i, out, hi, hk, hl => by
  by_cases h : i < keys.length
  ·have h6 := hk6 _ (List.getElem_mem h)
   have hrow := hR.rel.base.2.2.1
   have s := specG_l2 n hn r by_ hR keys i h out (fun t27 =>
      if List.length out + List.length [t27] ≤ lim then
       spec_GroupsOf.l1 n by_ r keys K k (IntKind.i64.wrap ((i : Int) + 1)) (out ++ [t27])
      else
       none) n 0 ([] ++ keys[i], []) (by omega) (by omega) (by simp)
   rw [show ((0 : Nat) : Int) = 0 from rfl] at s
   conv => lhs; unfold spec_GroupsOf.l1
   rw [if_pos (dlt h), if_pos (inl' h), getD_in _ h, if_pos (by simp [lim]; omega), s, if_pos (by simp [lim]; omega), wr1 (by omega), specG_l1 keys hkl hk6 K k (i + 1) _ (by omega) (by omega) (by simp; omega), List.drop_eq_getElem_cons h, List.map_cons, List.append_assoc]
   rfl
  ·conv => lhs; unfold spec_GroupsOf.l1
   rw [if_neg (dnl h), List.drop_of_length_le (by omega)]
   simp
theorem specG_eq : spec_GroupsOf.F n r by_ = (spec_l19Right.F n r by_).bind fun r3 => if (!r3) = true then some [] else some (grpS (keyOf by_) r.2) := by
 unfold spec_GroupsOf.F
 congr 1
 funext b
 split
 ·rfl
 ·have hrow := hR.rel.base.2.2.1
  have b6 := hR.by6
  have kok : ∀ t ∈ r.2, okT (keyOf by_ t) := fun t ht => keyOf_ok (hR.pl t ht) b6 (hR.rel.base.2.2.2 t ht)
  obtain ⟨_, a2, a3⟩ := keysAll_ok (keyOf by_) r.2 [] (fun t ht => (kok t ht).2) (fun _ h => by cases h) List.Pairwise.nil
  have kl := keysAll_len (keyOf by_) r.2 []
  have k6 : ∀ x ∈ keysAll (keyOf by_) r.2 [], x.length ≤ 6 := fun x hx => by
   rcases (a3 x).1 hx with h | ⟨t, ht, e⟩
   ·cases h
   ·rw [← e]; exact (kok t ht).1
  have s0 := specG_l0 n hn r by_ hR [] (fun t11 => spec_GroupsOf.l1 n by_ r t11 (fun t28 => some t28) n 0 []) n 0 [] (Nat.zero_le _) (by omega) (by simp) (fun _ h => by cases h)
  rw [show ((0 : Nat) : Int) = 0 from rfl, List.drop_zero] at s0
  rw [s0]
  have s1 := specG_l1 n hn r by_ hR (keysAll (keyOf by_) r.2 []) (by simp at kl; omega) k6 (fun t28 => some t28) n 0 [] (Nat.zero_le _) (by simp at kl; omega) (by simp)
  rw [show ((0 : Nat) : Int) = 0 from rfl, List.drop_zero] at s1
  rw [s1]
  rfl
end
end Go.Abs
