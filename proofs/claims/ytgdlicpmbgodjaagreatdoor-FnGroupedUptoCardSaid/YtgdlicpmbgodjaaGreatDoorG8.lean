/- The program's groups, and both sides alike. Conditions: none. -/
import Derived.Test.YtgdlicpmbgodjaaGreatDoorG7
namespace Go.Abs
set_option linter.unusedVariables false
set_option linter.unusedSimpArgs false
theorem ins1_congr {α : Type} {f g : α → α → Int} (x : α) : ∀ l : List α, (∀ y ∈ l, f x y = g x y) → ins1 f x l = ins1 g x l
 | [], _ => rfl
 | y :: r, h => by
  unfold ins1
  rw [h y List.mem_cons_self, ins1_congr x r (fun z hz => h z (List.mem_cons_of_mem _ hz))]
theorem isort_congr {α : Type} {f g : α → α → Int} : ∀ l : List α, (∀ x ∈ l, ∀ y ∈ l, f x y = g x y) → isort f l = isort g l
 | [], _ => rfl
 | x :: r, h => by
  unfold isort
  rw [isort_congr r (fun a ha b hb => h a (List.mem_cons_of_mem _ ha) b (List.mem_cons_of_mem _ hb))]
  exact ins1_congr x _ fun y hy => h x List.mem_cons_self y (List.mem_cons_of_mem _ ((isort_perm g r).mem_iff.1 hy))
theorem sortF_eq {α : Type} {cF : α × α × Unit → Option Int} {c : α → α → Int} {xs : List α} (h : ∀ x ∈ xs, ∀ y ∈ xs, cF (x, y, ()) = some (c x y)) (O : OrdL (· ∈ xs) c) (hl : xs.length ≤ 1152921504606846976) :
  sortF cF xs = some (isort c xs) := by
 have e : ∀ x ∈ xs, ∀ y ∈ xs, cvF cF x y = c x y := fun x hx y hy => by unfold cvF; rw [h x hx y hy]; rfl
 have O2 : OrdL (· ∈ xs) (cvF cF) := by
  refine ⟨fun a b ha hb => ?_, fun a b ha hb => ?_, fun a b d ha hb hd => ?_⟩
  ·rw [e a ha b hb]; exact O.zero a b ha hb
  ·rw [e a ha b hb, e b hb a ha]; exact O.neg a b ha hb
  ·rw [e a ha b hb, e b hb d hd, e a ha d hd]; exact O.trans a b d ha hb hd
 unfold sortF
 rw [if_pos ⟨fun x hx y hy => by rw [h x hx y hy]; rfl, O2, hl⟩, isort_congr xs e]
theorem lay_inv (key t : Tu) {B : Nat} : ∀ gs : List Gr, (∀ g ∈ gs, g.1.length ≤ 6 ∧ g.2.length ≤ B) → key.length ≤ 6 → ∀ g ∈ layG key t gs, g.1.length ≤ 6 ∧ g.2.length ≤ B + 1
 | [], _, hk, g, hg => by
  unfold layG at hg
  rw [List.mem_singleton] at hg
  subst hg
  exact ⟨hk, by simp⟩
 | h :: r, hh, hk, g, hg => by
  have h0 := hh h List.mem_cons_self
  unfold layG at hg
  split at hg
  ·rcases List.mem_cons.1 hg with rfl | hg
   ·exact ⟨h0.1, by simp; omega⟩
   ·have := hh g (List.mem_cons_of_mem _ hg); exact ⟨this.1, by omega⟩
  ·rcases List.mem_cons.1 hg with rfl | hg
   ·exact ⟨h0.1, by omega⟩
   ·exact lay_inv key t r (fun x hx => hh x (List.mem_cons_of_mem _ hx)) hk g hg
theorem layAll_len (κ : Tu → Tu) : ∀ (rows : List Tu) (gs : List Gr), (layAll κ rows gs).length ≤ rows.length + gs.length := by
 intro rows
 induction rows with
 | nil => intro gs; simp [layAll]
 | cons t rows ih =>
  intro gs
  have h1 := ih (layG (κ t) t gs)
  have h2 := lay_len (κ t) t gs
  show (layAll κ rows (layG (κ t) t gs)).length ≤ _
  simp only [List.length_cons]
  omega
section
variable (n : Nat) (hn : 1100000 ≤ n) (r : Re) (by_ : List Int) (hR : Right r by_)
include hn hR
theorem implG_l0 (K : List Gr → Option (List Gr)) : ∀ (k i : Nat) (gs : List Gr), i ≤ r.2.length → r.2.length - i < k → gs.length ≤ i → (∀ g ∈ gs, g.1.length ≤ 6 ∧ g.2.length ≤ i) →
  impl_groupsOf.l0 n by_ r.2 (r.2.length : Int) K k (i : Int) gs = K (layAll (keyOf by_) (r.2.drop i) gs)
 | 0, i, gs, hi, hk, _, _ => absurd hk (Nat.not_lt_zero _)
 | k + 1, i, gs, hi, hk, hl, hg => by
  have hrow := hR.rel.base.2.2.1
  by_cases h : i < r.2.length
  ·have ht := hR.rel.base.2.2.2 _ (List.getElem_mem h)
   have hp := hR.pl _ (List.getElem_mem h)
   have b6 := hR.by6
   have kok := keyOf_ok hp b6 ht
   have k6 := kok.1
   have t6 := ht.1
   have ih := implG_l0 K k (i + 1) (layG (keyOf by_ r.2[i]) r.2[i] gs) (by omega) (by omega) (by have := lay_len (keyOf by_ r.2[i]) r.2[i] gs; omega) (lay_inv _ _ gs hg k6)
   conv => lhs; unfold impl_groupsOf.l0
   rw [if_pos (dlt h), if_pos (inl' h), getD_in _ h, List.drop_eq_getElem_cons h]
   have e0 : ([] : Tu) = keyOf (by_.take 0) r.2[i] := rfl
   have s := fun (KK : Tu → Option (List Gr)) => implKey_l n by_ r.2 (r.2.length : Int) (i : Int) by_ gs r.2[i] (by omega) hp KK n 0 (Nat.zero_le _) (by omega)
   simp only [← e0, show ((0 : Nat) : Int) = 0 from rfl] at s
   rw [s]
   have hle := pos_le (keyOf by_ r.2[i]) gs
   have q := indexG_l n gs (keyOf by_ r.2[i]) (by omega) (by omega) (fun g hgm => by have := (hg g hgm).1; omega) (fun _ => some (-1)) n 0 (Nat.zero_le _) (by omega)
   rw [List.drop_zero, Nat.zero_add, show ((0 : Nat) : Int) = 0 from rfl] at q
   unfold slices_IndexFunc_Group_Group.F
   rw [q]
   by_cases hpos : posG (keyOf by_ r.2[i]) gs < gs.length
   ·rw [if_pos hpos, Option.bind_some, if_neg (by simp), if_pos (by omega), copyTuple_eq n _ (by omega), Option.bind_some, Int.toNat_natCast]
    have hb : (List.getD gs (posG (keyOf by_ r.2[i]) gs) ([], [])).2.length ≤ i := by
     rw [List.getD_eq_getElem?_getD, List.getElem?_eq_getElem hpos]
     exact (hg _ (List.getElem_mem hpos)).2
    rw [if_pos (by show _ + 1 ≤ 4294967296; omega), if_pos rfl, if_pos rfl]
    dsimp only
    rw [set_pos _ _ gs hpos, wr1 (by omega), ih]
    rfl
   ·have hpe : posG (keyOf by_ r.2[i]) gs = gs.length := by omega
    rw [if_neg hpos, Option.bind_some, if_pos (by simp), if_pos (by simp [lim]; omega), if_pos (by simp; omega), copyTuple_eq n _ (by omega), Option.bind_some, Int.toNat_natCast]
    rw [if_pos (by simp [lim]), if_pos rfl, if_pos rfl]
    dsimp only
    have e1 : List.set (gs ++ [(keyOf by_ r.2[i], [])]) gs.length ((List.getD (gs ++ [(keyOf by_ r.2[i], [])]) gs.length ([], [])).1, (List.getD (gs ++ [(keyOf by_ r.2[i], [])]) gs.length ([], [])).2 ++ [r.2[i]]) = layG (keyOf by_ r.2[i]) r.2[i] gs := by
     rw [lay_new _ _ gs hpe]
     simp
    rw [e1, wr1 (by omega), ih]
    rfl
  ·conv => lhs; unfold impl_groupsOf.l0
   rw [if_neg (dnl h), List.drop_of_length_le (by omega)]
   rfl
theorem implG_eq : impl_groupsOf.F n r by_ = some (grpS (keyOf by_) r.2) := by
 have hrow := hR.rel.base.2.2.1
 have b6 := hR.by6
 have kok : ∀ t ∈ r.2, okT (keyOf by_ t) := fun t ht => keyOf_ok (hR.pl t ht) b6 (hR.rel.base.2.2.2 t ht)
 unfold impl_groupsOf.F
 have s := implG_l0 n hn r by_ hR (fun t25 => (slices_SortFunc_Group_Group.F n t25 ((), ())).bind fun r26 => some r26) n 0 [] (Nat.zero_le _) (by omega) (by simp) (fun _ h => by cases h)
 rw [show ((0 : Nat) : Int) = 0 from rfl, List.drop_zero] at s
 rw [s]
 obtain ⟨O, e, hk⟩ := grp_main (keyOf by_) r.2 (fun t ht => (kok t ht).2)
 unfold slices_SortFunc_Group_Group.F
 have hl := layAll_len (keyOf by_) r.2 []
 rw [sortF_eq (c := fun a b : Gr => tpc a.1 b.1) (fun x hx y hy => ?_) O (by simp at hl; omega), e]
 ·rfl
 ·obtain ⟨t, ht, e1⟩ := hk x hx
  obtain ⟨u, hu, e2⟩ := hk y hy
  have a1 := kok t ht
  have a2 := kok u hu
  rw [e1] at a1
  rw [e2] at a2
  exact implCmp_val n (by omega) x.1 y.1 a1 a2
end
end Go.Abs
