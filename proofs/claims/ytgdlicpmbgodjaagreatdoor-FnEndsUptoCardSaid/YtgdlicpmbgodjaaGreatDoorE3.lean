/- The first and the last rows of groups: both sides alike. Conditions: none. -/
import Derived.Test.YtgdlicpmbgodjaaGreatDoorE1
namespace Go.Abs
set_option linter.unusedVariables false
set_option linter.unusedSimpArgs false
section
variable (n : Nat) (b : Bool) (f : (List Tu × Unit) → Option Tu) (hf : ∀ l : List Tu, l ≠ [] → l.length ≤ 400 → f (l, ()) = some (pickR b l)) (gs : List Gr) (hl : gs.length ≤ 400) (hg : ∀ g ∈ gs, g.2 ≠ [] ∧ g.2.length ≤ 400 ∧ ∀ t ∈ g.2, okT t)
include hf hl hg
theorem oneBy_l0 (u : Re) (K : Re → Option Re) : ∀ (k i : Nat) (a : Int) (out : List Tu), i ≤ gs.length → gs.length - i < k → out.length ≤ i →
  impl_oneBy.l0 n f gs (gs.length : Int) u K k (i : Int) (a, out) = K (a, out ++ (gs.drop i).map fun g => pickR b g.2)
 | 0, i, a, out, hi, hk, _ => absurd hk (Nat.not_lt_zero _)
 | k + 1, i, a, out, hi, hk, ho => by
  by_cases h : i < gs.length
  ·obtain ⟨g1, g2, g3⟩ := hg _ (List.getElem_mem h)
   conv => lhs; unfold impl_oneBy.l0
   rw [if_pos (dlt h), if_pos (inl' h), getD_in _ h, hf _ g1 g2, Option.bind_some, if_pos (by show _ + 1 ≤ 4294967296; dsimp only; omega), wr1 (by omega)]
   rw [oneBy_l0 u K k (i + 1) a _ (by omega) (by omega) (by simp; omega), List.drop_eq_getElem_cons h, List.map_cons, List.append_assoc]
   rfl
  ·conv => lhs; unfold impl_oneBy.l0
   rw [if_neg (dnl h), List.drop_of_length_le (by omega)]
   simp
end
theorem oneBy_eq (n m : Nat) (hn : 1100000 ≤ n) (hm : 1100000 ≤ m) (b : Bool) (f : (List Tu × Unit) → Option Tu) (hf : ∀ l : List Tu, l ≠ [] → l.length ≤ 400 → f (l, ()) = some (pickR b l)) (r : Re) (by_ : List Int) (hb : by_.length ≤ 1048576) (hsz : ∀ t ∈ r.2, ∀ s ∈ t, s.size ≤ 1048576) (hlen : ∀ t ∈ r.2, t.length ≤ 1048576) :
  ∃ w c, spec_l19Ends.F n r by_ b = some w ∧ impl_oneBy.F m r by_ f = some w ∧ spec_l19Right.F n r by_ = some c ∧ (c = false ∧ w = (0, []) ∨ c = true ∧ w = (r.1, endsS b (grpS (keyOf by_) r.2)) ∧ Right r by_) := by
 obtain ⟨c, b1, b2, b3⟩ := right_eq n m hn hm r by_ hb hsz hlen
 cases c with
 | false =>
  refine ⟨(0, []), false, ?_, ?_, b1, .inl ⟨rfl, rfl⟩⟩
  ·unfold spec_l19Ends.F; rw [b1]; rfl
  ·unfold impl_oneBy.F; rw [b2]; rfl
 | true =>
  have R := b3 rfl
  have ok := grp_ok R
  have hl := ok.1
  refine ⟨(r.1, endsS b (grpS (keyOf by_) r.2)), true, ?_, ?_, b1, .inr ⟨rfl, rfl, R⟩⟩
  ·exact specE_eq n hn b r by_ R b1
  ·unfold impl_oneBy.F
   rw [b2, Option.bind_some, if_neg (by simp), implG_eq m hm r by_ R, Option.bind_some]
   have s := oneBy_l0 m b f hf _ ok.1 (fun g hg => ⟨(grp_ne R hg).1, (ok.2 g hg).2, fun t ht => R.rel.base.2.2.2 t (grp_rows hg t ht)⟩) (0, []) (fun out13 => (slices_SortFunc_Tuple_Tuple.F m out13.2 ((), ())).bind fun r14 => some (out13.1, r14)) m 0 r.1 [] (Nat.zero_le _) (by omega) (by simp)
   rw [show ((0 : Nat) : Int) = 0 from rfl, List.drop_zero, List.nil_append] at s
   rw [s]
   unfold slices_SortFunc_Tuple_Tuple.F
   have pk := picks_ok R b
   rw [sortF_eq (c := tpc) (fun x hx y hy => implCmp_val m (by omega) x y (pk x hx).2 (pk y hy).2) (ordT fun t ht => (pk t ht).2) (by rw [List.length_map]; omega), ends_sort R b]
   rfl
theorem Least_eq (n m : Nat) (hn : 1100000 ≤ n) (hm : 1100000 ≤ m) (r : Re) (by_ : List Int) (hb : by_.length ≤ 1048576) (hsz : ∀ t ∈ r.2, ∀ s ∈ t, s.size ≤ 1048576) (hlen : ∀ t ∈ r.2, t.length ≤ 1048576) :
  ∃ w c, spec_LeastBy.F n r by_ = some w ∧ impl_LeastBy.F m r by_ = some w ∧ spec_l19Right.F n r by_ = some c ∧ (c = false ∧ w = (0, []) ∨ c = true ∧ w = (r.1, endsS false (grpS (keyOf by_) r.2)) ∧ Right r by_) := by
 obtain ⟨w, c, h1, h2, h3, h4⟩ := oneBy_eq n m hn hm false (fun a3 => (impl_LeastBy_1.F m a3.1).bind some) (fun l hl h4 => by
  have h0 : 0 < l.length := List.length_pos_iff.2 hl
  unfold impl_LeastBy_1.F
  rw [if_pos (by dsimp only; omega)]
  rfl) r by_ hb hsz hlen
 refine ⟨w, c, ?_, ?_, h3, h4⟩
 ·unfold spec_LeastBy.F; rw [h1]; rfl
 ·unfold impl_LeastBy.F; rw [h2]; rfl
theorem Greatest_eq (n m : Nat) (hn : 1100000 ≤ n) (hm : 1100000 ≤ m) (r : Re) (by_ : List Int) (hb : by_.length ≤ 1048576) (hsz : ∀ t ∈ r.2, ∀ s ∈ t, s.size ≤ 1048576) (hlen : ∀ t ∈ r.2, t.length ≤ 1048576) :
  ∃ w c, spec_GreatestBy.F n r by_ = some w ∧ impl_GreatestBy.F m r by_ = some w ∧ spec_l19Right.F n r by_ = some c ∧ (c = false ∧ w = (0, []) ∨ c = true ∧ w = (r.1, endsS true (grpS (keyOf by_) r.2)) ∧ Right r by_) := by
 obtain ⟨w, c, h1, h2, h3, h4⟩ := oneBy_eq n m hn hm true (fun a3 => (impl_GreatestBy_1.F m a3.1).bind some) (fun l hl h4 => by
  have h0 : 0 < l.length := List.length_pos_iff.2 hl
  unfold impl_GreatestBy_1.F
  dsimp only
  rw [wm1 h0 (by omega), if_pos (by omega), Int.toNat_natCast]
  rfl) r by_ hb hsz hlen
 refine ⟨w, c, ?_, ?_, h3, h4⟩
 ·unfold spec_GreatestBy.F; rw [h1]; rfl
 ·unfold impl_GreatestBy.F; rw [h2]; rfl
end Go.Abs
