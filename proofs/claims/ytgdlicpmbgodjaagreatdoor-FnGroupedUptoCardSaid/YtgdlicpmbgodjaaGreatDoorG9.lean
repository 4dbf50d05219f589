/- What is known of groups. Conditions: none. -/
import Derived.Test.YtgdlicpmbgodjaaGreatDoorG8
namespace Go.Abs
set_option linter.unusedVariables false
set_option linter.unusedSimpArgs false
def GrOk (gs : List Gr) : Prop := gs.length ≤ 400 ∧ ∀ g ∈ gs, okT g.1 ∧ g.2.length ≤ 400
theorem grp_ok {r : Re} {by_ : List Int} (R : Right r by_) : GrOk (grpS (keyOf by_) r.2) := by
 have hrow := R.rel.base.2.2.1
 have b6 : by_.length ≤ 6 := by have := R.len; have := R.rel.base.2.1; omega
 have kok : ∀ t ∈ r.2, okT (keyOf by_ t) := fun t ht => keyOf_ok (R.pl t ht) b6 (R.rel.base.2.2.2 t ht)
 obtain ⟨_, a2, a3⟩ := keysAll_ok (keyOf by_) r.2 [] (fun t ht => (kok t ht).2) (fun _ h => by cases h) List.Pairwise.nil
 have kl := keysAll_len (keyOf by_) r.2 []
 refine ⟨by unfold grpS; rw [List.length_map]; simp at kl; omega, fun g hg => ?_⟩
 unfold grpS at hg
 obtain ⟨k, hk, rfl⟩ := List.mem_map.1 hg
 refine ⟨?_, ?_⟩
 ·rcases (a3 k).1 hk with h | ⟨t, ht, e⟩
  ·cases h
  ·show okT k
   rw [← e]; exact kok t ht
 ·have : (rowsOf (keyOf by_) r.2 k).length ≤ r.2.length := List.length_filter_le _ _
  show (rowsOf (keyOf by_) r.2 k).length ≤ 400
  omega
theorem grp_rows {r : Re} {by_ : List Int} {g : Gr} (hg : g ∈ grpS (keyOf by_) r.2) : ∀ t ∈ g.2, t ∈ r.2 := by
 unfold grpS at hg
 obtain ⟨k, _, rfl⟩ := List.mem_map.1 hg
 exact fun t ht => (List.mem_filter.1 ht).1
end Go.Abs
