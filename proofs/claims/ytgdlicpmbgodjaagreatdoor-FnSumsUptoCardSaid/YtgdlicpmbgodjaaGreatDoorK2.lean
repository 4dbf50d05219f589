/- Groups hold all rows; the counts are a right relation. Conditions: none. -/
import Derived.Test.YtgdlicpmbgodjaaGreatDoorK1
namespace Go.Abs
set_option linter.unusedVariables false
set_option linter.unusedSimpArgs false
theorem keys_of {r : Re} {by_ : List Int} (R : Right r by_) : srt (keysAll (keyOf by_) r.2 []) ∧ (keysAll (keyOf by_) r.2 []).Nodup ∧ ∀ k, k ∈ keysAll (keyOf by_) r.2 [] ↔ ∃ t ∈ r.2, keyOf by_ t = k := by
 have b6 : by_.length ≤ 6 := by have := R.len; have := R.rel.base.2.1; omega
 have kok : ∀ t ∈ r.2, okT (keyOf by_ t) := fun t ht => keyOf_ok (R.pl t ht) b6 (R.rel.base.2.2.2 t ht)
 obtain ⟨a1, a2, a3⟩ := keysAll_ok (keyOf by_) r.2 [] (fun t ht => (kok t ht).2) (fun _ h => by cases h) List.Pairwise.nil
 exact ⟨a1, srt_nodup a1 a2, fun k => by rw [a3 k]; simp⟩
theorem grp_ne {r : Re} {by_ : List Int} (R : Right r by_) {g : Gr} (hg : g ∈ grpS (keyOf by_) r.2) : g.2 ≠ [] ∧ g.1.length = by_.length := by
 obtain ⟨_, _, a3⟩ := keys_of R
 unfold grpS at hg
 obtain ⟨k, hk, rfl⟩ := List.mem_map.1 hg
 obtain ⟨t, ht, e⟩ := (a3 k).1 hk
 refine ⟨fun h => ?_, ?_⟩
 ·have h : rowsOf (keyOf by_) r.2 k = [] := h
  have : t ∈ rowsOf (keyOf by_) r.2 k := List.mem_filter.2 ⟨ht, by simp [e]⟩
  rw [h] at this
  cases this
 ·show k.length = _
  rw [← e]
  unfold keyOf
  rw [List.length_map]
theorem lexc_app {α : Type} {f : α → α → Int} : ∀ (a b x y : List α), a.length = b.length → lexc f a b < 0 → lexc f (a ++ x) (b ++ y) < 0
 | [], [], _, _, _, h => by simp [lexc] at h
 | [], _ :: _, _, _, h, _ => by simp at h
 | _ :: _, [], _, _, h, _ => by simp at h
 | p :: a, q :: b, x, y, hl, h => by
  rw [List.cons_append, List.cons_append]
  unfold lexc at h ⊢
  split at h
  ·rename_i e
   rw [if_pos e]
   exact lexc_app a b x y (by simpa using hl) h
  ·rename_i e
   rw [if_neg e]
   exact h
theorem okS_itoa {x : Int} (h0 : -1000000 ≤ x) (h1 : x ≤ 1000000) : okS (bt (Lib.itoa x)) := ⟨1, by rw [bt_list]; exact .num x h0 h1, by
 rw [bt_size]
 obtain ⟨v, hv, ⟨_, _, e⟩ | ⟨_, e⟩⟩ := itoa_cases h0 h1 <;> rw [e] <;> have := (dec_len7 hv).2 <;> simp <;> omega⟩
theorem num_rel {r : Re} {by_ : List Int} (R : Right r by_) (h6 : by_.length < 6) (f : Gr → Int) (hf : ∀ g ∈ grpS (keyOf by_) r.2, -1000000 ≤ f g ∧ f g ≤ 1000000) :
  okRel ((by_.length : Int) + 1, (grpS (keyOf by_) r.2).map fun g => g.1 ++ [bt (Lib.itoa (f g))]) := by
 have ok := grp_ok R
 obtain ⟨a1, _, _⟩ := keys_of R
 refine ⟨⟨by show (0 : Int) ≤ (by_.length : Int) + 1; omega, by show (by_.length : Int) + 1 ≤ 6; omega, by show (List.map _ _).length ≤ 400; rw [List.length_map]; exact ok.1, fun t ht => ?_⟩, fun t ht => ?_, ?_⟩
 ·obtain ⟨g, hg, rfl⟩ := List.mem_map.1 ht
  have hl := (grp_ne R hg).2
  refine ⟨by rw [List.length_append, hl]; simp; omega, fun s hs => ?_⟩
  rcases List.mem_append.1 hs with hs | hs
  ·exact (ok.2 g hg).1.2 s hs
  ·rw [List.mem_singleton.1 hs]
   exact okS_itoa (hf g hg).1 (hf g hg).2
 ·obtain ⟨g, hg, rfl⟩ := List.mem_map.1 ht
  have hl := (grp_ne R hg).2
  rw [List.length_append, hl]
  simp
 ·show srt _
  unfold srt
  rw [List.pairwise_map]
  unfold grpS
  rw [List.pairwise_map]
  refine List.Pairwise.imp_of_mem (R := fun a b => tpc a b < 0) (fun {k k'} hk hk' h => ?_) a1
  have e1 : k.length = by_.length := (grp_ne R (g := (k, rowsOf (keyOf by_) r.2 k)) (List.mem_map.2 ⟨k, hk, rfl⟩)).2
  have e2 : k'.length = by_.length := (grp_ne R (g := (k', rowsOf (keyOf by_) r.2 k')) (List.mem_map.2 ⟨k', hk', rfl⟩)).2
  exact lexc_app k k' _ _ (by omega) h
end Go.Abs
