/- Groups hold all rows; the counts are a right relation. Conditions: none. -/
import Derived.Test.YtgdlicpmbgodjaaGreatDoorK1
namespace Go.Abs
set_option linter.unusedVariables false
set_option linter.unusedSimpArgs false
theorem sum_add {α : Type} (f g : α → Nat) : ∀ l : List α, (l.map fun k => f k + g k).sum = (l.map f).sum + (l.map g).sum
 | [] => rfl
 | x :: l => by
  simp only [List.map_cons, List.sum_cons, sum_add f g l]
  omega
theorem sum_ind (x : Tu) : ∀ ks : List Tu, ks.Nodup → (x ∈ ks → (ks.map fun k => if x = k then 1 else 0).sum = 1) ∧ (x ∉ ks → (ks.map fun k => if x = k then 1 else 0).sum = 0)
 | [], _ => ⟨(fun h => by cases h), fun _ => rfl⟩
 | k :: ks, h => by
  obtain ⟨h1, h2⟩ := List.nodup_cons.1 h
  obtain ⟨i1, i2⟩ := sum_ind x ks h2
  simp only [List.map_cons, List.sum_cons]
  by_cases e : x = k
  ·subst e
   exact ⟨fun _ => by rw [if_pos rfl, i2 h1], fun hn => absurd List.mem_cons_self hn⟩
  ·rw [if_neg e, Nat.zero_add]
   exact ⟨fun hm => i1 ((List.mem_cons.1 hm).resolve_left e), fun hn => i2 fun hm => hn (List.mem_cons_of_mem _ hm)⟩
theorem cnt_all (κ : Tu → Tu) (ks : List Tu) (hn : ks.Nodup) : ∀ rows : List Tu, (∀ t ∈ rows, κ t ∈ ks) → (ks.map fun k => (rowsOf κ rows k).length).sum = rows.length
 | [], _ => by
  have : ∀ l : List Tu, (l.map fun k => (rowsOf κ [] k).length).sum = 0 := by
   intro l
   induction l with
   | nil => rfl
   | cons x l ih => simp only [List.map_cons, List.sum_cons, ih]; rfl
  exact this ks
 | t :: rows, h => by
  have ih := cnt_all κ ks hn rows fun u hu => h u (List.mem_cons_of_mem _ hu)
  have e : (fun k => (rowsOf κ (t :: rows) k).length) = fun k => (rowsOf κ rows k).length + if κ t = k then 1 else 0 := by
   funext k
   rw [rowsOf_cons]
   split <;> simp
  rw [e, sum_add, ih, (sum_ind (κ t) ks hn).1 (h t List.mem_cons_self)]
  rfl
theorem keys_of {r : Re} {by_ : List Int} (R : Right r by_) : srt (keysAll (keyOf by_) r.2 []) ∧ (keysAll (keyOf by_) r.2 []).Nodup ∧ ∀ k, k ∈ keysAll (keyOf by_) r.2 [] ↔ ∃ t ∈ r.2, keyOf by_ t = k := by
 have b6 : by_.length ≤ 6 := by have := R.len; have := R.rel.base.2.1; omega
 have kok : ∀ t ∈ r.2, okT (keyOf by_ t) := fun t ht => keyOf_ok (R.pl t ht) b6 (R.rel.base.2.2.2 t ht)
 obtain ⟨a1, a2, a3⟩ := keysAll_ok (keyOf by_) r.2 [] (fun t ht => (kok t ht).2) (fun _ h => by cases h) List.Pairwise.nil
 exact ⟨a1, srt_nodup a1 a2, fun k => by rw [a3 k]; simp⟩
theorem grp_cnt {r : Re} {by_ : List Int} (R : Right r by_) : ((grpS (keyOf by_) r.2).map fun g => g.2.length).sum = r.2.length := by
 obtain ⟨_, a2, a3⟩ := keys_of R
 unfold grpS
 rw [List.map_map]
 exact cnt_all (keyOf by_) _ a2 r.2 fun t ht => (a3 _).2 ⟨t, ht, rfl⟩
theorem grp_ne {r : Re} {by_ : List Int} (R : Right r by_) {g : Gr} (hg : g ∈ grpS (keyOf by_) r.2) : g.2 ≠ [] ∧ g.1.length = by_.length := by
 obtain ⟨_, _, a3⟩ := keys_of R
 unfold grpS at hg
 obtain ⟨k, hk, rfl⟩ := List.mem_map.1 hg
 obtain ⟨t, ht, e⟩ := (a3 k).1 hk
 refine ⟨fun h => ?_, ?_⟩
 ·have h : rowsOf (keyOf by_) r.2 k = [] := h
  have : t ∈ rowsOf (keyOf by_) r.2 k := List.mem_filter.2 ⟨ht, by simp [e]⟩
  rw [h] at this
  cases this
 ·show k.length = _
  rw [← e]
  unfold keyOf
  rw [List.length_map]
theorem lexc_app {α : Type} {f : α → α → Int} : ∀ (a b x y : List α), a.length = b.length → lexc f a b < 0 → lexc f (a ++ x) (b ++ y) < 0
 | [], [], _, _, _, h => by simp [lexc] at h
 | [], _ :: _, _, _, h, _ => by simp at h
 | _ :: _, [], _, _, h, _ => by simp at h
 | p :: a, q :: b, x, y, hl, h => by
  rw [List.cons_append, List.cons_append]
  unfold lexc at h ⊢
  split at h
  ·rename_i e
   rw [if_pos e]
   exact lexc_app a b x y (by simpa using hl) h
  ·rename_i e
   rw [if_neg e]
   exact h
theorem okS_itoa {x : Int} (h0 : -1000000 ≤ x) (h1 : x ≤ 1000000) : okS (bt (Lib.itoa x)) := ⟨1, by rw [bt_list]; exact .num x h0 h1, by
 rw [bt_size]
 obtain ⟨v, hv, ⟨_, _, e⟩ | ⟨_, e⟩⟩ := itoa_cases h0 h1 <;> rw [e] <;> have := (dec_len7 hv).2 <;> simp <;> omega⟩
theorem num_rel {r : Re} {by_ : List Int} (R : Right r by_) (h6 : by_.length < 6) (f : Gr → Int) (hf : ∀ g ∈ grpS (keyOf by_) r.2, -1000000 ≤ f g ∧ f g ≤ 1000000) :
  okRel ((by_.length : Int) + 1, (grpS (keyOf by_) r.2).map fun g => g.1 ++ [bt (Lib.itoa (f g))]) := by
 have ok := grp_ok R
 obtain ⟨a1, _, _⟩ := keys_of R
 refine ⟨⟨by show (0 : Int) ≤ (by_.length : Int) + 1; omega, by show (by_.length : Int) + 1 ≤ 6; omega, by show (List.map _ _).length ≤ 400; rw [List.length_map]; exact ok.1, fun t ht => ?_⟩, fun t ht => ?_, ?_⟩
 ·obtain ⟨g, hg, rfl⟩ := List.mem_map.1 ht
  have hl := (grp_ne R hg).2
  refine ⟨by rw [List.length_append, hl]; simp; omega, fun s hs => ?_⟩
  rcases List.mem_append.1 hs with hs | hs
  ·exact (ok.2 g hg).1.2 s hs
  ·rw [List.mem_singleton.1 hs]
   exact okS_itoa (hf g hg).1 (hf g hg).2
 ·obtain ⟨g, hg, rfl⟩ := List.mem_map.1 ht
  have hl := (grp_ne R hg).2
  rw [List.length_append, hl]
  simp
 ·show srt _
  unfold srt
  rw [List.pairwise_map]
  unfold grpS
  rw [List.pairwise_map]
  refine List.Pairwise.imp_of_mem (R := fun a b => tpc a b < 0) (fun {k k'} hk hk' h => ?_) a1
  have e1 : k.length = by_.length := (grp_ne R (g := (k, rowsOf (keyOf by_) r.2 k)) (List.mem_map.2 ⟨k, hk, rfl⟩)).2
  have e2 : k'.length = by_.length := (grp_ne R (g := (k', rowsOf (keyOf by_) r.2 k')) (List.mem_map.2 ⟨k', hk', rfl⟩)).2
  exact lexc_app k k' _ _ (by omega) h
end Go.Abs
