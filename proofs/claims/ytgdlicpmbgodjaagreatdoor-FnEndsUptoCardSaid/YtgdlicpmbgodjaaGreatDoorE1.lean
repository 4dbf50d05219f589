/- The first and the last rows of groups: plain law, and the reference. Conditions: none. -/
import Derived.Test.YtgdlicpmbgodjaaGreatDoorG9
namespace Go.Abs
set_option linter.unusedVariables false
set_option linter.unusedSimpArgs false
def pickR (b : Bool) (l : List Tu) : Tu := List.getD l (if b then l.length - 1 else 0) []
theorem pickR_mem (b : Bool) (l : List Tu) (h : l ≠ []) : pickR b l ∈ l := by
 have h0 : 0 < l.length := List.length_pos_iff.2 h
 unfold pickR
 have hi : (if b = true then l.length - 1 else 0) < l.length := by split <;> omega
 rw [List.getD_eq_getElem?_getD, List.getElem?_eq_getElem hi]
 exact List.getElem_mem hi
def endsS (b : Bool) (gs : List Gr) : List Tu := keysAll id (gs.map fun g => pickR b g.2) []
theorem rowsOf_ne {r : Re} {by_ : List Int} (R : Right r by_) {k : Tu} (hk : k ∈ keysAll (keyOf by_) r.2 []) : rowsOf (keyOf by_) r.2 k ≠ [] ∧ ∀ t ∈ rowsOf (keyOf by_) r.2 k, keyOf by_ t = k := by
 have b6 : by_.length ≤ 6 := by have := R.len; have := R.rel.base.2.1; omega
 have kok : ∀ t ∈ r.2, okT (keyOf by_ t) := fun t ht => keyOf_ok (R.pl t ht) b6 (R.rel.base.2.2.2 t ht)
 obtain ⟨_, a2, a3⟩ := keysAll_ok (keyOf by_) r.2 [] (fun t ht => (kok t ht).2) (fun _ h => by cases h) List.Pairwise.nil
 refine ⟨fun h => ?_, fun t ht => ?_⟩
 ·rcases (a3 k).1 hk with h1 | ⟨t, ht, e⟩
  ·cases h1
  ·have : t ∈ rowsOf (keyOf by_) r.2 k := List.mem_filter.2 ⟨ht, by simp [e]⟩
   rw [h] at this
   cases this
 ·have := (List.mem_filter.1 ht).2
  simpa using this
theorem grp_ne {r : Re} {by_ : List Int} (R : Right r by_) {g : Gr} (hg : g ∈ grpS (keyOf by_) r.2) : g.2 ≠ [] ∧ ∀ t ∈ g.2, keyOf by_ t = g.1 := by
 unfold grpS at hg
 obtain ⟨k, hk, rfl⟩ := List.mem_map.1 hg
 exact rowsOf_ne R hk
theorem picks_nodup {r : Re} {by_ : List Int} (R : Right r by_) (b : Bool) : ((grpS (keyOf by_) r.2).map fun g => pickR b g.2).Nodup := by
 have b6 : by_.length ≤ 6 := by have := R.len; have := R.rel.base.2.1; omega
 have kok : ∀ t ∈ r.2, okT (keyOf by_ t) := fun t ht => keyOf_ok (R.pl t ht) b6 (R.rel.base.2.2.2 t ht)
 obtain ⟨a1, a2, a3⟩ := keysAll_ok (keyOf by_) r.2 [] (fun t ht => (kok t ht).2) (fun _ h => by cases h) List.Pairwise.nil
 have nd := srt_nodup a1 a2
 unfold grpS
 rw [List.map_map]
 show List.Pairwise _ _
 rw [List.pairwise_map]
 refine List.Pairwise.imp_of_mem (R := fun a b => a ≠ b) (fun {k k'} hk hk' hne e => ?_) nd
 obtain ⟨h1, h2⟩ := rowsOf_ne R hk
 obtain ⟨h3, h4⟩ := rowsOf_ne R hk'
 have e1 := h2 _ (pickR_mem b _ h1)
 have e2 := h4 _ (pickR_mem b _ h3)
 have e : pickR b (rowsOf (keyOf by_) r.2 k) = pickR b (rowsOf (keyOf by_) r.2 k') := e
 rw [e] at e1
 exact hne (e1.symm.trans e2)
theorem picks_ok {r : Re} {by_ : List Int} (R : Right r by_) (b : Bool) : ∀ t ∈ (grpS (keyOf by_) r.2).map fun g => pickR b g.2, t ∈ r.2 ∧ okT t := by
 intro t ht
 obtain ⟨g, hg, rfl⟩ := List.mem_map.1 ht
 have h := grp_rows hg _ (pickR_mem b _ (grp_ne R hg).1)
 exact ⟨h, R.rel.base.2.2.2 _ h⟩
theorem ordT {l : List Tu} (h : ∀ t ∈ l, okT t) : OrdL (· ∈ l) tpc where
 zero a b ha hb := tpc_ord.zero _ _ (h a ha).2 (h b hb).2
 neg a b ha hb := tpc_ord.neg _ _ (h a ha).2 (h b hb).2
 trans a b c ha hb hc := tpc_ord.trans _ _ _ (h a ha).2 (h b hb).2 (h c hc).2
theorem ends_sort {r : Re} {by_ : List Int} (R : Right r by_) (b : Bool) : isort tpc ((grpS (keyOf by_) r.2).map fun g => pickR b g.2) = endsS b (grpS (keyOf by_) r.2) := by
 have ok := picks_ok R b
 obtain ⟨a1, a2, a3⟩ := keysAll_ok id ((grpS (keyOf by_) r.2).map fun g => pickR b g.2) [] (fun t ht => (ok t ht).2.2) (fun _ h => by cases h) List.Pairwise.nil
 refine (isort_eq (ordT fun t ht => (ok t ht).2) (fun _ h => h) ?_ (a1.imp fun h => Int.le_of_lt h)).symm
 refine (List.perm_ext_iff_of_nodup (srt_nodup a1 a2) (picks_nodup R b)).2 fun t => ?_
 rw [a3 t]
 constructor
 ·rintro (h | ⟨u, hu, rfl⟩)
  ·cases h
  ·exact hu
 ·exact fun h => .inr ⟨t, h, rfl⟩
theorem ends_len {r : Re} {by_ : List Int} (R : Right r by_) (b : Bool) : (endsS b (grpS (keyOf by_) r.2)).length ≤ 400 := by
 have h := keysAll_len id ((grpS (keyOf by_) r.2).map fun g => pickR b g.2) []
 have h2 := (grp_ok R).1
 rw [List.length_map] at h
 unfold endsS
 simp at h
 omega
theorem ends_mem {r : Re} {by_ : List Int} (R : Right r by_) (b : Bool) (t : Tu) : t ∈ endsS b (grpS (keyOf by_) r.2) ↔ ∃ g ∈ grpS (keyOf by_) r.2, pickR b g.2 = t := by
 have ok := picks_ok R b
 obtain ⟨a1, a2, a3⟩ := keysAll_ok id ((grpS (keyOf by_) r.2).map fun g => pickR b g.2) [] (fun t ht => (ok t ht).2.2) (fun _ h => by cases h) List.Pairwise.nil
 unfold endsS
 rw [a3 t]
 constructor
 ·rintro (h | ⟨u, hu, rfl⟩)
  ·cases h
  ·exact List.mem_map.1 hu
 ·exact fun h => .inr ⟨t, List.mem_map.2 h, rfl⟩
section
variable (n : Nat) (hn : 1100000 ≤ n) (b : Bool) (gs : List Gr) (hl : gs.length ≤ 400) (hg : ∀ g ∈ gs, g.2 ≠ [] ∧ g.2.length ≤ 400 ∧ ∀ t ∈ g.2, okT t)
include hn hl hg
theorem specE_l0 (u : Re) (K : Re → Option Re) : ∀ (k i : Nat) (a : Int) (out : List Tu), i ≤ gs.length → gs.length - i < k → out.length ≤ i → (∀ t ∈ out, okT t) →
  spec_l19Ends.l0 n b gs u K k (i : Int) (a, out) = K (a, keysAll id ((gs.drop i).map fun g => pickR b g.2) out)
 | 0, i, a, out, hi, hk, _, _ => absurd hk (Nat.not_lt_zero _)
 | k + 1, i, a, out, hi, hk, ho, hok => by
  by_cases h : i < gs.length
  ·obtain ⟨g1, g2, g3⟩ := hg _ (List.getElem_mem h)
   have g0 : 0 < (gs[i]).2.length := List.length_pos_iff.2 g1
   have pok := g3 _ (pickR_mem b _ g1)
   obtain ⟨c, hc⟩ := l02Put_eq n hn out (pickR b (gs[i]).2) (by omega) hok pok
   have ih := specE_l0 u K k (i + 1) a (insT (pickR b (gs[i]).2) out) (by omega) (by omega) (by have := insT_len (pickR b (gs[i]).2) out; omega) (fun t ht => by
    rcases (insT_mem (fun y hy => (hok y hy).2) pok.2 t).1 ht with rfl | ht
    ·exact pok
    ·exact hok t ht)
   conv => lhs; unfold spec_l19Ends.l0
   rw [if_pos (dlt h), if_pos (inl' h), getD_in _ h, if_pos (by omega), List.drop_eq_getElem_cons h, List.map_cons]
   cases b with
   | true =>
    rw [if_pos rfl, if_pos (inl' h), if_pos (inl' h), wm1 g0 (by omega), if_pos (by omega), Int.toNat_natCast]
    have e : List.getD (gs[i]).2 ((gs[i]).2.length - 1) [] = pickR true (gs[i]).2 := rfl
    rw [e, hc, Option.bind_some, wr1 (by omega), ih]
    rfl
   | false =>
    rw [if_neg (by simp)]
    have e : List.getD (gs[i]).2 0 [] = pickR false (gs[i]).2 := rfl
    rw [e, hc, Option.bind_some, wr1 (by omega), ih]
    rfl
  ·conv => lhs; unfold spec_l19Ends.l0
   rw [if_neg (dnl h), List.drop_of_length_le (by omega)]
   rfl
end
theorem specE_eq (n : Nat) (hn : 1100000 ≤ n) (b : Bool) (r : Re) (by_ : List Int) (R : Right r by_) (h : spec_l19Right.F n r by_ = some true) : spec_l19Ends.F n r by_ b = some (r.1, endsS b (grpS (keyOf by_) r.2)) := by
 unfold spec_l19Ends.F
 have ok := grp_ok R
 have hl := ok.1
 rw [h, Option.bind_some, if_neg (by simp), specG_eq n hn r by_ R, h, Option.bind_some, if_neg (by simp), Option.bind_some]
 have s := specE_l0 n hn b _ ok.1 (fun g hg => ⟨(grp_ne R hg).1, (ok.2 g hg).2, fun t ht => R.rel.base.2.2.2 t (grp_rows hg t ht)⟩) (0, []) (fun out13 => some out13) n 0 r.1 [] (Nat.zero_le _) (by omega) (by simp) (fun _ h => by cases h)
 rw [show ((0 : Nat) : Int) = 0 from rfl, List.drop_zero] at s
 rw [s]
 rfl
end Go.Abs
