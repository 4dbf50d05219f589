/- FnEnds: the first and the last row of each group, for all arguments within the bound. Conditions: none. -/
import Derived.Test.YtgdlicpmbgodjaaGreatDoorD2
import Derived.Test.YtgdlicpmbgodjaaGreatDoorK1
import Derived.Test.YtgdlicpmbgodjaaGreatDoorV2
import Derived.Test.YtgdlicpmbgodjaaGreatDoorE3
namespace Go.Abs
set_option linter.unusedVariables false
set_option linter.unusedSimpArgs false
theorem code_ok {l : List Int} (h : Kd.okv (.sl (.int .u8)) l) : ∀ b ∈ l, 0 ≤ b ∧ b ≤ 255 := by
 intro b hb
 have h1 := h b hb
 have h2 : (decide (IntKind.u8.min ≤ b) && decide (b ≤ IntKind.u8.max)) = true := h1
 simp only [Bool.and_eq_true, decide_eq_true_eq] at h2
 exact h2
theorem ends_rel {r : Re} {by_ : List Int} (R : Right r by_) (b : Bool) : okRel (r.1, endsS b (grpS (keyOf by_) r.2)) := by
 have ok := picks_ok R b
 obtain ⟨a1, _, _⟩ := keysAll_ok id ((grpS (keyOf by_) r.2).map fun g => pickR b g.2) [] (fun t ht => (ok t ht).2.2) (fun _ h => by cases h) List.Pairwise.nil
 have hm : ∀ t ∈ endsS b (grpS (keyOf by_) r.2), t ∈ r.2 := fun t ht => by
  obtain ⟨g, hg, rfl⟩ := (ends_mem R b t).1 ht
  exact (ok _ (List.mem_map.2 ⟨g, hg, rfl⟩)).1
 exact ⟨⟨R.rel.base.1, R.rel.base.2.1, ends_len R b, fun t ht => R.rel.base.2.2.2 t (hm t ht)⟩, fun t ht => R.rel.len t (hm t ht), a1⟩
theorem ends_cnt {r : Re} {by_ : List Int} (R : Right r by_) (b : Bool) : (endsS b (grpS (keyOf by_) r.2)).length = (grpS (keyOf by_) r.2).length := by
 rw [← ends_sort R b, (isort_perm tpc _).length_eq, List.length_map]
theorem ends_sub {r : Re} {by_ : List Int} (R : Right r by_) (b : Bool) : ∀ t ∈ endsS b (grpS (keyOf by_) r.2), t ∈ r.2 := fun t ht => by
 obtain ⟨g, hg, rfl⟩ := (ends_mem R b t).1 ht
 exact (picks_ok R b _ (List.mem_map.2 ⟨g, hg, rfl⟩)).1
theorem relHasI_is (n : Nat) (hn : 1100000 ≤ n) (r : Re) (R : okRel r) (t : Tu) (ht : t ∈ r.2) : impl_RelHas.F n r t = some true := by
 have hrow := R.base.2.2.1
 unfold impl_RelHas.F
 rw [isRel_mk n hn r R, Option.bind_some, if_pos rfl, Rel_has_eq n r t (by omega) (by omega) (fun x hx => by have := (R.base.2.2.2 x hx).1; omega), inL_iff.2 ht]
 rfl
theorem less_l (n : Nat) (hn : 1100000 ≤ n) (a r : Re) (u : Re) (hr : r.2.length ≤ 1048576) (hl : ∀ x ∈ r.2, x.length ≤ 1048576) (ha : a.2.length ≤ 1048576) (hs : ∀ t ∈ a.2, t ∈ r.2) (K : Re → Option Re) : ∀ (k i : Nat), i ≤ a.2.length → a.2.length - i < k → spec_RelLess.l1 n a r u K k (i : Int) (a.1, []) = K (a.1, [])
 | 0, i, hi, hk => absurd hk (Nat.not_lt_zero _)
 | k + 1, i, hi, hk => by
  by_cases h : i < a.2.length
  ·have hm := hs _ (List.getElem_mem h)
   have hh : spec_l02Has.F n r.2 a.2[i] = some true := by
    unfold spec_l02Has.F
    have := l02Has_l n hn r.2 a.2[i] hr hl (fun _ => some false) n 0 (by omega) (by rw [List.drop_zero]; exact hm)
    rwa [show ((0 : Nat) : Int) = 0 from rfl] at this
   conv => lhs; unfold spec_RelLess.l1
   rw [if_pos (dlt h), if_pos (inl' h), getD_in _ h, hh, Option.bind_some, if_neg (by simp), wr1 (by omega)]
   exact less_l n hn a r u hr hl ha hs K k (i + 1) (by omega) (by omega)
  ·conv => lhs; unfold spec_RelLess.l1
   rw [if_neg (dnl h)]
theorem okRel_nil : okRel (0, []) := ⟨⟨Int.le_refl _, by show (0 : Int) ≤ 6; omega, Nat.zero_le _, fun _ h => by cases h⟩, (fun _ h => by cases h), List.Pairwise.nil⟩
theorem less_sub (n : Nat) (hn : 1100000 ≤ n) (a r : Re) (A : okRel a) (hsz : ∀ t ∈ r.2, ∀ s ∈ t, s.size ≤ 1048576) (hlen : ∀ t ∈ r.2, t.length ≤ 1048576) (hs : ∀ t ∈ a.2, t ∈ r.2) : ∃ w, spec_RelLess.F n a r = some w ∧ w.2 = [] := by
 have ha := A.base.2.2.1
 unfold spec_RelLess.F
 rw [relOk_mk n hn a A, Option.bind_some, if_pos (by simp)]
 obtain ⟨b, b1, _, b3⟩ := rel_eq n n hn hn r hsz hlen
 rw [b1, Option.bind_some]
 cases b with
 | false => exact ⟨(0, []), rfl, rfl⟩
 | true =>
  rw [if_pos (by simp)]
  split
  ·exact ⟨(0, []), rfl, rfl⟩
  ·unfold spec_RelLess.j0
   have hr := (b3 rfl).2.2.1
   have s := less_l n hn a r (0, []) (by omega) hlen (by omega) hs (fun out15 => some out15) n 0 (Nat.zero_le _) (by omega)
   rw [show ((0 : Nat) : Int) = 0 from rfl] at s
   rw [s]
   exact ⟨_, rfl, rfl⟩
theorem ends_le {r : Re} {by_ : List Int} (R : Right r by_) {g : Gr} (hg : g ∈ grpS (keyOf by_) r.2) : tpc (pickR false g.2) (pickR true g.2) ≤ 0 := by
 have ne := (grp_ne R hg).1
 have hp : 0 < g.2.length := List.length_pos_iff.2 ne
 have hsrt : srt g.2 := by
  unfold grpS at hg
  obtain ⟨k, hk, rfl⟩ := List.mem_map.1 hg
  exact List.Pairwise.filter _ R.rel.srt
 have e0 : pickR false g.2 = g.2[0] := by unfold pickR; simp [hp]
 have e1 : pickR true g.2 = g.2[g.2.length - 1] := by
  unfold pickR
  have : g.2.length - 1 < g.2.length := by omega
  simp [this]
 rw [e0, e1]
 by_cases h1 : g.2.length = 1
 ·have e : g.2[g.2.length - 1] = g.2[0] := by congr 1; omega
  rw [e]
  have ok := (R.rel.base.2.2.2 _ (grp_rows hg _ (List.getElem_mem hp))).2
  rw [(tpc_ord.zero _ _ ok ok).2 rfl]
  exact Int.le_refl _
 ·exact Int.le_of_lt (List.pairwise_iff_getElem.1 hsrt 0 (g.2.length - 1) hp (by omega) (by omega))
theorem lawE_l2 (n : Nat) (hn : 1100000 ≤ n) (r : Re) (by_ : List Int) (R : Right r by_) (u : Re) (gs : List Gr) (hgs : ∀ g ∈ gs, g ∈ grpS (keyOf by_) r.2) (hl : gs.length ≤ 400) (K : Unit → Option Bool) : ∀ (k i : Nat), i ≤ gs.length → gs.length - i < k →
  laws_FnEnds.l2 n gs u (r.1, endsS false (grpS (keyOf by_) r.2)) (r.1, endsS true (grpS (keyOf by_) r.2)) K k (i : Int) = K ()
 | 0, i, hi, hk => absurd hk (Nat.not_lt_zero _)
 | k + 1, i, hi, hk => by
  by_cases h : i < gs.length
  ·have hg := hgs _ (List.getElem_mem h)
   obtain ⟨ne, _⟩ := grp_ne R hg
   have hp : 0 < (gs[i]).2.length := List.length_pos_iff.2 ne
   have h4 := ((grp_ok R).2 _ hg).2
   have e0 : List.getD (gs[i]).2 0 [] = pickR false (gs[i]).2 := rfl
   have e1 : List.getD (gs[i]).2 ((gs[i]).2.length - 1) [] = pickR true (gs[i]).2 := rfl
   have ok0 := R.rel.base.2.2.2 _ (grp_rows hg _ (pickR_mem false _ ne))
   have ok1 := R.rel.base.2.2.2 _ (grp_rows hg _ (pickR_mem true _ ne))
   have le := ends_le R hg
   conv => lhs; unfold laws_FnEnds.l2
   rw [if_pos (dlt h), if_pos (inl' h), getD_in _ h, if_pos (by omega), if_pos (inl' h), if_pos (inl' h), wm1 hp (by omega), if_pos (by omega), Int.toNat_natCast, e0, e1,
    relHasI_is n hn _ (ends_rel R false) _ ((ends_mem R false _).2 ⟨_, hg, rfl⟩), Option.bind_some, if_pos (by simp), relHasI_is n hn _ (ends_rel R true) _ ((ends_mem R true _).2 ⟨_, hg, rfl⟩), Option.bind_some, if_pos (by simp)]
   unfold spec_TupleCmp.F
   rw [tupleOk_is n hn _ ok0, Option.bind_some, if_pos (by simp), tupleOk_is n hn _ ok1, Option.bind_some, if_neg (by simp), specCmp_val n (by omega) _ _ ok0 ok1, Option.bind_some, Option.bind_some, if_neg (by simp; omega), wr1 (by omega)]
   exact lawE_l2 n hn r by_ R u gs hgs hl K k (i + 1) (by omega) (by omega)
  ·conv => lhs; unfold laws_FnEnds.l2
   rw [if_neg (dnl h)]
theorem sameRel_refl (n : Nat) (hn : 1100000 ≤ n) (a : Re) (A : okRel a) : laws_sameRel.F n a a = some true := by
 have := A.base.2.2.1
 unfold laws_sameRel.F
 rw [if_pos (by simp), sameRows_refl n hn a.2 (by omega) (fun t ht => (okT_small (A.base.2.2.2 t ht)).1)]
 rfl
theorem law_laws_FnEnds {n : Nat} (hn : big ≤ n) (a0 : List Int) (ho0 : Kd.okv (.sl (.int .u8)) a0) (hb0 : Kd.bulk (.sl (.int .u8)) a0 ≤ 1048576) : laws_FnEnds.F n a0 = some true := by
 have hb : 1100003 ≤ n := by unfold big at hn; omega
 have hb' : 1100000 ≤ n := by omega
 unfold laws_FnEnds.F laws_big.F
 rw [Option.bind_some]
 split
 ·rfl
 rename_i hc
 simp only [decide_eq_true_eq] at hc
 obtain ⟨c, e1, h1⟩ := open_ok n a0 (code_ok ho0) (by omega)
 obtain ⟨r, l, c', e2, h2, hr, hl⟩ := grouped_ok hb h1 (by omega)
 have ed : spec_DrawLeastBy.F n a0 = some (r, l) := by
  unfold spec_DrawLeastBy.F
  rw [e1, Option.bind_some, e2]
  rfl
 rw [ed, Option.bind_some]
 have hsz : ∀ t ∈ r.2, ∀ s ∈ t, s.size ≤ 1048576 := fun t ht s hs => by have := (hr.2 t ht).2 s hs; omega
 have hlen : ∀ t ∈ r.2, t.length ≤ 1048576 := fun t ht => by have := (hr.2 t ht).1; omega
 obtain ⟨w, b, w1, w2, hb1, w3⟩ := Least_eq n n hb' hb' r l (by omega) hsz hlen
 obtain ⟨v, d, v1, v2, hd1, v3⟩ := Greatest_eq n n hb' hb' r l (by omega) hsz hlen
 rw [hb1] at hd1
 cases hd1
 dsimp only
 rw [w2, Option.bind_some, v2, Option.bind_some, w1, Option.bind_some, v1]
 rcases w3 with ⟨rfl, rfl⟩ | ⟨rfl, rfl, R⟩
 ·rcases v3 with ⟨_, rfl⟩ | ⟨h, _⟩
  ·rw [sameRel_refl n hb' _ okRel_nil, Option.bind_some, if_pos (by simp), Option.bind_some, sameRel_refl n hb' _ okRel_nil, Option.bind_some, if_neg (by simp)]
   have eg : spec_GroupsOf.F n r l = some [] := by unfold spec_GroupsOf.F; rw [hb1]; rfl
   unfold laws_FnEnds.j0 laws_FnEnds.j1
   rw [eg, Option.bind_some, if_pos (by simp), if_neg (by simp)]
   obtain ⟨m, rfl⟩ : ∃ m, n = m + 1 := ⟨n - 1, by omega⟩
   unfold laws_FnEnds.l2
   rw [if_neg (by simp)]
   obtain ⟨z, z1, z2⟩ := less_sub (m + 1) hb' (0, []) r okRel_nil hsz hlen (fun _ h => by cases h)
   rw [z1, Option.bind_some, z2]
   rfl
  ·cases h
 ·rcases v3 with ⟨h, _⟩ | ⟨_, rfl, _⟩
  ·cases h
  ·have E0 := ends_rel R false
   have E1 := ends_rel R true
   have ok := grp_ok R
   have hl := ok.1
   rw [sameRel_refl n hb' _ E0, Option.bind_some, if_pos (by simp), Option.bind_some, sameRel_refl n hb' _ E1, Option.bind_some, if_neg (by simp)]
   unfold laws_FnEnds.j0 laws_FnEnds.j1
   rw [specG_eq n hb' r l R, hb1, Option.bind_some, if_neg (by simp), Option.bind_some]
   dsimp only
   rw [ends_cnt R false, ends_cnt R true, if_pos (by simp), if_neg (by simp)]
   have s := lawE_l2 n hb' r l R r (grpS (keyOf l) r.2) (fun g hg => hg) ok.1 (fun _ =>
 (spec_RelLess.F n (r.1, endsS false (grpS (keyOf l) r.2)) r).bind fun r27 =>
 if (decide ((List.length r27.2 : Int) = 0)) = true then
 if (decide ((List.length (grpS (keyOf l) r.2) : Int) = 0)) = false then
 (impl_RelOk.F n (r.1, endsS false (grpS (keyOf l) r.2))).bind fun r28 =>
 if r28 = true then
 (impl_RelOk.F n (r.1, endsS true (grpS (keyOf l) r.2))).bind fun r29 =>
 some r29
 else
 some false
 else
 some true
 else
 (impl_RelOk.F n (r.1, endsS false (grpS (keyOf l) r.2))).bind fun r30 =>
 if r30 = true then
 (impl_RelOk.F n (r.1, endsS true (grpS (keyOf l) r.2))).bind fun r31 =>
 some r31
 else
 some false) n 0 (Nat.zero_le _) (by omega)
   rw [show ((0 : Nat) : Int) = 0 from rfl] at s
   rw [s]
   obtain ⟨z, z1, z2⟩ := less_sub n hb' (r.1, endsS false (grpS (keyOf l) r.2)) r E0 hsz hlen (ends_sub R false)
   rw [z1, Option.bind_some, z2, if_pos (by simp)]
   split
   ·unfold impl_RelOk.F
    rw [isRel_mk n hb' _ E0, Option.bind_some, Option.bind_some, if_pos rfl, isRel_mk n hb' _ E1]
    rfl
   ·rfl
end Go.Abs
