/- FnGrouped: each row is in just one group, for all arguments within the bound. Conditions: none. -/
import Derived.Test.YtgdlicpmbgodjaaGreatDoorD2
import Derived.Test.YtgdlicpmbgodjaaGreatDoorK2
import Derived.Test.YtgdlicpmbgodjaaGreatDoorC1
import Derived.Test.YtgdlicpmbgodjaaGreatDoorS1
import Derived.Test.YtgdlicpmbgodjaaGreatDoorGE
namespace Go.Abs
set_option linter.unusedVariables false
set_option linter.unusedSimpArgs false
theorem relHas_is (n : Nat) (hn : 1100000 ≤ n) (r : Re) (R : okRel r) (t : Tu) (ht : t ∈ r.2) : spec_RelHas.F n r t = some true := by
 have hrow := R.base.2.2.1
 unfold spec_RelHas.F spec_l02Has.F
 have := l02Has_l n hn r.2 t (by omega) (fun x hx => (okT_small (R.base.2.2.2 x hx)).1) (fun _ => some false) n 0 (by omega) (by rw [List.drop_zero]; exact ht)
 rw [show ((0 : Nat) : Int) = 0 from rfl] at this
 rw [relOk_mk n hn r R, Option.bind_some, if_pos rfl, this]
 rfl
section
variable (n : Nat) (hn : 1100000 ≤ n) (r : Re) (by_ : List Int) (R : Right r by_) (gs : List Gr) (hgs : ∀ g ∈ gs, g ∈ grpS (keyOf by_) r.2)
include hn R hgs
theorem lawG_l2 (u : List Int) (z : Int) (i : Nat) (hi : i < gs.length) (K : Unit → Option Bool) : ∀ (k j : Nat), j ≤ (gs[i]).2.length → (gs[i]).2.length - j < k → laws_FnGrouped.l2 n u gs gs z (i : Int) r K k (j : Int) = K ()
 | 0, j, hj, hk => absurd hk (Nat.not_lt_zero _)
 | k + 1, j, hj, hk => by
  have hg := hgs _ (List.getElem_mem hi)
  have h4 := ((grp_ok R).2 _ hg).2
  conv => lhs; unfold laws_FnGrouped.l2
  rw [if_pos (inl' hi), getD_in _ hi]
  by_cases h : j < (gs[i]).2.length
  ·have hm := grp_rows hg _ (List.getElem_mem h)
   rw [if_pos (dlt h), if_pos (inl' hi), if_pos (inl' h), getD_in _ h, relHas_is n hn r R.rel _ hm, Option.bind_some, if_neg (by simp), wr1 (by omega)]
   exact lawG_l2 u z i hi K k (j + 1) (by omega) (by omega)
  ·rw [if_neg (dnl h)]
theorem lawG_l0 (hl : gs.length ≤ 400) (u : List Int) (K : Int → Option Bool) (T : Int) (hT : T ≤ 4000000000) : ∀ (k i : Nat) (s : Int), i ≤ gs.length → gs.length - i < k → 0 ≤ s → s + (((gs.drop i).map fun g => g.2.length).sum : Nat) ≤ T →
  laws_FnGrouped.l0 n u gs gs r K k s (i : Int) = K (s + (((gs.drop i).map fun g => g.2.length).sum : Nat))
 | 0, i, s, hi, hk, _, _ => absurd hk (Nat.not_lt_zero _)
 | k + 1, i, s, hi, hk, h0, h1 => by
  by_cases h : i < gs.length
  ·have hg := hgs _ (List.getElem_mem h)
   obtain ⟨g1, g2⟩ := (grp_ok R).2 _ hg
   have g6 := g1.1
   have ne := (grp_ne R hg).1
   rw [List.drop_eq_getElem_cons h, List.map_cons, List.sum_cons] at h1
   have hp : 0 < (gs[i]).2.length := List.length_pos_iff.2 ne
   conv => lhs; unfold laws_FnGrouped.l0 laws_FnGrouped.j1
   rw [if_pos (dlt h), if_pos (inl' h), if_pos (inl' h), getD_in _ h, sameTexts_refl n hn _ (by omega), Option.bind_some, if_pos (by simp), if_pos (inl' h), if_pos (inl' h),
    sameRows_refl n hn _ (by omega) (fun t ht => (okT_small (R.rel.base.2.2.2 t (grp_rows hg t ht))).1), Option.bind_some, if_pos (by simp), if_pos (inl' h), if_neg (by simp; omega), if_pos (inl' h), wrap64 _ (by omega) (by omega)]
   have s2 := lawG_l2 n hn r by_ R gs hgs u (s + ((gs[i]).2.length : Int)) i h (fun _ => laws_FnGrouped.l0 n u gs gs r K k (s + ((gs[i]).2.length : Int)) (IntKind.i64.wrap ((i : Int) + 1))) n 0 (Nat.zero_le _) (by omega)
   rw [show ((0 : Nat) : Int) = 0 from rfl] at s2
   rw [s2, wr1 (by omega), lawG_l0 hl u K T hT k (i + 1) _ (by omega) (by omega) (by omega) (by omega), List.drop_eq_getElem_cons h, List.map_cons, List.sum_cons]
   congr 1
   omega
  ·conv => lhs; unfold laws_FnGrouped.l0
   rw [if_neg (dnl h), List.drop_of_length_le (by omega)]
   simp
theorem lawG_l4 (hl : gs.length ≤ 400) (u : List Gr) (v : Re) (a : Int) (K : Int → Option Bool) (T : Int) (hT : T ≤ 4000000000) : ∀ (k i : Nat) (s : Int), i ≤ gs.length → gs.length - i < k → 0 ≤ s → s + (((gs.drop i).map fun g => g.2.length).sum : Nat) ≤ T →
  laws_FnGrouped.l4 n u v (a, gs.map cntR) K k s (i : Int) = K (s + (((gs.drop i).map fun g => g.2.length).sum : Nat))
 | 0, i, s, hi, hk, _, _ => absurd hk (Nat.not_lt_zero _)
 | k + 1, i, s, hi, hk, h0, h1 => by
  have el : (gs.map cntR).length = gs.length := List.length_map ..
  by_cases h : i < gs.length
  ·have hg := hgs _ (List.getElem_mem h)
   obtain ⟨g1, g2⟩ := (grp_ok R).2 _ hg
   have g6 := g1.1
   rw [List.drop_eq_getElem_cons h, List.map_cons, List.sum_cons] at h1
   have hp : 0 < (gs[i]).2.length := List.length_pos_iff.2 (grp_ne R hg).1
   have h' : i < (gs.map cntR).length := by rw [el]; exact h
   have eg : (gs.map cntR)[i] = cntR gs[i] := by simp
   have ec : (cntR gs[i]).length = (gs[i]).1.length + 1 := by unfold cntR; simp
   have e3 : List.getD (cntR gs[i]) (gs[i]).1.length ByteArray.empty = bt (Lib.itoa ((gs[i]).2.length : Int)) := by unfold cntR; simp
   have e4 : numV (bt (Lib.itoa ((gs[i]).2.length : Int))) = some ((gs[i]).2.length : Int) := numV_some (by omega) (by omega) (bt_list _)
   conv => lhs; unfold laws_FnGrouped.l4
   dsimp only
   rw [if_pos (dlt h'), if_pos (inl' h'), if_pos (inl' h'), getD_in _ h', eg, ec, wm1 (by omega) (by omega), if_pos (by omega), Int.toNat_natCast, Nat.add_sub_cancel, e3, termNum_eq n (by omega), e4, Option.bind_some]
   dsimp only
   rw [if_pos (by simp), if_neg (by simp; omega), wrap64 _ (by omega) (by omega), wr1 (by omega), lawG_l4 hl u v a K T hT k (i + 1) _ (by omega) (by omega) (by omega) (by omega), List.drop_eq_getElem_cons h, List.map_cons, List.sum_cons]
   congr 1
   omega
  ·have h' : ¬ i < (gs.map cntR).length := by rw [el]; exact h
   conv => lhs; unfold laws_FnGrouped.l4
   rw [if_neg (dnl h'), List.drop_of_length_le (by omega)]
   simp
end
theorem lawG_j3 (n : Nat) (hn : 1100000 ≤ n) (r : Re) (by_ : List Int) (hb : by_.length ≤ 1048576) (hsz : ∀ t ∈ r.2, ∀ s ∈ t, s.size ≤ 1048576) (hlen : ∀ t ∈ r.2, t.length ≤ 1048576) (gs : List Gr) (hgr : spec_l19Right.F n r by_ = some true → gs = grpS (keyOf by_) r.2) :
  laws_FnGrouped.j3 n by_ gs r = some true := by
 obtain ⟨w, w1, w2, w3⟩ := count_eq n n hn hn r by_ hb hsz hlen
 unfold laws_FnGrouped.j3
 rw [w2, w1, Option.bind_some]
 rcases w3 with rfl | ⟨rfl, R, h6, hb1⟩
 ·rfl
 ·have eg := hgr hb1
  subst eg
  have ok := grp_ok R
  by_cases h0 : (grpS (keyOf by_) r.2).length = 0
  ·have hz : ((grpS (keyOf by_) r.2).map cntR).length = 0 := by rw [List.length_map]; exact h0
   rw [if_pos (by rw [decide_eq_true_eq]; dsimp only; omega), Option.bind_some]
   dsimp only
   rw [hz]
   rfl
  ·have hz : ¬ ((grpS (keyOf by_) r.2).map cntR).length = 0 := by rw [List.length_map]; exact h0
   rw [if_neg (by rw [decide_eq_true_eq]; dsimp only; omega)]
   have hl := ok.1
   have s := lawG_l4 n hn r by_ R (grpS (keyOf by_) r.2) (fun g hg => hg) ok.1 (grpS (keyOf by_) r.2) r ((by_.length : Int) + 1) (fun t41 =>
 (impl_RelOk.F n ((by_.length : Int) + 1, (grpS (keyOf by_) r.2).map cntR)).bind fun r42 =>
 if r42 = true then
 if (decide (t41 = (List.length r.2 : Int))) = true then
 some (decide ((List.length ((grpS (keyOf by_) r.2).map cntR) : Int) = (List.length (grpS (keyOf by_) r.2) : Int)))
 else
 some false
 else
 some false) (r.2.length : Int) (by have := R.rel.base.2.2.1; omega) n 0 0 (Nat.zero_le _) (by omega) (Int.le_refl _) (by rw [List.drop_zero, grp_cnt R]; omega)
   rw [show ((0 : Nat) : Int) = 0 from rfl, List.drop_zero, grp_cnt R] at s
   dsimp only at s ⊢
   rw [s]
   have hR : okRel ((by_.length : Int) + 1, (grpS (keyOf by_) r.2).map cntR) := num_rel R h6 (fun g => (g.2.length : Int)) fun g hg => by have := (ok.2 g hg).2; omega
   unfold impl_RelOk.F
   rw [isRel_mk n hn _ hR, Option.bind_some, Option.bind_some, if_pos rfl, if_pos (by simp)]
   simp
theorem law_laws_FnGrouped {n : Nat} (hn : big ≤ n) (a0 : List Int) (ho0 : Kd.okv (.sl (.int .u8)) a0) (hb0 : Kd.bulk (.sl (.int .u8)) a0 ≤ 1048576) : laws_FnGrouped.F n a0 = some true := by
 have hb : 1100003 ≤ n := by unfold big at hn; omega
 unfold laws_FnGrouped.F laws_big.F
 rw [Option.bind_some]
 split
 ·rfl
 rename_i hc
 simp only [decide_eq_true_eq] at hc
 obtain ⟨c, e1, h1⟩ := open_ok n a0 (code_ok ho0) (by omega)
 obtain ⟨r, l, c', e2, h2, hr, hl⟩ := grouped_ok hb h1 (by omega)
 have ed : spec_DrawGroupsOf.F n a0 = some (r, l) := by
  unfold spec_DrawGroupsOf.F
  rw [e1, Option.bind_some, e2]
  rfl
 rw [ed, Option.bind_some]
 have hsz : ∀ t ∈ r.2, ∀ s ∈ t, s.size ≤ 1048576 := fun t ht s hs => by have := (hr.2 t ht).2 s hs; omega
 have hlen : ∀ t ∈ r.2, t.length ≤ 1048576 := fun t ht => by have := (hr.2 t ht).1; omega
 obtain ⟨w, b, w1, w2, hb1, w3⟩ := groups_eq n n (by omega) (by omega) r l (by omega) hsz hlen
 dsimp only
 rw [w2, Option.bind_some, w1, Option.bind_some, if_neg (by simp)]
 have hgr : spec_l19Right.F n r l = some true → w = grpS (keyOf l) r.2 := fun h => by
  rcases w3 with ⟨rfl, rfl⟩ | ⟨rfl, rfl, _⟩
  ·rw [h] at hb1; cases hb1
  ·rfl
 have hj := lawG_j3 n (by omega) r l (by omega) hsz hlen w hgr
 rcases w3 with ⟨rfl, rfl⟩ | ⟨rfl, rfl, R⟩
 ·obtain ⟨m, rfl⟩ : ∃ m, n = m + 1 := ⟨n - 1, by omega⟩
  unfold laws_FnGrouped.l0
  rw [if_neg (by simp), if_neg (by simp)]
  exact hj
 ·have ok := grp_ok R
  have hl := ok.1
  have s := lawG_l0 n (by omega) r l R (grpS (keyOf l) r.2) (fun g hg => hg) ok.1 l (fun t29 =>
 if (decide ((List.length (grpS (keyOf l) r.2) : Int) > 0)) = true then
 if (!decide (t29 = (List.length r.2 : Int))) = true then
 some false
 else
 laws_FnGrouped.j3 n l (grpS (keyOf l) r.2) r
 else
 laws_FnGrouped.j3 n l (grpS (keyOf l) r.2) r) (r.2.length : Int) (by have := R.rel.base.2.2.1; omega) n 0 0 (Nat.zero_le _) (by omega) (Int.le_refl _) (by rw [List.drop_zero, grp_cnt R]; omega)
  rw [show ((0 : Nat) : Int) = 0 from rfl, List.drop_zero, grp_cnt R] at s
  rw [s]
  split
  ·rw [if_neg (by simp)]
   exact hj
  ·exact hj
end Go.Abs
