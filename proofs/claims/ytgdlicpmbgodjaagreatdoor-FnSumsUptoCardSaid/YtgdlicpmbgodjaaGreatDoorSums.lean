/- FnSums: the sums of all groups are the sum of all, for all arguments within the bound. Conditions: none. -/
import Derived.Test.YtgdlicpmbgodjaaGreatDoorD2
import Derived.Test.YtgdlicpmbgodjaaGreatDoorK2
import Derived.Test.YtgdlicpmbgodjaaGreatDoorS1
namespace Go.Abs
set_option linter.unusedVariables false
set_option linter.unusedSimpArgs false
theorem code_ok {l : List Int} (h : Kd.okv (.sl (.int .u8)) l) : ∀ b ∈ l, 0 ≤ b ∧ b ≤ 255 := by
 intro b hb
 have h1 := h b hb
 have h2 : (decide (IntKind.u8.min ≤ b) && decide (b ≤ IntKind.u8.max)) = true := h1
 simp only [Bool.and_eq_true, decide_eq_true_eq] at h2
 exact h2
theorem isum_add {α : Type} (f g : α → Int) : ∀ l : List α, (l.map fun k => f k + g k).sum = (l.map f).sum + (l.map g).sum
 | [] => rfl
 | x :: l => by
  simp only [List.map_cons, List.sum_cons, isum_add f g l]
  omega
theorem isum_ind (x : Tu) (z : Int) : ∀ ks : List Tu, ks.Nodup → (x ∈ ks → (ks.map fun k => if x = k then z else 0).sum = z) ∧ (x ∉ ks → (ks.map fun k => if x = k then z else 0).sum = 0)
 | [], _ => ⟨(fun h => by cases h), fun _ => rfl⟩
 | k :: ks, h => by
  obtain ⟨h1, h2⟩ := List.nodup_cons.1 h
  obtain ⟨i1, i2⟩ := isum_ind x z ks h2
  simp only [List.map_cons, List.sum_cons]
  by_cases e : x = k
  ·subst e
   exact ⟨fun _ => by rw [if_pos rfl, i2 h1]; omega, fun hn => absurd List.mem_cons_self hn⟩
  ·rw [if_neg e, Int.zero_add]
   exact ⟨fun hm => i1 ((List.mem_cons.1 hm).resolve_left e), fun hn => i2 fun hm => hn (List.mem_cons_of_mem _ hm)⟩
theorem val_all (κ : Tu → Tu) (w : Tu → Int) (ks : List Tu) (hn : ks.Nodup) : ∀ rows : List Tu, (∀ t ∈ rows, κ t ∈ ks) → (ks.map fun k => ((rowsOf κ rows k).map w).sum).sum = (rows.map w).sum
 | [], _ => by
  have : ∀ l : List Tu, (l.map fun k => ((rowsOf κ [] k).map w).sum).sum = 0 := by
   intro l
   induction l with
   | nil => rfl
   | cons x l ih => simp only [List.map_cons, List.sum_cons, ih]; rfl
  exact this ks
 | t :: rows, h => by
  have ih := val_all κ w ks hn rows fun u hu => h u (List.mem_cons_of_mem _ hu)
  have e : (fun k => ((rowsOf κ (t :: rows) k).map w).sum) = fun k => (if κ t = k then w t else 0) + ((rowsOf κ rows k).map w).sum := by
   funext k
   rw [rowsOf_cons]
   split
   ·rw [List.map_cons, List.sum_cons]
   ·rw [Int.zero_add]
  rw [e, isum_add, ih, (isum_ind (κ t) (w t) ks hn).1 (h t List.mem_cons_self), List.map_cons, List.sum_cons]
noncomputable def numAt (p : Nat) (t : Tu) : Int := (numV (List.getD t p ByteArray.empty)).getD 0
theorem sumR_val (p : Nat) : ∀ (l : List Tu) (a s : Int), sumR p l a = some s → s = a + (l.map (numAt p)).sum
 | [], a, s, h => by
  unfold sumR at h
  cases h
  simp
 | t :: r, a, s, h => by
  unfold sumR at h
  cases hv : numV (List.getD t p ByteArray.empty) with
  | none => rw [hv] at h; cases h
  | some x =>
   rw [hv] at h
   have := sumR_val p r (a + x) s h
   have e : numAt p t = x := by unfold numAt; rw [hv]; rfl
   rw [List.map_cons, List.sum_cons, e]
   omega
noncomputable def valG (p : Nat) (g : Gr) : Int := (g.2.map (numAt p)).sum
theorem sumAll_is (p : Nat) : ∀ (gs : List Gr) (l : List Tu), sumAll p gs = some l → l = gs.map (fun g => g.1 ++ [bt (Lib.itoa (valG p g))]) ∧ ∀ g ∈ gs, -1000000 ≤ valG p g ∧ valG p g ≤ 1000000
 | [], l, h => by
  unfold sumAll at h
  cases h
  exact ⟨rfl, fun _ h => by cases h⟩
 | g :: r, l, h => by
  unfold sumAll at h
  cases hs : sumR p g.2 0 with
  | none => rw [hs] at h; cases h
  | some z =>
   rw [hs] at h
   dsimp only at h
   have ez : valG p g = z := by have := sumR_val p g.2 0 z hs; unfold valG; omega
   split at h
   ·rename_i c
    cases ha : sumAll p r with
    | none => rw [ha] at h; cases h
    | some l' =>
     rw [ha] at h
     dsimp only at h
     cases h
     obtain ⟨i1, i2⟩ := sumAll_is p r l' ha
     refine ⟨by rw [List.map_cons, ez, ← i1], fun x hx => ?_⟩
     rcases List.mem_cons.1 hx with rfl | hx
     ·rw [ez]; exact c
     ·exact i2 x hx
   ·cases h
theorem grp_val {r : Re} {by_ : List Int} (R : Right r by_) (p : Nat) : ((grpS (keyOf by_) r.2).map (valG p)).sum = (r.2.map (numAt p)).sum := by
 obtain ⟨_, a2, a3⟩ := keys_of R
 unfold grpS
 rw [List.map_map]
 exact val_all (keyOf by_) (numAt p) _ a2 r.2 fun t ht => (a3 _).2 ⟨t, ht, rfl⟩
theorem one_key {r : Re} (R : Right r []) : (grpS (keyOf []) r.2).length ≤ 1 := by
 obtain ⟨_, a2, a3⟩ := keys_of R
 have h0 : ∀ k ∈ keysAll (keyOf []) r.2 [], k = [] := fun k hk => by
  obtain ⟨t, _, e⟩ := (a3 k).1 hk
  rw [← e]
  rfl
 unfold grpS
 rw [List.length_map]
 generalize keysAll (keyOf []) r.2 [] = l at a2 h0
 match l, a2, h0 with
 | [], _, _ => exact Nat.zero_le _
 | [_], _, _ => exact Nat.le_refl _
 | a :: b :: l, a2, h0 =>
  exfalso
  have e1 := h0 a (by simp)
  have e2 := h0 b (by simp)
  have := (List.nodup_cons.1 a2).1
  rw [e1, e2] at this
  exact this List.mem_cons_self
section
variable (n : Nat) (hn : 1100000 ≤ n) (p : Nat) (gs : List Gr) (hl : gs.length ≤ 400) (h6 : ∀ g ∈ gs, g.1.length ≤ 6) (hv : ∀ g ∈ gs, -1000000 ≤ valG p g ∧ valG p g ≤ 1000000) (B : Nat → Int) (hB : ∀ j, B j + 1000000 ≤ B (j + 1)) (hB2 : ∀ j, j ≤ 400 → B j ≤ 4000000000)
include hn hl h6 hv hB hB2
theorem lawS_l2 (z a : Int) (v : Re) (K : Int → Option Bool) : ∀ (k i : Nat) (s : Int), i ≤ gs.length → gs.length - i < k → - B i ≤ s → s ≤ B i →
  laws_FnSums.l2 n z (a, gs.map fun g => g.1 ++ [bt (Lib.itoa (valG p g))]) v K k s (i : Int) = K (s + ((gs.drop i).map (valG p)).sum)
 | 0, i, s, hi, hk, _, _ => absurd hk (Nat.not_lt_zero _)
 | k + 1, i, s, hi, hk, h0, h1 => by
  have el : (gs.map fun g => g.1 ++ [bt (Lib.itoa (valG p g))]).length = gs.length := List.length_map ..
  by_cases h : i < gs.length
  ·have g6 := h6 _ (List.getElem_mem h)
   obtain ⟨v0, v1⟩ := hv _ (List.getElem_mem h)
   have b1 := hB i
   have b2 := hB2 i (by omega)
   have h' : i < (gs.map fun g => g.1 ++ [bt (Lib.itoa (valG p g))]).length := by rw [el]; exact h
   have eg : (gs.map fun g => g.1 ++ [bt (Lib.itoa (valG p g))])[i] = (gs[i]).1 ++ [bt (Lib.itoa (valG p gs[i]))] := by simp
   have ec : ((gs[i]).1 ++ [bt (Lib.itoa (valG p gs[i]))]).length = (gs[i]).1.length + 1 := by simp
   have e3 : List.getD ((gs[i]).1 ++ [bt (Lib.itoa (valG p gs[i]))]) (gs[i]).1.length ByteArray.empty = bt (Lib.itoa (valG p gs[i])) := by simp
   have e4 : numV (bt (Lib.itoa (valG p gs[i]))) = some (valG p gs[i]) := numV_some v0 v1 (bt_list _)
   conv => lhs; unfold laws_FnSums.l2
   dsimp only
   rw [if_pos (dlt h'), if_pos (inl' h'), if_pos (inl' h'), getD_in _ h', eg, ec, wm1 (by omega) (by omega), if_pos (by omega), Int.toNat_natCast, Nat.add_sub_cancel, e3, termNum_eq n (by omega), e4, Option.bind_some]
   dsimp only
   rw [wrap64 _ (by omega) (by omega), wr1 (by omega), lawS_l2 z a v K k (i + 1) _ (by omega) (by omega) (by omega) (by omega), List.drop_eq_getElem_cons h, List.map_cons, List.sum_cons, Int.add_assoc]
  ·have h' : ¬ i < (gs.map fun g => g.1 ++ [bt (Lib.itoa (valG p g))]).length := by rw [el]; exact h
   conv => lhs; unfold laws_FnSums.l2
   rw [if_neg (dnl h'), List.drop_of_length_le (by omega)]
   simp
end
section
variable (n : Nat) (hn : 1100000 ≤ n) (p : Nat) (gs : List Gr) (hl : gs.length ≤ 400) (hv : ∀ g ∈ gs, -1000000 ≤ valG p g ∧ valG p g ≤ 1000000) (B : Nat → Int) (hB : ∀ j, B j + 1000000 ≤ B (j + 1)) (hB2 : ∀ j, j ≤ 400 → B j ≤ 4000000000)
include hn hl hv hB hB2
theorem lawS_l3 (hk0 : ∀ g ∈ gs, g.1 = []) (z a : Int) (K : Int → Option Bool) : ∀ (k i : Nat) (s : Int), i ≤ gs.length → gs.length - i < k → - B i ≤ s → s ≤ B i →
  laws_FnSums.l3 n z (a, gs.map fun g => g.1 ++ [bt (Lib.itoa (valG p g))]) K k s (i : Int) = K (s + ((gs.drop i).map (valG p)).sum)
 | 0, i, s, hi, hk, _, _ => absurd hk (Nat.not_lt_zero _)
 | k + 1, i, s, hi, hk, h0, h1 => by
  have el : (gs.map fun g => g.1 ++ [bt (Lib.itoa (valG p g))]).length = gs.length := List.length_map ..
  by_cases h : i < gs.length
  ·obtain ⟨v0, v1⟩ := hv _ (List.getElem_mem h)
   have b1 := hB i
   have b2 := hB2 i (by omega)
   have h' : i < (gs.map fun g => g.1 ++ [bt (Lib.itoa (valG p g))]).length := by rw [el]; exact h
   have eg : (gs.map fun g => g.1 ++ [bt (Lib.itoa (valG p g))])[i] = [bt (Lib.itoa (valG p gs[i]))] := by
    have := hk0 _ (List.getElem_mem h)
    simp [this]
   have e4 : numV (bt (Lib.itoa (valG p gs[i]))) = some (valG p gs[i]) := numV_some v0 v1 (bt_list _)
   have e5 : List.getD [bt (Lib.itoa (valG p gs[i]))] 0 ByteArray.empty = bt (Lib.itoa (valG p gs[i])) := rfl
   conv => lhs; unfold laws_FnSums.l3
   dsimp only
   rw [if_pos (dlt h'), if_pos (inl' h'), getD_in _ h', eg, if_pos (by simp), e5, termNum_eq n (by omega), e4, Option.bind_some]
   dsimp only
   rw [wrap64 _ (by omega) (by omega), wr1 (by omega), lawS_l3 hk0 z a K k (i + 1) _ (by omega) (by omega) (by omega) (by omega), List.drop_eq_getElem_cons h, List.map_cons, List.sum_cons, Int.add_assoc]
  ·have h' : ¬ i < (gs.map fun g => g.1 ++ [bt (Lib.itoa (valG p g))]).length := by rw [el]; exact h
   conv => lhs; unfold laws_FnSums.l3
   rw [if_neg (dnl h'), List.drop_of_length_le (by omega)]
   simp
end
theorem okRel_nil : okRel (0, []) := ⟨⟨Int.le_refl _, by show (0 : Int) ≤ 6; omega, Nat.zero_le _, fun _ h => by cases h⟩, (fun _ h => by cases h), List.Pairwise.nil⟩
theorem sameRel_refl (n : Nat) (hn : 1100000 ≤ n) (a : Re) (A : okRel a) : laws_sameRel.F n a a = some true := by
 have := A.base.2.2.1
 unfold laws_sameRel.F
 rw [if_pos (by simp), sameRows_refl n hn a.2 (by omega) (fun t ht => (okT_small (A.base.2.2.2 t ht)).1)]
 rfl
theorem law_laws_FnSums {n : Nat} (hn : big ≤ n) (a0 : List Int) (ho0 : Kd.okv (.sl (.int .u8)) a0) (hb0 : Kd.bulk (.sl (.int .u8)) a0 ≤ 1048576) : laws_FnSums.F n a0 = some true := by
 have hb : 1100003 ≤ n := by unfold big at hn; omega
 have hb' : 1100000 ≤ n := by omega
 unfold laws_FnSums.F laws_big.F
 rw [Option.bind_some]
 split
 ·rfl
 rename_i hc
 simp only [decide_eq_true_eq] at hc
 obtain ⟨c, e1, h1⟩ := open_ok n a0 (code_ok ho0) (by omega)
 obtain ⟨r, l, c', e2, h2, hr, hl⟩ := grouped_ok hb h1 (by omega)
 obtain ⟨q, ed⟩ : ∃ q, spec_DrawSumBy.F n a0 = some (r, l, q) := by
  unfold spec_DrawSumBy.F
  rw [e1, Option.bind_some, e2, Option.bind_some]
  dsimp only
  obtain ⟨v, c2, e3, h3, _⟩ := once_ok (n := n) (k := 8) h2 (by omega)
  rw [e3, Option.bind_some]
  dsimp only
  split
  ·obtain ⟨x, c3, e4, _⟩ := raw_ok (n := n) h3 (by omega)
   rw [e4]
   exact ⟨x, rfl⟩
  ·obtain ⟨x, c3, e4, _⟩ := pick_ok (n := n) (k := 3) h3 (by omega)
   rw [e4]
   exact ⟨x, rfl⟩
 rw [ed, Option.bind_some]
 have hsz : ∀ t ∈ r.2, ∀ s ∈ t, s.size ≤ 1048576 := fun t ht s hs => by have := (hr.2 t ht).2 s hs; omega
 have hlen : ∀ t ∈ r.2, t.length ≤ 1048576 := fun t ht => by have := (hr.2 t ht).1; omega
 obtain ⟨w, w1, w2, w3⟩ := sum_eq n n hb' hb' r l q (by omega) hsz hlen
 obtain ⟨v, _, v2, v3⟩ := sum_eq n n hb' hb' r [] q (by simp) hsz hlen
 dsimp only
 rw [w2, Option.bind_some, w1, Option.bind_some, if_pos (by simp)]
 unfold laws_FnSums.j0
 rw [v2]
 rcases w3 with rfl | ⟨l1, hs1, rfl, R, h6, _⟩
 ·rw [sameRel_refl n hb' _ okRel_nil, Option.bind_some, if_neg (by simp), Option.bind_some]
  rfl
 ·obtain ⟨s1, s2⟩ := sumAll_is q.toNat _ l1 hs1
  have ok := grp_ok R
  have hR := num_rel R h6 (valG q.toNat) s2
  rw [← s1] at hR
  rw [sameRel_refl n hb' _ hR, Option.bind_some, if_neg (by simp), Option.bind_some, if_pos (by simp)]
  rcases v3 with rfl | ⟨l2, hs2, rfl, R2, _⟩
  ·rfl
  ·obtain ⟨u1, u2⟩ := sumAll_is q.toNat _ l2 hs2
   have ok2 := grp_ok R2
   have hl1 := ok.1
   have hl2 := ok2.1
   have one := one_key R2
   rw [if_neg (by simp)]
   unfold laws_FnSums.j1
   subst s1
   subst u1
   have k0 : ∀ g ∈ grpS (keyOf []) r.2, g.1 = [] := fun g hg => List.length_eq_zero_iff.1 (grp_ne R2 hg).2
   have a := fun KK => lawS_l2 n hb' q.toNat (grpS (keyOf l) r.2) ok.1 (fun g hg => (ok.2 g hg).1.1) s2 (fun j => (j : Int) * 1000000) (fun j => by omega) (fun j hj => by omega) 0 ((l.length : Int) + 1) ((([] : List Int).length : Int) + 1, (grpS (keyOf []) r.2).map fun g => g.1 ++ [bt (Lib.itoa (valG q.toNat g))]) KK n 0 0 (Nat.zero_le _) (by omega) (by simp) (by simp)
   simp only [show ((0 : Nat) : Int) = 0 from rfl, List.drop_zero, Int.zero_add] at a
   rw [a]
   have b := fun Z KK => lawS_l3 n hb' q.toNat (grpS (keyOf []) r.2) ok2.1 u2 (fun j => (j : Int) * 1000000) (fun j => by omega) (fun j hj => by omega) k0 Z ((([] : List Int).length : Int) + 1) KK n 0 0 (Nat.zero_le _) (by omega) (by simp) (by simp)
   simp only [show ((0 : Nat) : Int) = 0 from rfl, List.drop_zero, Int.zero_add] at b
   rw [b, grp_val R, grp_val R2, if_pos (by simp)]
   have : ((grpS (keyOf []) r.2).map fun g => g.1 ++ [bt (Lib.itoa (valG q.toNat g))]).length ≤ 1 := by rw [List.length_map]; exact one
   simp only [Option.some.injEq, decide_eq_true_eq]
   omega
end Go.Abs
