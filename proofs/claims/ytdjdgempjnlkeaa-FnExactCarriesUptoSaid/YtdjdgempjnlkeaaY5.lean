/- The reference's look at a rule's exps. Conditions: none. -/
import Derived.Test.YtdjdgempjnlkeaaY4
namespace Go.Abs
set_option linter.unusedVariables false
set_option linter.unusedSimpArgs false
def outsE (E : List Ex) : List ByteArray := (List.range E.length).map fun j => bt (textOf E j)
theorem outsE_eq {E : List Ex} {o : List ByteArray} (h : TxOk E o E.length) : o = outsE E := by
 apply List.ext_getElem
 ·simp [outsE, h.1]
 ·intro j h1 h2
  have hj : j < E.length := by rw [← h.1]; exact h1
  have := (h.2 j hj).1
  rw [List.getD_eq_getElem?_getD, List.getElem?_eq_getElem h1] at this
  simp only [outsE, List.getElem_map, List.getElem_range]
  exact this
theorem okE_iff {e : Ex} : okE e = true ↔ ((1 ≤ e.1 ∧ e.1 ≤ 7) ∧ (sumK e.1 = true → e.2.2.length = 2)) ∧ (e.1 ≤ 3 → e.2.2 = []) := by
 unfold okE
 by_cases hs : sumK e.1 = true
 ·have h5 : 5 ≤ e.1 ∧ e.1 ≤ 7 := by unfold sumK at hs; simpa using hs
  rw [if_pos hs]
  simp only [Bool.and_eq_true, decide_eq_true_eq]
  constructor
  ·rintro ⟨h1, h2⟩
   exact ⟨⟨h1, fun _ => h2⟩, fun h => by omega⟩
  ·rintro ⟨⟨h1, h2⟩, _⟩
   exact ⟨h1, h2 hs⟩
 ·have h5 : ¬ (5 ≤ e.1 ∧ e.1 ≤ 7) := by unfold sumK at hs; simpa using hs
  rw [if_neg hs]
  simp only [Bool.and_eq_true, decide_eq_true_eq, Bool.or_eq_true, List.isEmpty_iff]
  constructor
  ·rintro ⟨h1, h2⟩
   exact ⟨⟨h1, fun h => absurd h hs⟩, fun h => h2.resolve_left (by omega)⟩
  ·rintro ⟨⟨h1, h2⟩, h3⟩
   refine ⟨h1, ?_⟩
   by_cases h4 : e.1 = 4
   ·exact .inl h4
   ·exact .inr (h3 (by omega))
structure SmT (r : Ru) : Prop extends SmR r where
 text : ∀ e ∈ r.1, e.2.1.size ≤ 8000000
 name : ∀ l ∈ litsOf r, l.2.1.size ≤ 8000000
section
variable (n : Nat) (hn : 1100000 ≤ n) (r : Ru) (S : SmT r)
theorem spE_step (hn : 1100000 ≤ n) {i : Nat} (hi : i < r.1.length) {o : List ByteArray} (ho : TxOk r.1 o i) (S : SmT r) {u : List Int} (hin : (r.1[i]).2.2.all (inR i) = true) (X : List ByteArray → Option (List ByteArray × Bool)) :
  (if decide ((r.1[i]).1 = 1) = true then
   spec_l04Exps.j2 n (i : Int) (r.1[i]).1 (decide ((r.1[i]).1 = 1)) r u o r.1[i] (fun t41 => spec_l04Exps.j5 n (i : Int) t41 r u o r.1[i] (fun t55 => X t55))
   else spec_l04Exps.j2 n (i : Int) (r.1[i]).1 (decide ((r.1[i]).1 = 3)) r u o r.1[i] (fun t56 => spec_l04Exps.j5 n (i : Int) t56 r u o r.1[i] (fun t57 => X t57))) =
   if okE r.1[i] = true ∧ (exB (kindAt r.1) (textOf r.1) r.1[i]).length ≤ 3000 then X (o.set i (bt (exB (kindAt r.1) (textOf r.1) r.1[i]))) else some (o, false) := by
 have hm := List.getElem_mem hi
 have he := S.text _ hm
 have hk := S.kids _ hm
 generalize r.1[i] = e at *
 have key : ∀ (b : Bool), (b = true ↔ e.1 = 1 ∨ e.1 = 3) → spec_l04Exps.j2 n (i : Int) e.1 b r u o e (fun t41 => spec_l04Exps.j5 n (i : Int) t41 r u o e (fun t55 => X t55)) =
   if okE e = true ∧ (exB (kindAt r.1) (textOf r.1) e).length ≤ 3000 then X (o.set i (bt (exB (kindAt r.1) (textOf r.1) e))) else some (o, false) := by
  intro b hb
  rw [spE_j2 n r hn u ho (Nat.le_of_lt hi) e he hk hin b hb]
  by_cases c1 : (1 ≤ e.1 ∧ e.1 ≤ 7) ∧ (sumK e.1 = true → e.2.2.length = 2)
  ·rw [if_pos c1, spE_j5 n r ho.1 hi u e]
   by_cases c2 : (e.1 ≤ 3 → e.2.2 = []) ∧ (exB (kindAt r.1) (textOf r.1) e).length ≤ 3000
   ·rw [if_pos c2, if_pos ⟨okE_iff.2 ⟨c1, c2.1⟩, c2.2⟩]
   ·rw [if_neg c2, if_neg (fun h => c2 ⟨(okE_iff.1 h.1).2, h.2⟩)]
  ·rw [if_neg c1, if_neg (fun h => c1 (okE_iff.1 h.1).1)]
 by_cases c1 : e.1 = 1
 ·rw [if_pos (by simp [c1])]
  exact key _ (by simp [c1])
 ·rw [if_neg (by simpa using c1)]
  exact key _ (by simp [c1])
theorem spE_l0 (hn : 1100000 ≤ n) (S : SmT r) (K : List Int → List ByteArray → Option (List ByteArray × Bool)) : ∀ (k i : Nat) (u : List Int) (o : List ByteArray), i ≤ r.1.length → r.1.length - i < k → (∀ j, j < i → ∀ q ∈ kidsN (r.1.getD j Ex0), q < j) → TxOk r.1 o i → Cnt u r.1.length ((i : Int) * 1048576) →
  (chkE (r.1.drop i) i = true ∧ (∀ j, i ≤ j → j < r.1.length → (textOf r.1 j).length ≤ 3000) → spec_l04Exps.l0 n r K k (i : Int) u o = K (bumps u ((r.1.drop i).flatMap kidsN)) (outsE r.1)) ∧
  (¬ (chkE (r.1.drop i) i = true ∧ (∀ j, i ≤ j → j < r.1.length → (textOf r.1 j).length ≤ 3000)) → ∃ o', spec_l04Exps.l0 n r K k (i : Int) u o = some (o', false))
 | 0, i, u, o, _, hk, _, _, _ => absurd hk (Nat.not_lt_zero _)
 | k + 1, i, u, o, hi, hk, hlow, ho, hu => by
  have hE := S.exps
  by_cases h : i < r.1.length
  ·have hke := S.kids _ (List.getElem_mem h)
   have eg : r.1.getD i Ex0 = r.1[i] := by simp [h]
   have hl1 := fun K' => spE_l1 n r i o r.1[i] hke K' r.1.length (by omega) (by omega) hu (by omega) hn
   have hfull : spec_l04Exps.l0 n r K (k + 1) (i : Int) u o = if (r.1[i]).2.2.all (inR i) = true then
     (if decide ((r.1[i]).1 = 1) = true then
      spec_l04Exps.j2 n (i : Int) (r.1[i]).1 (decide ((r.1[i]).1 = 1)) r (bumps u (kidsN r.1[i])) o r.1[i] (fun t41 => spec_l04Exps.j5 n (i : Int) t41 r (bumps u (kidsN r.1[i])) o r.1[i] (fun t55 => spec_l04Exps.l0 n r K k (IntKind.i64.wrap ((i : Int) + 1)) (bumps u (kidsN r.1[i])) t55))
      else spec_l04Exps.j2 n (i : Int) (r.1[i]).1 (decide ((r.1[i]).1 = 3)) r (bumps u (kidsN r.1[i])) o r.1[i] (fun t56 => spec_l04Exps.j5 n (i : Int) t56 r (bumps u (kidsN r.1[i])) o r.1[i] (fun t57 => spec_l04Exps.l0 n r K k (IntKind.i64.wrap ((i : Int) + 1)) (bumps u (kidsN r.1[i])) t57)))
     else some (o, false) := by
    conv => lhs; unfold spec_l04Exps.l0
    simp only [getD_in _ h]
    rw [if_pos (dlt h), if_pos (inl' h), hl1]
   rw [hfull, List.drop_eq_getElem_cons h]
   by_cases hK : (r.1[i]).2.2.all (inR i) = true
   ·rw [if_pos hK]
    have hst := spE_step n r hn h ho S (u := bumps u (kidsN r.1[i])) hK (fun o' => spec_l04Exps.l0 n r K k (IntKind.i64.wrap ((i : Int) + 1)) (bumps u (kidsN r.1[i])) o')
    rw [hst]
    have hlow' : ∀ j, j < i + 1 → ∀ q ∈ kidsN (r.1.getD j Ex0), q < j := by
     intro j hj q hq
     by_cases e : j = i
     ·subst e
      rw [eg] at hq
      exact all_lt hK q hq
     ·exact hlow j (by omega) q hq
    have htx : textOf r.1 i = exB (kindAt r.1) (textOf r.1) r.1[i] := by
     rw [← eg]
     exact textOf_eqL fun j hj => hlow' j (by omega)
    rw [← htx]
    have hc : chkE (r.1[i] :: r.1.drop (i + 1)) i = (okE r.1[i] && chkE (r.1.drop (i + 1)) (i + 1)) := by simp [chkE, okK_eq, hK]
    have hfl : bumps u ((r.1[i] :: r.1.drop (i + 1)).flatMap kidsN) = bumps (bumps u (kidsN r.1[i])) ((r.1.drop (i + 1)).flatMap kidsN) := by
     rw [List.flatMap_cons, bumps_append]
    rw [hc, hfl, wr1 (by omega)]
    by_cases cE : okE r.1[i] = true ∧ (textOf r.1 i).length ≤ 3000
    ·rw [if_pos cE]
     have hu2 := (hu.bumps _ (all_lt' (Nat.le_of_lt h) hK)).mono (D := ((i + 1 : Nat) : Int) * 1048576) (by rw [List.length_map]; omega)
     have ho2 : TxOk r.1 (o.set i (bt (textOf r.1 i))) (i + 1) := by
      refine ⟨by rw [List.length_set]; exact ho.1, fun j hj => ?_⟩
      by_cases e : j = i
      ·subst e
       refine ⟨?_, cE.2⟩
       have : j < o.length := by rw [ho.1]; exact h
       simp [this]
      ·obtain ⟨h1, h2⟩ := ho.2 j (by omega)
       refine ⟨?_, h2⟩
       rw [← h1]
       have : ¬ i = j := fun h => e h.symm
       simp [List.getD_eq_getElem?_getD, List.getElem?_set, this]
     obtain ⟨p, q⟩ := spE_l0 hn S K k (i + 1) (bumps u (kidsN r.1[i])) _ (by omega) (by omega) hlow' ho2 hu2
     constructor
     ·rintro ⟨h1, h2⟩
      rw [cE.1, Bool.true_and] at h1
      exact p ⟨h1, fun j hj => h2 j (by omega)⟩
     ·intro hn'
      refine q fun ⟨h1, h2⟩ => hn' ⟨by rw [cE.1, Bool.true_and]; exact h1, fun j hj hj2 => ?_⟩
      by_cases e : j = i
      ·subst e; exact cE.2
      ·exact h2 j (by omega) hj2
    ·rw [if_neg cE]
     refine ⟨fun ⟨h1, h2⟩ => absurd ⟨by rw [Bool.and_eq_true] at h1; exact h1.1, h2 i (Nat.le_refl _) h⟩ cE, fun _ => ⟨o, rfl⟩⟩
   ·rw [if_neg hK]
    refine ⟨fun ⟨h1, _⟩ => ?_, fun _ => ⟨o, rfl⟩⟩
    simp only [chkE, Bool.and_eq_true] at h1
    exact absurd h1.1.1 hK
  ·obtain rfl : i = r.1.length := by omega
   have hend : spec_l04Exps.l0 n r K (k + 1) (r.1.length : Int) u o = K u o := by
    conv => lhs; unfold spec_l04Exps.l0
    rw [if_neg (by simp)]
   rw [hend, List.drop_of_length_le (Nat.le_refl _)]
   refine ⟨fun _ => ?_, fun hn' => absurd ⟨rfl, fun j h1 h2 => by omega⟩ hn'⟩
   rw [outsE_eq ho]
   rfl
theorem spE_l8 (hn : 1100000 ≤ n) (hE : r.1.length ≤ 1048576) (o : List ByteArray) (ts : List Ex) {i : Nat} (hi : i < ts.length) (hk : (ts[i]).2.2.length ≤ 1048576) (K : List Int → Option (List ByteArray × Bool)) {C : Int} {u : List Int} (hu : Cnt u r.1.length C) (hC : C ≤ 4000000000000) :
  spec_l04Exps.l8 n (i : Int) o ts K n 0 u = if okA r.1.length ts[i] = true then K (bumps u (kidsN ts[i])) else some (o, false) := by
 have := kidLoop (fun k j u => spec_l04Exps.l8 n (i : Int) o ts K k j u) (ts[i]).2.2 r.1.length r.1.length (some (o, false)) K (Nat.le_refl _) (fun k j u h hm hq => by
   conv => lhs; unfold spec_l04Exps.l8
   simp only [getD_in _ hi, getD_in _ h]
   rw [if_pos (inl' hi), if_pos (dlt h), if_pos (inl' hi), if_pos (inl' h), hm, wrap64 _ (by omega) (by omega), l01Between_eq, inR_in, Option.bind_some, wr1 (by omega)]
   by_cases hin : inR r.1.length (ts[i]).2.2[j] = true
   ·obtain ⟨h1, h2⟩ := set_bump hm (Nat.le_refl _) hin hq
    rw [hm] at h1
    rw [if_neg (by simp [hin]), if_pos (inl' hi), if_pos (inl' h), if_pos h1, if_pos h1, h2, if_pos hin]
   ·rw [if_pos (by simpa using hin), if_neg hin]) (fun k u => by
   conv => lhs; unfold spec_l04Exps.l8
   simp only [getD_in _ hi]
   rw [if_pos (inl' hi), if_neg (by simp)]) n 0 u C (Nat.zero_le _) (by omega) hu (by omega)
 rw [List.drop_zero] at this
 exact this
theorem spE_l7 (hn : 1100000 ≤ n) (hE : r.1.length ≤ 1048576) (o : List ByteArray) (ts : List Ex) (hts : ts.length ≤ 1048577) (hargs : ∀ l ∈ ts, l.2.2.length ≤ 1048576) (K : List Int → Option (List ByteArray × Bool)) : ∀ (k i : Nat) (u : List Int), i ≤ ts.length → ts.length - i < k → Cnt u r.1.length (1048576 * 1048576 + (i : Int) * 1048576) →
  spec_l04Exps.l7 n o ts K k (i : Int) u = if (ts.drop i).all (okA r.1.length) = true then K (bumps u ((ts.drop i).flatMap kidsN)) else some (o, false)
 | 0, i, u, _, hk, _ => absurd hk (Nat.not_lt_zero _)
 | k + 1, i, u, hi, hk, hu => by
  by_cases h : i < ts.length
  ·have hle := hargs _ (List.getElem_mem h)
   conv => lhs; unfold spec_l04Exps.l7
   rw [if_pos (dlt h), spE_l8 n r hn hE o ts h hle _ hu (by omega), List.drop_eq_getElem_cons h, wr1 (by omega)]
   by_cases hA : okA r.1.length ts[i] = true
   ·have hu2 := (hu.bumps _ (all_lt (show (ts[i]).2.2.all (inR r.1.length) = true from hA))).mono (D := 1048576 * 1048576 + ((i + 1 : Nat) : Int) * 1048576) (by rw [List.length_map]; omega)
    have ih := spE_l7 hn hE o ts hts hargs K k (i + 1) _ (by omega) (by omega) hu2
    rw [if_pos hA, List.all_cons, hA, Bool.true_and, List.flatMap_cons, bumps_append]
    exact ih
   ·rw [if_neg hA, if_neg (fun h' => by rw [List.all_cons, Bool.and_eq_true] at h'; exact hA h'.1)]
  ·obtain rfl : i = ts.length := by omega
   conv => lhs; unfold spec_l04Exps.l7
   rw [if_neg (by simp), List.drop_of_length_le (Nat.le_refl _)]
   rfl
theorem spE_l9 (o : List ByteArray) (u : List Int) (hu : u.length ≤ 1048576) (K : Unit → Option (List ByteArray × Bool)) : ∀ (k i : Nat), i ≤ u.length → u.length - i < k →
  spec_l04Exps.l9 n u o K k (i : Int) = if ((u.drop i).any fun x => !decide (x = 1)) = true then some (o, false) else K ()
 | 0, i, _, hk => absurd hk (Nat.not_lt_zero _)
 | k + 1, i, hi, hk => by
  by_cases h : i < u.length
  ·conv => lhs; unfold spec_l04Exps.l9
   simp only [getD_in _ h]
   rw [if_pos (dlt h), if_pos (inl' h), List.drop_eq_getElem_cons h, List.any_cons]
   by_cases e : u[i] = 1
   ·rw [if_neg (by simp [e]), wr1 (by omega), spE_l9 o u hu K k (i + 1) (by omega) (by omega), decide_eq_true e]
    rfl
   ·rw [if_pos (by simp [e]), decide_eq_false e]
    rfl
  ·conv => lhs; unfold spec_l04Exps.l9
   rw [if_neg (dnl h), List.drop_of_length_le (by omega)]
   rfl
def CondA (r : Ru) : Prop := r.1.length ≤ 60 ∧ chkE r.1 0 = true ∧ (∀ j, j < r.1.length → (textOf r.1 j).length ≤ 3000) ∧ (litsOf r).all (okA r.1.length) = true ∧ ((usesR r).any fun x => !decide (x = 1)) = false
theorem exps_eq (hn : 1100000 ≤ n) (S : SmT r) : (CondA r → spec_l04Exps.F n r = some (outsE r.1, true)) ∧ (¬ CondA r → ∃ o, spec_l04Exps.F n r = some (o, false)) := by
 have hE := S.exps
 have hB := S.body
 unfold spec_l04Exps.F CondA
 by_cases c60 : r.1.length ≤ 60
 ·rw [if_neg (by simp; omega)]
  have hr : (0 : Int) ≤ (r.1.length : Int) ∧ (r.1.length : Int) ≤ (r.1.length : Int) ∧ (r.1.length : Int) ≤ (lim : Int) := ⟨by omega, Int.le_refl _, by simp [lim]; omega⟩
  rw [if_pos hr, if_pos hr, Int.toNat_natCast]
  have h0 : Cnt (List.replicate r.1.length (0 : Int)) r.1.length (((0 : Nat) : Int) * 1048576) := ⟨by simp, fun q => by
   rw [List.getD_eq_getElem?_getD, List.getElem?_replicate]
   split <;> simp⟩
  have hl0 := fun K => spE_l0 n r hn S K n 0 (List.replicate r.1.length 0) (List.replicate r.1.length ByteArray.empty) (Nat.zero_le _) (by omega) (fun j hj => absurd hj (Nat.not_lt_zero _)) ⟨by simp, fun j hj => absurd hj (Nat.not_lt_zero _)⟩ h0
  simp only [show ((0 : Nat) : Int) = 0 from rfl, List.drop_zero, Nat.zero_le, true_implies] at hl0
  by_cases cE : chkE r.1 0 = true ∧ ∀ j, j < r.1.length → (textOf r.1 j).length ≤ 3000
  ·rw [(hl0 _).1 cE, if_pos (by simp [lim]; omega)]
   have hk : ∀ k ∈ r.1.flatMap kidsN, k < r.1.length := by
    intro k hk
    obtain ⟨e, he, hk⟩ := List.mem_flatMap.1 hk
    obtain ⟨i, hi, rfl⟩ := List.mem_iff_getElem.1 he
    have := all_lt (show r.1[i].2.2.all (inR i) = true by have := (chkE_iff.1 cE.1 i hi).1; rwa [Nat.zero_add] at this) k hk
    omega
   have hC : ((r.1.flatMap kidsN).length : Int) ≤ 1048576 * 1048576 := by
    have : ∀ l : List Ex, (∀ e ∈ l, e.2.2.length ≤ 1048576) → (l.flatMap kidsN).length ≤ l.length * 1048576 := by
     intro l
     induction l with
     | nil => intro _; simp
     | cons e l ih =>
      intro h
      have h1 := ih fun x hx => h x (List.mem_cons_of_mem _ hx)
      have h2 := h e List.mem_cons_self
      rw [List.flatMap_cons, List.length_append, List.length_cons]
      have : (kidsN e).length = e.2.2.length := List.length_map ..
      omega
    have h1 := this r.1 S.kids
    have : r.1.length * 1048576 ≤ 1048576 * 1048576 := Nat.mul_le_mul_right _ hE
    omega
   have hu := (Cnt.bumps h0 _ hk).mono (D := 1048576 * 1048576 + ((0 : Nat) : Int) * 1048576) (by omega)
   have e7 := fun K => spE_l7 n r hn hE (outsE r.1) ([r.2.1] ++ r.2.2) (by simp; omega) S.args K n 0 _ (Nat.zero_le _) (by simp; omega) hu
   simp only [show ((0 : Nat) : Int) = 0 from rfl, List.drop_zero] at e7
   rw [e7, show [r.2.1] ++ r.2.2 = litsOf r from rfl]
   by_cases cA : (litsOf r).all (okA r.1.length) = true
   ·rw [if_pos cA]
    have hul : (bumps (bumps (List.replicate r.1.length 0) (r.1.flatMap kidsN)) ((litsOf r).flatMap kidsN)).length ≤ 1048576 := by rw [bumps_len, bumps_len]; simp; omega
    have e9 := fun K => spE_l9 n (outsE r.1) _ hul K n 0 (Nat.zero_le _) (by omega)
    simp only [show ((0 : Nat) : Int) = 0 from rfl, List.drop_zero] at e9
    rw [e9]
    have hU : bumps (bumps (List.replicate r.1.length 0) (r.1.flatMap kidsN)) ((litsOf r).flatMap kidsN) = usesR r := rfl
    rw [hU]
    by_cases cu : ((usesR r).any fun x => !decide (x = 1)) = true
    ·rw [if_pos cu]
     exact ⟨fun h => by rw [cu] at h; exact absurd h.2.2.2.2 (by simp), fun _ => ⟨_, rfl⟩⟩
    ·rw [if_neg cu]
     exact ⟨fun _ => rfl, fun h => absurd ⟨c60, cE.1, cE.2, cA, by simpa using cu⟩ h⟩
   ·rw [if_neg cA]
    exact ⟨fun h => absurd h.2.2.2.1 cA, fun _ => ⟨_, rfl⟩⟩
  ·obtain ⟨o', ho'⟩ := (hl0 (fun t58 t59 =>
    if List.length [r.2.1] + List.length r.2.2 ≤ lim then
    spec_l04Exps.l7 n t59 ([r.2.1] ++ r.2.2) (fun t72 =>
    spec_l04Exps.l9 n t72 t59 (fun _ =>
    some (t59, true)) n 0) n 0 t58
    else
    none)).2 cE
   exact ⟨fun h => absurd ⟨h.2.1, h.2.2.1⟩ cE, fun _ => ⟨o', ho'⟩⟩
 ·rw [if_pos (by simp; omega)]
  exact ⟨fun h => absurd h.1 c60, fun _ => ⟨_, rfl⟩⟩
end
end Go.Abs
