/- What is drawn: relations and places. Conditions: none. -/
import Derived.Test.YtgdlicpmbgodjaaGreatDoorD1
namespace Go.Abs
set_option linter.unusedVariables false
set_option linter.unusedSimpArgs false
theorem okS_num {x : Int} (h0 : -1000000 ≤ x) (h1 : x ≤ 1000000) : okS (bt (Lib.itoa x)) := ⟨1, by rw [bt_list]; exact .num x h0 h1, by rw [bt_size]; have := itoa_len8 h0 h1; omega⟩
theorem itoa_lt (u : Nat) (h : u < 10) : Lib.itoa (u : Int) = [UInt8.ofNat (48 + u)] := by
 unfold Lib.itoa
 rw [if_neg (by omega), Int.toNat_natCast, dec_lt h]
theorem itoa_10 : Lib.itoa 10 = [49, 48] := by
 show (if (10 : Int) < 0 then _ else Lib.decDigits 10) = _
 rw [if_neg (by omega), dec_ge (by omega), dec_lt (by omega)]
 rfl
theorem itoa_m1 : Lib.itoa (-1) = [45, 49] := by
 show (if (-1 : Int) < 0 then 45 :: Lib.decDigits 1 else _) = _
 rw [if_pos (by omega), dec_lt (by omega)]
 rfl
theorem tm_1 : Tm 1 [49] := by
 have := Tm.num 1 (by omega) (by omega)
 rwa [show (1 : Int) = ((1 : Nat) : Int) from rfl, itoa_lt 1 (by omega)] at this
theorem tm_nil : Tm 3 [78, 105, 108] := .con0 _ (by decide)
theorem draw_okS : ∀ x ∈ ([⟨#[49]⟩, ⟨#[50]⟩, ⟨#[34, 97, 34]⟩, ⟨#[78, 105, 108]⟩, ⟨#[83, 40, 49, 41]⟩, ⟨#[49, 48]⟩, ⟨#[67, 111, 110, 115, 40, 49, 44, 78, 105, 108, 41]⟩, ⟨#[45, 49]⟩] : List ByteArray), okS x := by
 intro x hx
 simp only [List.mem_cons, List.not_mem_nil, or_false] at hx
 rcases hx with rfl | rfl | rfl | rfl | rfl | rfl | rfl | rfl
 ·exact ⟨1, tm_1, by decide⟩
 ·have := okS_num (x := ((2 : Nat) : Int)) (by omega) (by omega)
  rw [itoa_lt 2 (by omega)] at this
  exact this
 ·exact ⟨2, .sym [97] (by decide) (by decide), by decide⟩
 ·exact ⟨3, tm_nil, by decide⟩
 ·exact ⟨3, .con [83] [49] [] (by decide) (fun _ => 1) (fun x hx => by rw [List.mem_singleton] at hx; subst hx; exact tm_1), by decide⟩
 ·exact ⟨1, show Tm 1 [49, 48] from itoa_10 ▸ .num 10 (by omega) (by omega), by decide⟩
 ·exact ⟨3, .con [67, 111, 110, 115] [49] [[78, 105, 108]] (by decide) (fun x => if x = [49] then 1 else 3) (fun x hx => by
   simp only [List.mem_cons, List.not_mem_nil, or_false] at hx
   rcases hx with rfl | rfl
   ·exact tm_1
   ·exact tm_nil), by decide⟩
 ·exact ⟨1, show Tm 1 [45, 49] from itoa_m1 ▸ .num (-1) (by omega) (by omega), by decide⟩
theorem okT_len {t : Tu} (h : okT t) : t.length ≤ 10 ∧ ∀ s ∈ t, s.size ≤ 500 := ⟨by have := h.1; omega, fun s hs => by obtain ⟨_, _, h2⟩ := h.2 s hs; omega⟩
def RelSm (r : Re) : Prop := r.2.length ≤ 450 ∧ ∀ t ∈ r.2, t.length ≤ 10 ∧ ∀ s ∈ t, s.size ≤ 500
theorem rel_l1 {n : Nat} (T : Nat) (hT : T ≤ 6) (x : Int) (u v : Re) (Kx : Cur → Tu → Option (Re × Cur)) : ∀ (k i N : Nat) (c : Cur) (t : Tu), i ≤ T → T - i < k → CurOk N c → N + (T - i) ≤ 4000000000000000000 → t.length = i → (∀ s ∈ t, okS s) →
  ∃ c' t', CurOk (N + (T - i)) c' ∧ t'.length = T ∧ (∀ s ∈ t', okS s) ∧ spec_l01Cur_rel.l1 n (T : Int) x u v Kx k (i : Int) c t = Kx c' t'
 | 0, i, N, c, t, hi, hk, _, _, _, _ => absurd hk (Nat.not_lt_zero _)
 | k + 1, i, N, c, t, hi, hk, hc, hN, ht, hs => by
  by_cases h : i < T
  ·obtain ⟨r, c1, e1, h1, h2⟩ := pick_lt (n := n) (k := 8) hc (by omega) (by omega)
   have hg := getD_all (d := (⟨#[49]⟩ : ByteArray)) draw_okS (draw_okS _ List.mem_cons_self) (Int.toNat r)
   generalize hL : ([⟨#[49]⟩, ⟨#[50]⟩, ⟨#[34, 97, 34]⟩, ⟨#[78, 105, 108]⟩, ⟨#[83, 40, 49, 41]⟩, ⟨#[49, 48]⟩, ⟨#[67, 111, 110, 115, 40, 49, 44, 78, 105, 108, 41]⟩, ⟨#[45, 49]⟩] : List ByteArray) = L at hg
   have hLl : L.length = 8 := by rw [← hL]; rfl
   have e2 : List.getD L (Int.toNat r) ByteArray.empty = List.getD L (Int.toNat r) ⟨#[49]⟩ := by
    have : Int.toNat r < L.length := by omega
    simp [this]
   obtain ⟨c2, t2, a1, a2, a3, a4⟩ := rel_l1 T hT x u v Kx k (i + 1) (N + 1) c1 (t ++ [List.getD L (Int.toNat r) ByteArray.empty]) (by omega) (by omega) h1 (by omega) (by simp; omega) (fun s hsm => by
    rcases List.mem_append.1 hsm with hsm | hsm
    ·exact hs s hsm
    ·rw [List.mem_singleton.1 hsm, e2]; exact hg)
   refine ⟨c2, t2, a1.mono (by omega), a2, a3, ?_⟩
   conv => lhs; unfold spec_l01Cur_rel.l1
   rw [hL, if_pos (by simp; omega), e1, Option.bind_some, if_pos (by dsimp only; omega), if_pos (by show _ + 1 ≤ 4294967296; omega), wr1 (by omega)]
   exact a4
  ·refine ⟨c, t, hc.mono (by omega), by omega, hs, ?_⟩
   conv => lhs; unfold spec_l01Cur_rel.l1
   rw [if_neg (by simp; omega)]
theorem grp_l3 {n : Nat} (T : Nat) (hT : T ≤ 6) (u v : Re) (Kx : Cur → List Int → Option (Re × List Int × Cur)) : ∀ (k i N : Nat) (c : Cur) (l : List Int), i ≤ T → T - i < k → CurOk N c → N + (T - i) ≤ 4000000000000000000 → l.length ≤ i →
  ∃ c' l', CurOk (N + (T - i)) c' ∧ l'.length ≤ T ∧ spec_l01Cur_grouped.l3 n (T : Int) u v Kx k (i : Int) c l = Kx c' l'
 | 0, i, N, c, l, hi, hk, _, _, _ => absurd hk (Nat.not_lt_zero _)
 | k + 1, i, N, c, l, hi, hk, hc, hN, ht => by
  by_cases h : i < T
  ·obtain ⟨r, c1, e1, h1, h2⟩ := pick_lt (n := n) (k := 2) hc (by omega) (by omega)
   conv => enter [1, c', 1, l', 2, 2]; lhs; unfold spec_l01Cur_grouped.l3
   rw [if_pos (by simp; omega), e1, Option.bind_some, wr1 (by omega)]
   dsimp only
   split
   ·obtain ⟨c2, l2, a1, a2, a3⟩ := grp_l3 T hT u v Kx k (i + 1) (N + 1) c1 (l ++ [(i : Int)]) (by omega) (by omega) h1 (by omega) (by simp; omega)
    rw [if_pos (by show _ + 1 ≤ 4294967296; omega)]
    exact ⟨c2, l2, a1.mono (by omega), a2, a3⟩
   ·obtain ⟨c2, l2, a1, a2, a3⟩ := grp_l3 T hT u v Kx k (i + 1) (N + 1) c1 l (by omega) (by omega) h1 (by omega) (by omega)
    exact ⟨c2, l2, a1.mono (by omega), a2, a3⟩
  ·refine ⟨c, l, hc.mono (by omega), by omega, ?_⟩
   conv => lhs; unfold spec_l01Cur_grouped.l3
   rw [if_neg (by simp; omega)]
section
variable {n : Nat} (hn : 1100003 ≤ n)
include hn
theorem rel_l0 (T : Nat) (hT : T ≤ 6) (u : Re) (Kx : Cur → Re → Option (Re × Cur)) : ∀ (k m N : Nat) (c : Cur) (a : Int) (rows : List Tu), m < k → CurOk N c → N + m * 6 ≤ 4000000000000000000 → rows.length + m ≤ 100 → (∀ t ∈ rows, okT t ∧ t.length = T) →
  ∃ c' rows', CurOk (N + m * 6) c' ∧ rows'.length ≤ rows.length + m ∧ (∀ t ∈ rows', okT t ∧ t.length = T) ∧ spec_l01Cur_rel.l0 n (T : Int) u Kx k (m : Int) c (a, rows) = Kx c' (a, rows')
 | 0, m, N, c, a, rows, hk, _, _, _, _ => absurd hk (Nat.not_lt_zero _)
 | k + 1, 0, N, c, a, rows, hk, hc, hN, hr, ok => by
  refine ⟨c, rows, hc.mono (by omega), by omega, ok, ?_⟩
  conv => lhs; unfold spec_l01Cur_rel.l0
  rw [if_neg (by simp)]
 | k + 1, m + 1, N, c, a, rows, hk, hc, hN, hr, ok => by
  have cont : ∀ (c1 : Cur) (t1 : Tu), CurOk (N + 6) c1 → t1.length = T → (∀ s ∈ t1, okS s) → ∃ c' rows', CurOk (N + 6 + m * 6) c' ∧ rows'.length ≤ rows.length + (m + 1) ∧ (∀ t ∈ rows', okT t ∧ t.length = T) ∧
    ((spec_l02Put.F n rows t1).bind fun r19 => spec_l01Cur_rel.l0 n (T : Int) u Kx k (IntKind.i64.wrap (((m + 1 : Nat) : Int) - 1)) c1 (a, r19.1)) = Kx c' (a, rows') := by
   intro c1 t1 h1 h2 h3
   have ot : okT t1 := ⟨by omega, h3⟩
   obtain ⟨b, hb⟩ := l02Put_eq n (by omega) rows t1 (by omega) (fun t ht => (ok t ht).1) ot
   have hl := insT_len t1 rows
   obtain ⟨c', rows', a1, a2, a3, a4⟩ := rel_l0 T hT u Kx k m (N + 6) c1 a (insT t1 rows) (by omega) h1 (by omega) (by omega) (fun t ht => by
    rcases (insT_mem (fun y hy => (ok y hy).1.2) h3 t).1 ht with rfl | ht
    ·exact ⟨ot, h2⟩
    ·exact ok t ht)
   refine ⟨c', rows', a1, by omega, a3, ?_⟩
   rw [hb, Option.bind_some, wrap64 _ (by omega) (by omega), show (((m + 1 : Nat) : Int) - 1) = (m : Int) by omega]
   exact a4
  obtain ⟨c1, t1, h1, h2, h3, h4⟩ := rel_l1 T hT ((m + 1 : Nat) : Int) u (a, rows) (fun t17 t18 => (spec_l02Put.F n rows t18).bind fun r19 => spec_l01Cur_rel.l0 n (T : Int) u Kx k (IntKind.i64.wrap (((m + 1 : Nat) : Int) - 1)) t17 (a, r19.1)) n 0 N c [] (Nat.zero_le _) (by omega) hc (by omega) rfl (fun _ h => by cases h)
  obtain ⟨c', rows', a1, a2, a3, a4⟩ := cont c1 t1 (h1.mono (by omega)) h2 h3
  refine ⟨c', rows', a1.mono (by omega), a2, a3, ?_⟩
  conv => lhs; unfold spec_l01Cur_rel.l0
  rw [if_pos (by simp)]
  rw [show ((0 : Nat) : Int) = 0 from rfl] at h4
  exact h4.trans a4
theorem rel_l2 (u : Re) (Kx : Cur → Re → Option (Re × Cur)) : ∀ (k i N : Nat) (c : Cur) (a : Int) (rows : List Tu), 402 - i < k → i ≤ 402 → CurOk N c → N + 500 ≤ 4000000000000000000 + i → rows.length ≤ i → (∀ t ∈ rows, t.length ≤ 10 ∧ ∀ s ∈ t, s.size ≤ 500) →
  ∃ c' rows', CurOk (N + (403 - i)) c' ∧ rows'.length ≤ 402 ∧ (∀ t ∈ rows', t.length ≤ 10 ∧ ∀ s ∈ t, s.size ≤ 500) ∧ spec_l01Cur_rel.l2 n u Kx k (i : Int) c (a, rows) = Kx c' (a, rows')
 | 0, i, N, c, a, rows, hk, _, _, _, _, _ => absurd hk (Nat.not_lt_zero _)
 | k + 1, i, N, c, a, rows, hk, hi, hc, hN, hr, ok => by
  obtain ⟨r, c1, e1, h1, h2⟩ := pick_lt (n := n) (k := 3) hc (by omega) (by omega)
  by_cases h : (i : Int) < 399 + r
  ·have hi8 := itoa_len8 (x := (i : Int)) (by omega) (by omega)
   obtain ⟨c2, rows2, a1, a2, a3, a4⟩ := rel_l2 u Kx k (i + 1) (N + 1) c1 a (rows ++ [[bt (Lib.itoa (i : Int))]]) (by omega) (by omega) h1 (by omega) (by simp; omega) (fun t ht => by
    rcases List.mem_append.1 ht with ht | ht
    ·exact ok t ht
    ·rw [List.mem_singleton.1 ht]
     refine ⟨by simp, fun s hs => ?_⟩
     rw [List.mem_singleton.1 hs, bt_size]
     omega)
   refine ⟨c2, rows2, a1.mono (by omega), a2, a3, ?_⟩
   conv => lhs; unfold spec_l01Cur_rel.l2
   rw [e1, Option.bind_some]
   dsimp only
   rw [wrap64 (399 + r) (by omega) (by omega), if_pos (by simpa using h), numText n _ (by omega) (by omega) (by omega), Option.bind_some, if_pos (by show _ + 1 ≤ 4294967296; omega), wr1 (by omega)]
   exact a4
  ·refine ⟨c1, rows, h1.mono (by omega), by omega, ok, ?_⟩
   conv => lhs; unfold spec_l01Cur_rel.l2
   rw [e1, Option.bind_some]
   dsimp only
   rw [wrap64 (399 + r) (by omega) (by omega), if_neg (by simpa using h)]
theorem rel_ok {N : Nat} {c : Cur} (T : Nat) (hT : T ≤ 6) (hc : CurOk N c) (hN : N ≤ 50000000000000000) : Yields N 2000 (spec_l01Cur_rel.F n c (T : Int)) RelSm := by
 unfold spec_l01Cur_rel.F
 refine (size_ok hc (by omega) (by omega) (by omega)).bind (L := 1900) (by omega) fun v c hc hv => ?_
 dsimp only
 obtain ⟨m, rfl⟩ : ∃ m : Nat, v = (m : Int) := ⟨v.toNat, by omega⟩
 obtain ⟨c1, rows, a1, a2, a3, a4⟩ := rel_l0 hn T hT (0, []) (fun t20 t21 =>
 (spec_l01Cur_once.F n t20 16).bind fun r22 =>
 if r22.1 = true then
 (spec_l01Cur_pick.F n r22.2 4).bind fun r23 =>
 if decide (r23.1 = 0) = true then
 (spec_l01Cur_raw.F n r23.2).bind fun r24 =>
 some ((r24.1, t21.2), r24.2)
 else
 if decide (r23.1 = 1) = true then
 (spec_l01Cur_tuple.F n r23.2 (T : Int)).bind fun r25 =>
 if List.length t21.2 + List.length [r25.1] ≤ lim then
 some ((t21.1, t21.2 ++ [r25.1]), r25.2)
 else
 none
 else
 if decide (r23.1 = 2) = true then
 if List.length t21.2 + List.length ([([⟨#[120]⟩] : List ByteArray)] : List (List ByteArray)) ≤ lim then
 some ((t21.1, t21.2 ++ ([([⟨#[120]⟩] : List ByteArray)] : List (List ByteArray))), r23.2)
 else
 none
 else
 spec_l01Cur_rel.l2 n (0, []) (fun t32 t33 =>
 some (t33, t32)) n 0 r23.2 (1, [])
 else
 some (t21, r22.2)) n m (N + 1) c (T : Int) [] (by omega) hc (by omega) (by simp; omega) (fun _ h => by cases h)
 rw [a4]
 have a1 : CurOk (N + 100) c1 := a1.mono (by omega)
 have sm : ∀ t ∈ rows, t.length ≤ 10 ∧ ∀ s ∈ t, s.size ≤ 500 := fun t ht => okT_len (a3 t ht).1
 simp only [List.length_nil] at a2
 have : ∀ o, Yields (N + 100) 1600 o RelSm → Yields (N + 1) 1900 o RelSm := by
  rintro o ⟨v, d, e, h1, h2⟩
  exact ⟨v, d, e, h1.mono (by omega), h2⟩
 refine this _ ?_
 refine (once_ok a1 (by omega)).bind (L := 1500) (by omega) fun v c hc _ => ?_
 dsimp only
 split
 ·refine (pick_ok hc (by omega)).bind (L := 1400) (by omega) fun v c hc hv => ?_
  dsimp only
  split
  ·exact (raw_ok hc (by omega)).bind (L := 0) (by omega) fun v c hc _ => .ret hc ⟨by show rows.length ≤ 450; omega, sm⟩
  ·split
   ·refine (tuple_ok hn T (by omega) hc (by omega)).bind (L := 0) (by omega) fun t c hc ht => ?_
    dsimp only
    rw [if_pos (by show _ + 1 ≤ 4294967296; omega)]
    refine .ret hc ⟨by show (rows ++ [t]).length ≤ 450; simp; omega, fun x hx => ?_⟩
    rcases List.mem_append.1 hx with hx | hx
    ·exact sm x hx
    ·rw [List.mem_singleton.1 hx]
     exact ⟨by omega, ht.2⟩
   ·split
    ·rw [if_pos (by show _ + 1 ≤ 4294967296; omega)]
     refine .ret hc ⟨by show (rows ++ [_]).length ≤ 450; simp; omega, fun x hx => ?_⟩
     rcases List.mem_append.1 hx with hx | hx
     ·exact sm x hx
     ·rw [List.mem_singleton.1 hx]
      exact ⟨by simp, fun s hs => by rw [List.mem_singleton.1 hs]; decide⟩
    ·obtain ⟨c2, rows2, b1, b2, b3, b4⟩ := rel_l2 hn (0, []) (fun t32 t33 => some (t33, t32)) n 0 _ c 1 [] (by omega) (by omega) hc (by omega) (by simp) (fun _ h => by cases h)
     rw [show ((0 : Nat) : Int) = 0 from rfl] at b4
     rw [b4]
     exact ⟨_, _, rfl, b1.mono (by omega), by show rows2.length ≤ 450; omega, b3⟩
 ·exact .ret hc ⟨by show rows.length ≤ 450; omega, sm⟩
theorem grp_l1 (T : Nat) (hT : T ≤ 6) (x : Int) (u v : Re) (Kx : Cur → Tu → Option (Re × List Int × Cur)) : ∀ (k i N : Nat) (c : Cur) (t : Tu), i ≤ T → T - i < k → CurOk N c → N + (T - i) ≤ 4000000000000000000 → t.length = i → (∀ s ∈ t, okS s) →
  ∃ c' t', CurOk (N + (T - i)) c' ∧ t'.length = T ∧ (∀ s ∈ t', okS s) ∧ spec_l01Cur_grouped.l1 n (T : Int) x u v Kx k (i : Int) c t = Kx c' t'
 | 0, i, N, c, t, hi, hk, _, _, _, _ => absurd hk (Nat.not_lt_zero _)
 | k + 1, i, N, c, t, hi, hk, hc, hN, ht, hs => by
  by_cases h : i < T
  ·obtain ⟨r, c1, e1, h1, h2⟩ := pick_lt (n := n) (k := 6) hc (by omega) (by omega)
   have hg := getD_all (P := fun x : Int => -1000000 ≤ x ∧ x ≤ 1000000) (l := [1, 2, 3, (-1), 600000, 10]) (d := 0) (by decide) (by decide) (Int.toNat r)
   obtain ⟨c2, t2, a1, a2, a3, a4⟩ := grp_l1 T hT x u v Kx k (i + 1) (N + 1) c1 (t ++ [bt (Lib.itoa (List.getD [1, 2, 3, (-1), 600000, 10] (Int.toNat r) 0))]) (by omega) (by omega) h1 (by omega) (by simp; omega) (fun s hsm => by
    rcases List.mem_append.1 hsm with hsm | hsm
    ·exact hs s hsm
    ·rw [List.mem_singleton.1 hsm]; exact okS_num hg.1 hg.2)
   refine ⟨c2, t2, a1.mono (by omega), a2, a3, ?_⟩
   conv => lhs; unfold spec_l01Cur_grouped.l1
   rw [if_pos (by simp; omega), e1, Option.bind_some]
   dsimp only
   rw [if_pos (by simp; omega), numText n _ (by omega) (by omega) (by omega), Option.bind_some, if_pos (by show _ + 1 ≤ 4294967296; omega), wr1 (by omega)]
   exact a4
  ·refine ⟨c, t, hc.mono (by omega), by omega, hs, ?_⟩
   conv => lhs; unfold spec_l01Cur_grouped.l1
   rw [if_neg (by simp; omega)]
theorem grp_l0 (T : Nat) (hT : T ≤ 6) (u : Re) (Kx : Cur → Re → Option (Re × List Int × Cur)) : ∀ (k m N : Nat) (c : Cur) (a : Int) (rows : List Tu), m < k → CurOk N c → N + m * 6 ≤ 4000000000000000000 → rows.length + m ≤ 100 → (∀ t ∈ rows, okT t) →
  ∃ c' rows', CurOk (N + m * 6) c' ∧ rows'.length ≤ rows.length + m ∧ (∀ t ∈ rows', okT t) ∧ spec_l01Cur_grouped.l0 n (T : Int) u Kx k (m : Int) c (a, rows) = Kx c' (a, rows')
 | 0, m, N, c, a, rows, hk, _, _, _, _ => absurd hk (Nat.not_lt_zero _)
 | k + 1, 0, N, c, a, rows, hk, hc, hN, hr, ok => by
  refine ⟨c, rows, hc.mono (by omega), by omega, ok, ?_⟩
  conv => lhs; unfold spec_l01Cur_grouped.l0
  rw [if_neg (by simp)]
 | k + 1, m + 1, N, c, a, rows, hk, hc, hN, hr, ok => by
  obtain ⟨c1, t1, h1, h2, h3, h4⟩ := grp_l1 hn T hT ((m + 1 : Nat) : Int) u (a, rows) (fun t17 t18 => (spec_l02Put.F n rows t18).bind fun r19 => spec_l01Cur_grouped.l0 n (T : Int) u Kx k (IntKind.i64.wrap (((m + 1 : Nat) : Int) - 1)) t17 (a, r19.1)) n 0 N c [] (Nat.zero_le _) (by omega) hc (by omega) rfl (fun _ h => by cases h)
  have ot : okT t1 := ⟨by omega, h3⟩
  obtain ⟨b, hb⟩ := l02Put_eq n (by omega) rows t1 (by omega) ok ot
  have hl := insT_len t1 rows
  obtain ⟨c', rows', a1, a2, a3, a4⟩ := grp_l0 T hT u Kx k m (N + 6) c1 a (insT t1 rows) (by omega) (h1.mono (by omega)) (by omega) (by omega) (fun t ht => by
   rcases (insT_mem (fun y hy => (ok y hy).2) h3 t).1 ht with rfl | ht
   ·exact ot
   ·exact ok t ht)
  refine ⟨c', rows', a1.mono (by omega), by omega, a3, ?_⟩
  conv => lhs; unfold spec_l01Cur_grouped.l0
  rw [if_pos (by simp)]
  rw [show ((0 : Nat) : Int) = 0 from rfl] at h4
  refine h4.trans ?_
  rw [hb, Option.bind_some, wrap64 _ (by omega) (by omega), show (((m + 1 : Nat) : Int) - 1) = (m : Int) by omega]
  exact a4
theorem grp_j2 {N : Nat} {c : Cur} (T : Nat) (hT : T ≤ 6) (u r : Re) (hc : CurOk N c) (hN : N ≤ 100000000000000000) : ∃ l c', spec_l01Cur_grouped.j2 n (T : Int) c u r = some (r, l, c') ∧ CurOk (N + 20) c' ∧ l.length ≤ 7 := by
 unfold spec_l01Cur_grouped.j2
 obtain ⟨c1, l1, a1, a2, a3⟩ := grp_l3 T hT u r (fun t36 t37 =>
 (spec_l01Cur_once.F n t36 14).bind fun r38 =>
 if r38.1 = true then
 (spec_l01Cur_raw.F n r38.2).bind fun r39 =>
 if List.length t37 + List.length [r39.1] ≤ lim then
 some (r, t37 ++ [r39.1], r39.2)
 else
 none
 else
 some (r, t37, r38.2)) n 0 N c [] (Nat.zero_le _) (by omega) hc (by omega) (by simp)
 rw [show ((0 : Nat) : Int) = 0 from rfl] at a3
 rw [a3]
 obtain ⟨v, c2, e2, h2, _⟩ := once_ok (n := n) (k := 14) a1 (by omega)
 rw [e2, Option.bind_some]
 dsimp only
 split
 ·obtain ⟨x, c3, e3, h3, _⟩ := raw_ok (n := n) h2 (by omega)
  rw [e3, Option.bind_some]
  dsimp only
  rw [if_pos (by show _ + 1 ≤ 4294967296; omega)]
  exact ⟨_, _, rfl, h3.mono (by omega), by simp; omega⟩
 ·exact ⟨_, _, rfl, h2.mono (by omega), by omega⟩
theorem grouped_ok {N : Nat} {c : Cur} (hc : CurOk N c) (hN : N ≤ 40000000000000000) : ∃ r l c', spec_l01Cur_grouped.F n c = some (r, l, c') ∧ CurOk (N + 3000) c' ∧ RelSm r ∧ l.length ≤ 7 := by
 unfold spec_l01Cur_grouped.F
 obtain ⟨v, c1, e1, h1, hv⟩ := pick_lt (n := n) (k := 3) hc (by omega) (by omega)
 rw [e1, Option.bind_some]
 dsimp only
 obtain ⟨T, hT⟩ : ∃ T : Nat, 1 + v = (T : Int) := ⟨(1 + v).toNat, by omega⟩
 rw [wrap64 (1 + v) (by omega) (by omega), hT]
 obtain ⟨r, c2, e2, h2, hr⟩ := rel_ok hn T (by omega) h1 (by omega)
 rw [e2, Option.bind_some]
 dsimp only
 obtain ⟨w, c3, e3, h3, hw⟩ := pick_lt (n := n) (k := 3) h2 (by omega) (by omega)
 rw [e3, Option.bind_some]
 dsimp only
 split
 ·obtain ⟨s, c4, e4, h4, hs⟩ := size_ok (n := n) (k := 9) h3 (by omega) (by omega) (by omega)
  rw [e4, Option.bind_some]
  dsimp only
  obtain ⟨m, rfl⟩ : ∃ m : Nat, s = (m : Int) := ⟨s.toNat, by omega⟩
  obtain ⟨c5, rows, a1, a2, a3, a4⟩ := grp_l0 hn T (by omega) (0, []) (fun t23 t24 => spec_l01Cur_grouped.j2 n (T : Int) t23 (0, []) t24) n m _ c4 (T : Int) [] (by omega) h4 (by omega) (by simp; omega) (fun _ h => by cases h)
  rw [a4]
  obtain ⟨l, c6, e6, h6, hl⟩ := grp_j2 hn T (by omega) (0, []) ((T : Int), rows) a1 (by omega)
  simp only [List.length_nil] at a2
  exact ⟨_, l, c6, e6, h6.mono (by omega), ⟨by show rows.length ≤ 450; omega, fun t ht => okT_len (a3 t ht)⟩, hl⟩
 ·obtain ⟨l, c6, e6, h6, hl⟩ := grp_j2 hn T (by omega) (0, []) r h3 (by omega)
  exact ⟨r, l, c6, e6, h6.mono (by omega), hr, hl⟩
end
theorem open_ok (n : Nat) (code : List Int) (hb : ∀ b ∈ code, 0 ≤ b ∧ b ≤ 255) (hl : code.length ≤ 1048576) : ∃ c, spec_l01Open.F n code = some c ∧ CurOk 0 c := by
 unfold spec_l01Open.F
 have m0 : 0 ≤ Int.tmod (code.length : Int) 1000 := Int.tmod_nonneg _ (by omega)
 have m1 : Int.tmod (code.length : Int) 1000 < 1000 := Int.tmod_lt_of_pos _ (by omega)
 rw [wrap64 (61 + _) (by omega) (by omega)]
 exact ⟨_, rfl, ⟨hb, hl, Int.le_refl _, Int.le_refl _, by show 0 ≤ 61 + _; omega, by show 61 + _ ≤ 65520; omega⟩⟩
end Go.Abs
