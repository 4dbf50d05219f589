/- What is drawn: picks, terms, tuples. Conditions: none. -/
import Derived.Test.YtgdlicpmbgodjaaGreatDoorG9
namespace Go.Abs
set_option linter.unusedVariables false
set_option linter.unusedSimpArgs false
abbrev Cur : Type := List Int × Int × Int
structure CurOk (N : Nat) (c : Cur) : Prop where
 bs : ∀ b ∈ c.1, 0 ≤ b ∧ b ≤ 255
 len : c.1.length ≤ 1048576
 at0 : 0 ≤ c.2.1
 at1 : c.2.1 ≤ (N : Int)
 sd0 : 0 ≤ c.2.2
 sd1 : c.2.2 ≤ 65520
theorem CurOk.mono {N M : Nat} {c : Cur} (h : CurOk N c) (hm : N ≤ M) : CurOk M c := ⟨h.bs, h.len, h.at0, by have := h.at1; omega, h.sd0, h.sd1⟩
def Yields {α : Type} (N K : Nat) (o : Option (α × Cur)) (P : α → Prop) : Prop := ∃ v c, o = some (v, c) ∧ CurOk (N + K) c ∧ P v
theorem Yields.mono {α : Type} {N K L : Nat} {o : Option (α × Cur)} {P Q : α → Prop} (h : Yields N K o P) (hk : K ≤ L) (hp : ∀ v, P v → Q v) : Yields N L o Q := by
 obtain ⟨v, c, e, h1, h2⟩ := h
 exact ⟨v, c, e, h1.mono (by omega), hp v h2⟩
theorem Yields.bind {α β : Type} {N K L M : Nat} {o : Option (α × Cur)} {f : α × Cur → Option (β × Cur)} {P : α → Prop} {Q : β → Prop} (h : Yields N K o P) (hm : K + L ≤ M) (hf : ∀ v c, CurOk (N + K) c → P v → Yields (N + K) L (f (v, c)) Q) : Yields N M (o.bind f) Q := by
 obtain ⟨v, c, e, h1, h2⟩ := h
 obtain ⟨u, d, e2, h3, h4⟩ := hf v c h1 h2
 exact ⟨u, d, by rw [e]; exact e2, h3.mono (by omega), h4⟩
theorem Yields.ret {α : Type} {N K : Nat} {v : α} {c : Cur} {P : α → Prop} (hc : CurOk N c) (hp : P v) : Yields N K (some (v, c)) P := ⟨v, c, rfl, hc.mono (by omega), hp⟩
theorem getD_all {α : Type} {P : α → Prop} {l : List α} {d : α} (h : ∀ x ∈ l, P x) (hd : P d) (i : Nat) : P (List.getD l i d) := by
 rw [List.getD_eq_getElem?_getD]
 cases e : l[i]? with
 | none => exact hd
 | some x => exact h x (List.mem_of_getElem? e)
theorem pick_j0 {n N : Nat} {k x : Int} {c : Cur} (hc : CurOk N c) (hN : N ≤ 4000000000000000000) (hk : 2 ≤ k) (hx : 0 ≤ x) : Yields N 1 (spec_l01Cur_pick.j0 n k x c) fun r => 0 ≤ r ∧ r < k := by
 unfold spec_l01Cur_pick.j0
 have h0 := hc.at0
 have h1 := hc.at1
 rw [if_neg (by omega), wrap64 _ (by omega) (by omega)]
 exact ⟨_, _, rfl, ⟨hc.bs, hc.len, by show 0 ≤ c.2.1 + 1; omega, by show c.2.1 + 1 ≤ _; omega, hc.sd0, hc.sd1⟩, Int.tmod_nonneg _ hx, Int.tmod_lt_of_pos _ (by omega)⟩
theorem pick_ok {n N : Nat} {k : Int} {c : Cur} (hc : CurOk N c) (hN : N ≤ 4000000000000000000) : Yields N 1 (spec_l01Cur_pick.F n c k) fun r => 0 ≤ r ∧ (r < k ∨ r = 0) := by
 unfold spec_l01Cur_pick.F
 by_cases hk : k < 2
 ·rw [if_pos (by simpa using hk)]
  exact .ret hc ⟨Int.le_refl _, .inr rfl⟩
 ·rw [if_neg (by simpa using hk)]
  have h0 := hc.at0
  have s0 := hc.sd0
  have s1 := hc.sd1
  have byte : ∀ i : Nat, 0 ≤ List.getD c.1 i 0 ∧ List.getD c.1 i 0 ≤ 255 := fun i => getD_all (P := fun b : Int => 0 ≤ b ∧ b ≤ 255) hc.bs ⟨by omega, by omega⟩ i
  have fin : ∀ {c : Cur} {x : Int}, CurOk N c → 0 ≤ x → Yields N 1 (spec_l01Cur_pick.j0 n k x c) fun r => 0 ≤ r ∧ (r < k ∨ r = 0) := fun hc hx => (pick_j0 hc hN (by omega) hx).mono (Nat.le_refl _) fun v h => ⟨h.1, .inl h.2⟩
  by_cases ha : c.2.1 < (c.1.length : Int)
  ·rw [if_pos (by simpa using ha), if_pos ⟨h0, ha⟩]
   have := byte (Int.toNat c.2.1)
   rw [wrap64 _ (by omega) (by omega)]
   exact fin hc this.1
  ·rw [if_neg (by simpa using ha)]
   have e1 : IntKind.i64.wrap (c.2.2 * 1103) = c.2.2 * 1103 := wrap64 _ (by omega) (by omega)
   have e2 : IntKind.i64.wrap (c.2.2 * 1103 + 12345) = c.2.2 * 1103 + 12345 := wrap64 _ (by omega) (by omega)
   rw [e1, e2]
   have m0 : 0 ≤ Int.tmod (c.2.2 * 1103 + 12345) 65521 := Int.tmod_nonneg _ (by omega)
   have m1 : Int.tmod (c.2.2 * 1103 + 12345) 65521 < 65521 := Int.tmod_lt_of_pos _ (by omega)
   have hc2 : CurOk N (c.1, (c.2.1, Int.tmod (c.2.2 * 1103 + 12345) 65521)) := ⟨hc.bs, hc.len, hc.at0, hc.at1, m0, by show Int.tmod (c.2.2 * 1103 + 12345) 65521 ≤ 65520; omega⟩
   by_cases hl : (c.1.length : Int) > 0
   ·have t0 : 0 ≤ Int.tmod c.2.1 (c.1.length : Int) := Int.tmod_nonneg _ h0
    have t1 : Int.tmod c.2.1 (c.1.length : Int) < (c.1.length : Int) := Int.tmod_lt_of_pos _ hl
    rw [if_pos (by simpa using hl), if_neg (by omega), if_pos ⟨t0, t1⟩]
    refine fin hc2 ?_
    have b := byte (Int.toNat (Int.tmod c.2.1 (c.1.length : Int)))
    have d0 : 0 ≤ Int.tdiv (Int.tmod (c.2.2 * 1103 + 12345) 65521) 7 := Int.tdiv_nonneg m0 (by omega)
    have d1 : Int.tdiv (Int.tmod (c.2.2 * 1103 + 12345) 65521) 7 ≤ 65521 := Int.le_trans (Int.tdiv_le_self _ m0) (by omega)
    rw [wrap64 (Int.tdiv _ 7) (by omega) (by omega), wrap64 (List.getD c.1 _ 0) (by omega) (by omega), wrap64 _ (by omega) (by omega)]
    omega
   ·rw [if_neg (by simpa using hl)]
    exact fin hc2 (Int.le_refl _)
theorem pick_lt {n N : Nat} {k : Int} {c : Cur} (hc : CurOk N c) (hN : N ≤ 4000000000000000000) (hk : 1 ≤ k) : Yields N 1 (spec_l01Cur_pick.F n c k) fun r => 0 ≤ r ∧ r < k := (pick_ok hc hN).mono (Nat.le_refl _) fun v h => by omega
theorem once_ok {n N : Nat} {k : Int} {c : Cur} (hc : CurOk N c) (hN : N ≤ 4000000000000000000) : Yields N 1 (spec_l01Cur_once.F n c k) fun _ => True := by
 unfold spec_l01Cur_once.F
 exact (pick_ok hc hN).bind (L := 0) (by omega) fun v c hc _ => .ret hc trivial
theorem size_ok {n N : Nat} {k : Int} {c : Cur} (hc : CurOk N c) (hN : N ≤ 4000000000000000000) (h0 : 0 ≤ k) (h1 : k ≤ 1000) : Yields N 1 (spec_l01Cur_size.F n c k) fun r => 0 ≤ r ∧ r ≤ k := by
 unfold spec_l01Cur_size.F
 have hl := hc.len
 have d0 : 0 ≤ Int.tdiv (c.1.length : Int) 8 := Int.tdiv_nonneg (by omega) (by omega)
 have d1 : Int.tdiv (c.1.length : Int) 8 ≤ (c.1.length : Int) := Int.tdiv_le_self _ (by omega)
 rw [wrap64 (Int.tdiv _ 8) (by omega) (by omega), wrap64 (1 + _) (by omega) (by omega), wrap64 (k + 1) (by omega) (by omega), wrap64 (1 + Int.tdiv _ 8 + 1) (by omega) (by omega)]
 split
 ·exact (pick_lt hc hN (by omega)).bind (L := 0) (by omega) fun v c hc hv => .ret hc (by omega)
 ·rename_i hk
  simp only [decide_eq_true_eq] at hk
  exact (pick_lt hc hN (by omega)).bind (L := 0) (by omega) fun v c hc hv => .ret hc (by omega)
theorem raw_ok {n N : Nat} {c : Cur} (hc : CurOk N c) (hN : N ≤ 3000000000000000000) : Yields N 2 (spec_l01Cur_raw.F n c) fun _ => True := by
 unfold spec_l01Cur_raw.F
 refine (pick_ok hc (by omega)).bind (L := 1) (by omega) fun v c hc hv => ?_
 dsimp only
 split
 ·exact (pick_ok hc (by omega)).bind (L := 0) (by omega) fun v c hc hv => .ret hc trivial
 ·split
  ·refine (pick_lt hc (by omega) (by omega)).bind (L := 0) (by omega) fun v c hc hv => ?_
   dsimp only
   rw [if_pos (by simp; omega)]
   exact .ret hc trivial
  ·exact (pick_ok hc (by omega)).bind (L := 0) (by omega) fun v c hc hv => .ret hc trivial
theorem itoa_len8 {x : Int} (h0 : -1000000 ≤ x) (h1 : x ≤ 1000000) : (Lib.itoa x).length ≤ 8 := by
 obtain ⟨v, hv, ⟨_, _, e⟩ | ⟨_, e⟩⟩ := itoa_cases h0 h1 <;> rw [e] <;> have := (dec_len7 hv).2 <;> simp <;> omega
structure TSelf (n : Nat) (self : Cur → Int → Option (ByteArray × Cur)) (d : Int) (K B M : Nat) : Prop where
 hn : 1100000 ≤ n
 hM : M ≤ 3000000000000000000
 hd : d ≤ 1000
 hd0 : -1000 ≤ d
 hs : 0 < d → ∀ (c : Cur) (N : Nat), CurOk N c → N ≤ M → Yields N K (self c (d - 1)) fun s => s.size ≤ B
 hK : K ≤ 1000000
 hB : 8 ≤ B
 hB2 : B ≤ 1000000
section
variable {n : Nat} {self : Cur → Int → Option (ByteArray × Cur)} {d : Int} {K B M : Nat} (H : TSelf n self d K B M)
include H
theorem term_j3 {N : Nat} {c : Cur} (hc : CurOk N c) (hN : N + 3 * K + 1 ≤ M) (h0 : 0 < d) : Yields N (3 * K) (spec_l01Cur_term.j3 n self d c) fun s => s.size ≤ 3 * B + 8 := by
 obtain ⟨hn, hM, hd, hd0, hs, hK, hB, hB2⟩ := id H
 unfold spec_l01Cur_term.j3
 rw [wrap64 (d - 1) (by omega) (by omega)]
 refine (hs h0 c N hc (by omega)).bind (L := 2 * K) (by omega) fun a c hc ha => ?_
 dsimp only
 have z1 : ByteArray.size ⟨#[78, 111, 100, 101, 40]⟩ = 5 := rfl
 have z2 : ByteArray.size ⟨#[44]⟩ = 1 := rfl
 have z3 : ByteArray.size ⟨#[41]⟩ = 1 := rfl
 rw [if_pos (by rw [z1]; simp only [lim]; omega), if_pos (by rw [ByteArray.size_append, z1, z2]; simp only [lim]; omega)]
 refine (hs h0 c _ hc (by omega)).bind (L := K) (by omega) fun b c hc hb => ?_
 dsimp only
 rw [if_pos (by simp only [ByteArray.size_append, z1, z2, lim]; omega), if_pos (by simp only [ByteArray.size_append, z1, z2, lim]; omega)]
 refine (hs h0 c _ hc (by omega)).bind (L := 0) (by omega) fun e c hc he => ?_
 dsimp only
 rw [if_pos (by simp only [ByteArray.size_append, z1, z2, lim]; omega), if_pos (by simp only [ByteArray.size_append, z1, z2, z3, lim]; omega)]
 exact .ret hc (by simp only [ByteArray.size_append, z1, z2, z3]; omega)
theorem term_j2 {N : Nat} {c : Cur} {t : Int} {b : Bool} {Kn : Unit → Option (ByteArray × Cur)} (hc : CurOk N c) (hN : N + 3 * K + 1 ≤ M) (h0 : 0 < d) (hk : Yields N (3 * K + 1) (Kn ()) fun s => s.size ≤ 3 * B + 8) :
  Yields N (3 * K + 1) (spec_l01Cur_term.j2 n self d t b c Kn) fun s => s.size ≤ 3 * B + 8 := by
 obtain ⟨hn, hM, hd, hd0, hs, hK, hB, hB2⟩ := id H
 unfold spec_l01Cur_term.j2
 rw [wrap64 (d - 1) (by omega) (by omega)]
 have z1 : ByteArray.size ⟨#[67, 111, 110, 115, 40]⟩ = 5 := rfl
 have z2 : ByteArray.size ⟨#[44]⟩ = 1 := rfl
 have z3 : ByteArray.size ⟨#[41]⟩ = 1 := rfl
 have z4 : ByteArray.size ⟨#[83, 40]⟩ = 2 := rfl
 split
 ·refine (hs h0 c N hc (by omega)).bind (L := K) (by omega) fun a c hc ha => ?_
  dsimp only
  rw [if_pos (by rw [z1]; simp only [lim]; omega), if_pos (by simp only [ByteArray.size_append, z1, z2, lim]; omega)]
  refine (hs h0 c _ hc (by omega)).bind (L := 0) (by omega) fun b c hc hb => ?_
  dsimp only
  rw [if_pos (by simp only [ByteArray.size_append, z1, z2, lim]; omega), if_pos (by simp only [ByteArray.size_append, z1, z2, z3, lim]; omega)]
  exact .ret hc (by simp only [ByteArray.size_append, z1, z2, z3]; omega)
 ·split
  ·refine (hs h0 c N hc (by omega)).bind (L := 0) (by omega) fun a c hc ha => ?_
   dsimp only
   rw [if_pos (by rw [z4]; simp only [lim]; omega), if_pos (by simp only [ByteArray.size_append, z4, z3, lim]; omega)]
   exact .ret hc (by simp only [ByteArray.size_append, z4, z3]; omega)
  ·exact hk
theorem term_j1 {N : Nat} {c : Cur} {t : Int} {b : Bool} {Kn : Unit → Option (ByteArray × Cur)} (hc : CurOk N c) (hN : N + 3 * K + 1 ≤ M) (h0 : 0 < d ∨ b = true ∨ t = 3 ∨ t = 4) (hk : 0 < d → Yields N (3 * K + 1) (Kn ()) fun s => s.size ≤ 3 * B + 8) :
  Yields N (3 * K + 1) (spec_l01Cur_term.j1 n self d t b c Kn) fun s => s.size ≤ 3 * B + 8 := by
 obtain ⟨hn, hM, hd, hd0, hs, hK, hB, hB2⟩ := id H
 unfold spec_l01Cur_term.j1
 split
 ·refine (pick_lt hc (by omega) (by omega)).bind (L := 0) (by omega) fun v c hc hv => ?_
  dsimp only
  rw [if_pos (by simp; omega)]
  have hb := getD_all (P := fun x : Int => -1000000 ≤ x ∧ x ≤ 1000000) (l := [0, 1, 2, 3, (-1), 10, 1000000, (-1000000)]) (d := 0) (by decide) (by decide) (Int.toNat v)
  rw [numText n _ (by omega) (by omega) (by omega), Option.bind_some]
  refine .ret hc ?_
  rw [bt_size]
  have := itoa_len8 hb.1 hb.2
  omega
 ·rename_i hb
  split
  ·refine (pick_lt hc (by omega) (by omega)).bind (L := 0) (by omega) fun v c hc hv => ?_
   dsimp only
   rw [if_pos (by simp; omega)]
   refine .ret hc ?_
   have := getD_all (P := fun x : ByteArray => x.size ≤ 8) (l := [⟨#[34, 34]⟩, ⟨#[34, 97, 34]⟩, ⟨#[34, 98, 32, 99, 34]⟩, ⟨#[34, 40, 44, 41, 34]⟩, ⟨#[34, 120, 34]⟩]) (d := ByteArray.empty) (by decide) (by decide) (Int.toNat v)
   omega
  ·split
   ·refine (pick_lt hc (by omega) (by omega)).bind (L := 0) (by omega) fun v c hc hv => ?_
    dsimp only
    rw [if_pos (by simp; omega)]
    refine .ret hc ?_
    have := getD_all (P := fun x : ByteArray => x.size ≤ 8) (l := [⟨#[78, 105, 108]⟩, ⟨#[76, 101, 97, 102]⟩, ⟨#[65]⟩, ⟨#[90, 101, 114, 111]⟩]) (d := ByteArray.empty) (by decide) (by decide) (Int.toNat v)
    omega
   ·rename_i h3 h4
    simp only [decide_eq_true_eq] at h3 h4
    have hd1 : 0 < d := by
     rcases h0 with h0 | h0 | h0 | h0
     ·exact h0
     ·exact absurd h0 hb
     ·exact absurd h0 h3
     ·exact absurd h0 h4
    split
    ·exact term_j2 H hc hN hd1 (hk hd1)
    ·exact term_j2 H hc hN hd1 (hk hd1)
theorem term_j0 {N : Nat} {c : Cur} {t : Int} (hc : CurOk N c) (hN : N + 3 * K + 1 ≤ M) (h0 : 0 < d ∨ (0 ≤ t ∧ t ≤ 4)) : Yields N (3 * K + 1) (spec_l01Cur_term.j0 n self d t c) fun s => s.size ≤ 3 * B + 8 := by
 obtain ⟨hn, hM, hd, hd0, hs, hK, hB, hB2⟩ := id H
 unfold spec_l01Cur_term.j0
 have k3 : 0 < d → Yields N (3 * K + 1) (spec_l01Cur_term.j3 n self d c) fun s => s.size ≤ 3 * B + 8 := fun h => (term_j3 H hc hN h).mono (by omega) fun _ h => h
 split
 ·rename_i h
  exact term_j1 H hc hN (.inr (.inl h)) k3
 ·rename_i n0
  split
  ·rename_i h
   exact term_j1 H hc hN (.inr (.inl h)) k3
  ·rename_i n1
   refine term_j1 H hc hN ?_ k3
   simp only [decide_eq_true_eq] at n0 n1 ⊢
   rcases h0 with h | h
   ·exact .inl h
   ·exact .inr (by omega)
theorem term_G {N : Nat} {c : Cur} (hc : CurOk N c) (hN : N + 3 * K + 2 ≤ M) : Yields N (3 * K + 2) (spec_l01Cur_term.G n self c d) fun s => s.size ≤ 3 * B + 8 := by
 obtain ⟨hn, hM, hd, hd0, hs, hK, hB, hB2⟩ := id H
 unfold spec_l01Cur_term.G
 refine (pick_lt hc (by omega) (by omega)).bind (L := 3 * K + 1) (by omega) fun v c hc hv => ?_
 dsimp only
 split
 ·rename_i h1
  split
  ·rename_i h2
   simp only [decide_eq_true_eq] at h1 h2
   rw [wrap64 _ (by omega) (by omega)]
   exact term_j0 H hc (by omega) (.inr (by omega))
  ·rename_i h2
   simp only [decide_eq_true_eq] at h1 h2
   exact term_j0 H hc (by omega) (.inr (by omega))
 ·rename_i h1
  simp only [decide_eq_true_eq] at h1
  exact term_j0 H hc (by omega) (.inl (by omega))
end
theorem term_0 {n N : Nat} {c : Cur} (hn : 1100001 ≤ n) (hc : CurOk N c) (hN : N ≤ 2500000000000000000) : Yields N 2 (spec_l01Cur_term.F n c 0) fun s => s.size ≤ 32 := by
 obtain ⟨m, rfl⟩ : ∃ m, n = m + 1 := ⟨n - 1, by omega⟩
 exact (term_G (n := m) (self := spec_l01Cur_term.F m) (d := 0) (K := 0) (B := 8) (M := 3000000000000000000) ⟨by omega, by omega, by omega, by omega, fun h => by omega, by omega, by omega, by omega⟩ hc (by omega))
theorem term_1 {n N : Nat} {c : Cur} (hn : 1100002 ≤ n) (hc : CurOk N c) (hN : N ≤ 1500000000000000000) : Yields N 8 (spec_l01Cur_term.F n c 1) fun s => s.size ≤ 104 := by
 obtain ⟨m, rfl⟩ : ∃ m, n = m + 1 := ⟨n - 1, by omega⟩
 exact (term_G (n := m) (self := spec_l01Cur_term.F m) (d := 1) (K := 2) (B := 32) (M := 2000000000000000000) ⟨by omega, by omega, by omega, by omega, fun _ c N hc hN => term_0 (n := m) (by omega) hc (by omega), by omega, by omega, by omega⟩ hc (by omega))
theorem term_2 {n N : Nat} {c : Cur} (hn : 1100003 ≤ n) (hc : CurOk N c) (hN : N ≤ 500000000000000000) : Yields N 26 (spec_l01Cur_term.F n c 2) fun s => s.size ≤ 320 := by
 obtain ⟨m, rfl⟩ : ∃ m, n = m + 1 := ⟨n - 1, by omega⟩
 exact (term_G (n := m) (self := spec_l01Cur_term.F m) (d := 2) (K := 8) (B := 104) (M := 1000000000000000000) ⟨by omega, by omega, by omega, by omega, fun _ c N hc hN => term_1 (n := m) (by omega) hc (by omega), by omega, by omega, by omega⟩ hc (by omega))
theorem any_l1 {n : Nat} {c : Cur} {Kx : ByteArray → Option (ByteArray × Cur)} : ∀ (k : Nat) (s : ByteArray), 203 - s.size < k → s.size ≤ 203 → ∃ s', s'.size ≤ 203 ∧ spec_l01Cur_any.l1 n c Kx k s = Kx s'
 | 0, s, h, _ => absurd h (Nat.not_lt_zero _)
 | k + 1, s, h, hs => by
  unfold spec_l01Cur_any.l1
  have z1 : ByteArray.size ⟨#[83, 40]⟩ = 2 := rfl
  have z2 : ByteArray.size ⟨#[41]⟩ = 1 := rfl
  by_cases hl : s.size ≤ 200
  ·rw [if_pos (by simp; omega), if_pos (by rw [z1]; simp only [lim]; omega), if_pos (by rw [ByteArray.size_append, z1, z2]; simp only [lim]; omega)]
   exact any_l1 k _ (by simp only [ByteArray.size_append, z1, z2]; omega) (by simp only [ByteArray.size_append, z1, z2]; omega)
  ·rw [if_neg (by simp; omega)]
   exact ⟨s, hs, rfl⟩
theorem any_j0 {n N : Nat} {c : Cur} {s : ByteArray} (hn : 1100000 ≤ n) (hc : CurOk N c) (hN : N ≤ 400000000000000000) (hs : s.size ≤ 200) : Yields N 4 (spec_l01Cur_any.j0 n s c) fun s => s.size ≤ 500 := by
 unfold spec_l01Cur_any.j0
 refine (once_ok hc (by omega)).bind (L := 3) (by omega) fun v c hc _ => ?_
 dsimp only
 split
 ·refine (pick_lt hc (by omega) (by omega)).bind (L := 2) (by omega) fun v c hc hv => ?_
  dsimp only
  split
  ·refine (pick_lt hc (by omega) (by omega)).bind (L := 0) (by omega) fun v c hc hv => ?_
   dsimp only
   rw [if_pos (by simp; omega)]
   refine .ret hc ?_
   exact Nat.le_trans (getD_all (P := fun x : ByteArray => x.size ≤ 30) (by decide) (by decide) _) (by omega)
  ·split
   ·rw [wrap64 _ (by omega) (by omega)]
    refine (pick_lt hc (by omega) (by omega)).bind (L := 1) (by omega) fun v c hc hv => ?_
    dsimp only
    rw [if_pos (by omega)]
    refine (pick_lt hc (by omega) (by omega)).bind (L := 0) (by omega) fun u c hc hu => ?_
    dsimp only
    rw [if_pos (by simp; omega)]
    have hg : ByteArray.size (List.getD ([⟨#[40]⟩, ⟨#[41]⟩, ⟨#[44]⟩, ⟨#[34]⟩, ⟨#[49]⟩, ⟨#[32]⟩] : List ByteArray) (Int.toNat u) ByteArray.empty) ≤ 1 := getD_all (P := fun x : ByteArray => x.size ≤ 1) (by decide) (by decide) _
    have e1 : (ByteArray.extract s (Int.toNat 0) (Int.toNat v)).size ≤ 200 := by rw [ByteArray.size_extract]; omega
    have e2 : (ByteArray.extract s (Int.toNat v) (Int.toNat (s.size : Int))).size ≤ 200 := by rw [ByteArray.size_extract]; omega
    rw [if_pos (by simp only [lim]; omega), if_pos (by omega), if_pos (by rw [ByteArray.size_append]; simp only [lim]; omega)]
    refine .ret hc ?_
    rw [ByteArray.size_append, ByteArray.size_append]
    omega
   ·obtain ⟨s', h1, h2⟩ := any_l1 (n := n) (c := c) (Kx := fun s12 => some (s12, c)) n s (by omega) (by omega)
    rw [h2]
    exact .ret hc (by omega)
 ·exact .ret hc (by omega)
theorem any_ok {n N : Nat} {c : Cur} (hn : 1100003 ≤ n) (hc : CurOk N c) (hN : N ≤ 300000000000000000) : Yields N 30 (spec_l01Cur_any.F n c) fun s => s.size ≤ 500 := by
 unfold spec_l01Cur_any.F
 refine (term_2 hn hc (by omega)).bind (L := 4) (by omega) fun s c hc hs => ?_
 dsimp only
 split
 ·exact any_j0 (by omega) hc (by omega) (by decide)
 ·rename_i h
  simp only [decide_eq_true_eq] at h
  exact any_j0 (by omega) hc (by omega) (by omega)
theorem tuple_l0 {n : Nat} (hn : 1100003 ≤ n) (u : List ByteArray) (T : Nat) (hT : T ≤ 100) (Kx : Cur → List ByteArray → Option (List ByteArray × Cur)) : ∀ (k i N : Nat) (c : Cur) (t : List ByteArray), i ≤ T → T - i < k → CurOk N c → N + (T - i) * 8 ≤ 200000000000000000 → t.length ≤ i → (∀ s ∈ t, s.size ≤ 500) →
  ∃ c' t', CurOk (N + (T - i) * 8) c' ∧ t'.length ≤ T ∧ (∀ s ∈ t', s.size ≤ 500) ∧ spec_l01Cur_tuple.l0 n (T : Int) u Kx k (i : Int) c t = Kx c' t'
 | 0, i, N, c, t, hi, hk, _, _, _, _ => absurd hk (Nat.not_lt_zero _)
 | k + 1, i, N, c, t, hi, hk, hc, hN, ht, hs => by
  by_cases h : i < T
  ·obtain ⟨v, c1, e1, h1, h2⟩ := term_1 (n := n) (by omega) hc (by omega)
   obtain ⟨c2, t2, a1, a2, a3, a4⟩ := tuple_l0 hn u T hT Kx k (i + 1) (N + 8) c1 (t ++ [v]) (by omega) (by omega) h1 (by omega) (by simp; omega) (fun s hsm => by
    rcases List.mem_append.1 hsm with hsm | hsm
    ·exact hs s hsm
    ·rw [List.mem_singleton.1 hsm]; omega)
   refine ⟨c2, t2, a1.mono (by omega), a2, a3, ?_⟩
   conv => lhs; unfold spec_l01Cur_tuple.l0
   rw [if_pos (by simp; omega), e1, Option.bind_some, if_pos (by simp [lim]; omega), wr1 (by omega)]
   exact a4
  ·refine ⟨c, t, hc.mono (by omega), by omega, hs, ?_⟩
   conv => lhs; unfold spec_l01Cur_tuple.l0
   rw [if_neg (by simp; omega)]
theorem tuple_ok {n N : Nat} {c : Cur} (hn : 1100003 ≤ n) (T : Nat) (hT : T ≤ 100) (hc : CurOk N c) (hN : N ≤ 100000000000000000) : Yields N 900 (spec_l01Cur_tuple.F n c (T : Int)) fun t => t.length ≤ T + 1 ∧ ∀ s ∈ t, s.size ≤ 500 := by
 unfold spec_l01Cur_tuple.F
 obtain ⟨c', t', a1, a2, a3, a4⟩ := tuple_l0 hn [] T hT (fun c9 t10 =>
  (spec_l01Cur_once.F n c9 20).bind fun r11 =>
  if r11.1 = true then
  (spec_l01Cur_any.F n r11.2).bind fun r12 =>
  if List.length t10 + List.length [r12.1] ≤ lim then
  some (t10 ++ [r12.1], r12.2)
  else
  none
  else
  some (t10, r11.2)) n 0 N c [] (Nat.zero_le _) (by omega) hc (by omega) (by simp) (fun _ h => by cases h)
 rw [show ((0 : Nat) : Int) = 0 from rfl] at a4
 rw [a4]
 have a1 : CurOk (N + 800) c' := a1.mono (by omega)
 have : Yields (N + 800) 100 ((spec_l01Cur_once.F n c' 20).bind fun r11 =>
  if r11.1 = true then
  (spec_l01Cur_any.F n r11.2).bind fun r12 =>
  if List.length t' + List.length [r12.1] ≤ lim then
  some (t' ++ [r12.1], r12.2)
  else
  none
  else
  some (t', r11.2)) fun t => t.length ≤ T + 1 ∧ ∀ s ∈ t, s.size ≤ 500 := by
  refine (once_ok a1 (by omega)).bind (L := 30) (by omega) fun v c hc _ => ?_
  dsimp only
  split
  ·refine (any_ok hn hc (by omega)).bind (L := 0) (by omega) fun s c hc hs => ?_
   dsimp only
   rw [if_pos (by simp [lim]; omega)]
   refine .ret hc ⟨by simp; omega, fun x hx => ?_⟩
   rcases List.mem_append.1 hx with hx | hx
   ·exact a3 x hx
   ·rw [List.mem_singleton.1 hx]; exact hs
  ·exact .ret hc ⟨by omega, a3⟩
 obtain ⟨v, d, e, h1, h2⟩ := this
 exact ⟨v, d, e, h1.mono (by omega), h2⟩
end Go.Abs
