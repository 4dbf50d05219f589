/- The counts of groups: both sides alike. Conditions: none. -/
import Derived.Test.YtgdlicpmbgodjaaGreatDoorG9
namespace Go.Abs
set_option linter.unusedVariables false
set_option linter.unusedSimpArgs false
theorem itoa_len (u : Nat) (h : u ≤ 1000000) : (Lib.itoa (u : Int)).length ≤ 8 := by
 obtain ⟨v, hv, ⟨_, _, e⟩ | ⟨_, e⟩⟩ := itoa_cases (x := (u : Int)) (by omega) (by omega) <;> rw [e] <;> have := (dec_len7 hv).2 <;> simp <;> omega
def cntR (g : Gr) : Tu := g.1 ++ [bt (Lib.itoa (g.2.length : Int))]
section
variable (n : Nat) (gs : List Gr) (hg : GrOk gs)
include hg
theorem specC_l1 (hn : 1100000 ≤ n) (u : Re) (K : Re → Option Re) : ∀ (k i : Nat) (a : Int) (out : List Tu), i ≤ gs.length → gs.length - i < k → out.length ≤ i →
  spec_CountBy.l1 n gs u K k (i : Int) (a, out) = K (a, out ++ (gs.drop i).map cntR)
 | 0, i, a, out, hi, hk, _ => absurd hk (Nat.not_lt_zero _)
 | k + 1, i, a, out, hi, hk, hl => by
  have hlen := hg.1
  by_cases h : i < gs.length
  ·obtain ⟨g1, g2⟩ := hg.2 _ (List.getElem_mem h)
   have g6 := g1.1
   conv => lhs; unfold spec_CountBy.l1
   rw [if_pos (dlt h), if_pos (inl' h), getD_in _ h, if_pos (by simp [lim]; omega), if_pos (inl' h), numText n _ (by omega) (by omega) (by omega), Option.bind_some, if_pos (by simp [lim]; omega), if_pos (by show _ + 1 ≤ 4294967296; dsimp only; omega), wr1 (by omega)]
   rw [specC_l1 hn u K k (i + 1) a _ (by omega) (by omega) (by simp; omega), List.drop_eq_getElem_cons h, List.map_cons, List.append_assoc]
   rfl
  ·conv => lhs; unfold spec_CountBy.l1
   rw [if_neg (dnl h), List.drop_of_length_le (by omega)]
   simp
theorem implC_l1 (u : Re) (K : Re → Option Re) : ∀ (k i : Nat) (a : Int) (out : List Tu), i ≤ gs.length → gs.length - i < k → out.length ≤ i →
  impl_CountBy.l1 n (gs.length : Int) u gs K k (i : Int) (a, out) (i : Int) = K (a, out ++ (gs.drop i).map cntR)
 | 0, i, a, out, hi, hk, _ => absurd hk (Nat.not_lt_zero _)
 | k + 1, i, a, out, hi, hk, hl => by
  have hlen := hg.1
  by_cases h : i < gs.length
  ·obtain ⟨g1, g2⟩ := hg.2 _ (List.getElem_mem h)
   have g6 := g1.1
   conv => lhs; unfold impl_CountBy.l1
   unfold strconv_Itoa.F
   rw [if_pos (dlt h), if_pos (inl' h), if_pos (Int.le_refl _), getD_in _ h, if_pos (by omega), Option.bind_some, if_pos (by show _ + 1 ≤ 4294967296; omega), if_pos (by show _ + 1 ≤ 4294967296; dsimp only; omega), wr1 (by omega), show (i : Int) + 1 = ((i + 1 : Nat) : Int) by omega]
   rw [implC_l1 u K k (i + 1) a _ (by omega) (by omega) (by simp; omega), List.drop_eq_getElem_cons h, List.map_cons, List.append_assoc]
   rfl
  ·conv => lhs; unfold impl_CountBy.l1
   rw [if_neg (dnl h), List.drop_of_length_le (by omega)]
   simp
end
theorem cnt_bulk {gs : List Gr} (hg : GrOk gs) (a : Int) : Kd.bulk (.st (.pair (.int .i64) (.sl (.st (.sl (.str)))))) (a, gs.map cntR) ≤ 2147483648 := by
 have h1 : (List.map (Kd.bulk (.st (.sl (.str)))) (gs.map cntR)).sum ≤ (gs.map cntR).length * 1300 := sum_le _ 1300 _ fun t ht => by
  obtain ⟨g, h2, rfl⟩ := List.mem_map.1 ht
  obtain ⟨g1, g2⟩ := hg.2 g h2
  have h3 := bulk_okT g1
  have h4 := itoa_len g.2.length (by omega)
  show (List.map (Kd.bulk .str) (g.1 ++ [bt (Lib.itoa (g.2.length : Int))])).sum + 1 ≤ 1300
  have h5 : Kd.bulk (.sl .str) g.1 = (List.map (Kd.bulk .str) g.1).sum + 1 := rfl
  have h6 : (List.map (Kd.bulk .str) [bt (Lib.itoa (g.2.length : Int))]).sum = (bt (Lib.itoa (g.2.length : Int))).size + 1 + 0 := rfl
  rw [List.map_append, List.sum_append, h6, bt_size]
  omega
 have h2 := hg.1
 have h3 : (gs.map cntR).length = gs.length := List.length_map ..
 have h4 : (gs.map cntR).length * 1300 ≤ 400 * 1300 := Nat.mul_le_mul_right _ (by omega)
 show 1 + ((List.map (Kd.bulk (.st (.sl (.str)))) (gs.map cntR)).sum + 1) ≤ 2147483648
 omega
theorem count_eq (n m : Nat) (hn : 1100000 ≤ n) (hm : 1100000 ≤ m) (r : Re) (by_ : List Int) (hb : by_.length ≤ 1048576) (hsz : ∀ t ∈ r.2, ∀ s ∈ t, s.size ≤ 1048576) (hlen : ∀ t ∈ r.2, t.length ≤ 1048576) :
  ∃ w, spec_CountBy.F n r by_ = some w ∧ impl_CountBy.F m r by_ = some w ∧ (w = (0, []) ∨ w = ((by_.length : Int) + 1, (grpS (keyOf by_) r.2).map cntR) ∧ Right r by_ ∧ by_.length < 6) := by
 obtain ⟨b, b1, b2, b3⟩ := right_eq n m hn hm r by_ hb hsz hlen
 unfold spec_CountBy.F impl_CountBy.F
 rw [b1, b2]
 cases b with
 | false => exact ⟨(0, []), rfl, rfl, .inl rfl⟩
 | true =>
  have R := b3 rfl
  have b6 : by_.length ≤ 6 := by have := R.len; have := R.rel.base.2.1; omega
  simp only [Option.bind_some]
  by_cases e : by_.length = 6
  ·exact ⟨(0, []), by rw [if_pos (by simp), if_pos (by simp; omega)], by rw [if_pos (by simp), if_pos (by simp; omega)], .inl rfl⟩
  ·have ok := grp_ok R
   have hl := ok.1
   refine ⟨_, ?_, ?_, .inr ⟨rfl, R, by omega⟩⟩
   ·rw [if_pos (by simp), if_neg (by simp; omega)]
    unfold spec_CountBy.j0
    rw [specG_eq n hn r by_ R, b1, Option.bind_some, if_neg (by simp), Option.bind_some]
    have s := specC_l1 n _ ok hn (0, []) (fun out13 => some out13) n 0 (IntKind.i64.wrap ((by_.length : Int) + 1)) [] (Nat.zero_le _) (by omega) (by simp)
    rw [show ((0 : Nat) : Int) = 0 from rfl, List.drop_zero] at s
    rw [s, wrap64 _ (by omega) (by omega)]
    rfl
   ·rw [if_pos (by simp), if_neg (by simp; omega)]
    unfold impl_CountBy.j0
    rw [implG_eq m hm r by_ R, Option.bind_some]
    have s := implC_l1 m _ ok (0, []) (fun out13 => some out13) m 0 (IntKind.i64.wrap ((by_.length : Int) + 1)) [] (Nat.zero_le _) (by omega) (by simp)
    rw [show ((0 : Nat) : Int) = 0 from rfl, List.drop_zero] at s
    rw [s, wrap64 _ (by omega) (by omega)]
    rfl
end Go.Abs
