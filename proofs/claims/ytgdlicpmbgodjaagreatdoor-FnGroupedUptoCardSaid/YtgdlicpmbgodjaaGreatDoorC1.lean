/- The counts of groups: both sides alike. Conditions: none. -/
import Derived.Test.YtgdlicpmbgodjaaGreatDoorG9
namespace Go.Abs
set_option linter.unusedVariables false
set_option linter.unusedSimpArgs false
def cntR (g : Gr) : Tu := g.1 ++ [bt (Lib.itoa (g.2.length : Int))]
section
variable (n : Nat) (gs : List Gr) (hg : GrOk gs)
include hg
theorem specC_l1 (hn : 1100000 ≤ n) (u : Re) (K : Re → Option Re) : ∀ (k i : Nat) (a : Int) (out : List Tu), i ≤ gs.length → gs.length - i < k → out.length ≤ i →
  spec_CountBy.l1 n gs u K k (i : Int) (a, out) = K (a, out ++ (gs.drop i).map cntR)
 | 0, i, a, out, hi, hk, _ => absurd hk (Nat.not_lt_zero _)
 | k + 1, i, a, out, hi, hk, hl => by
  have hlen := hg.1
  by_cases h : i < gs.length
  ·obtain ⟨g1, g2⟩ := hg.2 _ (List.getElem_mem h)
   have g6 := g1.1
   conv => lhs; unfold spec_CountBy.l1
   rw [if_pos (dlt h), if_pos (inl' h), getD_in _ h, if_pos (by simp [lim]; omega), if_pos (inl' h), numText n _ (by omega) (by omega) (by omega), Option.bind_some, if_pos (by simp [lim]; omega), if_pos (by show _ + 1 ≤ 4294967296; dsimp only; omega), wr1 (by omega)]
   rw [specC_l1 hn u K k (i + 1) a _ (by omega) (by omega) (by simp; omega), List.drop_eq_getElem_cons h, List.map_cons, List.append_assoc]
   rfl
  ·conv => lhs; unfold spec_CountBy.l1
   rw [if_neg (dnl h), List.drop_of_length_le (by omega)]
   simp
theorem implC_l1 (u : Re) (K : Re → Option Re) : ∀ (k i : Nat) (a : Int) (out : List Tu), i ≤ gs.length → gs.length - i < k → out.length ≤ i →
  impl_CountBy.l1 n (gs.length : Int) u gs K k (i : Int) (a, out) (i : Int) = K (a, out ++ (gs.drop i).map cntR)
 | 0, i, a, out, hi, hk, _ => absurd hk (Nat.not_lt_zero _)
 | k + 1, i, a, out, hi, hk, hl => by
  have hlen := hg.1
  by_cases h : i < gs.length
  ·obtain ⟨g1, g2⟩ := hg.2 _ (List.getElem_mem h)
   have g6 := g1.1
   conv => lhs; unfold impl_CountBy.l1
   unfold strconv_Itoa.F
   rw [if_pos (dlt h), if_pos (inl' h), if_pos (Int.le_refl _), getD_in _ h, if_pos (by omega), Option.bind_some, if_pos (by show _ + 1 ≤ 4294967296; omega), if_pos (by show _ + 1 ≤ 4294967296; dsimp only; omega), wr1 (by omega), show (i : Int) + 1 = ((i + 1 : Nat) : Int) by omega]
   rw [implC_l1 u K k (i + 1) a _ (by omega) (by omega) (by simp; omega), List.drop_eq_getElem_cons h, List.map_cons, List.append_assoc]
   rfl
  ·conv => lhs; unfold impl_CountBy.l1
   rw [if_neg (dnl h), List.drop_of_length_le (by omega)]
   simp
end
theorem count_eq (n m : Nat) (hn : 1100000 ≤ n) (hm : 1100000 ≤ m) (r : Re) (by_ : List Int) (hb : by_.length ≤ 1048576) (hsz : ∀ t ∈ r.2, ∀ s ∈ t, s.size ≤ 1048576) (hlen : ∀ t ∈ r.2, t.length ≤ 1048576) :
  ∃ w, spec_CountBy.F n r by_ = some w ∧ impl_CountBy.F m r by_ = some w ∧ (w = (0, []) ∨ w = ((by_.length : Int) + 1, (grpS (keyOf by_) r.2).map cntR) ∧ Right r by_ ∧ by_.length < 6 ∧ spec_l19Right.F n r by_ = some true) := by
 obtain ⟨b, b1, b2, b3⟩ := right_eq n m hn hm r by_ hb hsz hlen
 unfold spec_CountBy.F impl_CountBy.F
 rw [b1, b2]
 cases b with
 | false => exact ⟨(0, []), rfl, rfl, .inl rfl⟩
 | true =>
  have R := b3 rfl
  have b6 : by_.length ≤ 6 := by have := R.len; have := R.rel.base.2.1; omega
  simp only [Option.bind_some]
  by_cases e : by_.length = 6
  ·exact ⟨(0, []), by rw [if_pos (by simp), if_pos (by simp; omega)], by rw [if_pos (by simp), if_pos (by simp; omega)], .inl rfl⟩
  ·have ok := grp_ok R
   have hl := ok.1
   refine ⟨_, ?_, ?_, .inr ⟨rfl, R, by omega, by simp⟩⟩
   ·rw [if_pos (by simp), if_neg (by simp; omega)]
    unfold spec_CountBy.j0
    rw [specG_eq n hn r by_ R, b1, Option.bind_some, if_neg (by simp), Option.bind_some]
    have s := specC_l1 n _ ok hn (0, []) (fun out13 => some out13) n 0 (IntKind.i64.wrap ((by_.length : Int) + 1)) [] (Nat.zero_le _) (by omega) (by simp)
    rw [show ((0 : Nat) : Int) = 0 from rfl, List.drop_zero] at s
    rw [s, wrap64 _ (by omega) (by omega)]
    rfl
   ·rw [if_pos (by simp), if_neg (by simp; omega)]
    unfold impl_CountBy.j0
    rw [implG_eq m hm r by_ R, Option.bind_some]
    have s := implC_l1 m _ ok (0, []) (fun out13 => some out13) m 0 (IntKind.i64.wrap ((by_.length : Int) + 1)) [] (Nat.zero_le _) (by omega) (by simp)
    rw [show ((0 : Nat) : Int) = 0 from rfl, List.drop_zero] at s
    rw [s, wrap64 _ (by omega) (by omega)]
    rfl
end Go.Abs
