/- FnExactApply: the program's Apply and the reference's answer alike, for all arguments within the bound. Conditions: none. -/
import Derived.Test.YtgdlicpmbgodjaaGreatDoorH
import Derived.Test.YtgdlicpmbgodjaaGreatDoorW3
namespace Go.Abs
set_option linter.unusedVariables false
set_option linter.unusedSimpArgs false
theorem Z8V {α : Type} (f : α → Nat) (B : Nat) : ∀ (l : List α), (∀ x ∈ l, f x ≤ B) → (l.map f).sum ≤ l.length * B
 | [], _ => Nat.zero_le _
 | x :: l, h => by
  have h1 := h x List.mem_cons_self;have h2 := Z8V f B l (fun y hy => h y (List.mem_cons_of_mem _ hy));simp only [List.map_cons, List.sum_cons, List.length_cons, Nat.add_mul, Nat.one_mul];omega
theorem bulk_okT {t : List ByteArray} (h : okT t) : Kd.bulk (.sl .str) t ≤ 1207 := by
 have h1 : (t.map (Kd.bulk .str)).sum ≤ t.length * 201 := Z8V _ 201 t fun s hs => by
  obtain ⟨k, _, hz⟩ := h.2 s hs;show s.size + 1 ≤ 201;omega
 have h2 : Kd.bulk (.sl .str) t = (t.map (Kd.bulk .str)).sum + 1 := rfl;have h3 := h.1;have : t.length * 201 ≤ 6 * 201 := Nat.mul_le_mul_right _ h3;omega
theorem db_small (d : List (Int × List (List ByteArray))) (h : Kd.bulk (.st (.sl (.st (.pair (.int .i64) (.sl (.st (.sl (.str)))))))) d ≤ 1048576) :
  d.length ≤ 1048576 ∧ (∀ x ∈ d, ∀ t ∈ x.2, ∀ s ∈ t, s.size ≤ 1048576) ∧ ∀ x ∈ d, ∀ t ∈ x.2, t.length ≤ 1048576 := by
 have h0 := Z0m (e := .st (.pair (.int .i64) (.sl (.st (.sl (.str)))))) d;have h : (List.map (Kd.bulk (.st (.pair (.int .i64) (.sl (.st (.sl .str)))))) d).sum + 1 ≤ 1048576 := h;have hx : ∀ x ∈ d, Kd.bulk (.sl (.st (.sl .str))) x.2 ≤ 1048576 := by
  intro x hx;have h1 := Z0p (e := .st (.pair (.int .i64) (.sl (.st (.sl (.str)))))) (l := d) (x := x) hx;have h2 : Kd.bulk (.st (.pair (.int .i64) (.sl (.st (.sl (.str)))))) x = 1 + Kd.bulk (.sl (.st (.sl .str))) x.2 := rfl;omega
 have ht : ∀ x ∈ d, ∀ t ∈ x.2, Kd.bulk (.sl .str) t ≤ 1048576 := by
  intro x hx' t ht;have h1 := Z0p (e := .st (.sl (.str))) (l := x.2) (x := t) ht;have h2 : Kd.bulk (.sl (.st (.sl .str))) x.2 = (List.map (Kd.bulk (.st (.sl .str))) x.2).sum + 1 := rfl;have h3 := hx x hx';have h4 : Kd.bulk (.st (.sl .str)) t = Kd.bulk (.sl .str) t := rfl;omega
 refine ⟨by omega, fun x hx' t ht' s hs => ?_, fun x hx' t ht' => ?_⟩
 ·have h1 := Z0p (e := .str) (l := t) (x := s) hs
  have h2 : Kd.bulk (.sl .str) t = (List.map (Kd.bulk .str) t).sum + 1 := rfl;have h3 := ht x hx' t ht';have h4 : Kd.bulk .str s = s.size + 1 := rfl;omega
 ·have h1 := Z0m (e := .str) t
  have h2 : Kd.bulk (.sl .str) t = (List.map (Kd.bulk .str) t).sum + 1 := rfl;have h3 := ht x hx' t ht';omega
theorem ch_small (l : List Ch) (h : Kd.bulk (.sl (.st (.pair (.int .i64) (.pair (.st (.sl (.str))) (.bool))))) l ≤ 1048576) : l.length ≤ 1048576 ∧ ∀ c ∈ l, ∀ s ∈ c.2.1, s.size ≤ 1048576 := by
 have h0 := Z0m (e := .st (.pair (.int .i64) (.pair (.st (.sl (.str))) (.bool)))) l;have h2 : Kd.bulk (.sl (.st (.pair (.int .i64) (.pair (.st (.sl (.str))) (.bool))))) l = (List.map (Kd.bulk (.st (.pair (.int .i64) (.pair (.st (.sl (.str))) (.bool))))) l).sum + 1 := rfl;refine ⟨by omega, fun c hc s hs => ?_⟩;have h1 := Z0p (e := .st (.pair (.int .i64) (.pair (.st (.sl (.str))) (.bool)))) (l := l) (x := c) hc;have h3 : Kd.bulk (.st (.pair (.int .i64) (.pair (.st (.sl (.str))) (.bool)))) c = 1 + (Kd.bulk (.sl .str) c.2.1 + 1) := rfl;have h4 := Z0p (e := .str) (l := c.2.1) (x := s) hs;have h5 : Kd.bulk (.sl .str) c.2.1 = (List.map (Kd.bulk .str) c.2.1).sum + 1 := rfl;have h6 : Kd.bulk .str s = s.size + 1 := rfl;omega
theorem dbR_bulk {d : List Re} (D : DbR d) : Kd.bulk (.st (.sl (.st (.pair (.int .i64) (.sl (.st (.sl (.str)))))))) d ≤ 2147483648 := by
 have h1 : (List.map (Kd.bulk (.st (.pair (.int .i64) (.sl (.st (.sl (.str))))))) d).sum ≤ d.length * 483000 := Z8V _ 483000 d fun x hx => by
  have R := D.rel x hx;have h2 : (List.map (Kd.bulk (.st (.sl .str))) x.2).sum ≤ x.2.length * 1207 := Z8V _ 1207 x.2 fun t ht => bulk_okT (R.base.2.2.2 t ht)
  have h3 : Kd.bulk (.st (.pair (.int .i64) (.sl (.st (.sl (.str)))))) x = 1 + ((List.map (Kd.bulk (.st (.sl .str))) x.2).sum + 1) := rfl;have h4 := R.base.2.2.1;have : x.2.length * 1207 ≤ 400 * 1207 := Nat.mul_le_mul_right _ h4;omega
 have h2 : Kd.bulk (.st (.sl (.st (.pair (.int .i64) (.sl (.st (.sl (.str)))))))) d = (List.map (Kd.bulk (.st (.pair (.int .i64) (.sl (.st (.sl (.str))))))) d).sum + 1 := rfl;have h3 := D.len;have : d.length * 483000 ≤ 20 * 483000 := Nat.mul_le_mul_right _ h3;omega
theorem Z9m {n : Nat} (hn : big ≤ n) (a0 : List (Int × List (List ByteArray))) (a1 : List (Int × (List ByteArray) × Bool)) (ho0 : Kd.okv (.st (.sl (.st (.pair (.int .i64) (.sl (.st (.sl (.str)))))))) a0) (hb0 : Kd.bulk (.st (.sl (.st (.pair (.int .i64) (.sl (.st (.sl (.str)))))))) a0 ≤ 1048576) (ho1 : Kd.okv (.sl (.st (.pair (.int .i64) (.pair (.st (.sl (.str))) (.bool))))) a1) (hb1 : Kd.bulk (.sl (.st (.pair (.int .i64) (.pair (.st (.sl (.str))) (.bool))))) a1 ≤ 1048576) :
  ∃ w, spec_Apply.F n a0 a1 = some w ∧ impl_Apply.F n a0 a1 = some w ∧ Kd.bulk (.st (.sl (.st (.pair (.int .i64) (.sl (.st (.sl (.str)))))))) w.1 ≤ 2147483648 := by
 obtain ⟨h1, h2, h3⟩ := db_small a0 hb0;obtain ⟨k1, k2⟩ := ch_small a1 hb1;have hb : 1100000 ≤ n := by unfold big at hn; omega
 obtain ⟨w, w1, w2, w3⟩ := apply_eq n hb a0 h1 h2 h3 a1 k1 k2;refine ⟨w, w1, w2, ?_⟩;rcases w3 with e | D
 ·rw [e]
  show 1 ≤ 2147483648;omega
 ·exact dbR_bulk D
theorem law_laws_FnExactApply {n : Nat} (hn : big ≤ n) (a0 : List (Int × List (List ByteArray))) (a1 : List (Int × (List ByteArray) × Bool)) (ho0 : Kd.okv (.st (.sl (.st (.pair (.int .i64) (.sl (.st (.sl (.str)))))))) a0) (ho1 : Kd.okv (.sl (.st (.pair (.int .i64) (.pair (.st (.sl (.str))) (.bool))))) a1) (hb0 : Kd.bulk (.st (.sl (.st (.pair (.int .i64) (.sl (.st (.sl (.str)))))))) a0 ≤ 1048576) (hb1 : Kd.bulk (.sl (.st (.pair (.int .i64) (.pair (.st (.sl (.str))) (.bool))))) a1 ≤ 1048576) : laws_FnExactApply.F n a0 a1 = some true := by
 obtain ⟨w, hs, hi, hw⟩ := Z9m hn a0 a1 ho0 hb0 ho1 hb1;unfold laws_FnExactApply.F;refine Z3x (sz_Db hn _ (by first | omega | (simp only [Kd.bulk] at *; omega)) _) fun z1 => ?_
 split
 ·rfl
 refine Z3x (Z9U hn _ (by first | omega | (simp only [Kd.bulk] at *; omega)) _) fun z2 => ?_
 split
 ·rfl
 refine Z0Z (to_Db hn _ (by first | omega | (simp only [Kd.bulk] at *; omega))) ?_
 try dsimp only
 refine Z0Z (Z2o hn _ (by first | omega | (simp only [Kd.bulk] at *; omega))) ?_
 try dsimp only
 refine Z0Z hs ?_
 try dsimp only
 refine Z0Z (to_Db hn _ (by first | omega | (simp only [Kd.bulk] at *; omega))) ?_
 try dsimp only
 refine Z0Z (Z2o hn _ (by first | omega | (simp only [Kd.bulk] at *; omega))) ?_
 try dsimp only
 refine Z0Z hi ?_
 try dsimp only
 refine Z0Z (eq_Db hn _ (by first | omega | (simp only [Kd.bulk] at *; omega))) ?_
 try dsimp only
 rw [if_pos (by simp [Z0S])];rw [if_neg (by simp [Z0S])];unfold laws_FnExactApply.j0;refine Z0Z (to_Db hn _ (by first | omega | (simp only [Kd.bulk] at *; omega))) ?_
 try dsimp only
 refine Z0Z (eq_Db hn _ (by first | omega | (simp only [Kd.bulk] at *; omega))) ?_
 try dsimp only
 rw [if_neg (by simp [Z0S])];refine Z0Z (Z2o hn _ (by first | omega | (simp only [Kd.bulk] at *; omega))) ?_
 try dsimp only
 refine Z0Z (Z9v hn _ (by first | omega | (simp only [Kd.bulk] at *; omega))) ?_
 try dsimp only
 rw [if_neg (by simp [Z0S])];obtain ⟨q3, y3, a3, b3, c3, d3⟩ := mk_Db hn a0 (by first | omega | (simp only [Kd.bulk] at *; omega)) 1 (by omega) (by first | omega | (simp only [Kd.bulk] at *; omega));refine Z0Z a3 ?_
 try dsimp only
 obtain ⟨q4, y4, a4, b4, c4⟩ := Z9l hn a1 (by first | omega | (simp only [Kd.bulk] at *; omega)) q3 (by omega) (by first | omega | (simp only [Kd.bulk] at *; omega));refine Z0Z a4 ?_
 try dsimp only
 rw [if_pos (by simp only [decide_eq_false_iff_not]; omega)];refine Z0Z (eq_Db hn _ (by first | omega | (simp only [Kd.bulk] at *; omega))) ?_
 try dsimp only
 rw [if_pos (by simp [Z0S])];rw [if_neg (by simp [Z0S])];unfold laws_FnExactApply.j1;obtain ⟨q5, y5, a5, b5, c5, d5⟩ := mk_Db hn w.1 (by first | omega | (simp only [Kd.bulk] at *; omega)) 1 (by omega) (by first | omega | (simp only [Kd.bulk] at *; omega));refine Z0Z a5 ?_
 try dsimp only
 refine Z0Z d5 ?_
 try dsimp only
 rw [if_neg (by simp only [decide_eq_true_eq]; omega)];rw [if_neg (by simp [Z0S])];refine Z0Z (to_Db hn _ (by first | omega | (simp only [Kd.bulk] at *; omega))) ?_
 try dsimp only
 refine Z0Z (Z2o hn _ (by first | omega | (simp only [Kd.bulk] at *; omega))) ?_
 try dsimp only
 refine Z0Z hi ?_
 try dsimp only
 refine Z0Z (eq_Db hn _ (by first | omega | (simp only [Kd.bulk] at *; omega))) ?_
 try dsimp only
 rw [if_pos (by simp [Z0S])];rw [if_neg (by simp [Z0S])];unfold laws_FnExactApply.j2;refine Z0Z d5 ?_
 try dsimp only
 rw [if_neg (by simp only [decide_eq_true_eq]; omega)];rw [if_neg (by simp [Z0S])]
 all_goals rfl
end Go.Abs
