/- FnExactBack: the program's Back and the reference's answer alike, for all arguments within the bound. Conditions: none. -/
import Derived.Test.YtpgedieoancjkaaH
namespace Go.Abs
set_option linter.unusedVariables false
set_option linter.unusedSimpArgs false

abbrev ChT : Type := Int × (List ByteArray) × Bool
def flipC (c : ChT) : ChT := (c.1, (c.2.1, !c.2.2))
def backC (l : List ChT) : List ChT := l.reverse.map flipC

theorem specBack_l (n : Nat) (L : List ChT) (hL : L.length ≤ 1048576) (ht : ∀ c ∈ L, c.2.1.length ≤ 1048576) (K : List ChT → Option (List ChT)) : ∀ (i k : Nat) (out : List ChT), i ≤ L.length → i < k → out.length + i ≤ 4294967296 →
    spec_Back.l0 n L K k ((i : Int) - 1) out = K (out ++ (L.take i).reverse.map flipC)
  | 0, 0, _, _, hk, _ => absurd hk (Nat.not_lt_zero _)
  | 0, k + 1, out, _, _, _ => by
    conv => lhs; unfold spec_Back.l0
    rw [if_neg (by simp)]
    simp
  | i + 1, 0, _, _, hk, _ => absurd hk (Nat.not_lt_zero _)
  | i + 1, k + 1, out, hi, hk, ho => by
    have h : i < L.length := by omega
    have e0 : ((i + 1 : Nat) : Int) - 1 = (i : Int) := by omega
    have hin : (0 : Int) ≤ (i : Int) ∧ (i : Int) < (L.length : Int) := by omega
    have eg : L.getD (Int.toNat (i : Int)) (0, ([], false)) = L[i] := by simp [h]
    have h6 := ht _ (List.getElem_mem h)
    have ht2 : spec_l02Tuple.F n L[i].2.1 = some L[i].2.1 := by
      unfold spec_l02Tuple.F
      rw [if_pos (by simp [lim]; omega), List.nil_append]
    conv => lhs; unfold spec_Back.l0
    rw [e0]
    simp only [if_pos hin, eg]
    rw [if_pos (by simp), ht2, Option.bind_some, if_pos (by simp [lim]; omega), wrap64 _ (by omega) (by omega), specBack_l n L hL ht K i k _ (by omega) (by omega) (by simp; omega), List.take_succ_eq_append_getElem h, List.reverse_append, List.append_assoc]
    rfl

theorem chS_small (l : List ChT) (h : Kd.bulk (.sl (.st (.pair (.int .i64) (.pair (.st (.sl (.str))) (.bool))))) l ≤ 1048576) : l.length ≤ 1048576 ∧ ∀ c ∈ l, c.2.1.length ≤ 1048576 := by
  have h0 := bulk_len (e := .st (.pair (.int .i64) (.pair (.st (.sl (.str))) (.bool)))) l
  have h2 : Kd.bulk (.sl (.st (.pair (.int .i64) (.pair (.st (.sl (.str))) (.bool))))) l = (List.map (Kd.bulk (.st (.pair (.int .i64) (.pair (.st (.sl (.str))) (.bool))))) l).sum + 1 := rfl
  refine ⟨by omega, fun c hc => ?_⟩
  have h1 := bulk_mem (e := .st (.pair (.int .i64) (.pair (.st (.sl (.str))) (.bool)))) (l := l) (x := c) hc
  have h3 : Kd.bulk (.st (.pair (.int .i64) (.pair (.st (.sl (.str))) (.bool)))) c = 1 + (Kd.bulk (.sl .str) c.2.1 + 1) := rfl
  have h4 := bulk_len (e := .str) c.2.1
  have h5 : Kd.bulk (.sl .str) c.2.1 = (List.map (Kd.bulk .str) c.2.1).sum + 1 := rfl
  omega

theorem sum_perm {α : Type} (f g : α → Nat) (h : ∀ x, f x = g x) : ∀ l : List α, (l.reverse.map f).sum = (l.map g).sum
  | [] => rfl
  | x :: l => by
    have := sum_perm f g h l
    simp only [List.reverse_cons, List.map_append, List.sum_append, List.map_cons, List.map_nil, List.sum_cons, List.sum_nil, this, h x]
    omega

theorem main_X {n : Nat} (hn : big ≤ n) (a0 : List (Int × (List ByteArray) × Bool)) (ho0 : Kd.okv (.sl (.st (.pair (.int .i64) (.pair (.st (.sl (.str))) (.bool))))) a0) (hb0 : Kd.bulk (.sl (.st (.pair (.int .i64) (.pair (.st (.sl (.str))) (.bool))))) a0 ≤ 1048576) :
    ∃ w, spec_Back.F n a0 = some w ∧ impl_Back.F n a0 = some w ∧ Kd.bulk (.sl (.st (.pair (.int .i64) (.pair (.st (.sl (.str))) (.bool))))) w ≤ 2147483648 := by
  obtain ⟨h1, h2⟩ := chS_small a0 hb0
  have hb : 1100000 ≤ n := by unfold big at hn; omega
  refine ⟨backC a0, ?_, ?_, ?_⟩
  · unfold spec_Back.F
    have := specBack_l n a0 h1 h2 (fun o => some o) a0.length n [] (Nat.le_refl _) (by omega) (by simp; omega)
    rw [wrap64 _ (by omega) (by omega), this, List.take_length]
    rfl
  · unfold impl_Back.F backF
    rw [if_pos ⟨by show a0.length ≤ 4294967296; omega, List.all_eq_true.2 fun c hc => by
      have := h2 c hc
      show decide (c.2.1.length ≤ 4294967296) = true
      exact decide_eq_true (by omega)⟩]
    rfl
  · have e : Kd.bulk (.sl (.st (.pair (.int .i64) (.pair (.st (.sl (.str))) (.bool))))) (backC a0) = Kd.bulk (.sl (.st (.pair (.int .i64) (.pair (.st (.sl (.str))) (.bool))))) a0 := by
      rw [bulk_sl, bulk_sl]
      unfold backC
      rw [List.map_map]
      exact congrArg (· + 1) (sum_perm _ _ (fun x => rfl) a0)
    omega

theorem law_laws_FnExactBack {n : Nat} (hn : big ≤ n) (a0 : List (Int × (List ByteArray) × Bool)) (ho0 : Kd.okv (.sl (.st (.pair (.int .i64) (.pair (.st (.sl (.str))) (.bool))))) a0) (hb0 : Kd.bulk (.sl (.st (.pair (.int .i64) (.pair (.st (.sl (.str))) (.bool))))) a0 ≤ 1048576) : laws_FnExactBack.F n a0 = some true := by
  obtain ⟨w, hs, hi, hw⟩ := main_X hn a0 ho0 hb0
  unfold laws_FnExactBack.F
  refine bind_some_of (sz_ChangeS hn _ (by first | omega | (simp only [Kd.bulk] at *; omega)) _) fun z1 => ?_
  split
  · rfl
  refine bind_eq (to_ChangeS hn _ (by first | omega | (simp only [Kd.bulk] at *; omega))) ?_
  try dsimp only
  refine bind_eq hs ?_
  try dsimp only
  refine bind_eq (to_ChangeS hn _ (by first | omega | (simp only [Kd.bulk] at *; omega))) ?_
  try dsimp only
  refine bind_eq hi ?_
  try dsimp only
  refine bind_eq (eq_ChangeS hn _ (by first | omega | (simp only [Kd.bulk] at *; omega))) ?_
  try dsimp only
  rw [if_neg (by simp [seq_refl])]
  refine bind_eq (to_ChangeS hn _ (by first | omega | (simp only [Kd.bulk] at *; omega))) ?_
  try dsimp only
  refine bind_eq (eq_ChangeS hn _ (by first | omega | (simp only [Kd.bulk] at *; omega))) ?_
  try dsimp only
  rw [if_neg (by simp [seq_refl])]
  obtain ⟨q2, y2, a2, b2, c2, d2⟩ := mk_ChangeS hn a0 (by first | omega | (simp only [Kd.bulk] at *; omega)) 1 (by omega) (by first | omega | (simp only [Kd.bulk] at *; omega))
  refine bind_eq a2 ?_
  try dsimp only
  rw [if_pos (by simp only [decide_eq_false_iff_not]; omega)]
  refine bind_eq (eq_ChangeS hn _ (by first | omega | (simp only [Kd.bulk] at *; omega))) ?_
  try dsimp only
  rw [if_neg (by simp [seq_refl])]
  unfold laws_FnExactBack.j0
  obtain ⟨q3, y3, a3, b3, c3, d3⟩ := mk_ChangeS hn w (by first | omega | (simp only [Kd.bulk] at *; omega)) 1 (by omega) (by first | omega | (simp only [Kd.bulk] at *; omega))
  refine bind_eq a3 ?_
  try dsimp only
  refine bind_eq d3 ?_
  try dsimp only
  rw [if_neg (by simp only [decide_eq_true_eq]; omega)]
  rw [if_neg (by simp [seq_refl])]
  refine bind_eq (to_ChangeS hn _ (by first | omega | (simp only [Kd.bulk] at *; omega))) ?_
  try dsimp only
  refine bind_eq hi ?_
  try dsimp only
  refine bind_eq (eq_ChangeS hn _ (by first | omega | (simp only [Kd.bulk] at *; omega))) ?_
  try dsimp only
  rw [if_neg (by simp [seq_refl])]
  refine bind_eq d3 ?_
  try dsimp only
  rw [if_neg (by simp only [decide_eq_true_eq]; omega)]
  rw [if_neg (by simp [seq_refl])]
  all_goals rfl


end Go.Abs
