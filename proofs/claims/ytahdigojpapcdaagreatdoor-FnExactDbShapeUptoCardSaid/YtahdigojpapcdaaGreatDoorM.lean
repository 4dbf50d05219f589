/- FnExactDbShape: the program's DbShape and the reference's answer alike, for all arguments within the bound. Conditions: none. -/
import Derived.Test.YtahdigojpapcdaaGreatDoorH
import Derived.Test.YtahdigojpapcdaaGreatDoorT9
namespace Go.Abs
set_option linter.unusedVariables false
set_option linter.unusedSimpArgs false

/-- What a Db's bulk says of its texts. -/
theorem db_small (d : List (Int × List (List ByteArray))) (h : Kd.bulk (.st (.sl (.st (.pair (.int .i64) (.sl (.st (.sl (.str)))))))) d ≤ 1048576) :
    d.length ≤ 1048576 ∧ (∀ x ∈ d, ∀ t ∈ x.2, ∀ s ∈ t, s.size ≤ 1048576) ∧ ∀ x ∈ d, ∀ t ∈ x.2, t.length ≤ 1048576 := by
  have h0 := bulk_len (e := .st (.pair (.int .i64) (.sl (.st (.sl (.str)))))) d
  have h : (List.map (Kd.bulk (.st (.pair (.int .i64) (.sl (.st (.sl .str)))))) d).sum + 1 ≤ 1048576 := h
  have hx : ∀ x ∈ d, Kd.bulk (.sl (.st (.sl .str))) x.2 ≤ 1048576 := by
    intro x hx
    have h1 := bulk_mem (e := .st (.pair (.int .i64) (.sl (.st (.sl (.str)))))) (l := d) (x := x) hx
    have h2 : Kd.bulk (.st (.pair (.int .i64) (.sl (.st (.sl (.str)))))) x = 1 + Kd.bulk (.sl (.st (.sl .str))) x.2 := rfl
    omega
  have ht : ∀ x ∈ d, ∀ t ∈ x.2, Kd.bulk (.sl .str) t ≤ 1048576 := by
    intro x hx' t ht
    have h1 := bulk_mem (e := .st (.sl (.str))) (l := x.2) (x := t) ht
    have h2 : Kd.bulk (.sl (.st (.sl .str))) x.2 = (List.map (Kd.bulk (.st (.sl .str))) x.2).sum + 1 := rfl
    have h3 := hx x hx'
    have h4 : Kd.bulk (.st (.sl .str)) t = Kd.bulk (.sl .str) t := rfl
    omega
  refine ⟨by omega, fun x hx' t ht' s hs => ?_, fun x hx' t ht' => ?_⟩
  · have h1 := bulk_mem (e := .str) (l := t) (x := s) hs
    have h2 : Kd.bulk (.sl .str) t = (List.map (Kd.bulk .str) t).sum + 1 := rfl
    have h3 := ht x hx' t ht'
    have h4 : Kd.bulk .str s = s.size + 1 := rfl
    omega
  · have h1 := bulk_len (e := .str) t
    have h2 : Kd.bulk (.sl .str) t = (List.map (Kd.bulk .str) t).sum + 1 := rfl
    have h3 := ht x hx' t ht'
    omega

theorem main_DbShape {n : Nat} (hn : big ≤ n) (a0 : List (Int × List (List ByteArray))) (ho0 : Kd.okv (.st (.sl (.st (.pair (.int .i64) (.sl (.st (.sl (.str)))))))) a0) (hb0 : Kd.bulk (.st (.sl (.st (.pair (.int .i64) (.sl (.st (.sl (.str)))))))) a0 ≤ 1048576) :
    ∃ w, spec_DbShape.F n a0 = some w ∧ impl_DbShape.F n a0 = some w ∧ True := by
  obtain ⟨h1, h2, h3⟩ := db_small a0 hb0
  have hb : 1100000 ≤ n := by unfold big at hn; omega
  obtain ⟨b, b1, b2, _⟩ := db_eq n n hb hb a0 h1 h2 h3
  refine ⟨b, b1, ?_, trivial⟩
  unfold impl_DbShape.F
  rw [b2]
  rfl

theorem law_laws_FnExactDbShape {n : Nat} (hn : big ≤ n) (a0 : List (Int × List (List ByteArray))) (ho0 : Kd.okv (.st (.sl (.st (.pair (.int .i64) (.sl (.st (.sl (.str)))))))) a0) (hb0 : Kd.bulk (.st (.sl (.st (.pair (.int .i64) (.sl (.st (.sl (.str)))))))) a0 ≤ 1048576) : laws_FnExactDbShape.F n a0 = some true := by
  obtain ⟨w, hs, hi, hw⟩ := main_DbShape hn a0 ho0 hb0
  unfold laws_FnExactDbShape.F
  refine bind_some_of (sz_Db hn _ (by first | omega | (simp only [Kd.bulk] at *; omega)) _) fun z1 => ?_
  split
  · rfl
  refine bind_eq (to_Db hn _ (by first | omega | (simp only [Kd.bulk] at *; omega))) ?_
  try dsimp only
  refine bind_eq hs ?_
  try dsimp only
  refine bind_eq (to_Db hn _ (by first | omega | (simp only [Kd.bulk] at *; omega))) ?_
  try dsimp only
  refine bind_eq hi ?_
  try dsimp only
  rw [if_neg (by simp [seq_refl])]
  refine bind_eq (to_Db hn _ (by first | omega | (simp only [Kd.bulk] at *; omega))) ?_
  try dsimp only
  refine bind_eq (eq_Db hn _ (by first | omega | (simp only [Kd.bulk] at *; omega))) ?_
  try dsimp only
  rw [if_neg (by simp [seq_refl])]
  all_goals rfl

end Go.Abs
