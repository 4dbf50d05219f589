/- The sums of groups: both sides alike. Conditions: none. -/
import Derived.Test.YtgdlicpmbgodjaaGreatDoorG9
namespace Go.Abs
set_option linter.unusedVariables false
set_option linter.unusedSimpArgs false
open Classical in
noncomputable def numV (s : ByteArray) : Option Int := if h : ∃ x : Int, -1000000 ≤ x ∧ x ≤ 1000000 ∧ s.data.toList = Lib.itoa x then some (Classical.choose h) else none
theorem itoa_inj {x y : Int} (h0 : -1000000 ≤ x) (h1 : x ≤ 1000000) (h2 : -1000000 ≤ y) (h3 : y ≤ 1000000) (h : Lib.itoa x = Lib.itoa y) : x = y := by
 have a := atoi_itoa x h0 h1
 have b := atoi_itoa y h2 h3
 rw [h, b] at a
 cases a
 rfl
theorem numV_some {s : ByteArray} {x : Int} (h0 : -1000000 ≤ x) (h1 : x ≤ 1000000) (h : s.data.toList = Lib.itoa x) : numV s = some x := by
 have he : ∃ x : Int, -1000000 ≤ x ∧ x ≤ 1000000 ∧ s.data.toList = Lib.itoa x := ⟨x, h0, h1, h⟩
 unfold numV
 rw [dif_pos he]
 obtain ⟨a, b, c⟩ := Classical.choose_spec he
 rw [itoa_inj a b h0 h1 (c.symm.trans h)]
theorem numV_is {s : ByteArray} {x : Int} (h : numV s = some x) : -1000000 ≤ x ∧ x ≤ 1000000 ∧ s.data.toList = Lib.itoa x := by
 unfold numV at h
 split at h
 ·rename_i he
  cases h
  exact Classical.choose_spec he
 ·cases h
theorem termNum_eq (n : Nat) (hn : 25 ≤ n) (s : ByteArray) : spec_TermNum.F n s = some (match numV s with | some x => (x, true) | none => (0, false)) := by
 obtain ⟨v, ok, h1, h2, h3⟩ := l01Number n s.data.toList hn
 rw [← bt_of] at h1
 unfold spec_TermNum.F
 rw [h1, Option.bind_some]
 cases ok with
 | true =>
  obtain ⟨a, b, c⟩ := h3 rfl
  rw [numV_some b c a]
  rfl
 | false =>
  have : numV s = none := by
   cases hv : numV s with
   | none => rfl
   | some x =>
    obtain ⟨a, b, c⟩ := numV_is hv
    have := h2.2 ⟨x, a, b, c⟩
    cases this
  rw [this]
  rfl
end Go.Abs
