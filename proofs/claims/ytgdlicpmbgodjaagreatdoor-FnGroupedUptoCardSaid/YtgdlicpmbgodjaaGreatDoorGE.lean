/- The groups: both sides alike, and where there are any. Conditions: none. -/
import Derived.Test.YtgdlicpmbgodjaaGreatDoorG9
namespace Go.Abs
set_option linter.unusedVariables false
set_option linter.unusedSimpArgs false
theorem groups_eq (n m : Nat) (hn : 1100000 ≤ n) (hm : 1100000 ≤ m) (r : Re) (by_ : List Int) (hb : by_.length ≤ 1048576) (hsz : ∀ t ∈ r.2, ∀ s ∈ t, s.size ≤ 1048576) (hlen : ∀ t ∈ r.2, t.length ≤ 1048576) :
  ∃ w b, spec_GroupsOf.F n r by_ = some w ∧ impl_GroupsOf.F m r by_ = some w ∧ spec_l19Right.F n r by_ = some b ∧ (b = false ∧ w = [] ∨ b = true ∧ w = grpS (keyOf by_) r.2 ∧ Right r by_) := by
 obtain ⟨b, b1, b2, b3⟩ := right_eq n m hn hm r by_ hb hsz hlen
 cases b with
 | false =>
  refine ⟨[], false, ?_, ?_, b1, .inl ⟨rfl, rfl⟩⟩
  ·unfold spec_GroupsOf.F; rw [b1]; rfl
  ·unfold impl_GroupsOf.F; rw [b2]; rfl
 | true =>
  have R := b3 rfl
  refine ⟨grpS (keyOf by_) r.2, true, ?_, ?_, b1, .inr ⟨rfl, rfl, R⟩⟩
  ·rw [specG_eq n hn r by_ R, b1]; rfl
  ·unfold impl_GroupsOf.F; rw [b2, Option.bind_some, if_neg (by simp), implG_eq m hm r by_ R]; rfl
theorem code_ok {l : List Int} (h : Kd.okv (.sl (.int .u8)) l) : ∀ b ∈ l, 0 ≤ b ∧ b ≤ 255 := by
 intro b hb
 have h1 := h b hb
 have h1 : (Lit.int .u8 b).wf = true := h1
 have h2 : (decide (IntKind.u8.min ≤ b) && decide (b ≤ IntKind.u8.max)) = true := h1
 simp only [Bool.and_eq_true, decide_eq_true_eq] at h2
 exact h2
end Go.Abs
