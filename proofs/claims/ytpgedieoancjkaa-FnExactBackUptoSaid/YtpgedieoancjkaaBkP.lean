/- slices.Backward and the changes back: plain facts of what is owned. Conditions: none. -/
import Derived.Test.YtpgedieoancjkaaA4
set_option linter.unusedVariables false
namespace Go.Abs

abbrev CHK : Kd := .st (.pair (.int .i64) (.pair (.st (.sl .str)) .bool))
/-- How a change is owned whole. -/
abbrev mB : Md := .pr .ro (.pr (.own .ro) .ro)
def backF (xs : List CHK.T) : Option (List CHK.T) :=
  if xs.length ≤ lim ∧ xs.all (fun c => decide (c.2.1.length ≤ lim)) = true then some (xs.reverse.map fun c => (c.1, (c.2.1, !c.2.2))) else none

theorem ro_chk {S : Nat → Prop} {w : World} {x : CHK.T} {cs : List Value} (h : RO S w CHK x cs) :
    ∃ A cap, cs = [.int .i64 x.1, .slice A x.2.1.length cap, .bool x.2.2] ∧ RO S w (.sl .str) x.2.1 [.slice A x.2.1.length cap] := by
  obtain ⟨c1, c2, rfl, h1, c3, c4, rfl, h2, h3⟩ := (show RO S w (.pair (.int .i64) (.pair (.st (.sl .str)) .bool)) x cs from h)
  have h1 : c1 = [.int .i64 x.1] := h1
  have h3 : c4 = [.bool x.2.2] := h3
  obtain ⟨A, cap, rfl, hl, he⟩ := (show RO S w (.sl .str) x.2.1 c3 from h2)
  subst h1 h3
  exact ⟨A, cap, rfl, A, cap, rfl, hl, he⟩

theorem chk_ro {S : Nat → Prop} {w : World} {r : Int} {t : List ByteArray} {b : Bool} {sv : Value} (h : RO S w (.sl .str) t [sv]) : RO S w CHK (r, (t, b)) [.int .i64 r, sv, .bool b] :=
  show RO S w (.pair (.int .i64) (.pair (.st (.sl .str)) .bool)) _ _ from ⟨[.int .i64 r], [sv, .bool b], rfl, rfl, [sv], [.bool b], rfl, h, rfl⟩

/-- One block is enough. -/
theorem own_one {T : Nat → Prop} {W : World} {K : Kd} {xs : List K.T} {cs : List Value} {F : Nat → Prop} (h : Own T W (.sl K) (.own .ro) xs cs F) (hne : 0 < xs.length) :
    ∃ fb, F fb ∧ (∃ o v, W.cell? ⟨fb, o, none⟩ = some v) ∧ Own T W (.sl K) (.own .ro) xs cs (fun b => b = fb) := by
  obtain ⟨A, cap, rfl, hl, hn, hr, G, hG, hG1, hG2, he⟩ := h
  cases A with
  | none => have := hn rfl; omega
  | some ad =>
    obtain ⟨h1, h2, h3⟩ := hr ad rfl
    have hp := K.size_pos
    have : 0 < cap * K.size := Nat.mul_pos (by omega) hp
    obtain ⟨v, hv⟩ := (h3 0).1 this
    refine ⟨ad.block, h2, ⟨_, v, hv⟩, ad, cap, rfl, hl, hn, fun ad' e => ?_, fun _ _ => False, fun _ _ h => h.elim, fun _ _ _ h => h, fun _ _ _ _ h => h.elim, fun i hi => ?_⟩
    · cases e
      exact ⟨h1, rfl, h3⟩
    · obtain ⟨b, o, vs, hA, hc, ho⟩ := he i hi
      exact ⟨b, o, vs, hA, hc, Own.ro.2 (Own.ro.1 ho)⟩

/-- The elements, and one for each place beyond. -/
def atC (L : List Value) (n i : Nat) : List Value := if i < n then elemAt L 3 i else CHK.zc
theorem ro_all {S : Nat → Prop} {w : World} {xs : List CHK.T} {L : List Value} (h : ∀ i (h : i < xs.length), RO S w CHK xs[i] (elemAt L 3 i)) (i : Nat) : RO S w CHK (xs.getD i CHK.zero) (atC L xs.length i) := by
  unfold atC
  by_cases hi : i < xs.length
  · rw [if_pos hi]
    have e : xs.getD i CHK.zero = xs[i] := by simp [hi]
    rw [e]
    exact h i hi
  · rw [if_neg hi]
    have e : xs.getD i CHK.zero = CHK.zero := by simp [List.getD_eq_getElem?_getD, List.getElem?_eq_none (Nat.le_of_not_lt hi)]
    rw [e]
    exact RO.zero CHK

theorem upto_back {α : Type} (xs : List α) (d : α) : ((List.range xs.length).map fun k => xs.getD (xs.length - 1 - k) d) = xs.reverse := by
  apply List.ext_getElem
  · simp
  · intro i h1 h2
    simp only [List.length_map, List.length_range] at h1
    rw [List.getElem_map, List.getElem_range, List.getElem_reverse]
    have : xs.length - 1 - i < xs.length := by omega
    simp [this]
end Go.Abs
