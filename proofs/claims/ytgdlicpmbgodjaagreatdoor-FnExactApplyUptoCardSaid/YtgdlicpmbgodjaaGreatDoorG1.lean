/- Keys of rows; rows put in order. Conditions: none. -/
import Derived.Test.YtgdlicpmbgodjaaGreatDoorT13
namespace Go.Abs
set_option linter.unusedVariables false
set_option linter.unusedSimpArgs false
def Z6Z (t : Tu) : List Tu → List Tu
 | [] => [t]
 | x :: r => if tpc x t < 0 then x :: Z6Z t r else if tpc x t = 0 then x :: r else t :: x :: r
theorem Z6J {t : Tu} : ∀ {l : List Tu}, (∀ x ∈ l, ∀ s ∈ x, okS s) → (∀ s ∈ t, okS s) → ∀ y, y ∈ Z6Z t l ↔ y = t ∨ y ∈ l
 | [], _, _, y => by simp [Z6Z]
 | x :: r, h, ht, y => by
  have ih := Z6J (t := t) (l := r) (fun z hz => h z (List.mem_cons_of_mem _ hz)) ht y;unfold Z6Z
  split
  ·rw [List.mem_cons, ih, List.mem_cons]
   constructor
   ·rintro (h | h | h)
    ·exact .inr (.inl h)
    ·exact .inl h
    ·exact .inr (.inr h)
   ·rintro (h | h | h)
    ·exact .inr (.inl h)
    ·exact .inl h
    ·exact .inr (.inr h)
  ·split
   ·rename_i h0
    have : x = t := (tpc_ord.zero x t (h x List.mem_cons_self) ht).1 h0;rw [this]
    simp
   ·simp
theorem Z8u {t : Tu} : ∀ {l : List Tu}, (∀ x ∈ l, ∀ s ∈ x, okS s) → (∀ s ∈ t, okS s) → srt l → srt (Z6Z t l)
 | [], _, _, _ => List.pairwise_singleton _ _
 | x :: r, h, ht, hs => by
  obtain ⟨h1, h2⟩ := List.pairwise_cons.1 hs;have hx := h x List.mem_cons_self;have hr : ∀ z ∈ r, ∀ s ∈ z, okS s := fun z hz => h z (List.mem_cons_of_mem _ hz)
  unfold Z6Z
  split
  ·rename_i hlt
   refine List.pairwise_cons.2 ⟨fun y hy => ?_, Z8u hr ht h2⟩;rcases (Z6J hr ht y).1 hy with rfl | hy
   ·exact hlt
   ·exact h1 y hy
  ·split
   ·exact hs
   ·rename_i h3 h4
    have hn := tpc_ord.neg x t hx ht;have htx : tpc t x < 0 := by
     have : tpc x t > 0 := by omega
     show Z3p bc t x < 0;have e : Z3p bc t x = - tpc x t := hn;omega
    refine List.pairwise_cons.2 ⟨fun y hy => ?_, hs⟩;rcases List.mem_cons.1 hy with rfl | hy
    ·exact htx
    ·exact tpc_ord.trans t x y ht hx (hr y hy) htx (h1 y hy)
end Go.Abs
