/- The text of a tree of exps that is laid in a list. Conditions: none. -/
import Derived.Lib.Join
import Derived.Test.YtdjdgempjnlkeaaX1
namespace Go.Abs
abbrev By : Type := List UInt8
abbrev Ex : Type := Int × ByteArray × List Int
abbrev Ru : Type := List Ex × Ex × List Ex
abbrev Ex0 : Ex := (0, ByteArray.empty, [])
def kidsN (e : Ex) : List Nat := e.2.2.map Int.toNat
def opB (k : Int) : By := if k = 5 then [32, 43, 32] else if k = 6 then [32, 45, 32] else [32, 42, 32]
def sumK (k : Int) : Bool := decide (5 ≤ k) && decide (k ≤ 7)
def sideB (k : Int) (t : By) : By := if sumK k = true then [40] ++ t ++ [41] else t
def exB (kd : Nat → Int) (tb : Nat → By) (e : Ex) : By :=
 if e.1 = 2 then [95]
 else if e.1 = 4 ∧ e.2.2 ≠ [] then e.2.1.data.toList ++ [40] ++ Lib.join ((kidsN e).map tb) [44, 32] ++ [41]
 else if sumK e.1 = true then match kidsN e with
  | [a, b] => sideB (kd a) (tb a) ++ opB e.1 ++ sideB (kd b) (tb b)
  | _ => []
 else e.2.1.data.toList
def kindAt (E : List Ex) (i : Nat) : Int := (E.getD i Ex0).1
def textF (E : List Ex) : Nat → Nat → By
 | 0, _ => []
 | f + 1, i => exB (kindAt E) (textF E f) (E.getD i Ex0)
def textOf (E : List Ex) (i : Nat) : By := textF E (i + 1) i
theorem exB_congr {kd : Nat → Int} {t1 t2 : Nat → By} {e : Ex} (h : ∀ k ∈ kidsN e, t1 k = t2 k) : exB kd t1 e = exB kd t2 e := by
 unfold exB
 split
 ·rfl
 ·split
  ·rw [List.map_congr_left h]
  ·split
   ·split
    ·rename_i a b hk
     rw [h a (by rw [hk]; simp), h b (by rw [hk]; simp)]
    ·rfl
   ·rfl
def LowK (E : List Ex) : Prop := ∀ i, i < E.length → ∀ k ∈ kidsN (E.getD i Ex0), k < i
theorem textF_eq {E : List Ex} (h : LowK E) : ∀ (f i : Nat), i < f → i < E.length → textF E f i = textOf E i
 | 0, i, hi, _ => absurd hi (Nat.not_lt_zero _)
 | f + 1, i, hi, hE => by
  show exB _ _ _ = exB _ _ _
  refine exB_congr fun k hk => ?_
  have := h i hE k hk
  rw [textF_eq h f k (by omega) (by omega), textF_eq h i k this (by omega)]
termination_by f i => f + i
theorem textOf_eq {E : List Ex} (h : LowK E) {i : Nat} (hi : i < E.length) : textOf E i = exB (kindAt E) (textOf E) (E.getD i Ex0) := by
 show exB _ _ _ = exB _ _ _
 refine exB_congr fun k hk => ?_
 have := h i hi k hk
 exact textF_eq h i k this (by omega)
theorem join_len (sep : By) : ∀ (l : List By), (Lib.join l sep).length = (l.map List.length).sum + sep.length * (l.length - 1)
 | [] => rfl
 | [x] => by rw [Lib.join_one]; simp
 | x :: y :: r => by
  have h := Lib.join_length x (y :: r) sep
  rw [h, show (x :: y :: r).length - 1 = (y :: r).length from rfl]
  unfold Lib.lens
  exact Nat.add_comm _ _
def ownN (E : List Ex) (e : Ex) : Nat :=
 if e.1 = 2 then 1
 else if e.1 = 4 ∧ e.2.2 ≠ [] then e.2.1.data.toList.length + 2 + 2 * (e.2.2.length - 1)
 else if sumK e.1 = true then 3 + ((kidsN e).map fun k => if sumK (kindAt E k) = true then 2 else 0).sum
 else e.2.1.data.toList.length
theorem sum_side (E : List Ex) (t : Nat → By) : ∀ l : List Nat, (l.map fun k => (sideB (kindAt E k) (t k)).length).sum = (l.map fun k => if sumK (kindAt E k) = true then 2 else 0).sum + (l.map fun k => (t k).length).sum
 | [] => rfl
 | k :: l => by
  have h := sum_side E t l
  simp only [List.map_cons, List.sum_cons, h]
  unfold sideB
  split <;> simp <;> omega
structure FormE (E : List Ex) : Prop where
 low : LowK E
 leaf : ∀ i, i < E.length → (E.getD i Ex0).1 ≠ 4 → sumK (E.getD i Ex0).1 = false → (E.getD i Ex0).2.2 = []
 two : ∀ i, i < E.length → sumK (E.getD i Ex0).1 = true → (E.getD i Ex0).2.2.length = 2
theorem text_len {E : List Ex} (h : FormE E) {i : Nat} (hi : i < E.length) : (textOf E i).length = ownN E (E.getD i Ex0) + ((kidsN (E.getD i Ex0)).map fun k => (textOf E k).length).sum := by
 rw [textOf_eq h.low hi]
 have h1 := h.leaf i hi
 have h2 := h.two i hi
 generalize E.getD i Ex0 = e at h1 h2 ⊢
 unfold exB ownN
 by_cases c2 : e.1 = 2
 ·rw [if_pos c2, if_pos c2]
  have : e.2.2 = [] := h1 (by omega) (by rw [c2]; rfl)
  simp [kidsN, this]
 ·rw [if_neg c2, if_neg c2]
  by_cases c4 : e.1 = 4 ∧ e.2.2 ≠ []
  ·rw [if_pos c4, if_pos c4]
   simp only [List.length_append, List.length_cons, List.length_nil, join_len, List.map_map]
   have : (kidsN e).length = e.2.2.length := List.length_map ..
   simp only [List.length_map, this]
   show _ + _ + (((kidsN e).map (fun k => (textOf E k).length)).sum + _) + _ = _
   omega
  ·rw [if_neg c4, if_neg c4]
   by_cases cs : sumK e.1 = true
   ·rw [if_pos cs, if_pos cs]
    have hk : (kidsN e).length = 2 := by unfold kidsN; rw [List.length_map]; exact h2 cs
    match hq : kidsN e, hk with
    | [a, b], _ =>
     have := sum_side E (textOf E) [a, b]
     simp only [List.map_cons, List.map_nil, List.sum_cons, List.sum_nil, List.length_append] at this ⊢
     have ho : (opB e.1).length = 3 := by
      unfold opB
      split
      ·rfl
      ·split <;> rfl
     omega
   ·rw [if_neg cs, if_neg cs]
    by_cases hk : e.2.2 = []
    ·simp [kidsN, hk]
    ·have : e.1 ≠ 4 := fun e4 => c4 ⟨e4, hk⟩
     exact absurd (h1 this (by simpa using cs)) hk
end Go.Abs
