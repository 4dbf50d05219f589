/- The text of a rule; what is asked of its form. Conditions: none. -/
import Derived.Test.YtdjdgempjnlkeaaX2
namespace Go.Abs
def litB (E : List Ex) (l : Ex) : By :=
 if l.1 = 3 then (match kidsN l with | [a, b] => textOf E a ++ [32] ++ l.2.1.data.toList ++ [32] ++ textOf E b | _ => [])
 else (if l.1 = 2 then [33] else []) ++ l.2.1.data.toList ++ [40] ++ Lib.join ((kidsN l).map (textOf E)) [44, 32] ++ [41]
def ruleB (r : Ru) : By := litB r.1 r.2.1 ++ (if r.2.2 = [] then [] else [32, 58, 45, 32] ++ Lib.join (r.2.2.map (litB r.1)) [44, 32]) ++ [46]
def litsOf (r : Ru) : List Ex := r.2.1 :: r.2.2
def argsOfR (r : Ru) : List Nat := (litsOf r).flatMap kidsN
structure FormL (m : Nat) (l : Ex) : Prop where
 kind : 1 ≤ l.1 ∧ l.1 ≤ 3
 two : l.1 = 3 → l.2.2.length = 2
 arg : ∀ a ∈ l.2.2, 0 ≤ a ∧ a < (m : Int)
structure FormR (r : Ru) : Prop where
 few : r.1.length ≤ 60
 kind : ∀ e ∈ r.1, 1 ≤ e.1 ∧ e.1 ≤ 7
 nn : ∀ e ∈ r.1, ∀ k ∈ e.2.2, 0 ≤ k
 exps : FormE r.1
 head : r.2.1.1 = 1
 lits : ∀ l ∈ litsOf r, FormL r.1.length l
 once : ∀ j, j < r.1.length → (argsOfR r).count j + sumTo (fun k => (kidsN (r.1.getD k Ex0)).count j) r.1.length = 1
theorem FormR.tree {r : Ru} (h : FormR r) : Once r.1.length (fun k => kidsN (r.1.getD k Ex0)) (argsOfR r) (fun i => (textOf r.1 i).length) (fun i => ownN r.1 (r.1.getD i Ex0)) where
 low := h.exps.low
 arg := by
  intro a ha
  obtain ⟨l, hl, ha⟩ := List.mem_flatMap.1 ha
  obtain ⟨k, hk, rfl⟩ := List.mem_map.1 ha
  have := (h.lits l hl).arg k hk
  omega
 once := h.once
 len := fun i hi => text_len h.exps hi
theorem lit_ge {E : List Ex} {l : Ex} (h : FormL E.length l) : 1 + ((kidsN l).map fun a => (textOf E a).length).sum ≤ (litB E l).length := by
 unfold litB
 by_cases c : l.1 = 3
 ·rw [if_pos c]
  have hk : (kidsN l).length = 2 := by unfold kidsN; rw [List.length_map]; exact h.two c
  match hq : kidsN l, hk with
  | [a, b], _ =>
   simp only [List.map_cons, List.map_nil, List.sum_cons, List.sum_nil, List.length_append, List.length_cons, List.length_nil]
   omega
 ·rw [if_neg c]
  simp only [List.length_append, List.length_cons, List.length_nil, join_len, List.map_map]
  show _ ≤ _ + _ + _ + (((kidsN l).map (fun a => (textOf E a).length)).sum + _) + _
  omega
theorem lits_ge {E : List Ex} : ∀ {ls : List Ex}, (∀ l ∈ ls, FormL E.length l) → ls.length + ((ls.flatMap kidsN).map fun a => (textOf E a).length).sum ≤ ((ls.map (litB E)).map List.length).sum
 | [], _ => Nat.zero_le _
 | l :: ls, h => by
  have h1 := lit_ge (h l List.mem_cons_self)
  have h2 := lits_ge (ls := ls) fun x hx => h x (List.mem_cons_of_mem _ hx)
  simp only [List.flatMap_cons, List.map_append, List.sum_append, List.map_cons, List.sum_cons, List.length_cons]
  omega
theorem rule_ge {r : Ru} (h : FormR r) : r.2.2.length + ((argsOfR r).map fun a => (textOf r.1 a).length).sum ≤ (ruleB r).length := by
 have h1 := lits_ge h.lits
 unfold litsOf at h1
 unfold argsOfR litsOf ruleB
 simp only [List.map_cons, List.sum_cons, List.length_cons] at h1
 simp only [List.length_append, List.length_cons, List.length_nil]
 by_cases hb : r.2.2 = []
 ·rw [if_pos hb]
  rw [hb] at h1 ⊢
  simp only [List.map_nil, List.sum_nil, List.length_nil] at h1 ⊢
  omega
 ·rw [if_neg hb]
  simp only [List.length_append, join_len]
  omega
theorem exp_le {r : Ru} (h : FormR r) {i : Nat} (hi : i < r.1.length) : (textOf r.1 i).length ≤ (ruleB r).length := by
 have h1 := h.tree.each hi
 have h2 := h.tree.total
 have h3 := rule_ge h
 omega
end Go.Abs
