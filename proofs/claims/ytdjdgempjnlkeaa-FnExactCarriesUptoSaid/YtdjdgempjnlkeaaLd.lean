/- What a row's listed variables say of the library's variables. Conditions: none. -/
import Derived.Test.YtdjdgempjnlkeaaPl
import Derived.Lib.LaidTab
import Derived.LaidLaws
import Derived.ChangeArms
namespace Go.Abs
theorem heap_of_cell {w : World} {g : Nat} {v : Value} (h : w.cell? ⟨g, 0, none⟩ = some v) : ∃ cs t fr, w.heap[g]? = some (.cells cs t fr) ∧ cs[0]? = some v := by
 unfold World.cell? at h
 dsimp only at h
 split at h
 ·rename_i c t fr hh
  rw [if_neg (by simp)] at h
  exact ⟨c, t, fr, hh, h⟩
 ·cases h
theorem lt_of_heap {w : World} {g : Nat} {o : Go.Obj} (h : w.heap[g]? = some o) : g < w.heap.size := by
 rcases Nat.lt_or_ge g w.heap.size with hb | hb
 ·exact hb
 ·rw [Array.getElem?_eq_none hb] at h; cases h
end Go.Abs
