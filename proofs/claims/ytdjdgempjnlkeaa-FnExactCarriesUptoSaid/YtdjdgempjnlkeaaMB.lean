/- What both sides answer of a rule's form. Conditions: none. -/
import Derived.Test.YtdjdgempjnlkeaaY6
import Derived.Test.YtdjdgempjnlkeaaPl
namespace Go.Abs
set_option linter.unusedVariables false
set_option linter.unusedSimpArgs false
abbrev KEx : Kd := .st (.pair (.int .i64) (.pair (.str) (.sl (.int .i64))))
abbrev KRu : Kd := .st (.pair (.sl KEx) (.pair KEx (.sl KEx)))
theorem sum_ones : ∀ l : List Int, (l.map (Kd.bulk (.int .i64))).sum = l.length
 | [] => rfl
 | x :: l => by
  simp only [List.map_cons, List.sum_cons, List.length_cons, sum_ones l]
  simp only [Kd.bulk]
  omega
theorem bulk_ex (e : Ex) : Kd.bulk KEx e = bx e := by
 have h : Kd.bulk (.sl (.int .i64)) e.2.2 = e.2.2.length + 1 := by rw [bulk_sl]; exact congrArg (· + 1) (sum_ones e.2.2)
 have h1 : Kd.bulk KEx e = Kd.bulk (.int .i64) e.1 + (Kd.bulk .str e.2.1 + Kd.bulk (.sl (.int .i64)) e.2.2) := rfl
 rw [h1, h]
 unfold bx
 have h2 : Kd.bulk (.int .i64) e.1 = 1 := rfl
 have h3 : Kd.bulk .str e.2.1 = e.2.1.size + 1 := rfl
 rw [h2, h3]
 omega
theorem bulk_ru (r : Ru) : Kd.bulk KRu r = bxR r + 2 := by
 have e : ∀ l : List Ex, (l.map (Kd.bulk KEx)).sum = (l.map bx).sum := fun l => by rw [List.map_congr_left fun x _ => bulk_ex x]
 have h : Kd.bulk KRu r = Kd.bulk (.sl KEx) r.1 + (Kd.bulk KEx r.2.1 + Kd.bulk (.sl KEx) r.2.2) := rfl
 rw [h, bulk_sl, bulk_sl, e, e, bulk_ex]
 unfold bxR
 omega
theorem bx_def (e : Ex) : bx e = 3 + e.2.1.size + e.2.2.length := rfl
theorem bxR_def (r : Ru) : bxR r = (r.1.map bx).sum + bx r.2.1 + (r.2.2.map bx).sum := rfl
theorem len_bx : ∀ l : List Ex, l.length ≤ (l.map bx).sum
 | [] => Nat.le_refl _
 | x :: l => by
  have := len_bx l
  simp only [List.map_cons, List.sum_cons, List.length_cons]
  have := bx_def x
  omega
theorem smT_of {r : Ru} (h : Kd.bulk KRu r ≤ 1048576) : SmT r := by
 rw [bulk_ru] at h
 have h1 := len_bx r.1
 have h2 := len_bx r.2.2
 have hx : ∀ e ∈ r.1, bx e ≤ bxR r := fun e he => by have := sum_mem bx he; unfold bxR; omega
 have hl : ∀ l ∈ litsOf r, bx l ≤ bxR r := fun l hl => by
  unfold bxR
  rcases List.mem_cons.1 hl with rfl | hl
  ·omega
  ·have := sum_mem bx hl
   omega
 have hR := bxR_def r
 refine ⟨⟨by omega, by omega, fun e he => ?_, fun l hl' => ?_, by omega⟩, fun e he => ?_, fun l hl' => ?_⟩
 ·have := hx e he; have := bx_def e; omega
 ·have := hl l hl'; have := bx_def l; omega
 ·have := hx e he; have := bx_def e; omega
 ·have := hl l hl'; have := bx_def l; omega
theorem seq_dec (a b : ByteArray) : Abs.seq a b = decide (a = b) := by
 rw [bt_of a, bt_of b, bt_seq]
 by_cases h : a.data.toList = b.data.toList
 ·rw [h]; simp
 ·have : ¬ bt a.data.toList = bt b.data.toList := fun e => h (by have := congrArg (fun x => x.data.toList) e; simpa [bt_list] using this)
  rw [decide_eq_false this, beq_eq_false_iff_ne]
  exact h
theorem seq_nil (s : ByteArray) : Abs.seq s ByteArray.empty = decide (s = ByteArray.empty) := seq_dec _ _
section
variable {n : Nat} (hn : big ≤ n)
theorem specText (hn : big ≤ n) {r : Ru} (h : Kd.bulk KRu r ≤ 1048576) : spec_RuleText.F n r = some (textR r) := specText_eq n r (by unfold big at hn; omega) (smT_of h)
theorem hasForm (hn : big ≤ n) {r : Ru} (h : Kd.bulk KRu r ≤ 1048576) : impl_hasForm.F n r = some (!(Abs.seq (textR r) ByteArray.empty)) := by
 unfold impl_hasForm.F
 rw [implText_eq n (by unfold big at hn; omega) r (smT_of h).toSmR]
 rfl
theorem bulk_le {r : Ru} (h : Kd.bulk KRu r ≤ 1048576) : bxR r ≤ 1048576 := by rw [bulk_ru] at h; omega
end
end Go.Abs
