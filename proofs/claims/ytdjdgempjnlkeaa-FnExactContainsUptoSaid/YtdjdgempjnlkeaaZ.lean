/- The law FnExactContains answers true, whatever its arguments, where what they hold is of bulk at most 1048576; they read as they did. Conditions: the statement's own. -/
import Derived.Test.YtdjdgempjnlkeaaMCo
import Derived.Test.YtdjdgempjnlkeaaLd
namespace Go.Proofs.Ytdjdgempjnlkeaa.fnExactContains
open Go.Abs
open Go.ChangeShapes Go.WideShapes Go.ChangeAt Go.RowKit
set_option linter.unusedVariables false
abbrev KS : List Kd := [.st (.pair (.sl (.st (.pair (.int .i64) (.pair (.str) (.sl (.int .i64)))))) (.pair (.st (.pair (.int .i64) (.pair (.str) (.sl (.int .i64))))) (.sl (.st (.pair (.int .i64) (.pair (.str) (.sl (.int .i64)))))))), .st (.pair (.sl (.st (.pair (.int .i64) (.pair (.str) (.sl (.int .i64)))))) (.pair (.st (.pair (.int .i64) (.pair (.str) (.sl (.int .i64))))) (.sl (.st (.pair (.int .i64) (.pair (.str) (.sl (.int .i64))))))))]
theorem own : ownKnob Try.prog.godebug = none := by kernel_rfl
theorem glob (W : World) (hsh : W.ShapedOpen Try.prog) : GlobOk Try.prog (fun b => b < W.heap.size) W := by
 obtain ⟨m, hm⟩ := cell_of_shapedOpen_int (P := Try.prog) (g := 0) (t := 3) (zero := #[.int .i64 0]) hsh (of_decide_eq_true (by kernel_rfl)) (by kernel_rfl) rfl (by kernel_rfl) (by kernel_rfl) Try.underlying3
 have h1 : Try.prog.globalNamed "internal/bytealg.MaxLen" = some 0 := by kernel_rfl
 have hr : ((gnames.drop 1).all fun x => (Try.prog.globalNamed x).isNone) = true := by kernel_rfl
 intro nm hmem g hg
 rcases List.mem_cons.1 (show nm ∈ "internal/bytealg.MaxLen" :: gnames.drop 1 from hmem) with rfl | h
 ·rw [h1] at hg
  cases hg
  obtain ⟨cs, t, fr, k1, k2⟩ := heap_of_cell hm
  exact ⟨lt_of_heap k1, cs, t, fr, k1, ⟨fun _ => ⟨m, k2⟩, fun h => absurd h (by decide), fun h => absurd h (by decide), fun h => absurd h (by decide)⟩⟩
 ·have := List.all_eq_true.1 hr nm h
  rw [hg] at this
  cases this
set_option maxRecDepth 100000 in
theorem contract (H : Type) (enc : TypeId × Value → H) (W : World) (base : Nat) (args : Array Value) (ds gs : List (DataW H)) (before : List MemPlace)
  (hval : ∀ (j : Nat) t v, Try.f4.params[j]? = some t → args[j]? = some v → Value.okWide Try.prog W .any base t v)
  (hW : DataW.Whole enc Try.prog Try.f4.params.toList Rows.fnExactContainsSpec.vars false W args.toList ds gs before) (hk : Rows.uptoSmall H (ds ++ gs) = true) (hsh : W.ShapedOpen Try.prog) :
  Calls Try.prog 4 args W fun e W' => ∃ v, e = .returned v ∧ Rows.fnExactContainsSpec.post enc Try.prog Try.f4 false true false false W args v W' := by
 have hk' : Rows.uptoBulkAll (ds ++ gs) ≤ 1048576 := of_decide_eq_true hk
 have hpar : Try.f4.params.size = 2 := by kernel_rfl
 refine law_contract (P := Try.prog) (fn := Try.f4) (s := Rows.fnExactContainsSpec) (ty := TYS) (Ks := KS) (F := fun v => Go.Abs.laws_FnExactContains.F big v.1 v.2.1) TYS_ok (by kernel_rfl) (by kernel_rfl) (by kernel_rfl) (laws_FnExactContains.ok big) (by kernel_rfl) (by kernel_rfl) (tb := 4) (by kernel_rfl) (by kernel_rfl) rfl ?_ hval hW (glob W hsh) ?_
 ·intro H ds hd
  rw [hpar] at hd
  match ds, hd with
  | [d0, d1], _ => rfl
 ·intro v ho hv
  have hb0 : Kd.bulk (.st (.pair (.sl (.st (.pair (.int .i64) (.pair (.str) (.sl (.int .i64)))))) (.pair (.st (.pair (.int .i64) (.pair (.str) (.sl (.int .i64))))) (.sl (.st (.pair (.int .i64) (.pair (.str) (.sl (.int .i64))))))))) v.1 ≤ 1048576 := by have : bulks KS v ≤ 1048576 := Nat.le_trans hv hk'; simp only [bulks] at this; omega
  have hb1 : Kd.bulk (.st (.pair (.sl (.st (.pair (.int .i64) (.pair (.str) (.sl (.int .i64)))))) (.pair (.st (.pair (.int .i64) (.pair (.str) (.sl (.int .i64))))) (.sl (.st (.pair (.int .i64) (.pair (.str) (.sl (.int .i64))))))))) v.2.1 ≤ 1048576 := by have : bulks KS v ≤ 1048576 := Nat.le_trans hv hk'; simp only [bulks] at this; omega
  exact law_laws_FnExactContains (Nat.le_refl _) v.1 v.2.1 ho.1 ho.2.1 hb0 hb1
set_option maxRecDepth 100000 in
theorem lifted (os : Os) (started : os.Started) (H : Type) (enc : TypeId × Value → H) (F : Stop.Interp) :
  ReturnsInHanded {} Try.checked os 4 .any ((Rows.OpenSpec.upto Rows.fnExactContainsSpec).pre6 enc Try.prog Try.f4 Rows.fnExactContainsUptoRow.domain false) (((Rows.OpenSpec.upto Rows.fnExactContainsSpec).at F).post enc Try.prog Try.f4 false true false false) := by
 refine returns_shaped (C := Try.checked) (s := Rows.OpenSpec.upto Rows.fnExactContainsSpec) (k := Rows.uptoSmall) rfl own started (by kernel_rfl) Try.func4
  (OpenSpec.witness (enc := enc) (C := Try.checked) (s := Rows.OpenSpec.upto Rows.fnExactContainsSpec) (k := Rows.uptoSmall) rfl false ⟨#[], #[.agg #[.slice none 0 0, .int .i64 0, .string ⟨#[]⟩, .slice none 0 0, .slice none 0 0], .agg #[.slice none 0 0, .int .i64 0, .string ⟨#[]⟩, .slice none 0 0, .slice none 0 0]], []⟩ 8 (by kernel_rfl) (by kernel_rfl) (by kernel_rfl)
   (x := ([.agg [.nil, .agg [.lit (.int .i64 0), .lit (.string []), .nil], .nil], .agg [.nil, .agg [.lit (.int .i64 0), .lit (.string []), .nil], .nil]], [], [])) (by kernel_rfl) rfl (by kernel_rfl)) ?_
 intro W base args ds gs before hval hW hk hsh
 exact contract H enc W base args ds gs before hval hW hk hsh
theorem over : Rows.fnExactContainsUptoRow.holds Try.pinned (Rows.OpenSpec.upto Rows.fnExactContainsSpec) :=
 OpenClaim.holds_of_cond 4 Try.f4 rfl rfl rfl rfl rfl rfl rfl ⟨rfl, rfl, rfl, rfl, rfl⟩ rfl rfl rfl rfl rfl (by kernel_rfl) Try.func4 (by kernel_rfl)
  (of_decide_eq_true (by kernel_rfl)) (by unfold Func.isWrapper; first | (rw [if_pos (by decide +kernel)]; kernel_rfl) | (rw [if_neg (by decide +kernel)]; exact ⟨rfl, rfl⟩))
  (fun os started H enc _ F => lifted os started H enc F)
theorem proved : Rows.FnExactContainsUptoSaid :=
 over
end Go.Proofs.Ytdjdgempjnlkeaa.fnExactContains
