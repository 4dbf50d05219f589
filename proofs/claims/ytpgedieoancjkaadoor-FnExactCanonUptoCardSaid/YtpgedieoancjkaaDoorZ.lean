/- The law FnExactCanon answers true, whatever its arguments, where what they hold is of bulk at most 1048576; they read as they did; and its tied card. Conditions: the statement's own. -/
import Derived.Test.YtpgedieoancjkaaDoorMC
import Derived.Test.YtpgedieoancjkaaDoorLd
import Derived.Test.YtpgedieoancjkaaDoorCards
import Derived.Test.YtpgedieoancjkaaDoorTie
import Derived.Deep.DeepHandedRow
import Derived.Deep.DeepWitnessRowRef
namespace Go.Proofs.YtpgedieoancjkaaDoor.fnExactCanon
open Go.Abs
set_option linter.unusedSimpArgs false
set_option linter.unusedVariables false
open Go.ChangeShapes Go.WideShapes Go.ChangeAt Go.RowKit
set_option linter.unusedVariables false
abbrev KS : List Kd := [.st (.pair (.sl (.st (.pair (.int .i64) (.pair (.str) (.sl (.int .i64)))))) (.pair (.st (.pair (.int .i64) (.pair (.str) (.sl (.int .i64))))) (.sl (.st (.pair (.int .i64) (.pair (.str) (.sl (.int .i64))))))))]
theorem own : ownKnob Tryd.prog.godebug = none := by kernel_rfl
theorem pow : (Rows.laid_internal_strconv_uint64pow10 : DataW Unit) = Lib.tabData .u64 Lib.pow10Tab := by kernel_rfl
theorem glob (W : World) (hsh : W.ShapedOpen Tryd.prog) (hL : laidMetH Tryd.prog Rows.fnExactCanonUptoRow.laid W) : GlobOk Tryd.prog (fun b => b < W.heap.size) W := by
 have hL' : laidMet Tryd.prog Rows.fnExactCanonUptoRow.laid W := hL
 have hm : ∃ m, W.cell? ⟨1, 0, none⟩ = some (.int .i64 m) :=
  cell_of_shapedOpen_int (P := Tryd.prog) (g := 1) (t := 3) (zero := #[.int .i64 0]) hsh (of_decide_eq_true (by kernel_rfl)) (by kernel_rfl) rfl (by kernel_rfl) (by kernel_rfl) Tryd.underlying3
 exact glob_of2 (l := Rows.fnExactCanonUptoRow.laid) 1 0 111 101 (by kernel_rfl) hm (by kernel_rfl) (by kernel_rfl) (by kernel_rfl) (by kernel_rfl)
  Tryd.underlying111 Tryd.underlying101 (by kernel_rfl) (by kernel_rfl)
  (by rw [← pow]; exact .tail _ (.tail _ (.head _))) hL'
set_option maxRecDepth 100000 in
theorem contract (H : Type) (enc : TypeId × Value → H) (W : World) (base : Nat) (args : Array Value) (ds gs : List (DataW H)) (before : List MemPlace)
  (hval : ∀ (j : Nat) t v, Tryd.f4.params[j]? = some t → args[j]? = some v → Value.okWide Tryd.prog W .any base t v)
  (hW : DataW.Whole enc Tryd.prog Tryd.f4.params.toList Rows.fnExactCanonSpec.vars false W args.toList ds gs before) (hk : Rows.uptoSmall H (ds ++ gs) = true) (hL : laidMetH Tryd.prog Rows.fnExactCanonUptoRow.laid W) (hsh : W.ShapedOpen Tryd.prog) :
  Calls Tryd.prog 4 args W fun e W' => ∃ v, e = .returned v ∧ Rows.fnExactCanonSpec.post enc Tryd.prog Tryd.f4 false true false false W args v W' := by
 have hk' : Rows.uptoBulkAll (ds ++ gs) ≤ 1048576 := of_decide_eq_true hk
 have hpar : Tryd.f4.params.size = 1 := by kernel_rfl
 refine law_contract (P := Tryd.prog) (fn := Tryd.f4) (s := Rows.fnExactCanonSpec) (ty := TYS) (Ks := KS) (F := fun v => Go.Abs.laws_FnExactCanon.F big v.1) TYS_ok (by kernel_rfl) (by kernel_rfl) (by kernel_rfl) (laws_FnExactCanon.ok big) (by kernel_rfl) (by kernel_rfl) (tb := 4) (by kernel_rfl) (by kernel_rfl) rfl ?_ hval hW (glob W hsh hL) ?_
 ·intro H ds hd
  rw [hpar] at hd
  match ds, hd with
  | [d0], _ => rfl
 ·intro v ho hv
  have hb0 : Kd.bulk (.st (.pair (.sl (.st (.pair (.int .i64) (.pair (.str) (.sl (.int .i64)))))) (.pair (.st (.pair (.int .i64) (.pair (.str) (.sl (.int .i64))))) (.sl (.st (.pair (.int .i64) (.pair (.str) (.sl (.int .i64))))))))) v.1 ≤ 1048576 := by have : bulks KS v ≤ 1048576 := Nat.le_trans hv hk'; simp only [KS, bulks] at this; omega
  exact law_laws_FnExactCanon (Nat.le_refl _) v.1 ho.1 hb0
def tabVals : DataW Unit → Array Value
 | .agg l => (l.map fun d => match d with | .lit (.int k z) => Value.int k z | _ => undef).toArray
 | _ => #[]
noncomputable def laidWorld (os : Os) : World :=
 let w0 := World.holding Tryd.prog os ⟨#[], #[], []⟩
 let put (h : Array Go.Obj) (g : Nat) (cs : Array Value) : Array Go.Obj := h.modify g fun
  | .cells _ t frozen => .cells cs t frozen
  | o => o
 let h1 := put w0.heap 0 (tabVals Rows.laid_internal_strconv_uint64pow10)
 let h2 := put h1 2 (tabVals Rows.laid_math_bits_deBruijn32tab)
 let h3 := put h2 3 (tabVals Rows.laid_math_bits_deBruijn64tab)
 { w0 with heap := h3 }
set_option maxRecDepth 1000000 in
theorem laid1 (os : Os) : (DataW.laidRun Tryd.prog ((laidWorld os).forCall (fun _ _ => 0) ⟨#[], #[.agg #[.slice none 0 0, .int .i64 0, .string ⟨#[]⟩, .slice none 0 0, .slice none 0 0]], []⟩).memory 8 (Rows.fnExactCanonUptoRow.laid.map (·.1))).map (·.1) = some Rows.fnExactCanonUptoRow.laid := by kernel_rfl
set_option maxRecDepth 1000000 in
theorem laid2 (os : Os) : (DataW.laidRun Tryd.prog ((laidWorld os).forCall (fun _ _ => 0) ⟨#[], #[.agg #[.slice none 0 0, .int .i64 0, .string ⟨#[]⟩, .slice none 0 0, .slice none 0 0]], []⟩).memory 8 (Rows.fnExactCanonUptoRow.laid.map (·.1))).map (fun x => decide x.2.Nodup) = some true := by kernel_rfl
set_option maxRecDepth 1000000 in
theorem laid3 (os : Os) : (DataW.laidRun Tryd.prog ((laidWorld os).forCall (fun _ _ => 0) ⟨#[], #[.agg #[.slice none 0 0, .int .i64 0, .string ⟨#[]⟩, .slice none 0 0, .slice none 0 0]], []⟩).memory 8 (Rows.fnExactCanonUptoRow.laid.map (·.1))).map (fun x => laidRowsB Tryd.prog ((laidWorld os).forCall (fun _ _ => 0) ⟨#[], #[.agg #[.slice none 0 0, .int .i64 0, .string ⟨#[]⟩, .slice none 0 0, .slice none 0 0]], []⟩).memory x.2) = some true := by kernel_rfl
theorem laid_met (os : Os) : laidMet Tryd.prog Rows.fnExactCanonUptoRow.laid ((laidWorld os).forCall (fun _ _ => 0) ⟨#[], #[.agg #[.slice none 0 0, .int .i64 0, .string ⟨#[]⟩, .slice none 0 0, .slice none 0 0]], []⟩).memory :=
 laidMet_of_run3 8 (laid1 os) (laid2 os) (laid3 os)
set_option maxRecDepth 1000000 in
theorem reads (os : Os) {H : Type} (enc : TypeId × Value → H) : ∃ places, DataW.whole enc Tryd.prog ((laidWorld os).forCall (fun _ _ => 0) ⟨#[], #[.agg #[.slice none 0 0, .int .i64 0, .string ⟨#[]⟩, .slice none 0 0, .slice none 0 0]], []⟩).memory Tryd.f4.params.toList Rows.fnExactCanonSpec.vars false (#[.agg #[.slice none 0 0, .int .i64 0, .string ⟨#[]⟩, .slice none 0 0, .slice none 0 0]] : Array Value).toList 8 = some ([.agg [.nil, .agg [.lit (.int .i64 0), .lit (.string []), .nil], .nil]], [], places) :=
 ⟨[], by kernel_rfl⟩
set_option maxRecDepth 1000000 in
theorem lifted (os : Os) (started : os.Started) (H : Type) (enc : TypeId × Value → H) (F : Stop.Interp) :
  ReturnsInHanded {} Tryd.checked os 4 .any ((Rows.OpenSpec.upto Rows.fnExactCanonSpec).preRow enc Tryd.prog Tryd.f4 Rows.fnExactCanonUptoRow.domain false Rows.fnExactCanonUptoRow.laid) (((Rows.OpenSpec.upto Rows.fnExactCanonSpec).at F).post enc Tryd.prog Tryd.f4 false true false false) := by
 obtain ⟨places, hx⟩ := reads os enc
 refine returnsInHanded_of_row (C := Tryd.checked) (s := Rows.OpenSpec.upto Rows.fnExactCanonSpec) own started (by kernel_rfl) Tryd.func4
  (witness_row_atRef (enc := enc) (C := Tryd.checked) false (laidWorld os) #[.agg #[.slice none 0 0, .int .i64 0, .string ⟨#[]⟩, .slice none 0 0, .slice none 0 0]] rfl (by kernel_rfl) (by kernel_rfl) (by kernel_rfl)
   (OpenSpec.preRow_of_cond 8 hx (by kernel_rfl) (fun k hk => by cases hk; kernel_rfl) (by kernel_rfl) (laid_met os))) ?_
 intro W base args ds gs before hval hW _ hcond _ hL hsh _
 exact contract H enc W base args ds gs before hval hW (hcond _ rfl) hL hsh
set_option maxRecDepth 1000000 in
theorem w0 : Rows.fnExactCanonUptoRow.wf (OpenSpec.ofChange (Rows.OpenSpec.upto Rows.fnExactCanonSpec).bare) = true := by kernel_rfl
set_option maxRecDepth 1000000 in
theorem w1 : laidOutB Tryd.pinned.checked.prog = true := by kernel_rfl
set_option maxRecDepth 1000000 in
theorem w2 : mapsRowed Tryd.pinned.checked.prog = true := by kernel_rfl
set_option maxRecDepth 1000000 in
theorem w3 : (Rows.fnExactCanonUptoRow.inPlace == Tryd.pinned.checked.prog.inPlace 4) = true := by kernel_rfl
set_option maxRecDepth 1000000 in
theorem w4 : (Rows.fnExactCanonUptoRow.unfollowed == Tryd.pinned.checked.prog.unfollowed 4) = true := by kernel_rfl
set_option maxRecDepth 1000000 in
theorem w5 : (Rows.fnExactCanonUptoRow.recurses == Tryd.pinned.checked.prog.recurses 4) = true := by kernel_rfl
set_option maxRecDepth 1000000 in
theorem w6 : (Rows.fnExactCanonUptoRow.named == Tryd.pinned.checked.prog.varsNamed 4) = true := by kernel_rfl
set_option maxRecDepth 1000000 in
theorem w7 : (Rows.fnExactCanonUptoRow.lifted == Tryd.pinned.checked.prog.liftsFinal) = true := by kernel_rfl
set_option maxRecDepth 1000000 in
theorem w8 : (Tryd.pinned.checked.prog.make == some Rows.fnExactCanonUptoRow.make) = true := by kernel_rfl
set_option maxRecDepth 1000000 in
theorem w9 : Tryd.pinned.checked.prog.stopsHeard = true := by kernel_rfl
set_option maxRecDepth 1000000 in
theorem w10 : Tryd.pinned.checked.prog.mayEnter = true := by kernel_rfl
set_option maxRecDepth 1000000 in
theorem closed : joinedFacts Tryd.pinned.checked.prog 4 Tryd.f4 (Rows.OpenSpec.upto Rows.fnExactCanonSpec).bare Rows.fnExactCanonUptoRow = true := by
 unfold joinedFacts
 rw [w0, w1, w2, w3, w4, w5, w6, w7, w8, w9, w10]
 kernel_rfl
set_option maxRecDepth 1000000 in
theorem goes : false = Rows.fnExactCanonUptoRow.goesBy Tryd.pinned.checked.prog := by kernel_rfl
set_option maxRecDepth 1000000 in
theorem byText : Rows.fnExactCanonUptoRow.wfByText (Rows.OpenSpec.upto Rows.fnExactCanonSpec) = true := by kernel_rfl
theorem over : Rows.FnExactCanonUptoSaid :=
 OpenClaim.holds_of_cond 4 Tryd.f4 rfl rfl rfl rfl rfl rfl rfl ⟨rfl, rfl, rfl, rfl, rfl⟩ rfl rfl rfl rfl rfl (by kernel_rfl) Tryd.func4 closed
  (of_decide_eq_true (by kernel_rfl)) (by unfold Func.isWrapper; first | (rw [if_pos (by decide +kernel)]; kernel_rfl) | (rw [if_neg (by decide +kernel)]; exact ⟨rfl, rfl⟩))
  (fun os started H enc _ F => by rw [OpenClaim.pre_eq_preRow]; exact lifted os started H enc F)
theorem plain (f : FuncId) (fn : Func) (hf : Tryd.pinned.checked.prog.funcNamed "loop.example/g00531/laws.FnExactCanon" = some f) (hfn : Tryd.pinned.checked.prog.funcs[f]? = some fn) :
  false = Tryd.pinned.checked.prog.looks [] ∧ ∀ (j : Nat) t, fn.params[j]? = some t → Tryd.pinned.checked.prog.wantsStandIn t = false := by
 obtain rfl : f = 4 := Option.some.inj ((show Tryd.prog.funcNamed "loop.example/g00531/laws.FnExactCanon" = some 4 by kernel_rfl).symm.trans hf) |>.symm
 obtain rfl : fn = Tryd.f4 := (Option.some.inj (Tryd.func4.symm.trans hfn)).symm
 refine ⟨by kernel_rfl, fun j t ht => ?_⟩
 rw [Tryd.params4] at ht
 have h : t = 28 := by simpa using Array.mem_of_getElem? ht
 rcases h with rfl
 ·exact (show Tryd.prog.wantsStandIn 28 = false by kernel_rfl)
theorem proved : Rows.FnExactCanonUptoCardSaid :=
 Claim7.holds_tied_plain_at .later [] _ _ _ _ over (fun _ h => by cases h) byText (fun _ h => by cases h) fnExactCanonUpto_row_tie rfl ⟨rfl, rfl⟩ (by kernel_rfl) rfl plain goes
end Go.Proofs.YtpgedieoancjkaaDoor.fnExactCanon
