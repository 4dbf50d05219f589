/- The law FnExactRenameRel answers true, whatever its arguments, where what they hold is of bulk at most 1048576; they read as they did; and its tied card. Conditions: the statement's own. -/
import Derived.Test.YtkelpajcfmghiaaGreatDoorMRe
import Derived.Test.YtkelpajcfmghiaaGreatDoorLd
import Derived.Test.YtkelpajcfmghiaaGreatDoorCards
import Derived.Test.YtkelpajcfmghiaaGreatDoorTie
import Derived.Deep.DeepHandedRow
import Derived.Deep.DeepWitnessRowRef
namespace Go.Proofs.YtkelpajcfmghiaaGreatDoor.fnExactRenameRel
open Go.Abs
set_option linter.unusedSimpArgs false
set_option linter.unusedVariables false
open Go.ChangeShapes Go.WideShapes Go.ChangeAt Go.RowKit
set_option linter.unusedVariables false
abbrev KS : List Kd := [.st (.pair (.sl (.st (.pair (.str) (.sl (.st (.pair (.str) (.sl (.str)))))))) (.pair (.sl (.st (.pair (.str) (.pair (.sl (.str)) (.int .i64))))) (.sl (.st (.pair (.sl (.st (.pair (.int .i64) (.pair (.str) (.sl (.int .i64)))))) (.pair (.st (.pair (.int .i64) (.pair (.str) (.sl (.int .i64))))) (.sl (.st (.pair (.int .i64) (.pair (.str) (.sl (.int .i64)))))))))))), .str, .str]
theorem own : ownKnob Tryz.prog.godebug = none := by kernel_rfl
theorem pow : (Rows.laid_internal_strconv_uint64pow10 : DataW Unit) = Lib.tabData .u64 Lib.pow10Tab := by kernel_rfl
theorem glob (W : World) (hsh : W.ShapedOpen Tryz.prog) (hL : laidMetH Tryz.prog Rows.fnExactRenameRelUptoRow.laid W) : GlobOk Tryz.prog (fun b => b < W.heap.size) W := by
 have hL' : laidMet Tryz.prog Rows.fnExactRenameRelUptoRow.laid W := hL
 have hm : ∃ m, W.cell? ⟨0, 0, none⟩ = some (.int .i64 m) :=
  cell_of_shapedOpen_int (P := Tryz.prog) (g := 0) (t := 3) (zero := #[.int .i64 0]) hsh (of_decide_eq_true (by kernel_rfl)) (by kernel_rfl) rfl (by kernel_rfl) (by kernel_rfl) Tryz.underlying3
 exact ET (l := Rows.fnExactRenameRelUptoRow.laid) 0 1 4 5 294 211 211 263 (by kernel_rfl) hm (by kernel_rfl) (by kernel_rfl) (by kernel_rfl) (by kernel_rfl) (by kernel_rfl) (by kernel_rfl)
  Tryz.underlying294 Tryz.underlying263 (by kernel_rfl) (by kernel_rfl) Tryz.underlying211 Tryz.underlying211
  (by rw [← pow]; exact .tail _ (.tail _ (.head _))) (.tail _ (.tail _ (.tail _ (.tail _ (.head _))))) (.tail _ (.tail _ (.tail _ (.head _)))) hL'
set_option maxRecDepth 100000 in
theorem contract (H : Type) (enc : TypeId × Value → H) (W : World) (base : Nat) (args : Array Value) (ds gs : List (DataW H)) (before : List MemPlace)
  (hval : ∀ (j : Nat) t v, Tryz.f5.params[j]? = some t → args[j]? = some v → Value.okWide Tryz.prog W .any base t v)
  (hW : DataW.Whole enc Tryz.prog Tryz.f5.params.toList Rows.fnExactRenameRelSpec.vars false W args.toList ds gs before) (hk : Rows.uptoSmall H (ds ++ gs) = true) (hL : laidMetH Tryz.prog Rows.fnExactRenameRelUptoRow.laid W) (hsh : W.ShapedOpen Tryz.prog) :
  Calls Tryz.prog 5 args W fun e W' => ∃ v, e = .returned v ∧ Rows.fnExactRenameRelSpec.post enc Tryz.prog Tryz.f5 false true false false W args v W' := by
 have hk' : Rows.uptoBulkAll (ds ++ gs) ≤ 1048576 := of_decide_eq_true hk
 have hpar : Tryz.f5.params.size = 3 := by kernel_rfl
 refine law_contract (P := Tryz.prog) (fn := Tryz.f5) (s := Rows.fnExactRenameRelSpec) (ty := TYS) (Ks := KS) (F := fun v => Go.Abs.laws_FnExactRenameRel.F dh v.1 v.2.1 v.2.2.1) DE (by kernel_rfl) (by kernel_rfl) (by kernel_rfl) (laws_FnExactRenameRel.ok dh) (by kernel_rfl) (by kernel_rfl) (tb := 4) (by kernel_rfl) (by kernel_rfl) rfl ?_ hval hW (glob W hsh hL) ?_
 ·intro H ds hd
  rw [hpar] at hd
  match ds, hd with
  | [d0, d1, d2], _ => rfl
 ·intro v ho hv
  have hb0 : Kd.bulk (.st (.pair (.sl (.st (.pair (.str) (.sl (.st (.pair (.str) (.sl (.str)))))))) (.pair (.sl (.st (.pair (.str) (.pair (.sl (.str)) (.int .i64))))) (.sl (.st (.pair (.sl (.st (.pair (.int .i64) (.pair (.str) (.sl (.int .i64)))))) (.pair (.st (.pair (.int .i64) (.pair (.str) (.sl (.int .i64))))) (.sl (.st (.pair (.int .i64) (.pair (.str) (.sl (.int .i64))))))))))))) v.1 ≤ 1048576 := by have : mX KS v ≤ 1048576 := Nat.le_trans hv hk'; simp only [KS, mX] at this; omega
  have hb1 : Kd.bulk .str v.2.1 ≤ 1048576 := by have : mX KS v ≤ 1048576 := Nat.le_trans hv hk'; simp only [KS, mX] at this; omega
  have hb2 : Kd.bulk .str v.2.2.1 ≤ 1048576 := by have : mX KS v ≤ 1048576 := Nat.le_trans hv hk'; simp only [KS, mX] at this; omega
  exact law_laws_FnExactRenameRel (Nat.le_refl _) v.1 v.2.1 v.2.2.1 ho.1 ho.2.1 ho.2.2.1 hb0 hb1 hb2
def tabVals : DataW Unit → Array Value
 | .agg l => (l.map fun d => match d with | .lit (.int k z) => Value.int k z | _ => undef).toArray
 | _ => #[]
noncomputable def laidWorld (os : Os) : World :=
 let N := (World.settled Tryz.prog os).heap.size
 let w0 := World.holding Tryz.prog os ⟨#[.cells #[.string ⟨#[105, 110, 118, 97, 108, 105, 100, 32, 115, 121, 110, 116, 97, 120]⟩] 314, .cells #[.string ⟨#[118, 97, 108, 117, 101, 32, 111, 117, 116, 32, 111, 102, 32, 114, 97, 110, 103, 101]⟩] 314], #[], []⟩
 let put (h : Array Go.Obj) (g : Nat) (cs : Array Value) : Array Go.Obj := h.modify g fun
  | .cells _ t frozen => .cells cs t frozen
  | o => o
 let h0 := put (put w0.heap 4 #[.iface 312 (.pointer (some ⟨N, 0, none⟩))]) 5 #[.iface 312 (.pointer (some ⟨N + 1, 0, none⟩))]
 let h1 := put h0 1 (tabVals Rows.laid_internal_strconv_uint64pow10)
 let h2 := put h1 2 (tabVals Rows.laid_math_bits_deBruijn32tab)
 let h3 := put h2 3 (tabVals Rows.laid_math_bits_deBruijn64tab)
 { w0 with heap := h3 }
set_option maxRecDepth 1000000 in
theorem laid1 (os : Os) : (DataW.laidRun Tryz.prog ((laidWorld os).forCall (fun _ _ => 0) ⟨#[], #[.agg #[.slice none 0 0, .slice none 0 0, .slice none 0 0], .string ⟨#[]⟩, .string ⟨#[]⟩], []⟩).memory 8 (Rows.fnExactRenameRelUptoRow.laid.map (·.1))).map (·.1) = some Rows.fnExactRenameRelUptoRow.laid := by kernel_rfl
set_option maxRecDepth 1000000 in
theorem laid2 (os : Os) : (DataW.laidRun Tryz.prog ((laidWorld os).forCall (fun _ _ => 0) ⟨#[], #[.agg #[.slice none 0 0, .slice none 0 0, .slice none 0 0], .string ⟨#[]⟩, .string ⟨#[]⟩], []⟩).memory 8 (Rows.fnExactRenameRelUptoRow.laid.map (·.1))).map (fun x => decide x.2.Nodup) = some true := by kernel_rfl
set_option maxRecDepth 1000000 in
theorem laid3 (os : Os) : (DataW.laidRun Tryz.prog ((laidWorld os).forCall (fun _ _ => 0) ⟨#[], #[.agg #[.slice none 0 0, .slice none 0 0, .slice none 0 0], .string ⟨#[]⟩, .string ⟨#[]⟩], []⟩).memory 8 (Rows.fnExactRenameRelUptoRow.laid.map (·.1))).map (fun x => laidRowsB Tryz.prog ((laidWorld os).forCall (fun _ _ => 0) ⟨#[], #[.agg #[.slice none 0 0, .slice none 0 0, .slice none 0 0], .string ⟨#[]⟩, .string ⟨#[]⟩], []⟩).memory x.2) = some true := by kernel_rfl
theorem laid_met (os : Os) : laidMet Tryz.prog Rows.fnExactRenameRelUptoRow.laid ((laidWorld os).forCall (fun _ _ => 0) ⟨#[], #[.agg #[.slice none 0 0, .slice none 0 0, .slice none 0 0], .string ⟨#[]⟩, .string ⟨#[]⟩], []⟩).memory :=
 qt 8 (laid1 os) (laid2 os) (laid3 os)
set_option maxRecDepth 1000000 in
theorem reads (os : Os) {H : Type} (enc : TypeId × Value → H) : ∃ places, DataW.whole enc Tryz.prog ((laidWorld os).forCall (fun _ _ => 0) ⟨#[], #[.agg #[.slice none 0 0, .slice none 0 0, .slice none 0 0], .string ⟨#[]⟩, .string ⟨#[]⟩], []⟩).memory Tryz.f5.params.toList Rows.fnExactRenameRelSpec.vars false (#[.agg #[.slice none 0 0, .slice none 0 0, .slice none 0 0], .string ⟨#[]⟩, .string ⟨#[]⟩] : Array Value).toList 8 = some ([.agg [.nil, .nil, .nil], .lit (.string []), .lit (.string [])], [], places) :=
 ⟨[], by kernel_rfl⟩
set_option maxRecDepth 1000000 in
theorem lifted (os : Os) (started : os.Started) (H : Type) (enc : TypeId × Value → H) (F : Stop.Interp) :
  ReturnsInHanded {} Tryz.checked os 5 .any ((Rows.OpenSpec.upto Rows.fnExactRenameRelSpec).preRow enc Tryz.prog Tryz.f5 Rows.fnExactRenameRelUptoRow.domain false Rows.fnExactRenameRelUptoRow.laid) (((Rows.OpenSpec.upto Rows.fnExactRenameRelSpec).at F).post enc Tryz.prog Tryz.f5 false true false false) := by
 obtain ⟨places, hx⟩ := reads os enc
 refine returnsInHanded_of_row (C := Tryz.checked) (s := Rows.OpenSpec.upto Rows.fnExactRenameRelSpec) own started (by kernel_rfl) Tryz.func5
  (witness_row_atRef (enc := enc) (C := Tryz.checked) false (laidWorld os) #[.agg #[.slice none 0 0, .slice none 0 0, .slice none 0 0], .string ⟨#[]⟩, .string ⟨#[]⟩] rfl (by kernel_rfl) (by kernel_rfl) (by kernel_rfl)
   (OpenSpec.preRow_of_cond 8 hx (by kernel_rfl) (fun k hk => by cases hk; kernel_rfl) (by kernel_rfl) (laid_met os))) ?_
 intro W base args ds gs before hval hW _ hcond _ hL hsh _
 exact contract H enc W base args ds gs before hval hW (hcond _ rfl) hL hsh
set_option maxRecDepth 1000000 in
theorem w0 : Rows.fnExactRenameRelUptoRow.wf (OpenSpec.ofChange (Rows.OpenSpec.upto Rows.fnExactRenameRelSpec).bare) = true := by kernel_rfl
set_option maxRecDepth 1000000 in
theorem w1 : laidOutB Tryz.pinned.checked.prog = true := by kernel_rfl
set_option maxRecDepth 1000000 in
theorem w2 : mapsRowed Tryz.pinned.checked.prog = true := by kernel_rfl
set_option maxRecDepth 1000000 in
theorem w3 : (Rows.fnExactRenameRelUptoRow.inPlace == Tryz.pinned.checked.prog.inPlace 5) = true := by kernel_rfl
set_option maxRecDepth 1000000 in
theorem w4 : (Rows.fnExactRenameRelUptoRow.unfollowed == Tryz.pinned.checked.prog.unfollowed 5) = true := by kernel_rfl
set_option maxRecDepth 1000000 in
theorem w5 : (Rows.fnExactRenameRelUptoRow.recurses == Tryz.pinned.checked.prog.recurses 5) = true := by kernel_rfl
set_option maxRecDepth 1000000 in
theorem w6 : (Rows.fnExactRenameRelUptoRow.named == Tryz.pinned.checked.prog.varsNamed 5) = true := by kernel_rfl
set_option maxRecDepth 1000000 in
theorem w7 : (Rows.fnExactRenameRelUptoRow.lifted == Tryz.pinned.checked.prog.liftsFinal) = true := by kernel_rfl
set_option maxRecDepth 1000000 in
theorem w8 : (Tryz.pinned.checked.prog.make == some Rows.fnExactRenameRelUptoRow.make) = true := by kernel_rfl
set_option maxRecDepth 1000000 in
theorem w9 : Tryz.pinned.checked.prog.stopsHeard = true := by kernel_rfl
set_option maxRecDepth 1000000 in
theorem w10 : Tryz.pinned.checked.prog.mayEnter = true := by kernel_rfl
set_option maxRecDepth 1000000 in
theorem closed : joinedFacts Tryz.pinned.checked.prog 5 Tryz.f5 (Rows.OpenSpec.upto Rows.fnExactRenameRelSpec).bare Rows.fnExactRenameRelUptoRow = true := by
 unfold joinedFacts
 rw [w0, w1, w2, w3, w4, w5, w6, w7, w8, w9, w10]
 kernel_rfl
set_option maxRecDepth 1000000 in
theorem goes : false = Rows.fnExactRenameRelUptoRow.goesBy Tryz.pinned.checked.prog := by kernel_rfl
set_option maxRecDepth 1000000 in
theorem byText : Rows.fnExactRenameRelUptoRow.wfByText (Rows.OpenSpec.upto Rows.fnExactRenameRelSpec) = true := by kernel_rfl
theorem over : Rows.FnExactRenameRelUptoSaid :=
 OpenClaim.holds_of_cond 5 Tryz.f5 rfl rfl rfl rfl rfl rfl rfl ⟨rfl, rfl, rfl, rfl, rfl⟩ rfl rfl rfl rfl rfl (by kernel_rfl) Tryz.func5 closed
  (of_decide_eq_true (by kernel_rfl)) (by unfold Func.isWrapper; first | (rw [if_pos (by decide +kernel)]; kernel_rfl) | (rw [if_neg (by decide +kernel)]; exact ⟨rfl, rfl⟩))
  (fun os started H enc _ F => by rw [OpenClaim.pre_eq_preRow]; exact lifted os started H enc F)
theorem plain (f : FuncId) (fn : Func) (hf : Tryz.pinned.checked.prog.funcNamed "loop.example/g00531/laws.FnExactRenameRel" = some f) (hfn : Tryz.pinned.checked.prog.funcs[f]? = some fn) :
  true = Tryz.pinned.checked.prog.looks [] ∧ ∀ (j : Nat) t, fn.params[j]? = some t → Tryz.pinned.checked.prog.wantsStandIn t = false := by
 obtain rfl : f = 5 := Option.some.inj ((show Tryz.prog.funcNamed "loop.example/g00531/laws.FnExactRenameRel" = some 5 by kernel_rfl).symm.trans hf) |>.symm
 obtain rfl : fn = Tryz.f5 := (Option.some.inj (Tryz.func5.symm.trans hfn)).symm
 refine ⟨by kernel_rfl, fun j t ht => ?_⟩
 rw [Tryz.params5] at ht
 have h : t = 47 ∨ t = 9 ∨ t = 9 := by simpa using Array.mem_of_getElem? ht
 rcases h with rfl | rfl | rfl
 ·exact (show Tryz.prog.wantsStandIn 47 = false by kernel_rfl)
 ·exact (show Tryz.prog.wantsStandIn 9 = false by kernel_rfl)
 ·exact (show Tryz.prog.wantsStandIn 9 = false by kernel_rfl)
theorem proved : Rows.FnExactRenameRelUptoCardSaid :=
 Claim7.holds_tied_plain_at .later [] _ _ _ _ over (fun _ h => by cases h) byText (fun _ h => by cases h) fnExactRenameRelUpto_row_tie rfl ⟨rfl, rfl⟩ (by kernel_rfl) rfl plain goes
end Go.Proofs.YtkelpajcfmghiaaGreatDoor.fnExactRenameRel
