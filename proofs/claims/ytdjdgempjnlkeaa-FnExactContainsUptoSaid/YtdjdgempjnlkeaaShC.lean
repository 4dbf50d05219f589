/- maps.Clone at this dump. Conditions: none. -/
import Derived.Shelf.SlMaps.Clone
import Derived.WalkKit
import Derived.KernelRfl
import Derived.Test.YtdjdgempjnlkeaaProg
namespace Go.Proofs
open Go.Shelf Go.RowKit Go.Maps
set_option maxRecDepth 100000 in
set_option maxHeartbeats 2000000 in
theorem Try.maps_Clone_map_string_Exp_string_Exp (b : Nat) (es : Array MapEntry) (clock : Nat) (w : World) (hb : w.heap[b]? = some (.map es clock)) :
  Calls Try.prog 65 #[.map (some b)] w fun e w' => e = .returned (.map (some w.heap.size)) ∧ w' = w.alloc (.map es clock) := by
 have mixed : Try.prog.follows .mixedOrders = true := by kernel_rfl
 have t4 := Try.underlying4; have a4 := Try.isAgg4; have z4 := Try.sizeOf4; have v4 := Try.zeroValue4
 have t20 := Try.underlying20; have a20 := Try.isAgg20; have z20 := Try.sizeOf20; have v20 := Try.zeroValue20
 have t99 := Try.underlying99; have a99 := Try.isAgg99; have z99 := Try.sizeOf99; have v99 := Try.zeroValue99
 have hq := fun w => run_eql_map_nil_sl (P := Try.prog) w 99 _ _ (some b) t99
 go_enter Try.func65, Try.ntmps65
 go_wp2
 rw [run_callFunc_extern Try.func81 (by kernel_rfl) (by kernel_rfl) (by kernel_rfl) (e := Extern.MapsClone.clone) (by kernel_rfl), run_maps_clone_sl w 99 hb]
 simp only [Result.andThen]
 rw [Oper.upon_value]
 go_wp2
 rw [run_typeAssert_map_sl _ 99 20 _ _ _ t99]
 simp only [Result.andThen]
 rw [Oper.upon_value]
 go_wp2
 go_ret
 exact ⟨rfl, rfl⟩
end Go.Proofs
