/- Functions of the library, by their contracts. Conditions: none. -/
import Derived.Test.YtmpickbajdimdaaTy
import Derived.Test.YtmpickbajdimdaaSh
namespace Go.Abs
open Go.Proofs
set_option linter.unusedVariables false
namespace strings_Cut
def F (n : Nat) (a : ByteArray) (b : ByteArray) : Option (ByteArray × ByteArray × Bool) := if a.size < 4294967281 then some (⟨(Lib.cut a.data.toList b.data.toList).1.toArray⟩, ⟨(Lib.cut a.data.toList b.data.toList).2.1.toArray⟩, (Lib.cut a.data.toList b.data.toList).2.2) else none
def ent (n : Nat) : FEnt := ⟨roA [.str, .str], roR [.str, .str, .bool], fun v => F n v.1 v.2.1⟩
theorem ok (n : Nat) : EntOk Try.prog 83 (ent n) := by
  refine ent_lib (Ks := [.str, .str]) (Rs := [.str, .str, .bool]) Try.f83 (by kernel_rfl) (by kernel_rfl) (by kernel_rfl) rfl rfl ?_
  rintro ⟨a, b, _⟩ r hr S w hG
  have hr : F n a b = some r := hr
  unfold F at hr
  split at hr
  · rename_i hs
    cases hr
    obtain ⟨_, m, hm⟩ := hG 0 (by kernel_rfl)
    refine (Try.strings_Cut a b m w hs hm).mono ?_
    rintro e w2 ⟨rfl, k, rfl⟩
    exact ⟨rfl, rfl, rfl, rfl, rfl⟩
  · cases hr
end strings_Cut
namespace strings_Index
def F (n : Nat) (a : ByteArray) (b : ByteArray) : Option (Int) := if a.size < 4294967281 then some (Lib.index a.data.toList b.data.toList) else none
def ent (n : Nat) : FEnt := ⟨roA [.str, .str], roR [.int .i64], fun v => F n v.1 v.2.1⟩
theorem ok (n : Nat) : EntOk Try.prog 85 (ent n) := by
  refine ent_lib (Ks := [.str, .str]) (Rs := [.int .i64]) Try.f85 (by kernel_rfl) (by kernel_rfl) (by kernel_rfl) rfl rfl ?_
  rintro ⟨a, b, _⟩ r hr S w hG
  have hr : F n a b = some r := hr
  unfold F at hr
  split at hr
  · rename_i hs
    cases hr
    obtain ⟨_, m, hm⟩ := hG 0 (by kernel_rfl)
    refine (Try.strings_Index a b m w hs hm).mono ?_
    rintro e w2 ⟨rfl, rfl⟩
    exact ⟨rfl, rfl, rfl, rfl, rfl⟩
  · cases hr
end strings_Index
end Go.Abs
