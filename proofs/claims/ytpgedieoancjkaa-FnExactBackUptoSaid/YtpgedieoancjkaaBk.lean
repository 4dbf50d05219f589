/- slices.Backward at []Change: the iterator, for every loop body. Conditions: none. -/
import Derived.RangeFuncBox
import Derived.Test.YtpgedieoancjkaaRfL
import Derived.RangeFuncLeaves
import Derived.Shelf.Abstract
import Derived.WalkKit
import Derived.OwnWalkIn
import Derived.TacticsInMore
import Derived.LoopNIn
import Derived.LoopIn
import Derived.KernelRfl
import Derived.Test.YtpgedieoancjkaaProg
set_option linter.unusedVariables false
set_option linter.unusedSimpArgs false
namespace Go.Proofs.Bk
open Go.RowKit Go.Shelf Go.Proofs

attribute [local go_sem] Oper.semAt_some

theorem mixB : Try.prog.follows .mixedOrders = true := by kernel_rfl

def upto {α : Type} (f : Nat → α) (k : Nat) : List α := (List.range k).map f
theorem upto_succ {α : Type} (f : Nat → α) (k : Nat) : upto f (k + 1) = upto f k ++ [f k] := by simp [upto, List.range_succ]
theorem upto_length {α : Type} (f : Nat → α) (k : Nat) : (upto f k).length = k := by simp [upto]

abbrev El : Type := Nat
abbrev encE (z : Nat → Value × Value × Value) (x : El) : Array Value := #[.int .i64 (x : Int), .agg #[(z x).1, (z x).2.1, (z x).2.2]]
abbrev back (len : Nat) (j : Nat) : El := len - 1 - j

/-- What a round keeps. -/
def KpB (n₀ Bs : Nat) (A B : World) : Prop := Below n₀ A B ∧ ∀ v, A.cell? ⟨Bs, 0, none⟩ = some v → B.cell? ⟨Bs, 0, none⟩ = some v
theorem KpB.trans {n₀ Bs : Nat} {A B C : World} (h : KpB n₀ Bs A B) (k : KpB n₀ Bs B C) : KpB n₀ Bs A C := ⟨h.1.trans k.1, fun v hv => k.2 v (h.2 v hv)⟩

set_option maxRecDepth 100000 in
set_option maxHeartbeats 4000000 in
theorem iter_in (F : Fence) (n : Nat) (h8 : F.fn 21) (hro : F.round = none) (hn : 1 ≤ n) (l Bs n₀ b off len cap : Nat) (z : Nat → Value × Value × Value) (hreach : len ≤ 4294967296) (hb : b < n₀) (J Jx : List El → World → Prop)
    (hY : ∀ pre x W, J pre W → pre.length < len → YieldAt F (n - 1) Try.prog l (encE z x) W fun e W' =>
      (e = .returned (.bool true) ∧ J (pre ++ [x]) W' ∧ KpB n₀ Bs W W') ∨ (e = .returned (.bool false) ∧ Jx (pre ++ [x]) W'))
    (W : World) (hBs : W.cell? ⟨Bs, 0, none⟩ = some (.slice (some ⟨b, off, none⟩) len cap))
    (hc : ∀ j, j < len → W.cell? ⟨b, off + j * 3, none⟩ = some (z j).1 ∧ W.cell? ⟨b, off + j * 3 + 1, none⟩ = some (z j).2.1 ∧ W.cell? ⟨b, off + j * 3 + 2, none⟩ = some (z j).2.2) (h0 : J [] W) :
    CallsIn F n Try.prog 21 #[.func (.yield l) #[] #[], .pointer (some ⟨Bs, 0, none⟩)] W fun e W' => (∃ v, e = .returned v) ∧
      ((∃ ys, ys = upto (back len) len ∧ J ys W') ∨ (∃ pre, (∃ k, k ≤ len ∧ pre = upto (back len) k) ∧ Jx pre W')) := by
  have t3 := Try.underlying3; have t4 := Try.underlying4; have t26 := Try.underlying24; have t51 := Try.underlying38
  have a3 := Try.isAgg3; have a4 := Try.isAgg4; have a26 := Try.isAgg24; have a51 := Try.isAgg38
  have z3 := Try.sizeOf3; have z4 := Try.sizeOf4; have z26 := Try.sizeOf24; have z51 := Try.sizeOf38
  have u3 := run_underlying Try.underlying3; have u4 := run_underlying Try.underlying4; have u26 := run_underlying Try.underlying24; have u51 := run_underlying Try.underlying38
  have mixed := mixB
  refine callsIn_of_wp Try.func21 rfl h8 ?_ hro
  simp only [Try.ntmps21, List.size_toArray, List.length_cons, List.length_nil, Nat.reduceAdd, Nat.reduceSub, Array.replicate_succ, Array.replicate_zero, List.push_toArray, List.append_toArray, List.nil_append, List.cons_append]
  gi_wp2
  gi_loopw [3] (fun i wr => ∃ k : Nat, k ≤ len ∧ i = .int .i64 ((len : Int) - 1 - (k : Int)) ∧ J (upto (back len) k) wr ∧ KpB n₀ Bs W wr)
    (fun i _ => (intOf i + 1).toNat)
  case atStart => exact ⟨0, Nat.zero_le _, by simp, h0, Below.refl _ _, fun _ h => h⟩
  case round =>
    obtain ⟨k, hk, rfl, hJs, hnx⟩ := hrel
    have hbox := hnx.2 _ hBs
    by_cases hlt : k < len
    · obtain ⟨i, hi⟩ : ∃ i, i = len - 1 - k := ⟨_, rfl⟩
      have hil : i < len := by omega
      have hii : (len : Int) - 1 - (k : Int) = (i : Int) := by omega
      obtain ⟨c0, c1, c2⟩ := hc i hil
      have d0 := (hnx.1.cell (p := ⟨b, off + i * 3, none⟩) hb).trans c0
      have d1 := (hnx.1.cell (p := ⟨b, off + i * 3 + 1, none⟩) hb).trans c1
      have d2 := (hnx.1.cell (p := ⟨b, off + i * 3 + 2, none⟩) hb).trans c2
      obtain ⟨fn, tmps, assign, body, hy, hR⟩ := hY _ (back len k) wr hJs (by rw [upto_length]; exact hlt)
      have hbk : back len k = i := by simp only [back, hi]
      rw [hbk] at hy hR
      rw [← hbk] at hR
      dsimp only [encE] at hy
      rw [hii]
      have hm : (intOf (Value.int .i64 ((i : Int) - 1)) + 1).toNat < (intOf (Value.int .i64 (i : Int)) + 1).toNat := by simp [intOf]
      clear hi hbk
      have e5 : ((len : Int) - 1 - ((k + 1 : Nat) : Int)) = (i : Int) - 1 := by omega
      gi_wp2
      refine hR.mono ?_
      rintro e W3 (⟨rfl, hJ3, hk3⟩ | ⟨rfl, hJx3⟩)
      · gi_wp2
        exact ⟨⟨k + 1, by omega, by rw [e5], by rw [upto_succ]; exact hJ3, hnx.trans hk3⟩, hm⟩
      · gi_wp2
        refine bodyPost_ret (results_none rfl _ _ _) rfl ?_
        exact ⟨⟨_, rfl⟩, .inr ⟨_, ⟨k + 1, by omega, (upto_succ _ _).symm⟩, hJx3⟩⟩
    · obtain rfl : k = len := by omega
      gi_wp2
      go_end0
      exact ⟨⟨_, rfl⟩, .inl ⟨_, rfl, hJs⟩⟩

set_option maxRecDepth 100000 in
set_option maxHeartbeats 2000000 in
theorem iter_empty_in (F : Fence) (n : Nat) (h8 : F.fn 21) (hro : F.round = none) (l Bs cap : Nat) (A : Option Addr) (J : List El → World → Prop)
    (W : World) (hBs : W.cell? ⟨Bs, 0, none⟩ = some (.slice A 0 cap)) (h0 : J [] W) :
    CallsIn F n Try.prog 21 #[.func (.yield l) #[] #[], .pointer (some ⟨Bs, 0, none⟩)] W fun e W' => (∃ v, e = .returned v) ∧ J [] W' := by
  have t3 := Try.underlying3; have t4 := Try.underlying4; have t26 := Try.underlying24
  have a3 := Try.isAgg3; have a4 := Try.isAgg4; have a26 := Try.isAgg24
  have z3 := Try.sizeOf3; have z4 := Try.sizeOf4; have z26 := Try.sizeOf24
  have u3 := run_underlying Try.underlying3; have u4 := run_underlying Try.underlying4; have u26 := run_underlying Try.underlying24
  have mixed := mixB
  refine callsIn_of_wp Try.func21 rfl h8 ?_ hro
  simp only [Try.ntmps21, List.size_toArray, List.length_cons, List.length_nil, Nat.reduceAdd, Nat.reduceSub, Array.replicate_succ, Array.replicate_zero, List.push_toArray, List.append_toArray, List.nil_append, List.cons_append]
  gi_wp2
  gi_loopw [3] (fun i wr => i = .int .i64 (-1) ∧ J [] wr) (fun _ _ => 0)
  case atStart => exact ⟨by simp, h0⟩
  case round =>
    obtain ⟨rfl, hJs⟩ := hrel
    gi_wp2
    go_end0
    exact ⟨⟨_, rfl⟩, hJs⟩

set_option maxHeartbeats 1000000 in
theorem back_in (F : Fence) (n : Nat) (h6 : F.fn 14) (hro : F.round = none) (a : Option Addr) (len cap : Nat) (w : World) :
    CallsIn F n Try.prog 14 #[.slice a len cap] w fun e w' => e = .returned (.func (.func 21) #[] #[.pointer (some ⟨w.heap.size, 0, none⟩)]) ∧ w' = w.alloc (.cells #[.slice a len cap] 24) := by
  have t26 := Try.underlying24
  have a26 := Try.isAgg24
  have z26 := Try.sizeOf24
  have u26 := run_underlying Try.underlying24
  have mixed := mixB
  refine callsIn_of_wp Try.func14 rfl h6 ?_ hro
  simp only [Try.ntmps14, List.size_toArray, List.length_cons, List.length_nil, Nat.reduceAdd, Nat.reduceSub, Array.replicate_succ, Array.replicate_zero, List.push_toArray, List.append_toArray, List.nil_append, List.cons_append]
  gi_wp2
  go_ret
  exact ⟨rfl, rfl⟩

theorem stops (F : Fence) (n : Nat) (h8 : F.fn 21) (hro : F.round = none) (hn : 1 ≤ n) (Bs n₀ len cap : Nat) (A : Option Addr) (z : Nat → Value × Value × Value) (hreach : len ≤ 4294967296) (w : World) (hBs : Bs < w.heap.size) (hn₀ : n₀ ≤ w.heap.size)
    (hc : w.cell? ⟨Bs, 0, none⟩ = some (.slice A len cap))
    (hI : len = 0 ∨ ∃ b off, A = some ⟨b, off, none⟩ ∧ b < n₀ ∧ ∀ j, j < len → w.cell? ⟨b, off + j * 3, none⟩ = some (z j).1 ∧ w.cell? ⟨b, off + j * 3 + 1, none⟩ = some (z j).2.1 ∧ w.cell? ⟨b, off + j * 3 + 2, none⟩ = some (z j).2.2) :
    SeqStopsL F n Try.prog 21 #[.pointer (some ⟨Bs, 0, none⟩)] (encE z) (KpB n₀ Bs) (fun ys => ys = upto (back len) len) (fun pre => ∃ k, k ≤ len ∧ pre = upto (back len) k) len w := fun l J Jx W hW hY h0 => by
  have hc' := (hW.cell (p := ⟨Bs, 0, none⟩) hBs).trans hc
  rcases hI with rfl | ⟨b, off, rfl, hb, hcs⟩
  · exact (iter_empty_in F n h8 hro l Bs cap A J W hc' h0).mono fun e W' ⟨he, hj⟩ => ⟨he, .inl ⟨_, rfl, hj⟩⟩
  · exact iter_in F n h8 hro hn l Bs n₀ b off len cap z hreach hb J Jx hY W hc' (fun j hj => by
      obtain ⟨d0, d1, d2⟩ := hcs j hj
      exact ⟨(hW.cell (p := ⟨b, off + j * 3, none⟩) (by show b < _; omega)).trans d0, (hW.cell (p := ⟨b, off + j * 3 + 1, none⟩) (by show b < _; omega)).trans d1, (hW.cell (p := ⟨b, off + j * 3 + 2, none⟩) (by show b < _; omega)).trans d2⟩) h0
end Go.Proofs.Bk
