/- What a region does outside of rounds it does in a round, where nothing is deferred. Conditions: none. -/
import Derived.OrdersIn
import Derived.Orders
import Derived.RangeFuncCalls
namespace Go.Abs
open Go

theorem opIn_of_op {l n : Nat} {P : Program} {o : Oper} {a : Act} {w : World} {next : Act → World → Prop} {Q : Exit → Act → World → Prop} (hd : ∀ c, o.op ≠ .defer c)
    (h : Oper.wp P o a w next Q) : Oper.wpIn (Fence.wide.inRound l) n P o a w next Q := by
  refine ⟨fun f _ => trivial, ?_⟩
  rw [Oper.semAt_eq _ _ _ hd]
  unfold Oper.wp at h
  generalize (execOp a.eval o).run P w = r at h
  unfold Oper.upon at h
  unfold Oper.uponIn
  split at h
  · exact h
  · exact h
  · exact h
  · exact ⟨fun h => by simp [Fence.wide] at h, CallsIn.inRound l (callsIn_wide.2 h)⟩
  · exact ⟨fun h => by simp [Fence.wide] at h, fun c cs _ => let ⟨v, w', r, s⟩ := h c cs; ⟨v, w', r, stepsIn_wide.2 s⟩⟩
  · exact h
  · exact h.elim

theorem anyIn_of_any {l n : Nat} {P : Program} {md : Region.Mode} {ops : Array Oper} {Q : Exit → Act → World → Prop} (hd : ∀ (i : Nat) o, ops[i]? = some o → ∀ c, o.op ≠ .defer c) (hQ : ¬ LetsOut Q) :
    ∀ (fuel : Nat) (listed : Array Bool) (a : Act) (w : World), wpAny P md ops Q fuel listed a w → wpAnyIn (Fence.wide.inRound l) n P md ops Q fuel listed a w
  | 0, _, _, _, h => h
  | fuel + 1, listed, a, w, h => by
    refine ⟨h.1, fun i hi => ?_⟩
    have h2 := h.2 i hi
    unfold wpOp at h2
    unfold wpOpIn
    split at h2
    · rename_i e
      rw [e]
      exact anyIn_of_any hd hQ fuel _ a w h2
    · rename_i o e
      rw [e]
      dsimp only
      split at h2
      · rename_i hw
        rw [if_pos hw]
        rcases h2 with h2 | ⟨_, h2⟩
        · exact opIn_of_op (hd i o e) (Oper.wp_mono (fun a' w' h3 => anyIn_of_any hd hQ fuel _ a' w' h3) h2)
        · exact absurd h2 hQ
      · rename_i hw
        rw [if_neg hw]
        exact ⟨fun _ _ => trivial, anyIn_of_any hd hQ fuel _ _ w h2⟩
theorem opsIn_of_ops {l n : Nat} {P : Program} {ops : Array Oper} {Q : Exit → Act → World → Prop} (hd : ∀ (i : Nat) o, ops[i]? = some o → ∀ c, o.op ≠ .defer c) (hQ : ¬ LetsOut Q) :
    ∀ (r : List Nat) (a : Act) (w : World), wpOps P ops Q r a w → wpOpsIn (Fence.wide.inRound l) n P ops Q r a w
  | [], _, _, h => h
  | i :: r, a, w, h => by
    unfold wpOps at h
    unfold wpOpsIn
    split at h
    · rename_i e
      rw [e]
      exact opsIn_of_ops hd hQ r a w h
    · rename_i o e
      rw [e]
      dsimp only
      split at h
      · rename_i hw
        rw [if_pos hw]
        rcases h with h2 | ⟨_, h2⟩
        · exact opIn_of_op (hd i o e) (Oper.wp_mono (fun a' w' h3 => opsIn_of_ops hd hQ r a' w' h3) h2)
        · exact absurd h2 hQ
      · rename_i hw
        rw [if_neg hw]
        exact ⟨fun _ _ => trivial, opsIn_of_ops hd hQ r _ w h⟩
end Go.Abs
