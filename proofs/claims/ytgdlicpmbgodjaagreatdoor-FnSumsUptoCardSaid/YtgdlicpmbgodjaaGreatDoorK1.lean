/- What is right is taken for right. Conditions: none. -/
import Derived.Test.YtgdlicpmbgodjaaGreatDoorG9
namespace Go.Abs
set_option linter.unusedVariables false
set_option linter.unusedSimpArgs false
theorem okT_small {t : Tu} (h : okT t) : t.length ≤ 1048576 ∧ ∀ s ∈ t, s.size ≤ 1048576 := ⟨by have := h.1; omega, fun s hs => by obtain ⟨_, _, h2⟩ := h.2 s hs; omega⟩
theorem sameTexts_l (n : Nat) (a : Tu) (ha : a.length ≤ 1048576) (K : Unit → Option Bool) : ∀ (k i : Nat), i ≤ a.length → a.length - i < k → laws_sameTexts.l0 n a a K k (i : Int) = K ()
 | 0, i, hi, hk => absurd hk (Nat.not_lt_zero _)
 | k + 1, i, hi, hk => by
  by_cases h : i < a.length
  ·conv => lhs; unfold laws_sameTexts.l0
   rw [if_pos (dlt h), if_pos (inl' h), if_pos (inl' h), seq_dec, if_neg (by simp), wr1 (by omega)]
   exact sameTexts_l n a ha K k (i + 1) (by omega) (by omega)
  ·conv => lhs; unfold laws_sameTexts.l0
   rw [if_neg (dnl h)]
theorem sameTexts_refl (n : Nat) (hn : 1100000 ≤ n) (a : Tu) (ha : a.length ≤ 1048576) : laws_sameTexts.F n a a = some true := by
 unfold laws_sameTexts.F
 have := sameTexts_l n a ha (fun _ => some true) n 0 (Nat.zero_le _) (by omega)
 rw [show ((0 : Nat) : Int) = 0 from rfl] at this
 rw [if_neg (by simp), this]
theorem sameRows_l (n : Nat) (hn : 1100000 ≤ n) (a : List Tu) (ha : a.length ≤ 1048576) (hs : ∀ t ∈ a, t.length ≤ 1048576) (K : Unit → Option Bool) : ∀ (k i : Nat), i ≤ a.length → a.length - i < k → laws_sameRows.l0 n a a K k (i : Int) = K ()
 | 0, i, hi, hk => absurd hk (Nat.not_lt_zero _)
 | k + 1, i, hi, hk => by
  by_cases h : i < a.length
  ·conv => lhs; unfold laws_sameRows.l0
   rw [if_pos (dlt h), if_pos (inl' h), if_pos (inl' h), getD_in _ h, sameTexts_refl n hn _ (hs _ (List.getElem_mem h)), Option.bind_some, if_neg (by simp), wr1 (by omega)]
   exact sameRows_l n hn a ha hs K k (i + 1) (by omega) (by omega)
  ·conv => lhs; unfold laws_sameRows.l0
   rw [if_neg (dnl h)]
theorem sameRows_refl (n : Nat) (hn : 1100000 ≤ n) (a : List Tu) (ha : a.length ≤ 1048576) (hs : ∀ t ∈ a, t.length ≤ 1048576) : laws_sameRows.F n a a = some true := by
 unfold laws_sameRows.F
 have := sameRows_l n hn a ha hs (fun _ => some true) n 0 (Nat.zero_le _) (by omega)
 rw [show ((0 : Nat) : Int) = 0 from rfl] at this
 rw [if_neg (by simp), this]
end Go.Abs
