/- FnUndone: the law. Conditions: none. -/
import Derived.Test.YtgdlicpmbgodjaaGreatDoorD4
import Derived.Test.YtgdlicpmbgodjaaGreatDoorU3
namespace Go.Abs
set_option linter.unusedVariables false
set_option linter.unusedSimpArgs false
theorem ZB6 (n:Nat) (a:Tu) (ha:a.length ≤ 1048576) (K:Unit → Option Bool):∀ (k i:Nat),i ≤ a.length → a.length - i < k → laws_sameTexts.l0 n a a K k (i:Int) = K ()
 | 0,i,hi,hk=>absurd hk (Nat.not_lt_zero _)
 | k + 1,i,hi,hk=>by
  by_cases h:i < a.length
  ·conv=>lhs; unfold laws_sameTexts.l0
   rw [if_pos (dlt h),if_pos (inl' h),if_pos (inl' h),Z84,if_neg (by simp),wr1 (by omega)];exact ZB6 n a ha K k (i + 1) (by omega) (by omega)
  ·conv=>lhs; unfold laws_sameTexts.l0
   rw [if_neg (dnl h)]
theorem ZA4 (n:Nat) (hn:1100000 ≤ n) (a:Tu) (ha:a.length ≤ 1048576):laws_sameTexts.F n a a = some true:=by
 unfold laws_sameTexts.F;have:=ZB6 n a ha (fun _=>some true) n 0 (Nat.zero_le _) (by omega);rw [show ((0:Nat):Int) = 0 from rfl] at this;rw [if_neg (by simp),this]
theorem ZB7 (n:Nat) (hn:1100000 ≤ n) (a:List Tu) (ha:a.length ≤ 1048576) (hs:∀ t ∈ a,t.length ≤ 1048576) (K:Unit → Option Bool):∀ (k i:Nat),i ≤ a.length → a.length - i < k → laws_sameRows.l0 n a a K k (i:Int) = K ()
 | 0,i,hi,hk=>absurd hk (Nat.not_lt_zero _)
 | k + 1,i,hi,hk=>by
  by_cases h:i < a.length
  ·conv=>lhs; unfold laws_sameRows.l0
   rw [if_pos (dlt h),if_pos (inl' h),if_pos (inl' h),Z0c _ h,ZA4 n hn _ (hs _ (List.getElem_mem h)),Option.bind_some,if_neg (by simp),wr1 (by omega)];exact ZB7 n hn a ha hs K k (i + 1) (by omega) (by omega)
  ·conv=>lhs; unfold laws_sameRows.l0
   rw [if_neg (dnl h)]
theorem ZA5 (n:Nat) (hn:1100000 ≤ n) (a:List Tu) (ha:a.length ≤ 1048576) (hs:∀ t ∈ a,t.length ≤ 1048576):laws_sameRows.F n a a = some true:=by
 unfold laws_sameRows.F;have:=ZB7 n hn a ha hs (fun _=>some true) n 0 (Nat.zero_le _) (by omega);rw [show ((0:Nat):Int) = 0 from rfl] at this;rw [if_neg (by simp),this]
theorem ZB8 (n:Nat) (hn:1100000 ≤ n) (d:List Re) (D:DbR d) (K:Unit → Option Bool):∀ (k i:Nat),i ≤ d.length → d.length - i < k → laws_sameDb.l0 n d d K k (i:Int) = K ()
 | 0,i,hi,hk=>absurd hk (Nat.not_lt_zero _)
 | k + 1,i,hi,hk=>by
  have h20:=D.len
  by_cases h:i < d.length
  ·have R:=D.rel _ (List.getElem_mem h)
   have h4:=R.base.2.2.1
   conv=>lhs; unfold laws_sameDb.l0
   rw [if_pos (dlt h),if_pos (inl' h),if_pos (inl' h),Z0c _ h];unfold laws_sameRel.F;rw [if_pos (by simp),ZA5 n hn _ (by omega) (fun t ht=>(Z2C (R.base.2.2.2 t ht)).1),Option.bind_some,Option.bind_some,if_neg (by simp),wr1 (by omega)];exact ZB8 n hn d D K k (i + 1) (by omega) (by omega)
  ·conv=>lhs; unfold laws_sameDb.l0
   rw [if_neg (dnl h)]
theorem Z3k (n:Nat) (hn:1100000 ≤ n) (d:List Re) (D:DbR d):laws_sameDb.F n d d = some true:=by
 have h20:=D.len;unfold laws_sameDb.F;have:=ZB8 n hn d D (fun _=>some true) n 0 (Nat.zero_le _) (by omega);rw [show ((0:Nat):Int) = 0 from rfl] at this;rw [if_neg (by simp),this]
theorem back_eq (n:Nat) (l:List Ch) (hl:l.length ≤ 1048576) (ok:∀ c ∈ l,okT c.2.1):impl_Back.F n l = some (Z6j l):=by
 unfold impl_Back.F ZCF;rw [if_pos ⟨by show l.length ≤ 4294967296; omega,List.all_eq_true.2 fun c hc=>by
  have:=(ok c hc).1;show decide (c.2.1.length ≤ 4294967296) = true;exact decide_eq_true (by omega)⟩]
 rfl
theorem code_ok {l:List Int} (h:Kd.okv (.sl (.int .u8)) l):∀ b ∈ l,0 ≤ b ∧ b ≤ 255:=by
 intro b hb;have h1:=h b hb;have h1:(Lit.int .u8 b).wf = true:=h1;have h2:(decide (IntKind.u8.min ≤ b) && decide (b ≤ IntKind.u8.max)) = true:=h1;simp only [Bool.and_eq_true,decide_eq_true_eq] at h2;exact h2
theorem law_laws_FnUndone {n:Nat} (hn:big ≤ n) (a0:List Int) (ho0:Kd.okv (.sl (.int .u8)) a0) (hb0:Kd.bulk (.sl (.int .u8)) a0 ≤ 1048576):laws_FnUndone.F n a0 = some true:=by
 have hb:1100003 ≤ n:=by unfold big at hn; omega
 have hb1:1100000 ≤ n:=by omega
 unfold laws_FnUndone.F laws_big.F;rw [Option.bind_some]
 split
 ·rfl
 rename_i hc;simp only [decide_eq_true_eq] at hc;obtain ⟨d,l,e1,A,B⟩:=Z7e hb a0 (code_ok ho0) (by omega);rw [e1,Option.bind_some];obtain ⟨h1,h2,h3⟩:=Z8c A;have hl:l.length ≤ 1048576:=by have:=B.1; omega
 obtain ⟨w,w1,w2,w3⟩:=apply_u n hb1 d h1 h2 h3 l hl B.2;dsimp only;rw [w2,Option.bind_some,w1,Option.bind_some,if_pos (by simp)];unfold laws_FnUndone.j0;rcases w3 with rfl | ⟨ht,E,D,ok⟩
 ·rw [Z3k n hb1 [] ⟨Nat.zero_le _,fun x hx=>by cases hx⟩]
  rfl
 ·rw [Z3k n hb1 w.1 E,Option.bind_some,if_neg (by simp),if_neg (by simp [ht]),back_eq n l hl ok,Option.bind_some,undone n hb1 d l hl w w2 ht E D ok,Option.bind_some,if_pos rfl,Z3k n hb1 d D]
  rfl
end Go.Abs
