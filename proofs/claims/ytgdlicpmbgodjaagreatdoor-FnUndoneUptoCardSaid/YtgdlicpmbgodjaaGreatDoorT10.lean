/- The order of terms and tuples. Conditions: none. -/
import Derived.Test.YtgdlicpmbgodjaaGreatDoorT9
namespace Go.Abs
set_option linter.unusedVariables false
set_option linter.unusedSimpArgs false
theorem Z4B:∀ (x y:List UInt8),Op.bytesLess x y = decide (x < y)
 | [],[]=>by simp [Op.bytesLess]
 | _ :: _,[]=>by simp [Op.bytesLess]
 | [],_ :: _=>by simp [Op.bytesLess]
 | a :: x,b :: y=>by
  have h:(a :: x < b :: y) ↔ (a < b ∨ a = b ∧ x < y):=List.cons_lt_cons_iff;rw [Op.bytesLess,Z4B x y]
  by_cases h1:a < b
  ·simp [h,h1]
  ·by_cases h2:a = b
   ·simp [h,h2]
   ·simp [h,h1,h2]
def Z7v (x y:Int):Int:=if x < y then -1 else if y < x then 1 else 0
def Z8l (a b:List UInt8):Int:=if a < b then -1 else if a = b then 0 else 1
def Z3e {α:Type} (f:α → α → Int):List α → List α → Int
 | x :: xs,y :: ys=>if f x y = 0 then Z3e f xs ys else f x y
 | [],[]=>0
 | [],_ :: _=>-1
 | _ :: _,[]=>1
theorem sgn_icmp (x y:Int):sgn (Z7v x y):=by unfold sgn Z7v; split <;> (try split) <;> simp
theorem sgn_xcmp (a b:List UInt8):sgn (Z8l a b):=by unfold sgn Z8l; split <;> (try split) <;> simp
theorem slt_bt (a b:List UInt8):slt (bt a) (bt b) = decide (a < b):=by
 unfold slt;rw [Lib.toList_data,Lib.toList_data,Z12,Z12,Z4B]
structure Ord3 {α:Type} (P:α → Prop) (f:α → α → Int):Prop where
 rng:∀ a b,P a → P b → sgn (f a b)
 zero:∀ a b,P a → P b → (f a b = 0 ↔ a = b)
 neg:∀ a b,P a → P b → f b a = - f a b
 trans:∀ a b c,P a → P b → P c → f a b < 0 → f b c < 0 → f a c < 0
theorem ord_icmp:Ord3 (fun _=>True) Z7v where
 rng a b _ _:=sgn_icmp a b
 zero a b _ _:=by unfold Z7v; split <;> (try split) <;> omega
 neg a b _ _:=by unfold Z7v; split <;> split <;> (try split) <;> omega
 trans a b c _ _ _ h1 h2:=by unfold Z7v at *; split at h1 <;> (try split at h1) <;> split at h2 <;> (try split at h2) <;> (try omega); all_goals (rw [if_pos (by omega)]; omega)
theorem ord_xcmp:Ord3 (fun _=>True) Z8l where
 rng a b _ _:=sgn_xcmp a b
 zero a b _ _:=by
  unfold Z8l
  by_cases h:a < b
  ·rw [if_pos h]
   constructor
   ·intro h; omega
   ·rintro rfl; exact absurd h (List.lt_irrefl a)
  ·rw [if_neg h]
   by_cases h2:a = b
   ·rw [if_pos h2]; simp [h2]
   ·rw [if_neg h2]; simp [h2]
 neg a b _ _:=by
  unfold Z8l
  by_cases h:a < b
  ·have h2:¬ b < a:=fun h3=>List.lt_irrefl a (List.lt_trans h h3)
   have h3:b ≠ a:=by rintro rfl; exact List.lt_irrefl _ h
   rw [if_pos h,if_neg h2,if_neg h3]; rfl
  ·by_cases h2:a = b
   ·subst h2; rw [if_neg h,if_pos rfl]; rfl
   ·have h3:b < a:=by
     rcases List.le_total a b with h4 | h4
     ·exact absurd (List.le_antisymm h4 (List.not_lt.1 h)) h2
     ·rcases Classical.em (b < a) with h5 | h5
      ·exact h5
      ·exact absurd (List.le_antisymm (List.not_lt.1 h5) (List.not_lt.1 h)) h2
    rw [if_neg h,if_neg h2,if_pos h3]
 trans a b c _ _ _ h1 h2:=by
  unfold Z8l at *;have e1:a < b:=by
   by_cases h:a < b
   ·exact h
   ·rw [if_neg h] at h1; split at h1 <;> omega
  have e2:b < c:=by
   by_cases h:b < c
   ·exact h
   ·rw [if_neg h] at h2; split at h2 <;> omega
  rw [if_pos (List.lt_trans e1 e2)];omega
theorem Z9I {α:Type} {P:α → Prop} {f:α → α → Int} (h:Ord3 P f):Ord3 (fun l:List α=>∀ x ∈ l,P x) (Z3e f) where
 rng a b ha hb:=by
  induction a generalizing b with
  | nil=>cases b <;> simp [Z3e,sgn]
  | cons x xs ih =>
   cases b with
   | nil=>simp [Z3e,sgn]
   | cons y ys =>
    unfold Z3e
    split
    ·exact ih ys (fun z hz=>ha z (List.mem_cons_of_mem _ hz)) (fun z hz=>hb z (List.mem_cons_of_mem _ hz))
    ·exact h.rng x y (ha x List.mem_cons_self) (hb y List.mem_cons_self)
 zero a b ha hb:=by
  induction a generalizing b with
  | nil=>cases b <;> simp [Z3e]
  | cons x xs ih =>
   cases b with
   | nil=>simp [Z3e]
   | cons y ys =>
    have hx:=h.zero x y (ha x List.mem_cons_self) (hb y List.mem_cons_self);unfold Z3e
    by_cases h0:f x y = 0
    ·rw [if_pos h0,ih ys (fun z hz=>ha z (List.mem_cons_of_mem _ hz)) (fun z hz=>hb z (List.mem_cons_of_mem _ hz)),hx.1 h0]
     simp
    ·rw [if_neg h0]
     constructor
     ·intro h1; exact absurd h1 h0
     ·intro h1; injection h1 with h1 _; exact absurd (hx.2 h1) h0
 neg a b ha hb:=by
  induction a generalizing b with
  | nil=>cases b <;> simp [Z3e]
  | cons x xs ih =>
   cases b with
   | nil=>simp [Z3e]
   | cons y ys =>
    have hx:=h.neg x y (ha x List.mem_cons_self) (hb y List.mem_cons_self);unfold Z3e
    by_cases h0:f x y = 0
    ·rw [if_pos h0,if_pos (by omega)]
     exact ih ys (fun z hz=>ha z (List.mem_cons_of_mem _ hz)) (fun z hz=>hb z (List.mem_cons_of_mem _ hz))
    ·rw [if_neg h0,if_neg (by omega)]
     exact hx
 trans a b c ha hb hc:=by
  induction a generalizing b c with
  | nil =>
   intro h1 h2;cases b with
   | nil=>simp [Z3e] at h1
   | cons y ys =>
    cases c with
    | nil=>simp [Z3e] at h2
    | cons z zs=>simp [Z3e]
  | cons x xs ih =>
   intro h1 h2;cases b with
   | nil=>simp [Z3e] at h1
   | cons y ys =>
    cases c with
    | nil=>simp [Z3e] at h2
    | cons z zs =>
     have px:=ha x List.mem_cons_self;have py:=hb y List.mem_cons_self;have pz:=hc z List.mem_cons_self;unfold Z3e at h1 h2 ⊢
     by_cases e1:f x y = 0
     ·have exy:=(h.zero x y px py).1 e1
      subst exy;rw [if_pos e1] at h1
      by_cases e2:f x z = 0
      ·rw [if_pos e2] at h2 ⊢
       exact ih ys zs (fun w hw=>ha w (List.mem_cons_of_mem _ hw)) (fun w hw=>hb w (List.mem_cons_of_mem _ hw)) (fun w hw=>hc w (List.mem_cons_of_mem _ hw)) h1 h2
      ·rw [if_neg e2] at h2 ⊢
       exact h2
     ·rw [if_neg e1] at h1
      by_cases e2:f y z = 0
      ·have eyz:=(h.zero y z py pz).1 e2
       subst eyz;rw [if_neg e1];exact h1
      ·rw [if_neg e2] at h2
       have:=h.trans x y z px py pz h1 h2;rw [if_neg (by omega)];exact this
def tc (a b:List UInt8):Int:=(spec_l01Cmp.F 2000 (bt a) (bt b)).getD 0
theorem ZAv {a b:List UInt8} {ka kb:Nat} (ha:Tm ka a) (hb:Tm kb b) (hal:a.length ≤ 200) (hbl:b.length ≤ 200) (n m:Nat) (hn:900 ≤ n) (hm:700 ≤ m) :
  impl_compareTerms.F n (bt a) (bt b) = some (tc a b) ∧ spec_l01Cmp.F m (bt a) (bt b) = some (tc a b) ∧ sgn (tc a b):=by
 obtain ⟨c,c1,c2,c3⟩:=Z4g 200 a b ka kb n m hal ha hb hal hbl (by omega) (by omega);obtain ⟨d,d1,d2,d3⟩:=Z4g 200 a b ka kb n 2000 hal ha hb hal hbl (by omega) (by omega);have e:tc a b = c:=by
  unfold tc;rw [d2,Option.getD_some];rw [c1] at d1;exact (Option.some.inj d1).symm
 rw [e];exact ⟨c1,c2,c3⟩
end Go.Abs
