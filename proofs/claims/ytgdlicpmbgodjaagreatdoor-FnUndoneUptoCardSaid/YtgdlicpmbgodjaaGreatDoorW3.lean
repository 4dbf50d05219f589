/- Changes made one by one: both sides alike. Conditions: none. -/
import Derived.Test.YtgdlicpmbgodjaaGreatDoorW2
namespace Go.Abs
set_option linter.unusedVariables false
set_option linter.unusedSimpArgs false
theorem Z94 (n:Nat) (r:List (List ByteArray)) (t:List ByteArray) (K:Int → Option (List (List ByteArray) × Bool)):∀ (k:Nat) (i:Int),spec_l02Put_c1.l0 n r t K k i = spec_l02Put.l0 n r t K k i
 | 0,_=>rfl
 | k + 1,i=>by
  unfold spec_l02Put_c1.l0 spec_l02Put.l0;simp only [Z94 n r t K k]
theorem put_c1 (n:Nat) (r:List (List ByteArray)) (t:List ByteArray):spec_l02Put_c1.F n r t = spec_l02Put.F n r t:=by
 unfold spec_l02Put_c1.F spec_l02Put.F;rw [Z94]
 rfl
abbrev Ch:Type:=Int × (List ByteArray) × Bool
abbrev Re0:Re:=(0,[])
def Z1J (d:List Re) (c:Ch) (b:Bool):Option (List Re) :=
 if 0 ≤ c.1 ∧ c.1 < (d.length:Int) then
  if c.2.2 = true then
   if Z5K b (d.getD c.1.toNat Re0) c.2.1 = true then some (d.set c.1.toNat ((d.getD c.1.toNat Re0).1,Z3u c.2.1 (d.getD c.1.toNat Re0).2)) else none
  else if inL c.2.1 (d.getD c.1.toNat Re0).2 = true then some (d.set c.1.toNat ((d.getD c.1.toNat Re0).1,Z10 (d.getD c.1.toNat Re0).2 [c.2.1])) else none
 else none
theorem ZB4 {d:List Re} (D:DbR d) (j:Nat) (h:j < d.length) {x:Re} (hx:Z2X x):DbR (d.set j x) :=
 ⟨by rw [List.length_set]; exact D.len,fun y hy=>by
  rcases List.mem_or_eq_of_mem_set hy with h | h
  ·exact D.rel y h
  ·rw [h]; exact hx⟩
theorem Z8U {b:Bool} {r:Re} {t:Tu} (h:Z5K b r t = true):b = true ∧ (t.length:Int) = r.1 ∧ inL t r.2 = false ∧ r.2.length < 400:=by
 unfold Z5K at h;simp only [Bool.and_eq_true,decide_eq_true_eq,Bool.not_eq_true'] at h;exact ⟨h.1.1.1,h.1.1.2,h.1.2,h.2⟩
theorem Z4h {d d':List Re} {c:Ch} {b:Bool} (D:DbR d) (hok:b = true → okT c.2.1) (h:Z1J d c b = some d'):DbR d':=by
 unfold Z1J at h
 split at h
 ·rename_i hr
  obtain ⟨h0,h1⟩:=hr;obtain ⟨j,hj⟩:=Int.eq_ofNat_of_zero_le h0;rw [hj,Int.toNat_natCast] at h;have hjd:j < d.length:=by omega
  have e:d.getD j Re0 = d[j]:=by simp [hjd]
  rw [e] at h;have R:=D.rel _ (List.getElem_mem hjd)
  split at h
  ·split at h
   ·rename_i hf
    cases h;obtain ⟨f1,f2,f3,f4⟩:=Z8U hf;exact ZB4 D j hjd (ZBb R (hok f1) f2 (fun hm=>by rw [Z1C.2 hm] at f3; cases f3) f4)
   ·cases h
  ·split at h
   ·cases h
    exact ZB4 D j hjd (ZAH R _)
   ·cases h
 ·cases h
section
variable (n:Nat) (hn:1100000 ≤ n) (L:List Ch) (hL:L.length ≤ 1048576) (k i:Nat) (h:i < L.length) (d:List Re) (D:DbR d) (b:Bool) (hok:b = true → okT L[i].2.1)
include hn hL D hok
theorem Z7a (hb:impl_isTuple.F n L[i].2.1 = some b) (K0:List Re → Option (List Re × Bool)) :
  impl_Apply.l0 n L (L.length:Int) [] K0 (k + 1) (i:Int) d = match Z1J d L[i] b with | some d'=>impl_Apply.l0 n L (L.length:Int) [] K0 k ((i + 1:Nat):Int) d' | none=>some ([],false):=by
 have h20:=D.len
 conv=>lhs; unfold impl_Apply.l0
 rw [if_pos (dlt h),if_pos (inl' h),Z0c _ h,ZAQ,Option.bind_some,Z0A _ (by omega) (by omega),wr1 (by omega)];generalize L[i] = c at *;unfold Z1J
 by_cases hr:0 ≤ c.1 ∧ c.1 < (d.length:Int)
 ·rw [if_neg (by simp; omega),if_pos hr,if_pos hr]
  obtain ⟨h0,h1⟩:=hr;obtain ⟨j,hj⟩:=Int.eq_ofNat_of_zero_le h0;rw [hj,Int.toNat_natCast];have hjd:j < d.length:=by omega
  have e:d.getD j Re0 = d[j]:=by simp [hjd]
  rw [e];have R:=D.rel _ (List.getElem_mem hjd);have h4:=R.base.2.2.1
  by_cases ha:c.2.2 = true
  ·rw [if_pos ha,if_pos ha]
   obtain ⟨q,q1,q2⟩:=ZBI n hn d[j] R c.2.1 b hb hok;rw [q1,Option.bind_some]
   by_cases hf:Z5K b d[j] c.2.1 = true
   ·rw [if_neg (by simp [hf]),if_pos hf,q2 hf]
   ·rw [if_pos (by simpa using hf),if_neg hf]
  ·rw [if_neg ha,if_neg ha,ZAg n d[j] c.2.1 (by omega) (by omega) (fun x hx=>by have:=(R.base.2.2.2 x hx).1; omega),Option.bind_some]
   by_cases hi:inL c.2.1 d[j].2 = true
   ·rw [if_neg (by simp [hi]),if_pos hi,del_eq n hn d[j] R _ c.2.1 (fun x hx=>by
     show ((impl_Apply_1.F n x c).bind some) = _;unfold impl_Apply_1.F;rw [Z42 n x c.2.1 (by have:=(R.base.2.2.2 x hx).1; omega) (by have:=(R.base.2.2.2 x hx).1; omega)]
     rfl),Option.bind_some,if_pos rfl]
   ·rw [if_pos (by simpa using hi),if_neg hi]
 ·rw [if_pos (by simp; omega),if_neg hr]
theorem ZB2 (hb:spec_TupleOk.F n L[i].2.1 = some b) (K0:List Re → Option (List Re × Bool)) :
  spec_Apply.l0 n L [] K0 (k + 1) (i:Int) d = match Z1J d L[i] b with | some d'=>spec_Apply.l0 n L [] K0 k ((i + 1:Nat):Int) d' | none=>some ([],false):=by
 have h20:=D.len
 conv=>lhs; unfold spec_Apply.l0
 rw [if_pos (dlt h),if_pos (inl' h),Z0c _ h,Z0Y,Option.bind_some,Z0A _ (by omega) (by omega),wr1 (by omega)];unfold spec_Apply.j1;generalize L[i] = c at *
 by_cases hr:0 ≤ c.1 ∧ c.1 < (d.length:Int)
 ·obtain ⟨j,hj⟩:=Int.eq_ofNat_of_zero_le hr.1
  have hjd:j < d.length:=by omega
  have hin:(0:Int) ≤ (j:Int) ∧ (j:Int) < (d.length:Int):=by omega
  have e:d.getD j Re0 = d[j]:=by simp [hjd]
  have hst:Z1J d c b = if c.2.2 = true then (if Z5K b d[j] c.2.1 = true then some (d.set j (d[j].1,Z3u c.2.1 d[j].2)) else none) else if inL c.2.1 d[j].2 = true then some (d.set j (d[j].1,Z10 d[j].2 [c.2.1])) else none:=by
   unfold Z1J;rw [if_pos hr,hj,Int.toNat_natCast,e]
  have hset:∀ x:Re,(d.set j x).getD j Re0 = x:=fun x=>by simp [hjd]
  have hsl:∀ x:Re,(0:Int) ≤ (j:Int) ∧ (j:Int) < ((d.set j x).length:Int):=fun x=>by rw [List.length_set]; exact hin
  have R:=D.rel _ (List.getElem_mem hjd);have h4:=R.base.2.2.1;have okr:∀ x ∈ d[j].2,∀ s ∈ x,okS s:=fun x hx=>(R.base.2.2.2 x hx).2
  have hHas:spec_l02Has.F n d[j].2 c.2.1 = some (inL c.2.1 d[j].2):=Z7T n d[j].2 c.2.1 (by omega) (by omega) (fun x hx=>by have:=(R.base.2.2.2 x hx).1; omega);have hmem:inL c.2.1 d[j].2 = true → b = true ∧ (c.2.1.length:Int) = d[j].1:=fun hi=>by
   have hm:=Z1C.1 hi;have:=Z3g n hn _ (R.base.2.2.2 _ hm);rw [hb] at this;exact ⟨Option.some.inj this,R.len _ hm⟩
  generalize hS:Z1J d c b = S at hst ⊢;rw [if_pos (by simp; omega),hj,Int.toNat_natCast,e];simp only [if_pos hin]
  by_cases hl:(c.2.1.length:Int) = d[j].1
  ·rw [if_pos (by simp [hl]),hb,Option.bind_some]
   cases b with
   | false =>
    have hn0:S = none:=by
     rw [hst]
     by_cases ha:c.2.2 = true
     ·rw [if_pos ha,if_neg (by simp [Z5K])]
     ·rw [if_neg ha,if_neg (fun hi=>by have:=(hmem hi).1; cases this)]
    rw [hn0,if_neg (by simp)]
   | true =>
    have T:=hok rfl;rw [if_pos (by simp),hHas,Option.bind_some]
    by_cases hi:inL c.2.1 d[j].2 = true
    ·by_cases ha:c.2.2 = true
     ·have hn0:S = none:=by rw [hst,if_pos ha,if_neg (by simp [Z5K,hi])]
      rw [hn0,if_pos (by simp [hi,ha])]
     ·have hs0:S = some (d.set j (d[j].1,Z10 d[j].2 [c.2.1])):=by rw [hst,if_neg ha,if_pos hi]
      have hle:(Z10 d[j].2 [c.2.1]).length ≤ d[j].2.length:=List.length_filter_le _ _;rw [hs0,if_neg (by simp [hi,ha]),if_neg ha,Z6x n hn d[j] R c.2.1 (Z1C.1 hi),Option.bind_some];simp only [if_pos (hsl _),hset];rw [if_neg (by simp; omega)]
    ·have hi':inL c.2.1 d[j].2 = false:=by simpa using hi
     by_cases ha:c.2.2 = true
     ·obtain ⟨z,hz⟩:=Z7S n hn d[j].2 c.2.1 (by omega) R.base.2.2.2 T
      rw [← put_c1] at hz;have hlen:=Z9R T.2 okr (fun hm=>hi (Z1C.2 hm));rw [if_neg (by simp [hi',ha]),if_pos ha,hz,Option.bind_some];simp only [if_pos (hsl _),hset]
      by_cases h400:d[j].2.length < 400
      ·have hs0:S = some (d.set j (d[j].1,Z3u c.2.1 d[j].2)):=by rw [hst,if_pos ha,if_pos (by simp [Z5K,hl,hi',h400])]
       rw [hs0,if_neg (by simp [hlen]; omega)]
      ·have hn0:S = none:=by rw [hst,if_pos ha,if_neg (by simp [Z5K,h400])]
       rw [hn0,if_pos (by simp [hlen]; omega)]
     ·have hn0:S = none:=by rw [hst,if_neg ha,if_neg hi]
      rw [hn0,if_pos (by simp [hi',ha])]
  ·have hn0:S = none:=by
    rw [hst]
    by_cases ha:c.2.2 = true
    ·rw [if_pos ha,if_neg (by simp [Z5K,hl])]
    ·rw [if_neg ha,if_neg (fun hi=>hl (hmem hi).2)]
   rw [hn0,if_neg (by simp [hl])]
 ·have hn0:Z1J d c b = none:=by unfold Z1J; rw [if_neg hr]
  rw [hn0,if_neg (by simp; omega)]
end
end Go.Abs
