/- Changes made one by one: both sides alike. Conditions: none. -/
import Derived.Test.YtgdlicpmbgodjaaGreatDoorW2
import Derived.Test.YtgdlicpmbgodjaaGreatDoorF1
namespace Go.Abs
set_option linter.unusedVariables false
set_option linter.unusedSimpArgs false
abbrev Ch:Type:=Int × (List ByteArray) × Bool
abbrev Re0:Re:=(0,[])
def Z1u (d:List Re) (c:Ch) (b:Bool):Option (List Re) :=
 if 0 ≤ c.1 ∧ c.1 < (d.length:Int) then
  if c.2.2 = true then
   if Z7k b (d.getD c.1.toNat Re0) c.2.1 = true then some (d.set c.1.toNat ((d.getD c.1.toNat Re0).1,Z3G c.2.1 (d.getD c.1.toNat Re0).2)) else none
  else if inL c.2.1 (d.getD c.1.toNat Re0).2 = true then some (d.set c.1.toNat ((d.getD c.1.toNat Re0).1,Z0W (d.getD c.1.toNat Re0).2 [c.2.1])) else none
 else none
theorem ZB7 {d:List Re} (D:DbR d) (j:Nat) (h:j < d.length) {x:Re} (hx:Z2R x):DbR (d.set j x) :=
 ⟨by rw [List.length_set]; exact D.len,fun y hy=>by
  rcases List.mem_or_eq_of_mem_set hy with h | h
  ·exact D.rel y h
  ·rw [h]; exact hx⟩
theorem ZBx {b:Bool} {r:Re} {t:Tu} (h:Z7k b r t = true):b = true ∧ (t.length:Int) = r.1 ∧ inL t r.2 = false ∧ r.2.length < 400:=by
 unfold Z7k at h;simp only [Bool.and_eq_true,decide_eq_true_eq,Bool.not_eq_true'] at h;exact ⟨h.1.1.1,h.1.1.2,h.1.2,h.2⟩
theorem Z74 {d d':List Re} {c:Ch} {b:Bool} (D:DbR d) (hok:b = true → okT c.2.1) (h:Z1u d c b = some d'):DbR d':=by
 unfold Z1u at h
 split at h
 ·rename_i hr
  obtain ⟨h0,h1⟩:=hr;obtain ⟨j,hj⟩:=Int.eq_ofNat_of_zero_le h0;rw [hj,Int.toNat_natCast] at h;have hjd:j < d.length:=by omega
  have e:d.getD j Re0 = d[j]:=by simp [hjd]
  rw [e] at h;have R:=D.rel _ (List.getElem_mem hjd)
  split at h
  ·split at h
   ·rename_i hf
    cases h;obtain ⟨f1,f2,f3,f4⟩:=ZBx hf;exact ZB7 D j hjd (Z7V R (hok f1) f2 (fun hm=>by rw [Z1Q.2 hm] at f3; cases f3) f4)
   ·cases h
  ·split at h
   ·cases h
    exact ZB7 D j hjd (Z5o R _)
   ·cases h
 ·cases h
section
variable (n:Nat) (hn:1100000 ≤ n) (L:List Ch) (hL:L.length ≤ 1048576) (k i:Nat) (h:i < L.length) (d:List Re) (D:DbR d) (b:Bool) (hok:b = true → okT L[i].2.1)
include hn hL D hok
theorem ZBv (hb:impl_isTuple.F n L[i].2.1 = some b) (K0:List Re → Option (List Re × Bool)) :
  impl_Apply.l0 n L (L.length:Int) [] K0 (k + 1) (i:Int) d = match Z1u d L[i] b with | some d'=>impl_Apply.l0 n L (L.length:Int) [] K0 k ((i + 1:Nat):Int) d' | none=>some ([],false):=by
 have h20:=D.len
 conv=>lhs; unfold impl_Apply.l0
 rw [if_pos (dlt h),if_pos (inl' h),Z0P _ h,ZAX,Option.bind_some,Z0B _ (by omega) (by omega),wr1 (by omega)];generalize L[i] = c at *;unfold Z1u
 by_cases hr:0 ≤ c.1 ∧ c.1 < (d.length:Int)
 ·rw [if_neg (by simp; omega),if_pos hr,if_pos hr]
  obtain ⟨h0,h1⟩:=hr;obtain ⟨j,hj⟩:=Int.eq_ofNat_of_zero_le h0;rw [hj,Int.toNat_natCast];have hjd:j < d.length:=by omega
  have e:d.getD j Re0 = d[j]:=by simp [hjd]
  rw [e];have R:=D.rel _ (List.getElem_mem hjd);have h4:=R.base.2.2.1
  by_cases ha:c.2.2 = true
  ·rw [if_pos ha,if_pos ha]
   obtain ⟨q,q1,q2⟩:=ZBL n hn d[j] R c.2.1 b hb hok;rw [q1,Option.bind_some]
   by_cases hf:Z7k b d[j] c.2.1 = true
   ·rw [if_neg (by simp [hf]),if_pos hf,q2 hf]
   ·rw [if_pos (by simpa using hf),if_neg hf]
  ·rw [if_neg ha,if_neg ha,Z6G n d[j] c.2.1 (by omega) (by omega) (fun x hx=>by have:=(R.base.2.2.2 x hx).1; omega),Option.bind_some]
   by_cases hi:inL c.2.1 d[j].2 = true
   ·rw [if_neg (by simp [hi]),if_pos hi,del_eq n hn d[j] R _ c.2.1 (fun x hx=>by
     show ((impl_Apply_1.F n x c).bind some) = _;unfold impl_Apply_1.F;rw [Z42 n x c.2.1 (by have:=(R.base.2.2.2 x hx).1; omega) (by have:=(R.base.2.2.2 x hx).1; omega)]
     rfl),Option.bind_some,if_pos rfl]
   ·rw [if_pos (by simpa using hi),if_neg hi]
 ·rw [if_pos (by simp; omega),if_neg hr]
end
end Go.Abs
