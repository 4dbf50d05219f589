/- The order of terms, kind by kind. Conditions: none. -/
import Derived.Test.YtgdlicpmbgodjaaGreatDoorT10
namespace Go.Abs
set_option linter.unusedVariables false
set_option linter.unusedSimpArgs false
def okL (a:List UInt8):Prop:=∃ k,Tm k a ∧ a.length ≤ 200
theorem Z3h {a b:List UInt8} {ka kb:Nat} (ha:Tm ka a) (hb:Tm kb b) (hal:a.length ≤ 200) (hbl:b.length ≤ 200) (h:ka ≠ kb):tc a b = Z7v ka kb:=by
 obtain ⟨k3,a3,a4⟩:=Z0h _ a 1999 (Nat.le_refl _) (by omega) (by omega);obtain ⟨k4,b3,b4⟩:=Z0h _ b 1999 (Nat.le_refl _) (by omega) (by omega);have e1:=a4.complete ka ha hal;have e2:=b4.complete kb hb hbl;subst e1;subst e2;have h1:=ha.kind;have h2:=hb.kind;unfold tc;rw [ZCS 1999 _ _ a3 b3 h,Z1K,Z0A _ (by omega) (by omega),Option.getD_some];unfold Z7v
 by_cases hlt:(k3:Int) < (k4:Int)
 ·rw [if_pos (by omega),if_pos hlt]
 ·rw [if_neg (by omega),if_neg hlt,if_pos (by omega),if_pos (by omega)]
theorem tc_num {x y:Int} (h0:-1000000 ≤ x) (h1:x ≤ 1000000) (h2:-1000000 ≤ y) (h3:y ≤ 1000000) (hal:(Lib.itoa x).length ≤ 200) (hbl:(Lib.itoa y).length ≤ 200):tc (Lib.itoa x) (Lib.itoa y) = Z7v x y:=by
 obtain ⟨k3,a3,a4⟩:=Z0h _ (Lib.itoa x) 1999 (Nat.le_refl _) (by omega) (by omega);obtain ⟨k4,b3,b4⟩:=Z0h _ (Lib.itoa y) 1999 (Nat.le_refl _) (by omega) (by omega);have e1:=a4.complete 1 (.num x h0 h1) hal;have e2:=b4.complete 1 (.num y h2 h3) hbl;subst e1;subst e2;obtain ⟨v,ok,hv,hok,hve⟩:=Z2G 1999 (Lib.itoa x) (by omega);obtain ⟨v2,ok2,hv2,hok2,hve2⟩:=Z2G 1999 (Lib.itoa y) (by omega);have t1:=hve (hok.2 ⟨x,h0,h1,rfl⟩);have t2:=hve2 (hok2.2 ⟨y,h2,h3,rfl⟩);have i1:v = x:=by
  have:=Z1A v t1.2.1 t1.2.2;rw [← t1.1,Z1A x h0 h1] at this
  injection this with this
  exact this.symm
 have i2:v2 = y:=by
  have:=Z1A v2 t2.2.1 t2.2.2;rw [← t2.1,Z1A y h2 h3] at this
  injection this with this
  exact this.symm
 unfold tc;rw [SC_num 1999 _ _ a3 b3,hv,hv2];simp only [Option.bind_some];rw [Z1K,i1,i2,Z0A _ (by omega) (by omega),Option.getD_some];unfold Z7v
 by_cases hlt:x < y
 ·rw [if_pos (by omega),if_pos hlt]
 ·rw [if_neg (by omega),if_neg hlt]
  by_cases hgt:y < x
  ·rw [if_pos (by omega),if_pos hgt]
  ·rw [if_neg (by omega),if_neg hgt]
theorem Z8r (p q:List UInt8):(if slt (bt p) (bt q) = true then (-1:Int) else if Abs.seq (bt p) (bt q) = true then 0 else 1) = Z8l p q:=by
 rw [slt_bt,Z19];unfold Z8l
 by_cases h1:p < q
 ·rw [if_pos (by simpa using h1),if_pos h1]
 ·rw [if_neg (by simpa using h1),if_neg h1]
  by_cases h2:p = q
  ·rw [if_pos (by simpa using h2),if_pos h2]
  ·rw [if_neg (by simpa using h2),if_neg h2]
theorem tc_sym {p q:List UInt8} (hp:p.length ≤ 20) (hpp:p.all Z0X = true) (hq:q.length ≤ 20) (hqp:q.all Z0X = true):tc (34 :: (p ++ [34])) (34 :: (q ++ [34])) = Z8l p q:=by
 have l1:(34 :: (p ++ [34]):List UInt8).length = p.length + 2:=by simp
 have l2:(34 :: (q ++ [34]):List UInt8).length = q.length + 2:=by simp
 obtain ⟨k3,a3,a4⟩:=Z0h _ (34 :: (p ++ [34])) 1999 (Nat.le_refl _) (by omega) (by omega);obtain ⟨k4,b3,b4⟩:=Z0h _ (34 :: (q ++ [34])) 1999 (Nat.le_refl _) (by omega) (by omega);have e1:=a4.complete 2 (.sym p hp hpp) (by omega);have e2:=b4.complete 2 (.sym q hq hqp) (by omega);subst e1;subst e2;have x:∀ p:List UInt8,ByteArray.extract (bt (34 :: (p ++ [34]))) 1 ((bt (34 :: (p ++ [34]))).size - 1) = bt p:=by
  intro p;rw [Z1Y,Z0C]
  congr 1
  simp
 unfold tc;rw [SC_sym 1999 _ _ a3 b3 (by rw [Z0C]; omega) (by rw [Z0C]; omega),x,x,Z29,Option.getD_some,Z8r]
theorem Z9J (m:Nat) (g:ByteArray → ByteArray → Option Int):∀ (r1 r2 pre1 pre2:List (List UInt8)) (j:Nat),pre1.length = pre2.length → r1.length = r2.length →
  (pre1 ++ r1).length ≤ 300 → r1.length + 1 ≤ j → (∀ x ∈ r1,∀ y ∈ r2,g (bt x) (bt y) = some (tc x y)) →
  spec_l01Cmp.l0 m g ((pre1 ++ r1).map bt) ((pre2 ++ r2).map bt) (fun _=>some 0) j (pre1.length:Int) = some (Z3e tc r1 r2)
 | r1,r2,pre1,pre2,0,_,_,_,hj,_=>by omega
 | [],[],pre1,pre2,j + 1,hp,hr,hl,hj,hs=>by
  unfold spec_l01Cmp.l0;rw [List.length_map,if_neg (by simp)]
  rfl
 | [],y :: r2,pre1,pre2,j + 1,hp,hr,hl,hj,hs=>by simp at hr
 | x :: r1,[],pre1,pre2,j + 1,hp,hr,hl,hj,hs=>by simp at hr
 | x :: r1,y :: r2,pre1,pre2,j + 1,hp,hr,hl,hj,hs=>by
  simp only [List.length_append,List.length_cons] at hl hr hj;have h1:(pre1.length:Int) < (((pre1 ++ x :: r1).map bt).length:Int):=by simp; omega
  have h2:(pre1.length:Int) < (((pre2 ++ y :: r2).map bt).length:Int):=by simp; omega
  have get1:List.getD ((pre1 ++ x :: r1).map bt) (Int.toNat (pre1.length:Int)) ByteArray.empty = bt x:=by
   rw [Int.toNat_natCast,List.map_append,List.map_cons];have:=Z0z (pre1.map bt) (r1.map bt) (bt x) ByteArray.empty;rw [List.length_map] at this;exact this
  have get2:List.getD ((pre2 ++ y :: r2).map bt) (Int.toNat (pre1.length:Int)) ByteArray.empty = bt y:=by
   rw [Int.toNat_natCast,hp,List.map_append,List.map_cons];have:=Z0z (pre2.map bt) (r2.map bt) (bt y) ByteArray.empty;rw [List.length_map] at this;exact this
  unfold spec_l01Cmp.l0;rw [if_pos (decide_eq_true h1),if_pos ⟨by omega,h1⟩,if_pos ⟨by omega,h2⟩,get1,get2,hs x List.mem_cons_self y List.mem_cons_self];simp only [Option.bind_some,Z3e]
  by_cases hc:tc x y = 0
  ·rw [if_neg (by simpa using hc),if_pos hc,Z0A _ (by omega) (by omega)]
   have:=Z9J m g r1 r2 (pre1 ++ [x]) (pre2 ++ [y]) j (by simp; omega) (by omega) (by simp; omega) (by omega) (fun a ha b hb=>hs a (List.mem_cons_of_mem _ ha) b (List.mem_cons_of_mem _ hb));rw [show (pre1 ++ [x]) ++ r1 = pre1 ++ x :: r1 by simp,show (pre2 ++ [y]) ++ r2 = pre2 ++ y :: r2 by simp,show ((pre1 ++ [x]).length:Int) = (pre1.length:Int) + 1 by simp] at this;exact this
  ·rw [if_pos (by simpa using hc),if_neg hc]
theorem tc_con {a b nm nm2:List UInt8} {xs ys:List (List UInt8)} (ha:Parts a nm xs) (hb:Parts b nm2 ys) (ta:Tm 3 a) (tb:Tm 3 b) (hal:a.length ≤ 200) (hbl:b.length ≤ 200) :
  tc a b = if nm = nm2 then (if xs.length = ys.length then Z3e tc xs ys else Z7v xs.length ys.length) else Z8l nm nm2:=by
 obtain ⟨k3,a3,a4⟩:=Z0h _ a 1999 (Nat.le_refl _) (by omega) (by omega);obtain ⟨k4,b3,b4⟩:=Z0h _ b 1999 (Nat.le_refl _) (by omega) (by omega);have e1:=a4.complete 3 ta hal;have e2:=b4.complete 3 tb hbl;subst e1;subst e2;obtain ⟨_,p2⟩:=Z4S ha 1999 1999 hal (by omega) (by omega);obtain ⟨_,q2⟩:=Z4S hb 1999 1999 hbl (by omega) (by omega);have ha3:=ha.sub;have hb3:=hb.sub;show (spec_l01Cmp.F 2000 (bt a) (bt b)).getD 0 = _;rw [SC_con 1999 _ _ a3 b3 p2 q2 (by simp; omega) (by simp; omega),Z19]
 by_cases hn:nm = nm2
 ·rw [if_pos (by simpa using hn),if_pos hn]
  simp only [List.length_map]
  by_cases hl:xs.length = ys.length
  ·rw [if_pos hl,if_pos hl]
   have:=Z9J 1999 (spec_l01Cmp.F 1999) xs ys [] [] 1999 rfl hl (by simp; omega) (by omega) (fun x hx y hy=>by
    obtain ⟨⟨kx,hkx⟩,hlx⟩:=ha3.2 x hx;obtain ⟨⟨ky,hky⟩,hly⟩:=hb3.2 y hy;exact (ZAv hkx hky (by omega) (by omega) 2000 1999 (by omega) (by omega)).2.1)
   simp only [List.nil_append,List.length_nil] at this;rw [show ((0:Nat):Int) = 0 from rfl] at this;rw [this,Option.getD_some]
  ·rw [if_neg hl,if_neg hl,Z1K,Z0A _ (by omega) (by omega),Option.getD_some]
   unfold Z7v
   by_cases hlt:(xs.length:Int) < (ys.length:Int)
   ·rw [if_pos (by omega),if_pos hlt]
   ·rw [if_neg (by omega),if_neg hlt,if_pos (by omega),if_pos (by omega)]
 ·rw [if_neg (by simpa using hn),if_neg hn,Z29,Option.getD_some,Z8r]
end Go.Abs
