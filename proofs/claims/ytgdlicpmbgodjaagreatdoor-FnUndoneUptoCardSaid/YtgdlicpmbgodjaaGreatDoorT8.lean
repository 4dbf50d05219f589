/- The parts of a term, and how two terms stand to each other: both sides alike. Conditions: none. -/
import Derived.Test.YtgdlicpmbgodjaaGreatDoorT5
import Derived.Lib.IndexMore
namespace Go.Abs
set_option linter.unusedVariables false
set_option linter.unusedSimpArgs false
def ZAb (b:UInt8):Bool:=decide (b ≠ 34 ∧ b ≠ 40 ∧ b ≠ 41 ∧ b ≠ 44)
theorem Z7m {b:UInt8} (h:isW b = true):ZAb b = true:=by
 unfold ZAb;apply decide_eq_true;refine ⟨?_,?_,?_,?_⟩ <;> (rintro rfl; revert h; decide)
theorem Z69 {b:UInt8} (h:Z1p b = true):ZAb b = true:=Z7m (by unfold isW; rw [h]; simp)
theorem Z6C {l:List UInt8} (h:l.all isW = true):l.all ZAb = true:=by
 rw [List.all_eq_true] at h ⊢;exact fun b hb=>Z7m (h b hb)
section
variable (n:Nat) (t6:Int) (K:Unit → Option (ByteArray × (List ByteArray) × Bool)) (l:List UInt8) (hl:l.length ≤ 4294967290)
include hl
theorem Z3G:∀ (m pre rest:List UInt8) (j:Nat) (d f:Int) (out:List ByteArray),m.all ZAb = true → l = pre ++ (m ++ rest) →
  spec_l01Args.l1 n (bt l) t6 K (j + m.length) d false f (pre.length:Int) out = spec_l01Args.l1 n (bt l) t6 K j d false f ((pre.length + m.length:Nat):Int) out
 | [],pre,rest,j,d,f,out,_,_=>rfl
 | c :: m,pre,rest,j,d,f,out,hm,he=>by
  rw [List.all_cons,Bool.and_eq_true] at hm;obtain ⟨h1,h2,h3,h4⟩:=of_decide_eq_true hm.1;have e1:l = pre ++ c :: (m ++ rest):=he;have hpl:pre.length ≤ 4294967296:=by rw [e1] at hl; simp at hl; omega
  rw [show j + (c :: m).length = (j + m.length) + 1 from by simp; omega]
  conv=>lhs; rw [e1,a_calm n t6 K pre (m ++ rest) c (j + m.length) d f out hpl h1 h2 h3 h4,← e1]
  have:=Z3G m (pre ++ [c]) rest j d f out hm.2 (by rw [e1]; simp);rw [show (pre ++ [c]:List UInt8).length = pre.length + 1 by simp <;> omega] at this;rw [this]
  congr 2
  simp
  omega
theorem Z4k:∀ (m pre rest:List UInt8) (j:Nat) (d f:Int) (out:List ByteArray),m.all Z0X = true → l = pre ++ (m ++ rest) →
  spec_l01Args.l1 n (bt l) t6 K (j + m.length) d true f (pre.length:Int) out = spec_l01Args.l1 n (bt l) t6 K j d true f ((pre.length + m.length:Nat):Int) out
 | [],pre,rest,j,d,f,out,_,_=>rfl
 | c :: m,pre,rest,j,d,f,out,hm,he=>by
  rw [List.all_cons,Bool.and_eq_true] at hm;have h1:c ≠ 34:=by rintro rfl; exact absurd hm.1 (by decide)
  have e1:l = pre ++ c :: (m ++ rest):=he;have hpl:pre.length ≤ 4294967296:=by rw [e1] at hl; simp at hl; omega
  rw [show j + (c :: m).length = (j + m.length) + 1 from by simp; omega]
  conv=>lhs; rw [e1,Z9p n t6 K pre (m ++ rest) c (j + m.length) d f out hpl h1,← e1]
  have:=Z4k m (pre ++ [c]) rest j d f out hm.2 (by rw [e1]; simp);rw [show (pre ++ [c]:List UInt8).length = pre.length + 1 by simp <;> omega] at this;rw [this]
  congr 2
  simp
  omega
def ZCV (t:List UInt8):Prop:=∀ (pre rest:List UInt8) (j:Nat) (d f:Int) (out:List ByteArray),1 ≤ d → d + t.length ≤ 4294967296 * 4 → l = pre ++ (t ++ rest) →
  spec_l01Args.l1 n (bt l) t6 K (j + t.length) d false f (pre.length:Int) out = spec_l01Args.l1 n (bt l) t6 K j d false f ((pre.length + t.length:Nat):Int) out
theorem Z4l:∀ (bs:List (List UInt8)),(∀ x ∈ bs,ZCV n t6 K l x) → ∀ (pre rest:List UInt8) (j:Nat) (d f:Int) (out:List ByteArray),2 ≤ d → d + (Z02 bs).length ≤ 4294967296 * 4 → l = pre ++ (Z02 bs ++ rest) →
  spec_l01Args.l1 n (bt l) t6 K (j + (Z02 bs).length) d false f (pre.length:Int) out = spec_l01Args.l1 n (bt l) t6 K j d false f ((pre.length + (Z02 bs).length:Nat):Int) out
 | [],_,pre,rest,j,d,f,out,_,_,_=>rfl
 | b :: bs,hb,pre,rest,j,d,f,out,hd,hd2,he=>by
  simp only [Z02,List.length_cons,List.length_append] at hd2;have e1:l = pre ++ 44 :: (b ++ (Z02 bs ++ rest)):=by rw [he]; simp [Z02]
  have e2:l = (pre ++ [44]) ++ (b ++ (Z02 bs ++ rest)):=by rw [e1]; simp
  have e3:l = (pre ++ [44] ++ b) ++ (Z02 bs ++ rest):=by rw [e1]; simp
  have hpl:pre.length ≤ 4294967296:=by rw [e1] at hl; simp at hl; omega
  rw [show j + (Z02 (b :: bs)).length = (j + (Z02 bs).length + b.length) + 1 from by simp only [Z02,List.length_cons,List.length_append]; omega]
  conv=>lhs; rw [e1,ZCP n t6 K pre (b ++ (Z02 bs ++ rest)) (j + (Z02 bs).length + b.length) d f out hpl (by omega),← e1]
  have s1:=hb b List.mem_cons_self (pre ++ [44]) (Z02 bs ++ rest) (j + (Z02 bs).length) d f out (by omega) (by omega) e2;rw [show (pre ++ [44]:List UInt8).length = pre.length + 1 by simp <;> omega] at s1;rw [s1];have s2:=Z4l bs (fun x hx=>hb x (List.mem_cons_of_mem _ hx)) (pre ++ [44] ++ b) rest j d f out hd (by omega) e3;rw [show (pre ++ [44] ++ b:List UInt8).length = pre.length + 1 + b.length by simp <;> omega] at s2;rw [s2]
  congr 2
  simp only [Z02,List.length_cons,List.length_append];omega
theorem scan_tm {k:Nat} {t:List UInt8} (h:Tm k t):ZCV n t6 K l t:=by
 induction h with
 | num x h0 h1 =>
  obtain ⟨c,r,hc,hcd,hr⟩:=Z5E h0 h1;intro pre rest j d f out hd hd2 he;refine Z3G n t6 K l hl _ pre rest j d f out ?_ he;rw [hc,List.all_cons];have:ZAb c = true:=by
   rcases hcd with rfl | h
   ·decide
   ·exact Z69 h
  rw [this,Bool.true_and,List.all_eq_true];intro b hb;rw [List.all_eq_true] at hr;exact Z69 (hr b hb)
 | sym m h hp =>
  intro pre rest j d f out hd hd2 he;have e1:l = pre ++ 34 :: (m ++ 34 :: rest):=by rw [he]; simp
  have e2:l = (pre ++ [34]) ++ (m ++ 34 :: rest):=by rw [e1]; simp
  have e3:l = (pre ++ [34] ++ m) ++ 34 :: rest:=by rw [e1]; simp
  have hpl:pre.length + m.length + 2 ≤ 4294967290:=by rw [e1] at hl; simp at hl; omega
  rw [show j + (34 :: (m ++ [34]):List UInt8).length = (j + 1 + m.length) + 1 from by simp; omega]
  conv=>lhs; rw [e1,Z8i n t6 K pre _ (j + 1 + m.length) d f false out (by omega),← e1]
  have s1:=Z4k n t6 K l hl m (pre ++ [34]) (34 :: rest) (j + 1) d f out hp e2;rw [show (pre ++ [34]:List UInt8).length = pre.length + 1 by simp <;> omega] at s1;rw [show (!false) = true from rfl,s1];have s2:=Z8i n t6 K (pre ++ [34] ++ m) rest j d f true out (by simp; omega);rw [← e3,show (pre ++ [34] ++ m:List UInt8).length = pre.length + 1 + m.length by simp <;> omega] at s2;rw [s2]
  congr 2
  simp
  omega
 | con0 nm h =>
  obtain ⟨c,r,hc,_,_,hall⟩:=Z0s h;intro pre rest j d f out hd hd2 he;exact Z3G n t6 K l hl _ pre rest j d f out (Z6C hall) he
 | con nm a bs h ks hh ih =>
  obtain ⟨c,r,hc,_,_,hall⟩:=Z0s h;intro pre rest j d f out hd hd2 he;simp only [List.length_append,List.length_cons,List.length_nil] at hd2;have e1:l = pre ++ (nm ++ 40 :: (a ++ (Z02 bs ++ 41 :: rest))):=by rw [he]; simp
  have e2:l = (pre ++ nm) ++ 40 :: (a ++ (Z02 bs ++ 41 :: rest)):=by rw [e1]; simp
  have e3:l = (pre ++ nm ++ [40]) ++ (a ++ (Z02 bs ++ 41 :: rest)):=by rw [e1]; simp
  have e4:l = (pre ++ nm ++ [40] ++ a) ++ (Z02 bs ++ 41 :: rest):=by rw [e1]; simp
  have e5:l = (pre ++ nm ++ [40] ++ a ++ Z02 bs) ++ 41 :: rest:=by rw [e1]; simp
  have hpl:pre.length + nm.length + 1 + a.length + (Z02 bs).length + 1 ≤ 4294967290:=by rw [e1] at hl; simp at hl; omega
  rw [show j + (nm ++ 40 :: (a ++ (Z02 bs ++ [41])):List UInt8).length = (j + 1 + (Z02 bs).length + a.length + 1) + nm.length from by simp; omega];rw [Z3G n t6 K l hl nm pre _ _ d f out (Z6C hall) e1];have s1:=ZCO n t6 K (pre ++ nm) (a ++ (Z02 bs ++ 41 :: rest)) (j + 1 + (Z02 bs).length + a.length) d f out (by simp; omega) ⟨by omega,by omega⟩;rw [← e2,show (pre ++ nm:List UInt8).length = pre.length + nm.length by simp <;> omega] at s1;rw [s1];have s2:=ih a List.mem_cons_self (pre ++ nm ++ [40]) (Z02 bs ++ 41 :: rest) (j + 1 + (Z02 bs).length) (d + 1) f out (by omega) (by omega) e3;rw [show (pre ++ nm ++ [40]:List UInt8).length = pre.length + nm.length + 1 by simp <;> omega] at s2;rw [s2];have s3:=Z4l n t6 K l hl bs (fun x hx=>ih x (List.mem_cons_of_mem _ hx)) (pre ++ nm ++ [40] ++ a) (41 :: rest) (j + 1) (d + 1) f out (by omega) (by omega) e4;rw [show (pre ++ nm ++ [40] ++ a:List UInt8).length = pre.length + nm.length + 1 + a.length by simp <;> omega] at s3;rw [s3];have s4:=ZCQ n t6 K (pre ++ nm ++ [40] ++ a ++ Z02 bs) rest j (d + 1) f out (by simp; omega) ⟨by omega,by omega⟩ (by omega);rw [← e5,show (pre ++ nm ++ [40] ++ a ++ Z02 bs:List UInt8).length = pre.length + nm.length + 1 + a.length + (Z02 bs).length by simp <;> omega] at s4;rw [s4]
  congr 2
  ·omega
  ·simp
   omega
theorem Z8q (at':Nat) (ha:t6 = (at':Int)):∀ (bs:List (List UInt8)) (a pre:List UInt8) (j:Nat) (out:List ByteArray),(∀ x ∈ a :: bs,ZCV n t6 K l x) → l = pre ++ (a ++ (Z02 bs ++ [41])) → at' ≤ pre.length → out.length ≤ pre.length →
  spec_l01Args.l1 n (bt l) t6 K (j + 1 + (a ++ Z02 bs).length) 1 false (pre.length:Int) (pre.length:Int) out = some (bt (l.take at'),out ++ (a :: bs).map bt,true)
 | [],a,pre,j,out,hp,he,hat,ho=>by
  have e1:l = (pre ++ a) ++ 41 :: []:=by rw [he]; simp [Z02]
  have hpl:pre.length + a.length + 1 ≤ 4294967290:=by rw [e1] at hl; simp at hl; omega
  have s1:=hp a List.mem_cons_self pre (Z02 [] ++ [41]) (j + 1) 1 pre.length out (by omega) (by omega) he;rw [show j + 1 + (a ++ Z02 []).length = j + 1 + a.length by simp [Z02],s1];have s2:=a_end n t6 K (pre ++ a) [] j pre.length at' ha out (by rw [← e1]; exact hl) (by simp) (by simp; omega) (by simp; omega);rw [← e1,show (pre ++ a:List UInt8).length = pre.length + a.length by simp <;> omega] at s2;rw [s2,List.drop_left];have:(pre ++ a).take at' = l.take at':=by rw [e1]; exact (List.take_append_of_le_length (by simp; omega)).symm
  rw [this]
  simp
 | b :: bs,a,pre,j,out,hp,he,hat,ho=>by
  have e1:l = (pre ++ a) ++ 44 :: (b ++ (Z02 bs ++ [41])):=by rw [he]; simp [Z02]
  have e2:l = (pre ++ a ++ [44]) ++ (b ++ (Z02 bs ++ [41])):=by rw [e1]; simp
  have hpl:pre.length + a.length + 1 ≤ 4294967290:=by rw [e1] at hl; simp at hl; omega
  have s1:=hp a List.mem_cons_self pre (Z02 (b :: bs) ++ [41]) (j + 1 + (b ++ Z02 bs).length + 1) 1 pre.length out (by omega) (by omega) he;rw [show j + 1 + (a ++ Z02 (b :: bs)).length = j + 1 + (b ++ Z02 bs).length + 1 + a.length by simp [Z02]; omega,s1];have s2:=ZCN n t6 K (pre ++ a) (b ++ (Z02 bs ++ [41])) (j + 1 + (b ++ Z02 bs).length) pre.length out (by simp; omega) (by simp) (by simp; omega);rw [← e1,show (pre ++ a:List UInt8).length = pre.length + a.length by simp <;> omega,List.drop_left] at s2;rw [s2];have s3:=Z8q at' ha bs b (pre ++ a ++ [44]) j (out ++ [bt a]) (fun x hx=>hp x (List.mem_cons_of_mem _ hx)) e2 (by simp; omega) (by simp; omega);rw [show (pre ++ a ++ [44]:List UInt8).length = pre.length + a.length + 1 by simp <;> omega] at s3;rw [s3]
  simp
end
theorem Z2e {l:List UInt8} (h:l.all isW = true):l.all Z0N = true:=by
 rw [List.all_eq_true] at h ⊢;intro b hb;have:=h b hb;unfold Z0N
 by_cases e:b = 40
 ·subst e; exact absurd this (by decide)
 ·simp [e]
theorem Z6n (n:Nat) (l:List UInt8) (hl:l.length ≤ 4294960000) (hn:l.length + 2 ≤ n):spec_l01Args.F n (bt l) =
  if (l.takeWhile Z0N).length = l.length then some (bt l,[],true)
  else spec_l01Args.l1 n (bt l) ((l.takeWhile Z0N).length:Int) (fun _=>some (ByteArray.empty,[],false)) n 0 false (((l.takeWhile Z0N).length + 1:Nat):Int) ((l.takeWhile Z0N).length:Int) []:=by
 unfold spec_l01Args.F;have hw:(l.takeWhile Z0N).length ≤ l.length:=(List.takeWhile_prefix Z0N).length_le;have:=ZCR n (fun t4 =>
  if decide (t4 = (ByteArray.size (bt l):Int)) = true then
   some (bt l,[],true)
  else
   spec_l01Args.l1 n (bt l) t4 (fun _ =>
    some (ByteArray.empty,[],false)) n 0 false (IntKind.i64.wrap (t4 + 1)) t4 []) l [] n (by simp; omega) (by omega)
 simp only [List.nil_append,List.length_nil,Nat.zero_add] at this;rw [show ((0:Nat):Int) = 0 from rfl] at this;rw [this,Z0C,Z0A _ (by omega) (by omega)]
 by_cases h:(l.takeWhile Z0N).length = l.length
 ·rw [if_pos h,if_pos (by simp; omega)]
 ·rw [if_neg h,if_neg (by simp; omega)]
  rfl
theorem Z4b (n:Nat) (nm a:List UInt8) (bs:List (List UInt8)) (h:Z0l nm = true) (hh:∀ x ∈ a :: bs,∃ k,Tm k x)
  (hl:(nm ++ 40 :: (a ++ (Z02 bs ++ [41]))).length ≤ 4294960000) (hn:(nm ++ 40 :: (a ++ (Z02 bs ++ [41]))).length + 2 ≤ n) :
  spec_l01Args.F n (bt (nm ++ 40 :: (a ++ (Z02 bs ++ [41])))) = some (bt nm,(a :: bs).map bt,true):=by
 obtain ⟨c,r,hc,_,_,hall⟩:=Z0s h;have htw:(nm ++ 40 :: (a ++ (Z02 bs ++ [41]))).takeWhile Z0N = nm:=Z18 (Z2e hall) (.inr ⟨40,_,rfl,by decide⟩);rw [Z6n n _ hl hn,htw,if_neg (by simp)];have hlen:=hl;have hn':=hn;simp only [List.length_append,List.length_cons,List.length_nil] at hlen hn';obtain ⟨j,rfl⟩:∃ j,n = (j + 1 + (a ++ Z02 bs).length) + 1:=⟨n - (2 + (a ++ Z02 bs).length),by simp only [List.length_append]; omega⟩
 rw [ZCO _ _ _ nm (a ++ (Z02 bs ++ [41])) _ 0 _ [] (by omega) ⟨by omega,by omega⟩];have:=Z8q (j + 1 + (a ++ Z02 bs).length + 1) (nm.length:Int) (fun _=>some (ByteArray.empty,[],false)) (nm ++ 40 :: (a ++ (Z02 bs ++ [41]))) (by omega) nm.length rfl bs a (nm ++ [40]) j [] (fun x hx=>by
  obtain ⟨k,hk⟩:=hh x hx;exact scan_tm _ _ _ _ (by omega) hk) (by simp) (by simp) (by simp)
 rw [show (nm ++ [40]:List UInt8).length = nm.length + 1 by simp <;> omega] at this;rw [show (0:Int) + 1 = 1 from rfl,this,List.take_left]
 simp
theorem ZCJ (n:Nat) (nm:List UInt8) (h:Z0l nm = true) (hn:nm.length + 2 ≤ n):spec_l01Args.F n (bt nm) = some (bt nm,[],true):=by
 obtain ⟨c,r,hc,_,h20,hall⟩:=Z0s h;rw [Z6n n nm (by omega) hn,if_pos];exact Z1I.2 (Z2e hall)
end Go.Abs
namespace Go.Abs
set_option linter.unusedVariables false
set_option linter.unusedSimpArgs false
theorem ZCY (n:Nat) (s:ByteArray):spec_TermKind.F (n + 1) s = spec_TermKind.G n (spec_TermKind.F n) s:=rfl
theorem Z8t (n:Nat) (self:ByteArray → Option Int) (K:Unit → Option Int) (x:UInt8):∀ (r pre:List UInt8) (k:Nat),(pre ++ r).length ≤ 4294967290 → r.length + 1 ≤ k →
  spec_TermKind.l2 n self (bt (pre ++ (r ++ [x]))) K k (pre.length:Int) = if r.all Z0X = true then K () else some 0
 | r,pre,0,_,hk=>by omega
 | [],pre,k + 1,hl,hk=>by
  simp only [List.append_nil] at hl;unfold spec_TermKind.l2;rw [Z0C,Z0A _ (by omega) (by omega),if_neg (by simp)]
  rfl
 | c :: r,pre,k + 1,hl,hk=>by
  simp only [List.length_append,List.length_cons] at hl;have e1:pre ++ (c :: r ++ [x]) = pre ++ c :: (r ++ [x]):=rfl;have hw:IntKind.i64.wrap ((pre.length:Int) + 1) = ((pre ++ [c]).length:Int):=by rw [Z0A _ (by omega) (by omega),Z2o pre c]
  have hc:=c.toNat_lt;rw [e1];unfold spec_TermKind.l2;rw [Z0C,hw,if_pos (by simp; omega),if_pos (Z0a pre _ c),Z1S,Z0A (c.toNat:Int) (by omega) (by omega),Z0Y,List.all_cons];simp only [Option.bind_some];have e92:decide ((c.toNat:Int) = 92) = decide (c = 92):=decide_eq_decide.2 (Z2f (d:=92) rfl);rcases Z26 (Z0X c) with hp | hp
  ·rw [hp]
   simp only [Z0X,decide_eq_false_iff_not] at hp
   by_cases h1:32 ≤ c.toNat ∧ c.toNat ≤ 126
   ·rw [if_pos (by simp; omega),if_pos (Z0a pre _ c)]
    by_cases h2:c.toNat = 34
    ·rw [if_neg (by simp; omega)]
     simp
    ·rw [if_pos (by simp; omega),if_pos (Z0a pre _ c),if_pos (by simp; omega)]
     simp
   ·rw [if_neg (by simp; omega)]
    simp
  ·rw [hp]
   simp only [Z0X,decide_eq_true_eq] at hp;rw [if_pos (by simp; omega),if_pos (Z0a pre _ c),if_pos (by simp; omega),if_pos (Z0a pre _ c),if_neg (by simp; omega),Z1d];rw [Z8t n self K x r (pre ++ [c]) k (by simp; omega) (by simpa using hk)]
   rfl
theorem Z5s (n:Nat) (self:ByteArray → Option Int) (K:Unit → Option Int) (κ:List UInt8 → Nat):∀ (r pre:List (List UInt8)) (k:Nat),(pre ++ r).length ≤ 4294967290 → r.length + 1 ≤ k →
  (∀ x ∈ r,self (bt x) = some (κ x:Int)) → spec_TermKind.l4 n self ((pre ++ r).map bt) K k (pre.length:Int) = if r.all (fun x=>!decide (κ x = 0)) = true then K () else some 0
 | r,pre,0,_,hk,_=>by omega
 | [],pre,k + 1,hl,hk,hs=>by
  unfold spec_TermKind.l4;rw [List.length_map,if_neg (by simp)]
  rfl
 | c :: r,pre,k + 1,hl,hk,hs=>by
  simp only [List.length_append,List.length_cons] at hl;have hlen:(pre.length:Int) < (((pre ++ c :: r).map bt).length:Int):=by simp; omega
  have hget:List.getD ((pre ++ c :: r).map bt) (Int.toNat (pre.length:Int)) ByteArray.empty = bt c:=by
   rw [Int.toNat_natCast,List.map_append,List.map_cons];have:=Z0z (pre.map bt) (r.map bt) (bt c) ByteArray.empty;rw [List.length_map] at this;exact this
  unfold spec_TermKind.l4;rw [if_pos (decide_eq_true hlen),if_pos ⟨by omega,hlen⟩,hget,hs c List.mem_cons_self];simp only [Option.bind_some]
  by_cases h:κ c = 0
  ·rw [if_pos (by simp; omega),if_neg (by simp [h])]
  ·have e:(c :: r).all (fun x=>!decide (κ x = 0)) = r.all (fun x=>!decide (κ x = 0)):=by simp [h]
   rw [e];rw [if_neg (by simp; omega),Z0A _ (by omega) (by omega),show (pre.length:Int) + 1 = ((pre ++ [c]).length:Int) by simp,show pre ++ c :: r = (pre ++ [c]) ++ r by simp,
    Z5s n self K κ r (pre ++ [c]) k (by simp; omega) (by simpa using hk) (fun x hx=>hs x (List.mem_cons_of_mem _ hx))]
structure IsKind (l:List UInt8) (k:Nat):Prop where
 le:k ≤ 3
 sound:k ≠ 0 → Tm k l ∧ l.length ≤ 200
 complete:∀ k',Tm k' l → l.length ≤ 200 → k = k'
theorem IsKind.unique {l:List UInt8} {k k':Nat} (h:IsKind l k) (h':IsKind l k'):k = k':=by
 by_cases h0:k = 0
 ·by_cases h1:k' = 0
  ·omega
  ·obtain ⟨h2,h3⟩:=h'.sound h1
   exact h.complete k' h2 h3
 ·obtain ⟨h2,h3⟩:=h.sound h0
  exact (h'.complete k h2 h3).symm
theorem Z0e {l:List UInt8} (h:∀ k,Tm k l → l.length ≤ 200 → False):IsKind l 0:=⟨by omega,fun h=>absurd rfl h,fun k hk hl=>(h k hk hl).elim⟩
theorem Z5A (n:Nat) (l:List UInt8) (hl:l.length ≤ 4294960000) (hn:l.length + 60 ≤ n):∃ k:Nat,impl_kindOf.F n (bt l) = some (k:Int) ∧ IsKind l k:=by
 obtain ⟨res,h1,h2⟩:=Z6u l.length l n (Nat.le_refl _) hl hn;have hc:∀ k,Tm k l → res = ((k:Int),(l.length:Int)):=by
  intro k hk;have:=Z1H hk [] n (.inl rfl) (by simpa using hl) (by simpa using hn);rw [List.append_nil,h1] at this;exact Option.some.inj this
 unfold impl_kindOf.F;rw [h1,Z0C];simp only [Option.bind_some]
 by_cases h200:200 < l.length
 ·rw [if_neg (by simp; omega)]
  exact ⟨0,rfl,Z0e (fun k _ h=>by omega)⟩
 ·rw [if_pos (by simp; omega)]
  rcases h2 with rfl | ⟨k,t,rest,rfl,ht,rfl⟩
  ·have h0:∀ k,Tm k l → False:=by
    intro k hk;have:=congrArg Prod.fst (hc k hk);have:=hk.kind
    simp at *
    omega
   refine ⟨0,?_,Z0e (fun k hk _=>h0 k hk)⟩
   split <;> rfl
  ·by_cases hr:rest = []
   ·subst hr
    rw [List.append_nil] at hc h200 ⊢;rw [if_neg (by simp)];have:=ht.kind;refine ⟨k,rfl,⟨by omega,fun _=>⟨ht,by omega⟩,fun k' hk' _=>?_⟩⟩;have:=congrArg Prod.fst (hc k' hk')
    simp at this
    omega
   ·rw [if_pos]
    ·refine ⟨0,rfl,Z0e (fun k' hk' _=>?_)⟩
     have:=congrArg Prod.snd (hc k' hk')
     simp at this
     exact hr (List.length_eq_zero_iff.1 (by omega))
    ·have:0 < rest.length:=List.length_pos_iff.2 hr
     simp
     omega
theorem Z0h:∀ (L:Nat) (l:List UInt8) (n:Nat),l.length ≤ L → l.length ≤ 4294960000 → l.length + 60 ≤ n → ∃ k:Nat,spec_TermKind.F n (bt l) = some (k:Int) ∧ IsKind l k:=by
 intro L
 induction L with
 | zero =>
  intro l n hl _ hn;obtain ⟨n,rfl⟩:∃ m,n = m + 1:=⟨n - 1,by omega⟩
  have:l = []:=List.length_eq_zero_iff.1 (by omega);subst this;rw [ZCY];unfold spec_TermKind.G;rw [Z1R,Z19,if_neg (by simp)];exact ⟨0,rfl,Z0e (fun k h _=>h.ne rfl)⟩
 | succ L ih =>
  intro l n hl hL hn;obtain ⟨n,rfl⟩:∃ m,n = m + 1:=⟨n - 1,by omega⟩
  cases l with
  | nil =>
   rw [ZCY];unfold spec_TermKind.G;rw [Z1R,Z19,if_neg (by simp)];exact ⟨0,rfl,Z0e (fun k h _=>h.ne rfl)⟩
  | cons c r =>
   rw [ZCY];unfold spec_TermKind.G;rw [Z1R,Z19,if_pos (by simp),Z0C]
   by_cases h200:200 < (c :: r).length
   ·rw [if_pos (by simp only [decide_eq_true_eq]; omega)]
    exact ⟨0,rfl,Z0e (fun k _ h=>by omega)⟩
   ·rw [if_neg (by simp only [decide_eq_true_eq]; omega)]
    have h200':=h200;simp only [List.length_cons] at h200' hl hn;unfold spec_TermKind.j0;obtain ⟨v,ok,hv,hok,_⟩:=Z2G n (c :: r) (by omega);rw [hv];simp only [Option.bind_some];cases ok with
    | true =>
     rw [if_pos rfl];obtain ⟨x,hx0,hx1,hx⟩:=hok.1 rfl;refine ⟨1,rfl,⟨by omega,fun _=>⟨by rw [hx]; exact Tm.num x hx0 hx1,by omega⟩,fun k' hk' hlen=>?_⟩⟩;have e1:=Z1H hk' [] 400 (.inl rfl) (by simp; omega) (by simp; omega);have e2:=Z1H (Tm.num x hx0 hx1) [] 400 (.inl rfl) (by rw [← hx]; simp; omega) (by rw [← hx]; simp; omega);rw [← hx,e1] at e2;have:=congrArg Prod.fst (Option.some.inj e2)
     simp at this
     omega
    | false =>
     have hnn:¬ Z5Z (c :: r):=fun h=>by have:=hok.2 h; cases this
     have hsz:0 < ((c :: r).length:Int):=by simp <;> omega
     rw [if_neg (by simp),Z0C,if_pos ⟨by omega,hsz⟩,Z27,e34]
     by_cases h34:c = 34
     ·subst h34
      rw [if_pos (by simp),Z0Y];simp only [Option.bind_some];have symInv:∀ k,Tm k (34 :: r) → ∃ m:List UInt8,r = m ++ [34] ∧ m.length ≤ 20 ∧ m.all Z0X = true ∧ k = 2:=by
       intro k hk;generalize he:(34 :: r:List UInt8) = t at hk;cases hk with
       | num x h0 h1=>exact absurd ⟨x,h0,h1,he⟩ hnn
       | sym m h hp=>injection he with _ he; exact ⟨m,he,h,hp,rfl⟩
       | con0 nm h=>obtain ⟨c',r',hc',hb,_⟩:=Z0s h; rw [hc'] at he; injection he with he _; subst he; exact absurd hb (by decide)
       | con nm a bs h ks hh=>obtain ⟨c',r',hc',hb,_⟩:=Z0s h; rw [hc'] at he; injection he with he _; subst he; exact absurd hb (by decide)
      by_cases hsz2:2 ≤ (34 :: r:List UInt8).length ∧ (34 :: r:List UInt8).length ≤ 22
      ·rw [if_pos (by simp only [Bool.not_eq_false',decide_eq_true_eq]; omega)]
       simp only [List.length_cons] at hsz2;obtain ⟨m,x,rfl⟩:∃ m x,r = m ++ [x]:=⟨r.dropLast,r.getLast (by rintro rfl; simp at hsz2),(List.dropLast_concat_getLast _).symm⟩
       have hlm:(m ++ [x]).length = m.length + 1:=by simp
       have hw:IntKind.i64.wrap (((34 :: (m ++ [x]):List UInt8).length:Int) - 1) = ((34 :: m:List UInt8).length:Int):=by
        rw [Z0A _ (by simp; omega) (by simp; omega)]; simp
       have hat:Z0M (bt (34 :: (m ++ [x]))) ((34 :: m:List UInt8).length:Int) = (x.toNat:Int):=Z1S (34 :: m) [] x;rw [hw,if_pos ⟨by omega,by simp only [List.length_cons,List.length_append,List.length_nil]; omega⟩,hat,e34]
       by_cases hx:x = 34
       ·subst hx
        rw [if_neg (by simp)];unfold spec_TermKind.j1;have:=Z8t n (spec_TermKind.F n) (fun _=>some 2) 34 m [34] n (by simp; omega) (by omega);simp only [List.length_singleton,List.singleton_append] at this;rw [show ((1:Nat):Int) = 1 from rfl] at this;rw [this]
        by_cases hm:m.all Z0X = true
        ·rw [if_pos hm]
         refine ⟨2,rfl,⟨by omega,fun _=>⟨Tm.sym m (by omega) hm,by simp; omega⟩,fun k' hk' _=>?_⟩⟩;obtain ⟨_,_,_,_,h⟩:=symInv k' hk';omega
        ·rw [if_neg hm]
         refine ⟨0,rfl,Z0e (fun k' hk' _=>?_)⟩;obtain ⟨m',h1,_,h3,_⟩:=symInv k' hk';have:=List.append_inj_left' h1 rfl;subst this;exact hm h3
       ·rw [if_pos (by simpa using hx)]
        refine ⟨0,rfl,Z0e (fun k' hk' _=>?_)⟩;obtain ⟨m',h1,_,h3,_⟩:=symInv k' hk';have:=List.append_inj_right' h1 rfl
        injection this with this
        exact hx this
      ·rw [if_neg (by simp only [Bool.not_eq_false',decide_eq_true_eq]; omega)]
       refine ⟨0,rfl,Z0e (fun k' hk' _=>?_)⟩;obtain ⟨m',h1,h2,h3,_⟩:=symInv k' hk';rw [h1] at hsz2
       simp at hsz2
       omega
     ·rw [if_neg (by simpa using h34)]
      have conInv:∀ k,Tm k (c :: r) → k = 3 ∧ ((Z0l (c :: r) = true) ∨ ∃ nm a bs,c :: r = nm ++ 40 :: (a ++ (Z02 bs ++ [41])) ∧ Z0l nm = true ∧ ∀ x ∈ a :: bs,∃ k,Tm k x):=by
       intro k hk;generalize he:c :: r = t at hk;cases hk with
       | num x h0 h1=>exact absurd ⟨x,h0,h1,he⟩ hnn
       | sym m h hp=>injection he with he _; exact absurd he h34
       | con0 nm h=>exact ⟨rfl,.inl h⟩
       | con nm a bs h ks hh=>exact ⟨rfl,.inr ⟨nm,a,bs,rfl,h,fun x hx=>⟨_,hh x hx⟩⟩⟩
      have goArgs:∀ (nm:List UInt8) (ls:List (List UInt8)),ls.length ≤ (c :: r).length → (∀ x ∈ ls,x.length < (c :: r).length) → spec_l01Args.F n (bt (c :: r)) = some (bt nm,ls.map bt,true) → nm.length ≤ (c :: r).length →
        ∃ κ:List UInt8 → Nat,(∀ x ∈ ls,IsKind x (κ x)) ∧ ((spec_l01Args.F n (bt (c :: r))).bind fun r9 =>
         if (!r9.2.2) = false then
          (spec_l01Name.F n r9.1 true).bind fun r10 =>
          if (!r10) = true then
           some 0
          else
           spec_TermKind.j3 n (spec_TermKind.F n) r9.2.1
         else
          some 0) = if Z0l nm = true then (if ls.all (fun x=>!decide (κ x = 0)) = true then some 3 else some 0) else some 0:=by
       intro nm ls hlen hsub hA hnm;have hex:∃ κ:List UInt8 → Nat,∀ x ∈ ls,spec_TermKind.F n (bt x) = some (κ x:Int) ∧ IsKind x (κ x):=by
        classical
        refine ⟨fun x=>if h:∃ k:Nat,spec_TermKind.F n (bt x) = some (k:Int) ∧ IsKind x k then h.choose else 0,fun x hx=>?_⟩;have h1:=hsub x hx;simp only [List.length_cons] at h1;have:=ih x n (by omega) (by omega) (by omega);show spec_TermKind.F n (bt x) = some (((if h:∃ k:Nat,spec_TermKind.F n (bt x) = some (k:Int) ∧ IsKind x k then h.choose else 0:Nat):Nat):Int) ∧ IsKind x (if h:∃ k:Nat,spec_TermKind.F n (bt x) = some (k:Int) ∧ IsKind x k then h.choose else 0);rw [dif_pos this];exact this.choose_spec
       obtain ⟨κ,hκ⟩:=hex;refine ⟨κ,fun x hx=>(hκ x hx).2,?_⟩;simp only [List.length_cons] at hnm hlen;rw [hA];simp only [Option.bind_some];rw [if_pos (by simp),ZAM n nm (by omega) (by omega)];simp only [Option.bind_some]
       by_cases hb:Z0l nm = true
       ·rw [if_neg (by rw [hb]; simp),if_pos hb]
        unfold spec_TermKind.j3;have:=Z5s n (spec_TermKind.F n) (fun _=>some 3) κ ls [] n (by simp; omega) (by omega) (fun x hx=>(hκ x hx).1);simp only [List.nil_append,List.length_nil] at this;rw [show ((0:Nat):Int) = 0 from rfl] at this;exact this
       ·rw [if_pos (by rw [Bool.eq_false_iff.2 hb]; rfl),if_neg hb]
      have noOpen:Z0l (c :: r) = true → ((c :: r).takeWhile Z0N).length = (c :: r).length:=by
       intro h;obtain ⟨c',r',hc',_,_,hall⟩:=Z0s h;exact Z1I.2 (Z2e hall)
      have conOpen:∀ (nm:List UInt8) (X:List UInt8),c :: r = nm ++ 40 :: X → ((c :: r).takeWhile Z0N).length ≠ (c :: r).length:=by
       intro nm X he h;have:=Z1I.1 h;rw [List.all_eq_true] at this;have h40:=this 40 (by rw [he]; simp);exact absurd h40 (by decide)
      have hstart:=Z6n n (c :: r) (by omega) (by simp only [List.length_cons]; omega);have hwle:((c :: r).takeWhile Z0N).length ≤ (c :: r).length:=(List.takeWhile_prefix Z0N).length_le
      by_cases htw:((c :: r).takeWhile Z0N).length = (c :: r).length
      ·rw [if_pos htw] at hstart
       obtain ⟨κ,_,hres⟩:=goArgs (c :: r) [] (by simp) (fun x hx=>by cases hx) hstart (Nat.le_refl _);rw [hres]
       by_cases hb:Z0l (c :: r) = true
       ·rw [if_pos hb,if_pos (by simp)]
        exact ⟨3,rfl,⟨by omega,fun _=>⟨Tm.con0 _ hb,by omega⟩,fun k' hk' _=>(conInv k' hk').1.symm⟩⟩
       ·rw [if_neg hb]
        refine ⟨0,rfl,Z0e (fun k' hk' _=>?_)⟩;rcases (conInv k' hk').2 with h | ⟨nm,a,bs,h,_⟩
        ·exact hb h
        ·exact conOpen _ _ h htw
      ·rw [if_neg htw] at hstart
       have hs:=Z4L Z0N (c :: r);have hdrop:∃ r',(c :: r).drop ((c :: r).takeWhile Z0N).length = 40 :: r':=by
        cases hd:(c :: r).drop ((c :: r).takeWhile Z0N).length with
        | nil=>exact absurd (List.drop_eq_nil_iff.1 hd) (by omega)
        | cons d t =>
         have hno:Z0N d = false:=by
          have h1:(c :: r).takeWhile Z0N = ((c :: r).takeWhile Z0N ++ d :: t).takeWhile Z0N:=by
           conv=>lhs; rw [hs,hd]
          rcases Z26 (Z0N d) with h | h
          ·exact h
          ·have h2:∀ (A:List UInt8),A.all Z0N = true → (A ++ d :: t).takeWhile Z0N = A ++ d :: t.takeWhile Z0N:=by
            intro A
            induction A with
            | nil=>intro _; rw [List.nil_append,List.takeWhile_cons,h,if_pos rfl]; rfl
            | cons x A ihA=>intro hA; rw [List.all_cons,Bool.and_eq_true] at hA; rw [List.cons_append,List.takeWhile_cons,hA.1,if_pos rfl,ihA hA.2]; rfl
           rw [h2 _ (ZAn Z0N (c :: r))] at h1;have:=congrArg List.length h1
           simp at this
         have:d = 40:=by
          unfold Z0N at hno;simpa using hno
         exact ⟨t,by rw [this]⟩
       generalize hW:(c :: r).takeWhile Z0N = W at *;obtain ⟨r',hr'⟩:=hdrop;rw [hr'] at hs;have hA:=Z6B n (W.length:Int) (fun _=>some (ByteArray.empty,[],false)) W.length rfl rfl (40 :: r') W n 0 false (W.length + 1) [] (by rw [← hs]; omega) (by have:=congrArg List.length hs; simp only [List.length_append,List.length_cons] at this; simp only [List.length_cons]; omega)
        (by have:=congrArg List.length hs; simp only [List.length_append,List.length_cons] at this; simp only [List.length_cons]; omega) (by rw [if_pos rfl]; omega) (Nat.le_refl _) (by simp) (fun _=>⟨rfl,rfl,r',rfl⟩)
       obtain ⟨x,ys,ok,h1,h2⟩:=hA;rw [← hs] at h1 h2;rw [h1] at hstart;cases ok with
       | false =>
        rw [hstart];simp only [Option.bind_some];rw [if_neg (by simp)];refine ⟨0,rfl,Z0e (fun k' hk' _=>?_)⟩;rcases (conInv k' hk').2 with h | ⟨nm,a,bs,h,hb,hh⟩
        ·exact htw (noOpen h)
        ·have:=Z4b n nm a bs hb hh (by rw [← h]; omega) (by rw [← h]; simp only [List.length_cons]; omega)
         rw [← h,hstart] at this
         simp at this
       | true =>
        obtain ⟨hx,p,bs,hys,hdr⟩:=h2 rfl;have htk:(c :: r).take W.length = W:=by rw [hs,List.take_left]
        rw [htk] at hx;have hr2:r' = p ++ (Z02 bs ++ [41]):=by
         rw [← hdr]
         conv=>rhs; rw [hs]
         rw [← List.drop_drop,List.drop_left]
         rfl
        have hfull:c :: r = W ++ 40 :: (p ++ (Z02 bs ++ [41])):=by rw [hs,hr2]
        have hlenF:=congrArg List.length hfull;simp only [List.length_append,List.length_cons,List.length_nil] at hlenF;have hbl:∀ bs:List (List UInt8),bs.length ≤ (Z02 bs).length ∧ ∀ x ∈ bs,x.length ≤ (Z02 bs).length:=by
         intro bs
         induction bs with
         | nil=>exact ⟨Nat.le_refl _,fun x hx=>by cases hx⟩
         | cons b bs ihb =>
          simp only [Z02,List.length_cons,List.length_append];refine ⟨by omega,fun x hx=>?_⟩;rcases List.mem_cons.1 hx with rfl | hx
          ·omega
          ·have:=ihb.2 x hx; omega
        have hsub:∀ x ∈ p :: bs,x.length < (c :: r).length:=by
         intro x hx;rw [List.length_cons];rcases List.mem_cons.1 hx with rfl | hx
         ·omega
         ·have:=(hbl bs).2 x hx; omega
        rw [hx,hys,List.nil_append] at hstart;obtain ⟨κ,hκ,hres⟩:=goArgs W (p :: bs) (by have:=(hbl bs).1; simp only [List.length_cons]; omega) hsub hstart (by omega);rw [hres]
        by_cases hb:Z0l W = true
        ·rw [if_pos hb]
         by_cases hall:(p :: bs).all (fun x=>!decide (κ x = 0)) = true
         ·rw [if_pos hall]
          refine ⟨3,rfl,⟨by omega,fun _=>⟨?_,by omega⟩,fun k' hk' _=>(conInv k' hk').1.symm⟩⟩;rw [hfull];refine Tm.con W p bs hb κ (fun x hx=>((hκ x hx).sound ?_).1);rw [List.all_eq_true] at hall;have:=hall x hx;simpa using this
         ·rw [if_neg hall]
          refine ⟨0,rfl,Z0e (fun k' hk' _=>?_)⟩;rcases (conInv k' hk').2 with h | ⟨nm,a,bs',h,hb',hh⟩
          ·exact htw (noOpen h)
          ·have:=Z4b n nm a bs' hb' hh (by rw [← h]; omega) (by rw [← h]; simp only [List.length_cons]; omega)
           rw [← h,hstart] at this;have e1:(p :: bs).map bt = (a :: bs').map bt:=congrArg (fun q:ByteArray × List ByteArray × Bool=>q.2.1) (Option.some.inj this);have e2:p :: bs = a :: bs':=by
            have:=congrArg (List.map fun s:ByteArray=>s.data.toList) e1;rw [List.map_map,List.map_map] at this;simpa [Function.comp_def,Z12] using this
           apply hall;rw [List.all_eq_true];intro x hx;obtain ⟨kx,hkx⟩:=hh x (by rw [← e2]; exact hx);have hlx:=hsub x hx;have:=(hκ x hx).complete kx hkx (by omega);have hk0:=hkx.kind
           simp
           omega
        ·rw [if_neg hb]
         refine ⟨0,rfl,Z0e (fun k' hk' _=>?_)⟩;rcases (conInv k' hk').2 with h | ⟨nm,a,bs',h,hb',hh⟩
         ·exact htw (noOpen h)
         ·have:=Z4b n nm a bs' hb' hh (by rw [← h]; omega) (by rw [← h]; simp only [List.length_cons]; omega)
          rw [← h,hstart] at this;have e1:bt W = bt nm:=congrArg (fun q:ByteArray × List ByteArray × Bool=>q.1) (Option.some.inj this);rw [bt_inj e1] at hb;exact hb hb'
theorem Z9O (n m:Nat) (s:ByteArray) (hl:s.size ≤ 4294960000) (hn:s.size + 60 ≤ n) (hm:s.size + 60 ≤ m) :
  ∃ k:Nat,spec_TermKind.F n s = some (k:Int) ∧ impl_kindOf.F m s = some (k:Int) ∧ IsKind s.data.toList k:=by
 rw [Z3w s] at hl hn hm ⊢;rw [Z0C] at hl hn hm;obtain ⟨k,h1,h2⟩:=Z0h _ _ n (Nat.le_refl _) hl hn;obtain ⟨k',h3,h4⟩:=Z5A m _ hl hm;have:=h2.unique h4;subst this;rw [Z12];exact ⟨k,h1,h3,h2⟩
end Go.Abs
namespace Go.Abs
set_option linter.unusedVariables false
set_option linter.unusedSimpArgs false
theorem Z5v:∀ l:List UInt8,l.all Z0N = true → Lib.index l [40] = -1
 | [],_=>rfl
 | b :: l,h=>by
  rw [List.all_cons,Bool.and_eq_true] at h;have hb:(40 == b) = false:=by
   have:=h.1;unfold Z0N at this
   simp at this
   simp
   exact fun e=>this e.symm
  unfold Lib.index
  simp [List.isPrefixOf,hb,Z5v l h.2]
theorem Z5w:∀ (a r:List UInt8),a.all Z0N = true → Lib.index (a ++ 40 :: r) [40] = (a.length:Int)
 | [],r,_=>by
  unfold Lib.index
  simp [List.isPrefixOf]
 | b :: a,r,h=>by
  rw [List.all_cons,Bool.and_eq_true] at h;have hb:(40 == b) = false:=by
   have:=h.1;unfold Z0N at this
   simp at this
   simp
   exact fun e=>this e.symm
  rw [List.cons_append];unfold Lib.index;have:=Z5w a r h.2;have h2:¬ ((a.length:Int) == -1) = true:=by simp
  rw [this];simp only [List.isPrefixOf,hb,Bool.false_and,Bool.false_eq_true,if_false];rw [if_neg h2]
  simp
def Z2j:List UInt8 → Bool
 | []=>false
 | c :: _=>decide (c = 44)
theorem Z5I (n:Nat) (l:List UInt8):strings_HasPrefix.F n (bt l) ⟨#[44]⟩ = some (Z2j l):=by
 unfold strings_HasPrefix.F internal_stringslite_HasPrefix.F;have e:(⟨#[44]⟩:ByteArray) = bt [44]:=rfl;rw [e,Z0C,Z0C];cases l with
 | nil=>rw [if_neg (by simp)]; rfl
 | cons c r =>
  rw [if_pos (by simp; omega),if_pos (by simp; omega),Z1Y,Z19];simp only [List.length_singleton,Option.bind_some];rw [show Int.toNat ((1:Nat):Int) = 1 from rfl,show Int.toNat 0 = 0 from rfl]
  by_cases h:c = 44
  ·simp [h,Z2j]
  ·simp [h,Z2j]
inductive Parts:List UInt8 → List UInt8 → List (List UInt8) → Prop where
 | con0 (nm:List UInt8) (h:Z0l nm = true):Parts nm nm []
 | con (nm a:List UInt8) (bs:List (List UInt8)) (h:Z0l nm = true) (hh:∀ x ∈ a :: bs,∃ k,Tm k x):Parts (nm ++ 40 :: (a ++ (Z02 bs ++ [41]))) nm (a :: bs)
theorem Tm.parts {l:List UInt8} (h:Tm 3 l):∃ nm args,Parts l nm args:=by
 cases h with
 | con0 nm h=>exact ⟨_,_,.con0 _ h⟩
 | con nm a bs h ks hh=>exact ⟨_,_,.con nm a bs h (fun x hx=>⟨_,hh x hx⟩)⟩
theorem Z66 (bs:List (List UInt8)):bs.length ≤ (Z02 bs).length ∧ ∀ x ∈ bs,x.length ≤ (Z02 bs).length:=by
 induction bs with
 | nil=>exact ⟨Nat.le_refl _,fun x hx=>by cases hx⟩
 | cons b bs ihb =>
  simp only [Z02,List.length_cons,List.length_append];refine ⟨by omega,fun x hx=>?_⟩;rcases List.mem_cons.1 hx with rfl | hx
  ·omega
  ·have:=ihb.2 x hx; omega
theorem Parts.sub {l nm:List UInt8} {args:List (List UInt8)} (h:Parts l nm args):args.length ≤ l.length ∧ ∀ x ∈ args,(∃ k,Tm k x) ∧ x.length + 2 ≤ l.length:=by
 cases h with
 | con0 _ h=>exact ⟨by simp,fun x hx=>by cases hx⟩
 | con _ a bs h hh =>
  obtain ⟨c,r,hc,_⟩:=Z0s h;have h1:1 ≤ nm.length:=by rw [hc]; simp
  have h2:=Z66 bs;simp only [List.length_append,List.length_cons,List.length_nil];refine ⟨by omega,fun x hx=>⟨hh x hx,?_⟩⟩;rcases List.mem_cons.1 hx with rfl | hx
  ·omega
  ·have:=h2.2 x hx; omega
theorem Z5i (n:Nat) (name:ByteArray) (K:List ByteArray → Option (ByteArray × List ByteArray)):∀ (bs:List (List UInt8)) (a:List UInt8) (out:List ByteArray) (k:Nat),
  (∀ x ∈ a :: bs,∃ k,Tm k x) → (a ++ (Z02 bs ++ [41])).length ≤ 4294960000 → (a ++ (Z02 bs ++ [41])).length + 60 ≤ n → out.length + bs.length + 1 ≤ 4294960000 → bs.length + 2 ≤ k →
  impl_partsOf.l1 n name K k (bt (a ++ (Z02 bs ++ [41]))) out = K (out ++ (a :: bs).map bt)
 | bs,a,out,0,_,_,_,_,hk=>by omega
 | bs,a,out,k + 1,hh,hl,hn,ho,hk=>by
  obtain ⟨ka,hka⟩:=hh a List.mem_cons_self;have hane:0 < a.length:=List.length_pos_iff.2 hka.ne;have hstop:ZA0 (Z02 bs ++ [41]):=by
   cases bs with
   | nil=>exact .inr ⟨_,_,rfl,.inr rfl⟩
   | cons b bs=>exact .inr ⟨_,_,rfl,.inl rfl⟩
  have hl':=hl;have hn':=hn;simp only [List.length_append,List.length_cons,List.length_nil] at hl' hn';have hta:=Z1H hka _ n hstop (by simp; omega) (by simp; omega);unfold impl_partsOf.l1;have e41:(⟨#[41]⟩:ByteArray) = bt [41]:=rfl;rw [Z1R,e41,Z19,Z19];have n1:¬ (a ++ (Z02 bs ++ [41])) = []:=by simp
  have n2:¬ (a ++ (Z02 bs ++ [41])) = [41]:=by
   intro h;have:=congrArg List.length h;simp only [List.length_append,List.length_cons,List.length_nil] at this;omega
  rw [if_pos (by simp),if_pos (by rw [Bool.not_eq_true',beq_eq_false_iff_ne]; exact n2)];unfold impl_partsOf.j2;rw [hta];simp only [Option.bind_some];have i1:(0:Int) ≤ 0 ∧ (0:Int) ≤ (a.length:Int) ∧ (a.length:Int) ≤ (ByteArray.size (bt (a ++ (Z02 bs ++ [41]))):Int):=by rw [Z0C]; simp only [List.length_append]; omega
  have i2:(0:Int) ≤ (a.length:Int) ∧ (a.length:Int) ≤ (ByteArray.size (bt (a ++ (Z02 bs ++ [41]))):Int) ∧ (ByteArray.size (bt (a ++ (Z02 bs ++ [41]))):Int) ≤ (ByteArray.size (bt (a ++ (Z02 bs ++ [41]))):Int):=by rw [Z0C]; simp only [List.length_append]; omega
  have x1:ByteArray.extract (bt (a ++ (Z02 bs ++ [41]))) (Int.toNat 0) (Int.toNat (a.length:Int)) = bt a:=by
   rw [Z1Y,Int.toNat_natCast,List.take_left]; rfl
  have x2:ByteArray.extract (bt (a ++ (Z02 bs ++ [41]))) (Int.toNat (a.length:Int)) (Int.toNat (ByteArray.size (bt (a ++ (Z02 bs ++ [41]))):Int)) = bt (Z02 bs ++ [41]):=by
   rw [Z1z,List.drop_left]
  rw [if_pos i1,x1,if_pos (by unfold lim; simp only [List.length_singleton]; omega),if_pos i2,x2,Z5I];simp only [Option.bind_some];cases bs with
  | nil =>
   obtain ⟨j,rfl⟩:∃ j,k = j + 1:=⟨k - 1,by simp at hk; omega⟩
   rw [show Z2j (Z02 [] ++ [41]) = false from rfl,if_neg (by simp),show (Z02 [] ++ [41]:List UInt8) = [41] from rfl];unfold impl_partsOf.l1;rw [Z1R,e41,Z19,Z19,if_pos (by decide),if_neg (by decide)]
   rfl
  | cons b bs =>
   have e2:Z02 (b :: bs) ++ [41] = 44 :: (b ++ (Z02 bs ++ [41])):=by simp [Z02]
   rw [e2,show Z2j (44 :: (b ++ (Z02 bs ++ [41]))) = true from rfl,if_pos rfl];have i3:(0:Int) ≤ 1 ∧ (1:Int) ≤ (ByteArray.size (bt (44 :: (b ++ (Z02 bs ++ [41])))):Int) ∧ (ByteArray.size (bt (44 :: (b ++ (Z02 bs ++ [41])))):Int) ≤ (ByteArray.size (bt (44 :: (b ++ (Z02 bs ++ [41])))):Int):=by
    rw [Z0C]; simp only [List.length_cons]; omega
   have x3:ByteArray.extract (bt (44 :: (b ++ (Z02 bs ++ [41])))) (Int.toNat 1) (Int.toNat (ByteArray.size (bt (44 :: (b ++ (Z02 bs ++ [41])))):Int)) = bt (b ++ (Z02 bs ++ [41])):=by
    have:=Z1z (44 :: (b ++ (Z02 bs ++ [41]))) 1;rw [show ((1:Nat):Int) = 1 from rfl] at this;rw [this]
    rfl
   rw [if_pos i3,x3,Z5i n name K bs b (out ++ [bt a]) k (fun x hx=>hh x (List.mem_cons_of_mem _ hx)) (by simp only [Z02,List.length_append,List.length_cons,List.length_nil] at hl' ⊢; omega)
    (by simp only [Z02,List.length_append,List.length_cons,List.length_nil] at hn' ⊢; omega) (by simp only [List.length_append,List.length_cons,List.length_nil] at ho ⊢; omega) (by simp at hk; omega)]
   simp
theorem Z4S {l nm:List UInt8} {args:List (List UInt8)} (h:Parts l nm args) (n m:Nat) (hl:l.length ≤ 200) (hn:400 ≤ n) (hm:400 ≤ m) :
  impl_partsOf.F n (bt l) = some (bt nm,args.map bt) ∧ spec_TermParts.F m (bt l) = some (bt nm,args.map bt):=by
 have hT:Tm 3 l:=by
  cases h with
  | con0 _ h=>exact .con0 _ h
  | con _ a bs h hh =>
   classical
   refine .con nm a bs h (fun x=>if h:∃ k,Tm k x then h.choose else 0) (fun x hx=>?_);have:=hh x hx;show Tm (if h:∃ k,Tm k x then h.choose else 0) x;rw [dif_pos this];exact this.choose_spec
 obtain ⟨k,hk,hIs⟩:=Z0h _ l m (Nat.le_refl _) (by omega) (by omega);have hk3:k = 3:=hIs.complete 3 hT hl;subst hk3;unfold spec_TermParts.F;rw [hk];simp only [Option.bind_some];rw [if_neg (by simp),if_pos (by simp)];have e40:(⟨#[40]⟩:ByteArray) = bt [40]:=rfl;cases h with
 | con0 _ h =>
  obtain ⟨c,r,hc,_,h20,hall⟩:=Z0s h;rw [ZCJ m l h (by omega)];refine ⟨?_,rfl⟩;unfold impl_partsOf.F strings_Cut.F;rw [e40,if_pos (by rw [Z0C]; omega),Z12,Z12];unfold Lib.cut;rw [Z5v l (Z2e hall),if_neg (by omega)];simp only [Option.bind_some];rw [bt_mk,Z46 n l (by omega) (by omega),h]
  rfl
 | con _ a bs h hh =>
  obtain ⟨c,r,hc,_,h20,hall⟩:=Z0s h;have hl':=hl;simp only [List.length_append,List.length_cons,List.length_nil] at hl';rw [Z4b m nm a bs h hh (by omega) (by omega)];refine ⟨?_,rfl⟩;unfold impl_partsOf.F strings_Cut.F;rw [e40,if_pos (by rw [Z0C]; omega),Z12,Z12];unfold Lib.cut;rw [Z5w nm _ (Z2e hall),if_pos (by omega)];simp only [Option.bind_some,Int.toNat_natCast,List.take_left,List.length_singleton];rw [bt_mk,bt_mk,Z46 n nm (by omega) (by omega),h];simp only [Option.bind_some];rw [if_pos (by rfl),if_neg (by simp)];have hd:(nm ++ 40 :: (a ++ (Z02 bs ++ [41]))).drop (nm.length + 1) = a ++ (Z02 bs ++ [41]):=by rw [← List.drop_drop,List.drop_left]; rfl
  rw [hd];unfold impl_partsOf.j0;have hb:=(Z66 bs).1;rw [Z5i n (bt nm) _ bs a [] n hh (by simp; omega) (by simp; omega) (by simp; omega) (by omega)]
  simp
def sgn (c:Int):Prop:=c = -1 ∨ c = 0 ∨ c = 1
theorem Z2x (n:Nat) (x y:Int):cmp_Compare_int.F n x y = some (if x < y then -1 else if y < x then 1 else 0):=by
 unfold cmp_Compare_int.F cmp_isNaN_int.F;simp only [Option.bind_some,decide_true,Bool.not_true,Bool.false_eq_true,if_false]
 by_cases h1:x < y
 ·rw [if_pos (by simpa using h1),if_pos h1]
 ·rw [if_neg (by simpa using h1),if_neg h1]
  by_cases h2:y < x
  ·rw [if_pos (by simpa using h2),if_pos h2]
  ·rw [if_neg (by simpa using h2),if_neg h2]
theorem Z1K (n:Nat) (x:Int):spec_l01Sign.F n x = some (if x < 0 then -1 else if 0 < x then 1 else 0):=by
 unfold spec_l01Sign.F
 by_cases h1:x < 0
 ·rw [if_pos (by simpa using h1),if_pos h1]
 ·rw [if_neg (by simpa using h1),if_neg h1]
  by_cases h2:0 < x
  ·rw [if_pos (by simpa using h2),if_pos h2]
  ·rw [if_neg (by simpa using h2),if_neg h2]
theorem Z5P (n m:Nat) (x y:Int) (hx:-4611686018427387000 ≤ x - y ∧ x - y ≤ 4611686018427387000) :
  ∃ c,cmp_Compare_int.F n x y = some c ∧ spec_l01Sign.F m (IntKind.i64.wrap (x - y)) = some c ∧ sgn c ∧ (c = 0 ↔ x = y):=by
 rw [Z2x,Z1K,Z0A _ (by omega) (by omega)];refine ⟨_,rfl,?_,?_,?_⟩
 ·congr 1
  split <;> split <;> first | rfl | omega | (split <;> omega) | (split <;> first | rfl | omega)
 ·unfold sgn
  split
  ·simp
  ·split <;> simp
 ·split
  ·simp; omega
  ·split
   ·simp; omega
   ·simp; omega
theorem slt_refl (a:ByteArray):slt a a = false:=by
 unfold slt;generalize a.toList = l
 induction l with
 | nil=>rfl
 | cons c r ih=>simp [Op.bytesLess,ih]
theorem Z2Q (n:Nat) (a b:ByteArray):cmp_Compare_string.F n a b = some (if slt a b = true then -1 else if Abs.seq a b = true then 0 else 1):=by
 unfold cmp_Compare_string.F cmp_isNaN_string.F;rw [Z8z,Z8z];simp only [Option.bind_some,Bool.not_true,Bool.false_eq_true,if_false];rcases Z26 (slt a b) with h1 | h1 <;> rcases Z26 (Abs.seq a b) with h2 | h2 <;> simp [h1,h2]
theorem Z29 (n:Nat) (a b:ByteArray):spec_l01Texts.F n a b = some (if slt a b = true then -1 else if Abs.seq a b = true then 0 else 1):=by
 unfold spec_l01Texts.F;rcases Z26 (slt a b) with h1 | h1 <;> rcases Z26 (Abs.seq a b) with h2 | h2 <;> simp [h1,h2]
theorem Z8s (a b:ByteArray):sgn (if slt a b = true then -1 else if Abs.seq a b = true then 0 else 1):=by
 unfold sgn
 split
 ·simp
 ·split <;> simp
theorem ZAr (a b:ByteArray):(if slt a b = true then (-1:Int) else if Abs.seq a b = true then 0 else 1) = 0 ↔ Abs.seq a b = true:=by
 have hs:Abs.seq a b = true → slt a b = false:=by
  intro h;have:a = b:=by
   rw [Z3w a,Z3w b] at h ⊢;rw [Z19] at h;rw [beq_iff_eq.1 h]
  subst this;exact slt_refl a
 rcases Z26 (Abs.seq a b) with h2 | h2
 ·rw [h2]
  rcases Z26 (slt a b) with h1 | h1 <;> simp [h1]
 ·rw [hs h2,h2]
  simp
theorem or_two (n:Nat) (hn:3 ≤ n) (x y:Int):cmp_Or_int.F n [x,y] = some (if x = 0 then y else x):=by
 obtain ⟨n,rfl⟩:∃ k,n = k + 3:=⟨n - 3,by omega⟩
 unfold cmp_Or_int.F;unfold cmp_Or_int.l0
 by_cases hx:x = 0
 ·subst hx
  simp
  rw [show IntKind.i64.wrap 1 = 1 from by decide];unfold cmp_Or_int.l0
  by_cases hy:y = 0
  ·subst hy
   simp
   rw [show IntKind.i64.wrap 2 = 2 from by decide];unfold cmp_Or_int.l0
   simp
  ·simp [hy]
 ·simp [hx]
theorem Z5n (n:Nat) (x:Int) (h0:-1000000 ≤ x) (h1:x ≤ 1000000) (hl:(Lib.itoa x).length ≤ 200):impl_numOf.F n (bt (Lib.itoa x)) = some x:=by
 unfold impl_numOf.F strconv_Atoi.F;rw [if_pos (by rw [Z0C]; omega),Z12,Z1A x h0 h1]
 rfl
theorem Z7h (n m:Nat) (f1 f2 g:ByteArray → ByteArray → Option Int) (others args:List ByteArray):∀ (r1 r2 pre1 pre2:List (List UInt8)) (k j:Nat),pre1.length = pre2.length → r1.length = r2.length →
  (pre1 ++ r1).length ≤ 300 → r1.length + 1 ≤ k → r1.length + 1 ≤ j →
  (∀ x ∈ r1,∀ y ∈ r2,∃ c,f1 (bt x) (bt y) = some c ∧ g (bt x) (bt y) = some c ∧ sgn c) →
  ∃ c,impl_compareCons.l0 n f1 f2 ((pre2 ++ r2).map bt) ((pre1 ++ r1).map bt) (((pre1 ++ r1).map bt).length:Int) (fun _=>some 0) k (pre1.length:Int) = some c ∧
   spec_l01Cmp.l0 m g ((pre1 ++ r1).map bt) ((pre2 ++ r2).map bt) (fun _=>some 0) j (pre1.length:Int) = some c ∧ sgn c
 | r1,r2,pre1,pre2,0,_,_,_,_,hk,_,_=>by omega
 | r1,r2,pre1,pre2,_,0,_,_,_,_,hj,_=>by omega
 | [],r2,pre1,pre2,k + 1,j + 1,hp,hr,hl,hk,hj,hs=>by
  unfold impl_compareCons.l0 spec_l01Cmp.l0;rw [List.length_map,if_neg (by simp),if_neg (by simp)];exact ⟨0,rfl,rfl,.inr (.inl rfl)⟩
 | x :: r1,[],pre1,pre2,k + 1,j + 1,hp,hr,hl,hk,hj,hs=>by simp at hr
 | x :: r1,y :: r2,pre1,pre2,k + 1,j + 1,hp,hr,hl,hk,hj,hs=>by
  simp only [List.length_append,List.length_cons] at hl hr hk hj;have h1:(pre1.length:Int) < (((pre1 ++ x :: r1).map bt).length:Int):=by simp; omega
  have h2:(pre1.length:Int) < (((pre2 ++ y :: r2).map bt).length:Int):=by simp; omega
  have get1:List.getD ((pre1 ++ x :: r1).map bt) (Int.toNat (pre1.length:Int)) ByteArray.empty = bt x:=by
   rw [Int.toNat_natCast,List.map_append,List.map_cons];have:=Z0z (pre1.map bt) (r1.map bt) (bt x) ByteArray.empty;rw [List.length_map] at this;exact this
  have get2:List.getD ((pre2 ++ y :: r2).map bt) (Int.toNat (pre1.length:Int)) ByteArray.empty = bt y:=by
   rw [Int.toNat_natCast,hp,List.map_append,List.map_cons];have:=Z0z (pre2.map bt) (r2.map bt) (bt y) ByteArray.empty;rw [List.length_map] at this;exact this
  obtain ⟨c,c1,c2,c3⟩:=hs x List.mem_cons_self y List.mem_cons_self;unfold impl_compareCons.l0 spec_l01Cmp.l0;rw [if_pos (decide_eq_true h1),if_pos ⟨by omega,h1⟩,if_pos ⟨by omega,h2⟩,get1,get2,c1,if_pos (decide_eq_true h1),if_pos ⟨by omega,h1⟩,if_pos ⟨by omega,h2⟩,c2];simp only [Option.bind_some]
  by_cases hc:c = 0
  ·subst hc
   rw [if_neg (by simp),if_neg (by simp),Z0A _ (by omega) (by omega)];have:=Z7h n m f1 f2 g others args r1 r2 (pre1 ++ [x]) (pre2 ++ [y]) k j (by simp; omega) (by omega) (by simp; omega) (by omega) (by omega) (fun a ha b hb=>hs a (List.mem_cons_of_mem _ ha) b (List.mem_cons_of_mem _ hb));rw [show (pre1 ++ [x]) ++ r1 = pre1 ++ x :: r1 by simp,show (pre2 ++ [y]) ++ r2 = pre2 ++ y :: r2 by simp,show ((pre1 ++ [x]).length:Int) = (pre1.length:Int) + 1 by simp] at this;exact this
  ·rw [if_pos (by simpa using hc),if_pos (by simpa using hc)]
   exact ⟨c,rfl,rfl,c3⟩
theorem ZCZ (n:Nat) (a b:ByteArray):impl_compareTerms.F (n + 1) a b = impl_compareTerms.G n (impl_compareTerms.F n) (impl_compareCons.F n) a b:=rfl
theorem CC_succ (n:Nat) (a b:ByteArray):impl_compareCons.F (n + 1) a b = impl_compareCons.G n (impl_compareTerms.F n) (impl_compareCons.F n) a b:=rfl
theorem Z6o (n:Nat) (a b:ByteArray):spec_l01Cmp.F (n + 1) a b = spec_l01Cmp.G n (spec_l01Cmp.F n) a b:=rfl
section
variable (n:Nat) (a b:ByteArray)
theorem CT_diff {k1 k2:Nat} (ha:impl_kindOf.F n a = some (k1:Int)) (hb:impl_kindOf.F n b = some (k2:Int)) (h1:k1 ≠ 0) (h2:k2 ≠ 0) (h:k1 ≠ k2) :
  impl_compareTerms.F (n + 1) a b = cmp_Compare_int.F n (k1:Int) (k2:Int):=by
 rw [ZCZ];unfold impl_compareTerms.G;rw [ha,hb];simp only [Option.bind_some];rw [if_pos (by simp; omega)];unfold impl_compareTerms.j0;rw [if_neg (by simp; omega),if_pos (by simp; omega),Z2x]
 rfl
theorem Z8k {k1:Nat} (ha:impl_kindOf.F n a = some (k1:Int)) (hb:impl_kindOf.F n b = some (k1:Int)) (h1:k1 ≠ 0) :
  impl_compareTerms.F (n + 1) a b = impl_compareTerms.j0 n (impl_compareTerms.F n) (impl_compareCons.F n) a b (k1:Int) (k1:Int) false (fun _=>(impl_compareCons.F n a b).bind fun r15=>some r15):=by
 rw [ZCZ];unfold impl_compareTerms.G;rw [ha,hb];simp only [Option.bind_some];rw [if_pos (by simp; omega),decide_eq_false (by omega:¬ (k1:Int) = 0)]
theorem CT_num (ha:impl_kindOf.F n a = some ((1:Nat):Int)) (hb:impl_kindOf.F n b = some ((1:Nat):Int)) :
  impl_compareTerms.F (n + 1) a b = (impl_numOf.F n a).bind fun x=>(impl_numOf.F n b).bind fun y=>cmp_Compare_int.F n x y:=by
 rw [Z8k n a b ha hb (by omega)];unfold impl_compareTerms.j0;rw [if_neg (by simp),if_neg (by decide),if_pos (by decide)]
 congr 1; funext x; congr 1; funext y
 rw [Z2x]; rfl
theorem CT_sym (ha:impl_kindOf.F n a = some ((2:Nat):Int)) (hb:impl_kindOf.F n b = some ((2:Nat):Int)) (h1:2 ≤ a.size ∧ a.size ≤ 1000) (h2:2 ≤ b.size ∧ b.size ≤ 1000) :
  impl_compareTerms.F (n + 1) a b = cmp_Compare_string.F n (ByteArray.extract a 1 (a.size - 1)) (ByteArray.extract b 1 (b.size - 1)):=by
 rw [Z8k n a b ha hb (by omega)];unfold impl_compareTerms.j0;rw [if_neg (by simp),if_neg (by decide),if_neg (by decide),if_pos (by decide),Z0A ((a.size:Int) - 1) (by omega) (by omega),Z0A ((b.size:Int) - 1) (by omega) (by omega),if_pos (by omega),if_pos (by omega)];rw [show Int.toNat ((a.size:Int) - 1) = a.size - 1 by omega,show Int.toNat ((b.size:Int) - 1) = b.size - 1 by omega,show Int.toNat 1 = 1 from rfl,Z2Q]
 rfl
theorem CT_con (ha:impl_kindOf.F n a = some ((3:Nat):Int)) (hb:impl_kindOf.F n b = some ((3:Nat):Int)) :
  impl_compareTerms.F (n + 1) a b = (impl_compareCons.F n a b).bind fun r15=>some r15:=by
 rw [Z8k n a b ha hb (by omega)];unfold impl_compareTerms.j0;rw [if_neg (by simp),if_neg (by decide),if_neg (by decide),if_neg (by decide)]
theorem ZCS {k1 k2:Nat} (ha:spec_TermKind.F n a = some (k1:Int)) (hb:spec_TermKind.F n b = some (k2:Int)) (h:k1 ≠ k2) :
  spec_l01Cmp.F (n + 1) a b = spec_l01Sign.F n (IntKind.i64.wrap ((k1:Int) - (k2:Int))):=by
 rw [Z6o];unfold spec_l01Cmp.G;rw [ha,hb];simp only [Option.bind_some];rw [if_pos (by simp; omega),Z1K]
 rfl
theorem SC_num (ha:spec_TermKind.F n a = some ((1:Nat):Int)) (hb:spec_TermKind.F n b = some ((1:Nat):Int)) :
  spec_l01Cmp.F (n + 1) a b = (spec_l01Number.F n a).bind fun r6=>(spec_l01Number.F n b).bind fun r7=>spec_l01Sign.F n (IntKind.i64.wrap (r6.1 - r7.1)):=by
 rw [Z6o];unfold spec_l01Cmp.G;rw [ha,hb];simp only [Option.bind_some];rw [if_neg (by decide),if_pos (by decide)]
 congr 1; funext x; congr 1; funext y
 rw [Z1K]; rfl
theorem SC_sym (ha:spec_TermKind.F n a = some ((2:Nat):Int)) (hb:spec_TermKind.F n b = some ((2:Nat):Int)) (h1:2 ≤ a.size ∧ a.size ≤ 1000) (h2:2 ≤ b.size ∧ b.size ≤ 1000) :
  spec_l01Cmp.F (n + 1) a b = spec_l01Texts.F n (ByteArray.extract a 1 (a.size - 1)) (ByteArray.extract b 1 (b.size - 1)):=by
 rw [Z6o];unfold spec_l01Cmp.G;rw [ha,hb];simp only [Option.bind_some];rw [if_neg (by decide),if_neg (by decide),if_pos (by decide),Z0A ((a.size:Int) - 1) (by omega) (by omega),Z0A ((b.size:Int) - 1) (by omega) (by omega),if_pos (by omega),if_pos (by omega)];rw [show Int.toNat ((a.size:Int) - 1) = a.size - 1 by omega,show Int.toNat ((b.size:Int) - 1) = b.size - 1 by omega,show Int.toNat 1 = 1 from rfl,Z29]
 rfl
theorem SC_con (ha:spec_TermKind.F n a = some ((3:Nat):Int)) (hb:spec_TermKind.F n b = some ((3:Nat):Int)) {p q:ByteArray × List ByteArray} (hp:spec_TermParts.F n a = some p) (hq:spec_TermParts.F n b = some q)
  (h1:p.2.length ≤ 1000) (h2:q.2.length ≤ 1000) :
  spec_l01Cmp.F (n + 1) a b = if Abs.seq p.1 q.1 = true then (if p.2.length = q.2.length then spec_l01Cmp.l0 n (spec_l01Cmp.F n) p.2 q.2 (fun _=>some 0) n 0 else spec_l01Sign.F n (IntKind.i64.wrap ((p.2.length:Int) - (q.2.length:Int)))) else spec_l01Texts.F n p.1 q.1:=by
 rw [Z6o];unfold spec_l01Cmp.G;rw [ha,hb];simp only [Option.bind_some];rw [if_neg (by decide),if_neg (by decide),if_neg (by decide),hp,hq];simp only [Option.bind_some];rcases Z26 (Abs.seq p.1 q.1) with hs | hs
 ·rw [hs,if_pos (by rfl),if_neg (by simp),Z29]
  rfl
 ·rw [hs,if_neg (by simp),if_pos rfl]
  by_cases hl:p.2.length = q.2.length
  ·rw [if_neg (by simp; omega),if_pos hl]
  ·rw [if_pos (by simp; omega),if_neg hl,Z1K]
   rfl
theorem CC_con (hn:3 ≤ n) {p q:ByteArray × List ByteArray} (hp:impl_partsOf.F n a = some p) (hq:impl_partsOf.F n b = some q) :
  impl_compareCons.F (n + 1) a b = if Abs.seq p.1 q.1 = true then (if p.2.length = q.2.length then impl_compareCons.l0 n (impl_compareTerms.F n) (impl_compareCons.F n) q.2 p.2 (List.length p.2:Int) (fun _=>some 0) n 0 else cmp_Compare_int.F n (p.2.length:Int) (q.2.length:Int)) else cmp_Compare_string.F n p.1 q.1:=by
 rw [CC_succ];unfold impl_compareCons.G;rw [hp,hq];simp only [Option.bind_some];rw [Z2Q,Z2x];simp only [Option.bind_some];rw [or_two n hn];simp only [Option.bind_some];have hz:=ZAr p.1 q.1;generalize (if slt p.1 q.1 = true then (-1:Int) else if Abs.seq p.1 q.1 = true then 0 else 1) = T at hz ⊢;rcases Z26 (Abs.seq p.1 q.1) with hs | hs
 ·have hne:¬ T = 0:=by
   intro h;rw [hz.1 h] at hs;cases hs
  rw [if_neg hne,if_pos (by simpa using hne),hs,if_neg (by simp)]
 ·rw [if_pos (hz.2 hs),hs,if_pos rfl]
  by_cases hl:p.2.length = q.2.length
  ·rw [if_pos hl,if_neg]
   rw [hl]
   simp
  ·rw [if_neg hl,if_pos]
   simp
   split
   ·simp
   ·split
    ·simp
    ·omega
end
theorem Z4g:∀ (L:Nat) (a b:List UInt8) (ka kb n m:Nat),a.length ≤ L → Tm ka a → Tm kb b → a.length ≤ 200 → b.length ≤ 200 → 2 * L + 500 ≤ n → L + 500 ≤ m →
  ∃ c,impl_compareTerms.F n (bt a) (bt b) = some c ∧ spec_l01Cmp.F m (bt a) (bt b) = some c ∧ sgn c:=by
 intro L
 induction L with
 | zero=>intro a b ka kb n m h ha; exact absurd (List.length_eq_zero_iff.1 (by omega)) ha.ne
 | succ L ih =>
  intro a b ka kb n m hL ha hb hal hbl hn hm;obtain ⟨n,rfl⟩:∃ k,n = k + 2:=⟨n - 2,by omega⟩
  obtain ⟨m,rfl⟩:∃ k,m = k + 1:=⟨m - 1,by omega⟩
  obtain ⟨k1,a1,a2⟩:=Z5A (n + 1) a (by omega) (by omega);obtain ⟨k2,b1,b2⟩:=Z5A (n + 1) b (by omega) (by omega);have e1:=a2.complete ka ha hal;have e2:=b2.complete kb hb hbl;subst e1;subst e2;obtain ⟨k3,a3,a4⟩:=Z0h _ a m (Nat.le_refl _) (by omega) (by omega);obtain ⟨k4,b3,b4⟩:=Z0h _ b m (Nat.le_refl _) (by omega) (by omega);have e3:=a2.unique a4;have e4:=b2.unique b4;subst e3;subst e4;have hka:=ha.kind;have hkb:=hb.kind
  by_cases hk:k1 = k2
  ·subst hk
   have hk3:k1 = 1 ∨ k1 = 2 ∨ k1 = 3:=by omega
   rcases hk3 with rfl | rfl | rfl
   ·rw [CT_num _ _ _ a1 b1,SC_num _ _ _ a3 b3]
    obtain ⟨x,h0,h1,rfl⟩:Z5Z a:=by
     generalize hg:(1:Nat) = k at ha
     cases ha <;> first | exact ⟨_,by assumption,by assumption,rfl⟩ | omega
    obtain ⟨y,h2,h3,rfl⟩:Z5Z b:=by
     generalize hg:(1:Nat) = k at hb
     cases hb <;> first | exact ⟨_,by assumption,by assumption,rfl⟩ | omega
    rw [Z5n _ x h0 h1 hal,Z5n _ y h2 h3 hbl];obtain ⟨v,ok,hv,hok,hve⟩:=Z2G m (Lib.itoa x) (by omega);obtain ⟨v2,ok2,hv2,hok2,hve2⟩:=Z2G m (Lib.itoa y) (by omega);have t1:=hve (hok.2 ⟨x,h0,h1,rfl⟩);have t2:=hve2 (hok2.2 ⟨y,h2,h3,rfl⟩);have i1:v = x:=by
     have:=Z1A v t1.2.1 t1.2.2;rw [← t1.1,Z1A x h0 h1] at this
     injection this with this
     exact this.symm
    have i2:v2 = y:=by
     have:=Z1A v2 t2.2.1 t2.2.2;rw [← t2.1,Z1A y h2 h3] at this
     injection this with this
     exact this.symm
    rw [hv,hv2];simp only [Option.bind_some];rw [i1,i2];obtain ⟨c,c1,c2,c3,_⟩:=Z5P (n + 1) m x y ⟨by omega,by omega⟩;exact ⟨c,c1,c2,c3⟩
   ·obtain ⟨p,rfl,hp⟩:∃ p:List UInt8,a = 34 :: (p ++ [34]) ∧ p.length ≤ 20:=by
     generalize hg:(2:Nat) = k at ha
     cases ha <;> first | exact ⟨_,rfl,by assumption⟩ | omega
    obtain ⟨q,rfl,hq⟩:∃ q:List UInt8,b = 34 :: (q ++ [34]) ∧ q.length ≤ 20:=by
     generalize hg:(2:Nat) = k at hb
     cases hb <;> first | exact ⟨_,rfl,by assumption⟩ | omega
    have s1:2 ≤ (bt (34 :: (p ++ [34]))).size ∧ (bt (34 :: (p ++ [34]))).size ≤ 1000:=by rw [Z0C]; simp; omega
    have s2:2 ≤ (bt (34 :: (q ++ [34]))).size ∧ (bt (34 :: (q ++ [34]))).size ≤ 1000:=by rw [Z0C]; simp; omega
    rw [CT_sym _ _ _ a1 b1 s1 s2,SC_sym _ _ _ a3 b3 s1 s2,Z2Q,Z29];exact ⟨_,rfl,rfl,Z8s _ _⟩
   ·obtain ⟨nm,xs,hpa⟩:=ha.parts
    obtain ⟨nm2,ys,hpb⟩:=hb.parts;obtain ⟨p1,p2⟩:=Z4S hpa n m hal (by omega) (by omega);obtain ⟨q1,q2⟩:=Z4S hpb n m hbl (by omega) (by omega);have ha3:=hpa.sub;have hb3:=hpb.sub;rw [CT_con _ _ _ a1 b1,CC_con _ _ _ (by omega) p1 q1,SC_con _ _ _ a3 b3 p2 q2 (by simp; omega) (by simp; omega)];rcases Z26 (Abs.seq (bt nm) (bt nm2)) with hs | hs
    ·rw [hs,if_neg (by simp),if_neg (by simp),Z2Q,Z29]
     exact ⟨_,rfl,rfl,Z8s _ _⟩
    ·rw [hs,if_pos rfl,if_pos rfl]
     simp only [List.length_map]
     by_cases hl:xs.length = ys.length
     ·rw [if_pos hl,if_pos hl]
      have:=Z7h n m (impl_compareTerms.F n) (impl_compareCons.F n) (spec_l01Cmp.F m) [] [] xs ys [] [] n m rfl hl (by simp; omega) (by omega) (by omega) (fun x hx y hy=>by
       obtain ⟨⟨kx,hkx⟩,hlx⟩:=ha3.2 x hx;obtain ⟨⟨ky,hky⟩,hly⟩:=hb3.2 y hy;exact ih x y kx ky n m (by omega) hkx hky (by omega) (by omega) (by omega) (by omega))
      simp only [List.nil_append,List.length_nil,List.length_map] at this;rw [show ((0:Nat):Int) = 0 from rfl] at this;obtain ⟨c,c1,c2,c3⟩:=this;rw [c1,c2];exact ⟨c,rfl,rfl,c3⟩
     ·rw [if_neg hl,if_neg hl]
      obtain ⟨c,c1,c2,c3,_⟩:=Z5P n m (xs.length:Int) (ys.length:Int) ⟨by omega,by omega⟩;rw [c1,c2];exact ⟨c,rfl,rfl,c3⟩
  ·rw [CT_diff _ _ _ a1 b1 (by omega) (by omega) hk,ZCS _ _ _ a3 b3 hk]
   obtain ⟨c,c1,c2,c3,_⟩:=Z5P (n + 1) m (k1:Int) (k2:Int) ⟨by omega,by omega⟩;exact ⟨c,c1,c2,c3⟩
end Go.Abs
