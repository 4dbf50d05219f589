/- Texts as rows of bytes, numbers as texts: what the reference's NumText and Z2G answer, what the library's Atoi answers at a number's text. Conditions: none. -/
import Derived.Test.YtgdlicpmbgodjaaGreatDoorPl
import Derived.Test.YtgdlicpmbgodjaaGreatDoorF1
import Derived.Lib.AtoiTie
namespace Go.Abs
set_option linter.unusedVariables false
set_option linter.unusedSimpArgs false
def bt (l:List UInt8):ByteArray:=⟨l.toArray⟩
theorem Z0C (l:List UInt8):ByteArray.size (bt l) = l.length:=by simp [bt,ByteArray.size]
theorem Z12 (l:List UInt8):(bt l).data.toList = l:=by simp [bt]
theorem Z3w (s:ByteArray):s = bt s.data.toList:=by cases s; simp [bt]
theorem bt_inj {a b:List UInt8} (h:bt a = bt b):a = b:=by rw [← Z12 a,← Z12 b,h]
theorem bt_mk (l:List UInt8):(⟨l.toArray⟩:ByteArray) = bt l:=rfl
theorem Z1Y (l:List UInt8) (i j:Nat):ByteArray.extract (bt l) i j = bt ((l.take j).drop i):=by
 rw [Z3w (ByteArray.extract (bt l) i j)]
 congr 1
 rw [ByteArray.data_extract,Array.toList_extract,List.extract_eq_take_drop,List.drop_take,Z12]
theorem Z19 (a b:List UInt8):Abs.seq (bt a) (bt b) = (a == b):=by
 unfold Abs.seq;rw [Lib.toList_data,Lib.toList_data,Z12,Z12]
theorem ZAc (l:List UInt8) (i:Nat):Z0M (bt l) (i:Int) = ((l.getD i 0).toNat:Int):=by
 unfold Z0M bt;simp only [Int.toNat_natCast]
 congr 2
 simp [Array.getD_eq_getD_getElem?,List.getD]
theorem Z1R:ByteArray.empty = bt []:=rfl
theorem ZC9:∀ (l:List Int) (r:ByteArray),(l.foldl (fun r n=>r.push (UInt8.ofNat n.toNat)) r) = bt (r.data.toList ++ l.map fun n=>UInt8.ofNat n.toNat)
 | [],r=>by rw [List.foldl_nil,List.map_nil,List.append_nil]; exact Z3w r
 | x :: l,r=>by
  rw [List.foldl_cons,ZC9 l]
  congr 1
  show (r.data.push _).toList ++ _ = _
  simp
theorem ZCA (l:List Int):bstr l = bt (l.map fun n=>UInt8.ofNat n.toNat):=by
 unfold bstr;rw [ZC9]
 simp
theorem Z63 {u:Nat} (h:¬ u < 10):Lib.decDigits u = Lib.decDigits (u / 10) ++ [UInt8.ofNat (48 + u % 10)]:=by rw [Lib.decDigits,dif_neg h]
theorem Z2z {u:Nat} (h:u < 10):Lib.decDigits u = [UInt8.ofNat (48 + u)]:=Lib.decDigits_one h
theorem Z2N (d:Nat) (h:d < 10):48 ≤ (UInt8.ofNat (48 + d)).toNat ∧ (UInt8.ofNat (48 + d)).toNat ≤ 57 ∧ (UInt8.ofNat (48 + d)).toNat = 48 + d:=by
 rw [UInt8.toNat_ofNat'];omega
theorem Z64 (u:Nat):∀ b ∈ Lib.decDigits u,48 ≤ b.toNat ∧ b.toNat ≤ 57:=by
 induction u using Nat.strongRecOn with
 | _ u ih =>
  intro b hb
  by_cases h:u < 10
  ·rw [Z2z h] at hb
   simp only [List.mem_singleton] at hb;subst hb;have:=Z2N u h;omega
  ·rw [Z63 h] at hb
   simp only [List.mem_append,List.mem_singleton] at hb;rcases hb with hb | rfl
   ·exact ih (u / 10) (by omega) b hb
   ·have:=Z2N (u % 10) (by omega)
    omega
theorem ZBz (u:Nat):Lib.decDigits u ≠ []:=by
 intro h
 by_cases hu:u < 10
 ·rw [Z2z hu] at h; cases h
 ·rw [Z63 hu] at h; simp at h
theorem Z30:∀ (a b:List UInt8) (acc:Nat),Lib.decFrom acc (a ++ b) = (Lib.decFrom acc a).bind fun x=>Lib.decFrom x b
 | [],b,acc=>rfl
 | x :: a,b,acc=>by
  simp only [List.cons_append,Lib.decFrom];cases Lib.digitVal x with
  | none=>rfl
  | some d=>exact Z30 a b _
theorem Z5O (d:Nat) (h:d < 10):Lib.digitVal (UInt8.ofNat (48 + d)) = some d:=by
 obtain ⟨h1,h2,h3⟩:=Z2N d h;unfold Lib.digitVal;rw [if_pos ⟨h1,h2⟩,h3]
 simp
theorem Z39 (u:Nat):Lib.decFrom 0 (Lib.decDigits u) = some u:=by
 induction u using Nat.strongRecOn with
 | _ u ih =>
  by_cases h:u < 10
  ·rw [Z2z h]
   simp only [Lib.decFrom,Z5O u h]
   simp
  ·rw [Z63 h,Z30,ih (u / 10) (by omega)]
   simp only [Option.bind_some,Lib.decFrom,Z5O (u % 10) (by omega)];rw [Nat.div_add_mod' u 10]
theorem Z6f:∀ (j u:Nat),u < 10 ^ (j + 1) → (Lib.decDigits u).length ≤ j + 1
 | 0,u,h=>by rw [Z2z (by simpa using h)]; simp
 | j + 1,u,h=>by
  by_cases hu:u < 10
  ·rw [Z2z hu]; simp
  ·rw [Z63 hu,List.length_append]
   have:=Z6f j (u / 10) (by rw [Nat.pow_succ] at h; omega);simp only [List.length_singleton];omega
theorem Z6g (u:Nat):∃ c r,Lib.decDigits u = c :: r ∧ 48 ≤ c.toNat ∧ c.toNat ≤ 57:=by
 cases h:Lib.decDigits u with
 | nil=>exact absurd h (ZBz u)
 | cons c r =>
  have:=Z64 u c (by rw [h]; simp);exact ⟨c,r,rfl,this⟩
theorem Z1A (x:Int) (h0:-1000000 ≤ x) (h1:x ≤ 1000000):Lib.atoiAll (Lib.itoa x) = .ok x:=by
 have mag:∀ u:Nat,u ≤ 1000000 → Lib.parseMag (Lib.decDigits u) = .ok u:=by
  intro u hu;rw [Lib.parseMag_short _ (by have:=Z6f 6 u (by omega); omega)];unfold Lib.decNat;rw [if_neg (by simp [ZBz]),Z39]
  rfl
 unfold Lib.itoa
 split
 ·rename_i hx
  unfold Lib.atoiAll;simp only [show (45:UInt8).toNat = 45 from rfl,or_true,if_true,mag x.natAbs (by omega)];rw [if_neg (by omega),if_neg (by omega)]
  congr 1
  omega
 ·rename_i hx
  obtain ⟨c,r,hc,h2,h3⟩:=Z6g x.toNat;have hm:=mag x.toNat (by omega);rw [hc] at hm ⊢;unfold Lib.atoiAll;simp only [show ¬ c.toNat = 45 by omega,show ¬ c.toNat = 43 by omega,or_self,if_false,hm];rw [if_neg (by omega),if_neg (by simp)]
  congr 1
  omega
def toI (b:UInt8):Int:=(b.toNat:Int)
theorem ZBi (l:List UInt8):(l.map toI).map (fun n=>UInt8.ofNat n.toNat) = l:=by
 rw [List.map_map]
 conv=>rhs; rw [← List.map_id l]
 congr 1
 funext b
 simp [toI]
theorem u8wrap (z:Int) (h0:0 ≤ z) (h1:z ≤ 255):IntKind.u8.wrap z = z:=by
 simp only [IntKind.wrap,IntKind.signed,IntKind.bits]
 simp
 omega
theorem ZBc (n:Nat) (t:Int) (K:List Int → Option ByteArray):∀ (j k:Nat) (m:Int) (out:List Int),m.natAbs < 10 ^ j → j + 1 ≤ k → List.length out + j ≤ 100 → m.natAbs ≤ 4611686018427387904 →
  spec_NumText.l0 n t K k m out = K ((if m = 0 then [] else (Lib.decDigits m.natAbs).map toI) ++ out)
 | j,0,m,out,_,hk,_,_=>by omega
 | 0,k + 1,m,out,hm,hk,ho,hb=>by
  have:m = 0:=by simp at hm; exact hm
  subst this;unfold spec_NumText.l0
  simp
 | j + 1,k + 1,m,out,hm,hk,ho,hb=>by
  unfold spec_NumText.l0
  by_cases h0:m = 0
  ·subst h0; simp
  ·have hd:(Int.tdiv m 10).natAbs = m.natAbs / 10:=by rw [Int.natAbs_tdiv]; rfl
   have hr:(Int.tmod m 10).natAbs = m.natAbs % 10:=by rw [Int.natAbs_tmod]; rfl
   have hw:IntKind.i64.wrap (Int.tdiv m 10) = Int.tdiv m 10:=Z0A _ (by omega) (by omega);have hl:List.length [(1:Int)] + List.length out ≤ lim:=by unfold lim; simp; omega
   have step:∀ d:Int,d = ((m.natAbs % 10:Nat):Int) → spec_NumText.l0 n t K k (IntKind.i64.wrap (Int.tdiv m 10)) ([IntKind.u8.wrap (IntKind.i64.wrap (48 + d))] ++ out) = K ((Lib.decDigits m.natAbs).map toI ++ out):=by
    intro d hdd;have e1:IntKind.u8.wrap (IntKind.i64.wrap (48 + d)) = toI (UInt8.ofNat (48 + m.natAbs % 10)):=by
     rw [Z0A _ (by omega) (by omega),u8wrap _ (by omega) (by omega)];unfold toI;have:=(Z2N (m.natAbs % 10) (by omega)).2.2;omega
    rw [hw,e1,ZBc n t K j k (Int.tdiv m 10) _ (by rw [hd]; rw [Nat.pow_succ] at hm; omega) (by omega) (by simp; omega) (by omega),hd]
    congr 1
    by_cases hu:m.natAbs < 10
    ·have hz:Int.tdiv m 10 = 0:=by omega
     rw [if_pos hz,Z2z hu]
     simp [Nat.mod_eq_of_lt hu]
    ·have hz:¬ Int.tdiv m 10 = 0:=by omega
     rw [if_neg hz,Z63 hu]
     simp
   have hl2:∀ z:Int,List.length [z] + List.length out ≤ lim:=fun z=>by unfold lim; simp; omega
   rw [if_neg h0,if_pos (by simpa using h0)]
   split
   ·rename_i hneg
    rw [if_pos (hl2 _)];apply step;have hneg:=of_decide_eq_true hneg;rw [Z0A _ (by omega) (by omega)];omega
   ·rename_i hneg
    have hneg:¬ (Int.tmod m 10) < 0:=fun h=>hneg (decide_eq_true h)
    rw [if_pos (hl2 _)];apply step;omega
theorem Z8N (n:Nat) (x:Int) (hn:25 ≤ n) (h0:-4611686018427387904 ≤ x) (h1:x ≤ 4611686018427387904):spec_NumText.F n x = some (bt (Lib.itoa x)):=by
 unfold spec_NumText.F
 split
 ·rename_i h
  have h:=of_decide_eq_true h;subst h;have:Lib.itoa 0 = [48]:=by unfold Lib.itoa; rw [if_neg (by omega),show Int.toNat 0 = 0 from rfl,Z2z (by omega)]; rfl
  rw [this]
  rfl
 ·rename_i h
  have h:¬ x = 0:=fun e=>h (decide_eq_true e)
  rw [ZBc n x _ 20 n x [] (by omega) (by omega) (by simp) (by omega)];rw [if_neg h,List.append_nil];unfold Lib.itoa
  by_cases hx:x < 0
  ·rw [if_pos (decide_eq_true hx),if_pos hx,if_pos]
   ·rw [ZCA,List.map_append,ZBi]
    rfl
   ·have:=Z6f 19 x.natAbs (by omega)
    unfold lim
    simp
    omega
  ·rw [if_neg (by simpa using hx),if_neg hx,ZCA,ZBi]
   have:x.natAbs = x.toNat:=by omega
   rw [this]
def Z5Z (l:List UInt8):Prop:=∃ x:Int,-1000000 ≤ x ∧ x ≤ 1000000 ∧ l = Lib.itoa x
def Z1Z (l:List UInt8):List UInt8:=match l with
 | []=>[]
 | c :: r=>if c.toNat = 45 then r else c :: r
theorem Z0Y (n:Nat) (a b c:Int):spec_l01Between.F n a b c = some (decide (b ≤ a ∧ a ≤ c)):=by
 unfold spec_l01Between.F
 by_cases h:b ≤ a
 ·rw [if_pos (by simpa using h)]
  simp [h]
 ·rw [if_neg (by simpa using h)]
  simp [h]
theorem Z58 (n:Nat) (b:Int):spec_l01Digit.F n b = some (decide (48 ≤ b ∧ b ≤ 57)):=by
 unfold spec_l01Digit.F
 by_cases h:48 ≤ b
 ·rw [if_pos (by simpa using h)]
  simp [h]
 ·rw [if_neg (by simpa using h)]
  simp [h]
theorem Z8Z {b:UInt8} {d:Nat} (h:Lib.digitVal b = some d):d ≤ 9 ∧ b.toNat = 48 + d:=by
 unfold Lib.digitVal at h
 split at h
 ·cases h; omega
 ·cases h
theorem ZBk (n:Nat) (s:ByteArray) (K:Int → Option (Int × Bool)):∀ (r pre:List UInt8) (t k:Nat),List.length (pre ++ r) ≤ 7 → t < 10 ^ pre.length → r.length + 1 ≤ k →
  spec_l01Number.l1 n s (bt (pre ++ r)) K k (t:Int) (pre.length:Int) = match Lib.decFrom t r with | some v=>K (v:Int) | none=>some (0,false)
 | r,pre,t,0,_,_,hk=>by omega
 | [],pre,t,k + 1,hl,ht,hk=>by
  unfold spec_l01Number.l1;rw [Z0C,if_neg (by simp)]
  rfl
 | c :: r,pre,t,k + 1,hl,ht,hk=>by
  unfold spec_l01Number.l1;have hlen:(pre.length:Int) < ((pre ++ c :: r).length:Int):=by simp; omega
  have hat:Z0M (bt (pre ++ c :: r)) (pre.length:Int) = (c.toNat:Int):=by rw [ZAc,Z0z]
  rw [Z0C,if_pos (decide_eq_true hlen),if_pos ⟨by omega,hlen⟩,hat,Z58];simp only [Option.bind_some];simp only [Lib.decFrom];have hpl:pre.length ≤ 6:=by simp at hl; omega
  have hp:(10:Nat) ^ pre.length ≤ 10 ^ 6:=Nat.pow_le_pow_right (by omega) hpl;cases hd:Lib.digitVal c with
  | none =>
   have:¬ (48 ≤ (c.toNat:Int) ∧ (c.toNat:Int) ≤ 57):=by
    intro ⟨h1,h2⟩;unfold Lib.digitVal at hd;rw [if_pos (by omega)] at hd;cases hd
   rw [if_pos (by simp only [Bool.not_eq_true',decide_eq_false_iff_not]; exact this)]
  | some d =>
   obtain ⟨d1,d2⟩:=Z8Z hd;rw [if_neg (by simp; omega),if_pos ⟨by omega,hlen⟩,u8wrap _ (by omega) (by omega),Z0A (10 * (t:Int)) (by omega) (by omega),Z0A ((c.toNat:Int) - 48) (by omega) (by omega),
    Z0A (10 * (t:Int) + _) (by omega) (by omega),Z0A ((pre.length:Int) + 1) (by omega) (by omega)]
   have e1:10 * (t:Int) + ((c.toNat:Int) - 48) = ((t * 10 + d:Nat):Int):=by omega
   have e2:(pre.length:Int) + 1 = ((pre ++ [c]).length:Int):=by simp
   have e3:pre ++ c :: r = (pre ++ [c]) ++ r:=by simp
   rw [e1,e2,e3];exact ZBk n s K r (pre ++ [c]) (t * 10 + d) k (by rw [← e3]; exact hl) (by simp only [List.length_append,List.length_singleton,Nat.pow_succ]; omega) (by simpa using hk)
theorem Z3t {x:Int} (h0:-1000000 ≤ x) (h1:x ≤ 1000000):∃ u:Nat,u ≤ 1000000 ∧ ((1 ≤ u ∧ x = -(u:Int) ∧ Lib.itoa x = 45 :: Lib.decDigits u) ∨ (x = (u:Int) ∧ Lib.itoa x = Lib.decDigits u)):=by
 refine ⟨x.natAbs,by omega,?_⟩;unfold Lib.itoa
 by_cases h:x < 0
 ·exact .inl ⟨by omega,by omega,by rw [if_pos h]⟩
 ·exact .inr ⟨by omega,by rw [if_neg h,show x.toNat = x.natAbs by omega]⟩
theorem Z2m {u:Nat}:Z1Z (45 :: Lib.decDigits u) = Lib.decDigits u ∧ Z1Z (Lib.decDigits u) = Lib.decDigits u:=by
 refine ⟨rfl,?_⟩;obtain ⟨c,r,hc,h2,h3⟩:=Z6g u;rw [hc];unfold Z1Z;dsimp only;rw [if_neg (by omega)]
theorem Z5C {x:Int} (h0:-1000000 ≤ x) (h1:x ≤ 1000000):∃ u:Nat,u ≤ 1000000 ∧ Z1Z (Lib.itoa x) = Lib.decDigits u ∧ x = if Z1Z (Lib.itoa x) = Lib.itoa x then (u:Int) else -(u:Int):=by
 obtain ⟨u,hu,h | h⟩:=Z3t h0 h1
 ·refine ⟨u,hu,by rw [h.2.2]; exact Z2m.1,?_⟩
  rw [h.2.2,Z2m.1,if_neg]
  ·exact h.2.1
  ·intro e
   have:=congrArg List.length e
   simp at this
 ·refine ⟨u,hu,by rw [h.2]; exact Z2m.2,?_⟩
  rw [h.2,Z2m.2,if_pos rfl];exact h.1
theorem Z9d {u:Nat} (h:u ≤ 1000000):1 ≤ (Lib.decDigits u).length ∧ (Lib.decDigits u).length ≤ 7:=by
 refine ⟨?_,by have:=Z6f 6 u (by omega); omega⟩;have:=ZBz u;cases h:Lib.decDigits u with
 | nil=>exact absurd h this
 | cons c r=>simp
theorem Z2G (n:Nat) (l:List UInt8) (hn:25 ≤ n):∃ v ok,spec_l01Number.F n (bt l) = some (v,ok) ∧ (ok = true ↔ Z5Z l) ∧ (ok = true → l = Lib.itoa v ∧ -1000000 ≤ v ∧ v ≤ 1000000):=by
 have key:spec_l01Number.F n (bt l) = spec_l01Number.j0 n (bt l) 0 (bt (Z1Z l)):=by
  unfold spec_l01Number.F;cases l with
  | nil=>rw [Z0C,if_neg (by simp)]; rfl
  | cons c r =>
   have hat:Z0M (bt (c :: r)) 0 = (c.toNat:Int):=by have:=ZAc (c :: r) 0; simpa using this
   rw [Z0C,if_pos (by simp <;> omega),if_pos (by simp <;> omega),hat]
   by_cases hc:c.toNat = 45
   ·rw [if_pos (by simp; omega),if_pos (by simp; omega),Z1Y]
    congr 2
    unfold Z1Z;dsimp only;rw [if_pos hc]
    simp
   ·rw [if_neg (by simp; omega)]
    congr 2
    unfold Z1Z;dsimp only;rw [if_neg hc]
 rw [key];have hnum:Z5Z l → ∃ u:Nat,u ≤ 1000000 ∧ Z1Z l = Lib.decDigits u:=by
  rintro ⟨x,h0,h1,rfl⟩;obtain ⟨u,hu,h2,_⟩:=Z5C h0 h1;exact ⟨u,hu,h2⟩
 unfold spec_l01Number.j0;rw [Z0C,Z0Y];simp only [Option.bind_some]
 by_cases hlen:1 ≤ (Z1Z l).length ∧ (Z1Z l).length ≤ 7
 ·rw [if_neg (by simp; omega)]
  have:=ZBk n (bt l) (fun t11 =>
   if (!(Abs.seq (bt (Z1Z l)) (bt l))) = true then
    (spec_NumText.F n (IntKind.i64.wrap (0 - t11))).bind fun r12 =>
    if (Abs.seq r12 (bt l)) = true then
     (spec_l01Between.F n (IntKind.i64.wrap (0 - t11)) (-1000000) 1000000).bind fun r13 =>
     some (IntKind.i64.wrap (0 - t11),r13)
    else
     some (IntKind.i64.wrap (0 - t11),false)
   else
    (spec_NumText.F n t11).bind fun r14 =>
    if (Abs.seq r14 (bt l)) = true then
     (spec_l01Between.F n t11 (-1000000) 1000000).bind fun r15 =>
     some (t11,r15)
    else
     some (t11,false)) (Z1Z l) [] 0 n (by simpa using hlen.2) (by simp) (by omega)
  simp only [List.nil_append,List.length_nil,Int.natCast_zero] at this;rw [this];cases hv:Lib.decFrom 0 (Z1Z l) with
  | none =>
   refine ⟨0,false,rfl,⟨fun h=>(by cases h),fun h=>?_⟩,fun h=>by cases h⟩;obtain ⟨u,_,h2⟩:=hnum h;rw [h2,Z39] at hv;cases hv
  | some v =>
   have hv7:=Lib.decFrom_lt _ _ _ hv;have hp:(10:Nat) ^ (Z1Z l).length ≤ 10 ^ 7:=Nat.pow_le_pow_right (by omega) hlen.2;have hvlt:v < 10000000:=by omega
   have fin:∀ x:Int,x = (if Z1Z l = l then (v:Int) else -(v:Int)) →
     ∃ v' ok,((spec_NumText.F n x).bind fun r14=>if (Abs.seq r14 (bt l)) = true then (spec_l01Between.F n x (-1000000) 1000000).bind fun r15=>some (x,r15) else some (x,false)) = some (v',ok) ∧
      (ok = true ↔ Z5Z l) ∧ (ok = true → l = Lib.itoa v' ∧ -1000000 ≤ v' ∧ v' ≤ 1000000):=by
    intro x hx;have hxb:-10000000 ≤ x ∧ x ≤ 10000000:=by split at hx <;> omega
    rw [Z8N n x hn (by omega) (by omega)];simp only [Option.bind_some,Z19];have toX:Z5Z l → l = Lib.itoa x ∧ -1000000 ≤ x ∧ x ≤ 1000000:=by
     rintro ⟨y,h0,h1,rfl⟩;obtain ⟨u,hu,h2,h3⟩:=Z5C h0 h1;rw [h2,Z39] at hv;cases hv;rw [← h3] at hx;rw [hx];exact ⟨rfl,h0,h1⟩
    by_cases he:Lib.itoa x = l
    ·rw [if_pos (by simpa using he),Z0Y]
     refine ⟨x,_,rfl,⟨fun h=>?_,fun h=>?_⟩,fun h=>?_⟩
     ·have:=of_decide_eq_true h
      exact ⟨x,this.1,this.2,he.symm⟩
     ·exact decide_eq_true (toX h).2
     ·exact ⟨he.symm,of_decide_eq_true h⟩
    ·rw [if_neg (by simpa using he)]
     exact ⟨x,false,rfl,⟨fun h=>(by cases h),fun h=>absurd (toX h).1.symm he⟩,fun h=>by cases h⟩
   dsimp only;rw [Z19]
   by_cases hu:Z1Z l = l
   ·rw [if_neg (by simpa using hu)]
    exact fin _ (by rw [if_pos hu])
   ·rw [if_pos (by simpa using hu),Z0A _ (by omega) (by omega)]
    exact fin _ (by rw [if_neg hu]; omega)
 ·rw [if_pos (by simp; omega)]
  refine ⟨0,false,rfl,⟨fun h=>(by cases h),fun h=>?_⟩,fun h=>by cases h⟩;obtain ⟨u,hu,h2⟩:=hnum h;rw [h2] at hlen;exact absurd (Z9d hu) hlen
end Go.Abs
