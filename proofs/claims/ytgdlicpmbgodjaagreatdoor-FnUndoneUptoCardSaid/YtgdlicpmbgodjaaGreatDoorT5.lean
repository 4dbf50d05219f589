/- The reference's l01Args: what it splits, and that it splits each constructor. Conditions: none. -/
import Derived.Test.YtgdlicpmbgodjaaGreatDoorT1
namespace Go.Abs
set_option linter.unusedVariables false
set_option linter.unusedSimpArgs false
theorem Z26 (b:Bool):b = false ∨ b = true:=by cases b <;> simp
def Z1p (b:UInt8):Bool:=decide (48 ≤ b.toNat ∧ b.toNat ≤ 57)
def Z5a (b:UInt8):Bool:=decide (65 ≤ b.toNat ∧ b.toNat ≤ 90)
def isLt (b:UInt8):Bool:=decide (97 ≤ b.toNat ∧ b.toNat ≤ 122) || Z5a b
def isW (b:UInt8):Bool:=isLt b || Z1p b || decide (b.toNat = 95)
def Z0X (b:UInt8):Bool:=decide (32 ≤ b.toNat ∧ b.toNat ≤ 126 ∧ b.toNat ≠ 34 ∧ b.toNat ≠ 92)
theorem ZAQ (n:Nat) (a b c:Int):impl_in.F n a b c = some (decide (b ≤ a ∧ a ≤ c)):=by
 unfold impl_in.F
 by_cases h:b ≤ a
 ·rw [if_pos (by simpa using h)]
  simp [h]
 ·rw [if_neg (by simpa using h)]
  simp [h]
theorem Z2i (n:Nat) (b:UInt8):impl_isDigit.F n (b.toNat:Int) = some (Z1p b):=by
 unfold impl_isDigit.F Z1p
 by_cases h:48 ≤ b.toNat
 ·rw [if_pos (by simp; omega)]
  congr 1
  rw [decide_eq_decide];omega
 ·rw [if_neg (by simp; omega)]
  congr 1
  symm
  rw [decide_eq_false_iff_not];omega
theorem Z9l (b:UInt8):(if decide ((b.toNat:Int) ≥ 65) = true then some (decide ((b.toNat:Int) ≤ 90)) else some false) = some (Z5a b):=by
 unfold Z5a
 by_cases h:65 ≤ b.toNat
 ·rw [if_pos (by simp; omega)]
  congr 1
  rw [decide_eq_decide];omega
 ·rw [if_neg (by simp; omega)]
  congr 1
  symm
  rw [decide_eq_false_iff_not];omega
theorem Z5x (n:Nat) (b:UInt8):impl_isLetter.F n (b.toNat:Int) = some (isLt b):=by
 unfold impl_isLetter.F;rw [Z9l];unfold isLt
 by_cases h:97 ≤ b.toNat
 ·rw [if_pos (by simp; omega)]
  by_cases h2:b.toNat ≤ 122
  ·rw [if_neg (by simp; omega),decide_eq_true (⟨h,h2⟩:97 ≤ b.toNat ∧ b.toNat ≤ 122)]
   rfl
  ·rw [if_pos (by simp; omega),decide_eq_false (by omega:¬ (97 ≤ b.toNat ∧ b.toNat ≤ 122))]
   rfl
 ·rw [if_neg (by simp; omega),decide_eq_false (by omega:¬ (97 ≤ b.toNat ∧ b.toNat ≤ 122))]
  rfl
theorem Z9U (n:Nat) (b:UInt8):impl_isWordByte.F n (b.toNat:Int) = some (isW b):=by
 unfold impl_isWordByte.F;rw [Z5x];simp only [Option.bind_some];rw [Z2i];simp only [Option.bind_some];unfold isW;cases isLt b
 ·cases Z1p b
  ·simp
   omega
  ·simp
 ·simp
theorem ZB9 (n:Nat) (b:UInt8):spec_l01Small.F n (b.toNat:Int) = some (decide (97 ≤ b.toNat ∧ b.toNat ≤ 122)):=by
 unfold spec_l01Small.F
 by_cases h:97 ≤ b.toNat
 ·rw [if_pos (by simp; omega)]
  congr 1
  rw [decide_eq_decide];omega
 ·rw [if_neg (by simp; omega)]
  congr 1
  symm
  rw [decide_eq_false_iff_not];omega
theorem ZBB (n:Nat) (b:UInt8):spec_l01Big.F n (b.toNat:Int) = some (Z5a b):=by
 unfold spec_l01Big.F;exact Z9l b
theorem ZBA (n:Nat) (b:UInt8):spec_l01Digit.F n (b.toNat:Int) = some (Z1p b):=by
 rw [Z58];unfold Z1p
 congr 1
 rw [decide_eq_decide];omega
theorem ZA6 (n:Nat) (b:UInt8):spec_l01Letter.F n (b.toNat:Int) = some (isW b):=by
 unfold spec_l01Letter.F;rw [ZB9];simp only [Option.bind_some];rw [ZBB];simp only [Option.bind_some];rw [ZBA];simp only [Option.bind_some];unfold isW isLt;cases decide (97 ≤ b.toNat ∧ b.toNat ≤ 122)
 ·cases Z5a b
  ·cases Z1p b
   ·simp
    omega
   ·simp
  ·simp
 ·simp
def Z0l (l:List UInt8):Bool:=decide (1 ≤ l.length ∧ l.length ≤ 20) && (match l with | []=>false | c :: _=>Z5a c) && l.all isW
theorem Z1S (pre r:List UInt8) (c:UInt8):Z0M (bt (pre ++ c :: r)) (pre.length:Int) = (c.toNat:Int):=by rw [ZAc,Z0z]
theorem Z27 (c:UInt8) (r:List UInt8):Z0M (bt (c :: r)) 0 = (c.toNat:Int):=by have:=ZAc (c :: r) 0; simpa using this
theorem Z1e (pre r:List UInt8) (c:UInt8):(pre.length:Int) < ((pre ++ c :: r).length:Int):=by simp; omega
theorem Z0a (pre r:List UInt8) (c:UInt8):(0:Int) ≤ (pre.length:Int) ∧ (pre.length:Int) < ((pre ++ c :: r).length:Int):=⟨by omega,Z1e pre r c⟩
theorem Z2o (pre:List UInt8) (c:UInt8):(pre.length:Int) + 1 = ((pre ++ [c]).length:Int):=by simp
theorem Z1d (pre r:List UInt8) (c:UInt8):pre ++ c :: r = (pre ++ [c]) ++ r:=by simp
theorem Z7L (n:Nat) (K:Unit → Option Bool):∀ (r pre:List UInt8) (k:Nat),(pre ++ r).length ≤ 4294967296 → r.length + 1 ≤ k →
  spec_l01Name.l1 n (bt (pre ++ r)) K k (pre.length:Int) = if r.all isW = true then K () else some false
 | r,pre,0,_,hk=>by omega
 | [],pre,k + 1,hl,hk=>by
  unfold spec_l01Name.l1;rw [Z0C,if_neg (by simp)]
  rfl
 | c :: r,pre,k + 1,hl,hk=>by
  unfold spec_l01Name.l1;rw [Z0C,if_pos (decide_eq_true (Z1e pre r c)),if_pos (Z0a pre r c),Z1S,ZA6];simp only [Option.bind_some,List.all_cons];rcases Z26 (isW c) with hw | hw
  ·simp [hw]
  ·simp only [hw,Bool.not_true,Bool.false_eq_true,if_false,Bool.true_and]
   simp only [List.length_append,List.length_cons] at hl;rw [Z0A _ (by omega) (by omega),Z2o pre c,Z1d];exact Z7L n K r (pre ++ [c]) k (by simp; omega) (by simpa using hk)
theorem ZAM (n:Nat) (l:List UInt8) (hl:l.length ≤ 4294967296) (hn:l.length + 1 ≤ n):spec_l01Name.F n (bt l) true = some (Z0l l):=by
 unfold spec_l01Name.F;rw [Z0C,Z0Y];simp only [Option.bind_some]
 by_cases h:1 ≤ l.length ∧ l.length ≤ 20
 ·rw [if_pos (by simp; omega),if_pos trivial]
  cases l with
  | nil=>simp at h
  | cons c r =>
   rw [if_pos (by simp <;> omega),Z27,ZBB];simp only [Option.bind_some];unfold Z0l;rw [decide_eq_true h];rcases Z26 (Z5a c) with hb | hb
   ·simp [hb]
   ·simp only [hb,Bool.not_true,if_true,Bool.false_eq_true,if_false,Bool.true_and]
    unfold spec_l01Name.j0;have:=Z7L n (fun _=>some true) (c :: r) [] n (by simpa using hl) hn;simp only [List.nil_append,List.length_nil] at this;rw [show ((0:Nat):Int) = 0 from rfl] at this;rw [this];rcases Z26 ((c :: r).all isW) with hw | hw <;> simp [hw]
 ·rw [if_neg (by simp; omega)]
  unfold Z0l;rw [decide_eq_false h]
  rfl
theorem ZBd (n:Nat) (K:Int → Option Int):∀ (r pre:List UInt8) (k:Nat),pre ≠ [] → (pre ++ r).length ≤ 4294967296 → r.length + 1 ≤ k →
  impl_nameLong.l0 n (bt (pre ++ r)) K k (pre.length:Int) = K ((pre.length + (r.takeWhile isW).length:Nat):Int)
 | r,pre,0,_,_,hk=>by omega
 | [],pre,k + 1,hp,hl,hk=>by
  unfold impl_nameLong.l0;rw [Z0C,if_neg (by simp)]
  rfl
 | c :: r,pre,k + 1,hp,hl,hk=>by
  unfold impl_nameLong.l0;rw [Z0C,if_pos (decide_eq_true (Z1e pre r c)),if_pos (Z0a pre r c),Z1S,Z9U];simp only [Option.bind_some,List.takeWhile_cons];have hp0:0 < pre.length:=List.length_pos_iff.2 hp;rcases Z26 (isW c) with hw | hw
  ·simp [hw]
  ·simp only [hw,if_true]
   simp only [List.length_append,List.length_cons] at hl;rw [if_neg (by simp; omega),Z0A _ (by omega) (by omega),Z2o pre c,Z1d,ZBd n K r (pre ++ [c]) k (by simp) (by simp; omega) (by simpa using hk)]
   congr 2
   simp
   omega
theorem Z52 (n:Nat) (l:List UInt8) (hl:l.length ≤ 4294967296) (hn:l.length + 1 ≤ n) :
  impl_nameLong.F n (bt l) = some ((match l with | []=>0 | c :: _=>if isLt c = true then (l.takeWhile isW).length else 0:Nat):Int):=by
 unfold impl_nameLong.F;cases l with
 | nil =>
  obtain ⟨k,rfl⟩:∃ k,n = k + 1:=⟨n - 1,by omega⟩
  unfold impl_nameLong.l0;rw [Z0C,if_neg (by simp)]
  rfl
 | cons c r =>
  obtain ⟨k,rfl⟩:∃ k,n = k + 1:=⟨n - 1,by omega⟩
  unfold impl_nameLong.l0;simp only [List.length_cons] at hl hn;rw [Z0C,if_pos (by simp <;> omega),if_pos (by simp <;> omega),Z27,Z9U];simp only [Option.bind_some];have hz:decide ((0:Int) > 0) = false:=by simp
  have hin:(0:Int) ≤ 0 ∧ 0 < ((c :: r).length:Int):=⟨by omega,by simp <;> omega⟩;rw [Z5x,if_pos hz,if_pos hin];simp only [Option.bind_some];rcases Z26 (isLt c) with ht | ht
  ·rcases Z26 (isW c) with hw | hw <;> simp [hw,ht]
  ·have hw:isW c = true:=by unfold isW; rw [ht]; rfl
   simp only [hw,ht,if_true];rw [Z0A _ (by omega) (by omega)];have:=ZBd (k + 1) (fun t6=>some t6) r [c] k (by simp) (by simp; omega) (by omega);simp only [List.length_singleton,List.singleton_append] at this;rw [show (0:Int) + 1 = ((1:Nat):Int) from rfl,this]
   congr 2
   rw [List.takeWhile_cons,hw]
   simp
   omega
theorem Z1I {p:UInt8 → Bool} {l:List UInt8}:(l.takeWhile p).length = l.length ↔ l.all p = true:=by
 induction l with
 | nil=>simp
 | cons c r ih =>
  rw [List.takeWhile_cons,List.all_cons];cases hp:p c
  ·simp
  ·simp [ih]
theorem Z46 (n:Nat) (l:List UInt8) (hl:l.length ≤ 4294967296) (hn:l.length + 1 ≤ n):impl_isBigName.F n (bt l) = some (Z0l l):=by
 unfold impl_isBigName.F;rw [Z0C,ZAQ];simp only [Option.bind_some];unfold Z0l
 by_cases h:1 ≤ l.length ∧ l.length ≤ 20
 ·rw [if_pos (by simp; omega),Z52 n l hl hn,decide_eq_true h]
  simp only [Option.bind_some,Bool.true_and];cases l with
  | nil=>simp at h
  | cons c r =>
   dsimp only;rw [Z27];have hsz:0 < ((c :: r).length:Int):=by simp <;> omega
   have hq:(decide ((c.toNat:Int) ≤ 90)) = true → isLt c = true → Z5a c = true:=by
    intro h1 h2;have h1:=of_decide_eq_true h1;unfold isLt Z5a at *
    simp at *
    omega
   have hq2:Z5a c = true → isLt c = true ∧ decide ((c.toNat:Int) ≤ 90) = true:=by
    intro h1;unfold isLt Z5a at *
    simp at *
    omega
   rcases Z26 (isLt c) with hlt | hlt
   ·have hb:Z5a c = false:=by cases hb:Z5a c with | false=>rfl | true=>rw [(hq2 hb).1] at hlt; cases hlt
    simp only [hlt,hb];rw [if_neg (by simp; omega)]
    rfl
   ·simp only [hlt,if_true]
    by_cases hall:(c :: r).all isW = true
    ·rw [Z1I.2 hall,if_pos (by simp),if_pos ⟨by omega,hsz⟩,hall]
     congr 1
     cases hb:Z5a c
     ·cases hd:decide ((c.toNat:Int) ≤ 90) with
      | false=>rfl
      | true=>rw [hq hd hlt] at hb; cases hb
     ·rw [(hq2 hb).2]; rfl
    ·have:¬ ((c :: r).takeWhile isW).length = (c :: r).length:=fun e=>hall (Z1I.1 e)
     rw [if_neg (by simp only [decide_eq_true_eq]; omega),Bool.eq_false_iff.2 hall]
     simp
 ·rw [if_neg (by simp; omega),decide_eq_false h]
  rfl
theorem ZB3 (n:Nat):∀ (r pre:List UInt8) (k:Nat),(pre ++ r).length ≤ 4294967296 → r.length + 1 ≤ k →
  impl_symbolLong.l0 n (bt (pre ++ r)) (fun _=>some 0) k (pre.length:Int) =
   some (if pre.length + (r.takeWhile Z0X).length ≤ 21 ∧ r[(r.takeWhile Z0X).length]? = some 34 then ((pre.length + (r.takeWhile Z0X).length + 1:Nat):Int) else 0)
 | r,pre,0,_,hk=>by omega
 | [],pre,k + 1,hl,hk=>by
  unfold impl_symbolLong.l0;rw [Z0C,if_neg (by simp),if_neg (by simp)]
 | c :: r,pre,k + 1,hl,hk=>by
  unfold impl_symbolLong.l0;simp only [List.length_append,List.length_cons] at hl;rw [Z0C,if_pos (decide_eq_true (Z1e pre r c))]
  by_cases h21:pre.length ≤ 21
  ·rw [if_pos (by simp; omega)]
   unfold impl_symbolLong.j1;rw [Z0C,if_pos (Z0a pre r c),Z1S,List.takeWhile_cons]
   by_cases hq:c.toNat = 34
   ·have hpl:Z0X c = false:=by unfold Z0X; simp; omega
    have hc:c = 34:=UInt8.toNat_inj.1 hq;rw [if_pos (by simp; omega),hpl,Z0A _ (by omega) (by omega),if_pos]
    ·simp
    ·simp [hc]; omega
   ·rw [if_neg (by simp; omega),if_pos (Z0a pre r c)]
    have hc:¬ c = 34:=fun e=>hq (by rw [e]; rfl)
    rcases Z26 (Z0X c) with hpl | hpl
    ·have hpl':=hpl
     simp only [Z0X,decide_eq_false_iff_not] at hpl;have z:∀ (P:Prop) [Decidable P],(if (decide ((c.toNat:Int) < 32)) = false then (if (0:Int) ≤ (pre.length:Int) ∧ (pre.length:Int) < ((pre ++ c :: r).length:Int) then (if (decide ((c.toNat:Int) > 126)) = false then (if (0:Int) ≤ (pre.length:Int) ∧ (pre.length:Int) < ((pre ++ c :: r).length:Int) then (if decide ((c.toNat:Int) = 92) = true then some (0:Int) else impl_symbolLong.l0 n (bt (pre ++ c :: r)) (fun _=>some 0) k (IntKind.i64.wrap ((pre.length:Int) + 1))) else none) else some 0) else none) else some 0) = some 0:=by
      intro P _
      by_cases h1:c.toNat < 32
      ·rw [if_neg (by simp; omega)]
      ·rw [if_pos (by simp; omega),if_pos (Z0a pre r c)]
       by_cases h2:126 < c.toNat
       ·rw [if_neg (by simp; omega)]
       ·rw [if_pos (by simp; omega),if_pos (Z0a pre r c),if_pos (by simp; omega)]
     rw [z True,hpl']
     simp [hc]
    ·have hpl':=hpl
     simp only [Z0X,decide_eq_true_eq] at hpl;rw [hpl'];rw [if_pos (by simp; omega),if_pos (Z0a pre r c),if_pos (by simp; omega),if_pos (Z0a pre r c),if_neg (by simp; omega),Z0A _ (by omega) (by omega),Z2o pre c,Z1d];refine (ZB3 n r (pre ++ [c]) k (by simp; omega) (by simpa using hk)).trans ?_
     congr 1
     simp only [if_true,List.length_append,List.length_singleton,List.length_cons,List.length_nil,Nat.zero_add,List.getElem?_cons_succ];have e1:pre.length + 1 + (r.takeWhile Z0X).length = pre.length + ((r.takeWhile Z0X).length + 1):=by omega
     rw [e1]
  ·rw [if_neg (by simp; omega),if_neg (by omega)]
theorem Z6J (n:Nat) (c:UInt8) (r:List UInt8) (hl:r.length ≤ 4294967000) (hn:r.length + 1 ≤ n) :
  impl_symbolLong.F n (bt (c :: r)) = some (if (r.takeWhile Z0X).length ≤ 20 ∧ r[(r.takeWhile Z0X).length]? = some 34 then (((r.takeWhile Z0X).length + 2:Nat):Int) else 0):=by
 unfold impl_symbolLong.F;have:=ZB3 n r [c] n (by simp; omega) hn;simp only [List.length_singleton,List.singleton_append] at this;rw [show ((1:Nat):Int) = 1 from rfl] at this;rw [this]
 congr 1
 have e1:1 + (r.takeWhile Z0X).length + 1 = (r.takeWhile Z0X).length + 2:=by omega
 rw [e1]
 by_cases h:(r.takeWhile Z0X).length ≤ 20 ∧ r[(r.takeWhile Z0X).length]? = some 34
 ·rw [if_pos ⟨by omega,h.2⟩,if_pos h]
 ·rw [if_neg (by rintro ⟨h1,h2⟩; exact h ⟨by omega,h2⟩),if_neg h]
end Go.Abs
namespace Go.Abs
set_option linter.unusedVariables false
set_option linter.unusedSimpArgs false
def Z02:List (List UInt8) → List UInt8
 | []=>[]
 | a :: bs=>44 :: (a ++ Z02 bs)
inductive Tm:Nat → List UInt8 → Prop where
 | num (x:Int) (h0:-1000000 ≤ x) (h1:x ≤ 1000000):Tm 1 (Lib.itoa x)
 | sym (m:List UInt8) (h:m.length ≤ 20) (hp:m.all Z0X = true):Tm 2 (34 :: (m ++ [34]))
 | con0 (nm:List UInt8) (h:Z0l nm = true):Tm 3 nm
 | con (nm a:List UInt8) (bs:List (List UInt8)) (h:Z0l nm = true) (ks:List UInt8 → Nat) (hh:∀ x ∈ a :: bs,Tm (ks x) x):Tm 3 (nm ++ 40 :: (a ++ (Z02 bs ++ [41])))
theorem Tm.kind {k:Nat} {l:List UInt8} (h:Tm k l):1 ≤ k ∧ k ≤ 3:=by cases h <;> omega
def ZA0 (l:List UInt8):Prop:=l = [] ∨ ∃ c r,l = c :: r ∧ (c = 44 ∨ c = 41)
theorem Z0s {nm:List UInt8} (h:Z0l nm = true):∃ c r,nm = c :: r ∧ Z5a c = true ∧ nm.length ≤ 20 ∧ nm.all isW = true:=by
 unfold Z0l at h;simp only [Bool.and_eq_true,decide_eq_true_eq] at h;cases nm with
 | nil=>simp at h
 | cons c r=>exact ⟨c,r,rfl,h.1.2,h.1.1.2,h.2⟩
theorem Z5E {x:Int} (h0:-1000000 ≤ x) (h1:x ≤ 1000000):∃ c r,Lib.itoa x = c :: r ∧ (c = 45 ∨ Z1p c = true) ∧ r.all Z1p = true:=by
 have all:∀ u,(Lib.decDigits u).all Z1p = true:=by
  intro u;rw [List.all_eq_true];intro b hb;unfold Z1p;exact decide_eq_true (Z64 u b hb)
 obtain ⟨u,hu,h | h⟩:=Z3t h0 h1
 ·exact ⟨45,_,h.2.2,.inl rfl,all u⟩
 ·obtain ⟨c,r,hc,h2,h3⟩:=Z6g u
  have:=all u;rw [hc,List.all_cons,Bool.and_eq_true] at this;exact ⟨c,r,by rw [h.2,hc],.inr this.1,this.2⟩
theorem Tm.ne {k:Nat} {l:List UInt8} (h:Tm k l):l ≠ []:=by
 cases h with
 | num x h0 h1=>obtain ⟨c,r,hc,_⟩:=Z5E h0 h1; rw [hc]; simp
 | sym m h hp=>simp
 | con0 nm h=>obtain ⟨c,r,hc,_⟩:=Z0s h; rw [hc]; simp
 | con nm a bs h ks hh=>simp
theorem Z18 {p:UInt8 → Bool} {a r:List UInt8} (ha:a.all p = true) (hr:r = [] ∨ ∃ c t,r = c :: t ∧ p c = false):(a ++ r).takeWhile p = a:=by
 induction a with
 | nil =>
  rcases hr with rfl | ⟨c,t,rfl,hc⟩
  ·rfl
  ·simp [hc]
 | cons c a ih =>
  rw [List.all_cons,Bool.and_eq_true] at ha;rw [List.cons_append,List.takeWhile_cons,ha.1,if_pos rfl,ih ha.2]
theorem ZAx {p:UInt8 → Bool} (h1:p 44 = false) (h2:p 41 = false) {r:List UInt8} (h:ZA0 r):r = [] ∨ ∃ c t,r = c :: t ∧ p c = false:=by
 rcases h with rfl | ⟨c,t,rfl,rfl | rfl⟩
 ·exact .inl rfl
 ·exact .inr ⟨_,_,rfl,h1⟩
 ·exact .inr ⟨_,_,rfl,h2⟩
theorem ZBw (n:Nat) (self:ByteArray → Option (Int × Int)) (K:Int → Option (Int × Int)):∀ (r pre:List UInt8) (k:Nat),(pre ++ r).length ≤ 4294967296 → r.length + 1 ≤ k →
  impl_termAt.l1 n self (bt (pre ++ r)) K k (pre.length:Int) = K ((pre.length + (r.takeWhile Z1p).length:Nat):Int)
 | r,pre,0,_,hk=>by omega
 | [],pre,k + 1,hl,hk=>by
  unfold impl_termAt.l1;rw [Z0C,if_neg (by simp)]
  rfl
 | c :: r,pre,k + 1,hl,hk=>by
  unfold impl_termAt.l1;rw [Z0C,if_pos (decide_eq_true (Z1e pre r c)),if_pos (Z0a pre r c),Z1S,Z2i];simp only [Option.bind_some,List.takeWhile_cons];rcases Z26 (Z1p c) with hw | hw
  ·simp [hw]
  ·simp only [hw,if_true]
   simp only [List.length_append,List.length_cons] at hl;rw [Z0A _ (by omega) (by omega),Z2o pre c,Z1d,ZBw n self K r (pre ++ [c]) k (by simp; omega) (by simpa using hk)]
   congr 2
   simp
   omega
theorem num_at (n:Nat) (self:ByteArray → Option (Int × Int)) (c:UInt8) (r:List UInt8) (Kn:Unit → Option (Int × Int)) (hl:r.length ≤ 4294960000) (hn:r.length + 1 ≤ n) :
  (Z5Z (c :: r.takeWhile Z1p) → impl_termAt.j0 n self (bt (c :: r)) true Kn = some (1,(((c :: r.takeWhile Z1p).length:Nat):Int))) ∧
  (¬ Z5Z (c :: r.takeWhile Z1p) → impl_termAt.j0 n self (bt (c :: r)) true Kn = Kn ()):=by
 have hw:(r.takeWhile Z1p).length ≤ r.length:=(List.takeWhile_prefix Z1p).length_le;have htk:(c :: r).take (r.takeWhile Z1p).length.succ = c :: r.takeWhile Z1p:=by
  rw [List.take_succ_cons]
  congr 1
  exact (List.prefix_iff_eq_take.1 (List.takeWhile_prefix Z1p)).symm
 have key:impl_termAt.j0 n self (bt (c :: r)) true Kn =
   (match Lib.atoiAll (c :: r.takeWhile Z1p) with
    | .ok v=>if -1000000 ≤ v ∧ v ≤ 1000000 ∧ Lib.itoa v = c :: r.takeWhile Z1p then some (1,(((c :: r.takeWhile Z1p).length:Nat):Int)) else Kn ()
    | _=>Kn ()):=by
  unfold impl_termAt.j0;rw [if_pos rfl];have:=ZBw n self (fun t9 =>
   if (0:Int) ≤ 0 ∧ (0:Int) ≤ t9 ∧ t9 ≤ (ByteArray.size (bt (c :: r)):Int) then
    (strconv_Atoi.F n (ByteArray.extract (bt (c :: r)) (Int.toNat 0) (Int.toNat t9))).bind fun r10 =>
    if (r10.2 && false) = true then
     none
    else
     if (r10.2 == false) = true then
      (impl_in.F n r10.1 (-1000000) 1000000).bind fun r11 =>
      if r11 = true then
       (strconv_Itoa.F n r10.1).bind fun r12 =>
       if (0:Int) ≤ 0 ∧ (0:Int) ≤ t9 ∧ t9 ≤ (ByteArray.size (bt (c :: r)):Int) then
        if (Abs.seq r12 (ByteArray.extract (bt (c :: r)) (Int.toNat 0) (Int.toNat t9))) = true then
         some (1,t9)
        else
         Kn ()
       else
        none
      else
       Kn ()
     else
      Kn ()
   else
    none) r [c] n (by simp; omega) hn
  simp only [List.length_singleton,List.singleton_append] at this;rw [show ((1:Nat):Int) = 1 from rfl] at this;rw [this];have hin:(0:Int) ≤ 0 ∧ (0:Int) ≤ ((1 + (r.takeWhile Z1p).length:Nat):Int) ∧ ((1 + (r.takeWhile Z1p).length:Nat):Int) ≤ (ByteArray.size (bt (c :: r)):Int):=by
   rw [Z0C,List.length_cons];omega
  have hex:ByteArray.extract (bt (c :: r)) (Int.toNat 0) (Int.toNat ((1 + (r.takeWhile Z1p).length:Nat):Int)) = bt (c :: r.takeWhile Z1p):=by
   rw [Z1Y,Int.toNat_natCast,show Int.toNat 0 = 0 from rfl,List.drop_zero,Nat.add_comm,htk]
  have hlen:((1 + (r.takeWhile Z1p).length:Nat):Int) = (((c :: r.takeWhile Z1p).length:Nat):Int):=by rw [List.length_cons,Nat.add_comm]
  rw [if_pos hin,hex];unfold strconv_Atoi.F;rw [if_pos (by rw [Z0C,List.length_cons]; omega),Z12];simp only [Option.bind_some,Bool.and_false,Bool.false_eq_true,if_false];rcases Lib.atoiAll (c :: r.takeWhile Z1p) with v | _ | _
  ·dsimp only
   rw [if_pos (show (false == false) = true from rfl),ZAQ];simp only [Option.bind_some]
   by_cases hr:-1000000 ≤ v ∧ v ≤ 1000000
   ·rw [if_pos (decide_eq_true hr)]
    unfold strconv_Itoa.F;rw [if_pos (by omega)];simp only [Option.bind_some];rw [if_pos hin,bt_mk,Z19,hlen]
    by_cases he:Lib.itoa v = c :: r.takeWhile Z1p
    ·rw [if_pos (by simpa using he),if_pos ⟨hr.1,hr.2,he⟩]
    ·rw [if_neg (by simpa using he),if_neg (fun h=>he h.2.2)]
   ·rw [if_neg (by simpa using hr),if_neg (fun h=>hr ⟨h.1,h.2.1⟩)]
  ·rfl
  ·rfl
 rw [key]
 constructor
 ·rintro ⟨x,h0,h1,hx⟩
  rw [hx,Z1A x h0 h1];dsimp only;rw [if_pos ⟨h0,h1,rfl⟩]
 ·intro hno
  rcases h:Lib.atoiAll (c :: r.takeWhile Z1p) with v | _ | _
  ·dsimp only
   rw [if_neg];rintro ⟨h0,h1,h2⟩;exact hno ⟨v,h0,h1,h2.symm⟩
  ·rfl
  ·rfl
def TR (l:List UInt8) (res:Int × Int):Prop:=res = (0,0) ∨ ∃ (k:Nat) (t rest:List UInt8),res = ((k:Int),(t.length:Int)) ∧ Tm k t ∧ l = t ++ rest
theorem Z1z (l:List UInt8) (p:Nat):ByteArray.extract (bt l) (Int.toNat (p:Int)) (Int.toNat (ByteArray.size (bt l):Int)) = bt (l.drop p):=by
 rw [Z1Y,Z0C,Int.toNat_natCast,Int.toNat_natCast,List.take_length]
theorem Z9K (n:Nat) (self:ByteArray → Option (Int × Int)) (l:List UInt8) (K:Int → Option (Int × Int)) (hl:l.length ≤ 4294960000)
  (hS:∀ l':List UInt8,l'.length < l.length → ∃ res,self (bt l') = some res ∧ TR l' res):∀ (k p:Nat),p < l.length → l.length - p + 1 ≤ k →
  impl_termAt.l4 n self (bt l) K k (p:Int) true = some (0,0) ∨ ∃ (a:List UInt8) (bs:List (List UInt8)) (rest:List UInt8),l.drop (p + 1) = a ++ (Z02 bs ++ rest) ∧ (∀ x ∈ a :: bs,∃ k,Tm k x) ∧
   impl_termAt.l4 n self (bt l) K k (p:Int) true = K ((p + 1 + (a ++ Z02 bs).length:Nat):Int)
 | 0,p,_,hk=>by omega
 | k + 1,p,hp,hk=>by
  have hlen:(l.drop (p + 1)).length < l.length:=by rw [List.length_drop]; omega
  obtain ⟨res,hres,htr⟩:=hS _ hlen;have hw1:IntKind.i64.wrap ((p:Int) + 1) = ((p + 1:Nat):Int):=by rw [Z0A _ (by omega) (by omega)]; omega
  have hin:(0:Int) ≤ ((p + 1:Nat):Int) ∧ ((p + 1:Nat):Int) ≤ (ByteArray.size (bt l):Int) ∧ (ByteArray.size (bt l):Int) ≤ (ByteArray.size (bt l):Int):=by rw [Z0C]; omega
  have key:impl_termAt.l4 n self (bt l) K (k + 1) (p:Int) true =
    (if decide (res.1 = 0) = true then some (0,0) else
     if (decide ((IntKind.i64.wrap ((p:Int) + (IntKind.i64.wrap (1 + res.2)))) < (ByteArray.size (bt l):Int))) = true then
      if (0:Int) ≤ (IntKind.i64.wrap ((p:Int) + (IntKind.i64.wrap (1 + res.2)))) ∧ (IntKind.i64.wrap ((p:Int) + (IntKind.i64.wrap (1 + res.2)))) < (ByteArray.size (bt l):Int) then
       impl_termAt.l4 n self (bt l) K k (IntKind.i64.wrap ((p:Int) + (IntKind.i64.wrap (1 + res.2)))) (decide ((Z0M (bt l) (IntKind.i64.wrap ((p:Int) + (IntKind.i64.wrap (1 + res.2))))) = 44))
      else none
     else impl_termAt.l4 n self (bt l) K k (IntKind.i64.wrap ((p:Int) + (IntKind.i64.wrap (1 + res.2)))) false):=by
   conv=>lhs; unfold impl_termAt.l4
   rw [if_pos rfl,hw1,if_pos hin,Z1z,hres]
   rfl
  rw [key];rcases htr with rfl | ⟨kk,t,rest,rfl,ht,hdr⟩
  ·left; rw [if_pos (by simp)]
  ·have hkk:=ht.kind
   have htl:t.length + rest.length = l.length - (p + 1):=by rw [← List.length_drop,hdr,List.length_append]
   have hw2:IntKind.i64.wrap ((p:Int) + (IntKind.i64.wrap (1 + (t.length:Int)))) = ((p + 1 + t.length:Nat):Int):=by
    rw [Z0A (1 + (t.length:Int)) (by omega) (by omega),Z0A _ (by omega) (by omega)]; omega
   dsimp only;rw [if_neg (by simp; omega),hw2,Z0C];have stop:∀ k',1 ≤ k' → impl_termAt.l4 n self (bt l) K k' ((p + 1 + t.length:Nat):Int) false = K ((p + 1 + t.length:Nat):Int):=by
    intro k' hk';obtain ⟨j,rfl⟩:∃ j,k' = j + 1:=⟨k' - 1,by omega⟩
    unfold impl_termAt.l4;rw [if_neg (by simp)]
   have fin:∀ X,X = K ((p + 1 + t.length:Nat):Int) → X = some (0,0) ∨ ∃ (a:List UInt8) (bs:List (List UInt8)) (rest:List UInt8),l.drop (p + 1) = a ++ (Z02 bs ++ rest) ∧ (∀ x ∈ a :: bs,∃ k,Tm k x) ∧
     X = K ((p + 1 + (a ++ Z02 bs).length:Nat):Int):=by
    rintro X rfl;refine .inr ⟨t,[],rest,by rw [hdr]; rfl,fun x hx=>?_,by simp [Z02]⟩;simp only [List.mem_singleton] at hx;subst hx;exact ⟨kk,ht⟩
   have htne:=ht.ne;have htpos:0 < t.length:=List.length_pos_iff.2 htne
   by_cases hlt:p + 1 + t.length < l.length
   ·rw [if_pos (by simp; omega),if_pos (by omega)]
    have hdrop:l.drop (p + 1 + t.length) = rest:=by rw [← List.drop_drop,hdr,List.drop_left]
    cases rest with
    | nil=>rw [List.drop_eq_nil_iff] at hdrop; omega
    | cons c r =>
     have hat:Z0M (bt l) ((p + 1 + t.length:Nat):Int) = (c.toNat:Int):=by
      rw [ZAc]
      congr 2
      rw [List.getD_eq_getElem?_getD,← List.head?_drop,hdrop]
      rfl
     rw [hat]
     by_cases hc:c = 44
     ·subst hc
      rw [show decide ((((44:UInt8).toNat:Nat):Int) = 44) = true from rfl];rcases Z9K n self l K hl hS k (p + 1 + t.length) hlt (by omega) with h | ⟨a,bs,rest2,h1,h2,h3⟩
      ·exact .inl h
      ·refine .inr ⟨t,a :: bs,rest2,?_,fun x hx=>?_,?_⟩
       ·have:r = a ++ (Z02 bs ++ rest2):=by
         rw [← h1,← List.drop_drop,hdrop]
         rfl
        rw [hdr,this]
        simp [Z02]
       ·rcases List.mem_cons.1 hx with rfl | hx
        ·exact ⟨kk,ht⟩
        ·exact h2 x hx
       ·rw [h3]
        congr 2
        simp [Z02]
        omega
     ·have:decide ((c.toNat:Int) = 44) = false:=by
       rw [decide_eq_false_iff_not];intro e;exact hc (UInt8.toNat_inj.1 (show c.toNat = (44:UInt8).toNat by rw [show (44:UInt8).toNat = 44 from rfl]; omega))
      rw [this];exact fin _ (stop k (by omega))
   ·rw [if_neg (by simp; omega)]
    exact fin _ (stop k (by omega))
theorem Z57 (n:Nat) (self:ByteArray → Option (Int × Int)) (K:Int → Option (Int × Int)) (L:Nat) (hL:L ≤ 4294960000) :
  ∀ (bs:List (List UInt8)) (a pre rest:List UInt8) (c:UInt8) (k:Nat),pre.length + 1 + (a ++ (Z02 bs ++ 41 :: rest)).length = L →
   (∀ x ∈ a :: bs,∀ r,ZA0 r → x.length + r.length < L → ∃ kx:Nat,1 ≤ kx ∧ self (bt (x ++ r)) = some ((kx:Int),(x.length:Int))) → bs.length + 2 ≤ k →
   impl_termAt.l4 n self (bt (pre ++ c :: (a ++ (Z02 bs ++ 41 :: rest)))) K k (pre.length:Int) true = K ((pre.length + 1 + (a ++ Z02 bs).length:Nat):Int)
 | bs,a,pre,rest,c,0,_,_,hk=>by omega
 | bs,a,pre,rest,c,k + 1,hlen,hC,hk=>by
  have hstop:ZA0 (Z02 bs ++ 41 :: rest):=by
   cases bs with
   | nil=>exact .inr ⟨_,_,rfl,.inr rfl⟩
   | cons b bs=>exact .inr ⟨_,_,rfl,.inl rfl⟩
  simp only [List.length_append,List.length_cons] at hlen;obtain ⟨kx,hkx,hself⟩:=hC a List.mem_cons_self _ hstop (by simp only [List.length_append,List.length_cons]; omega);have hsz:ByteArray.size (bt (pre ++ c :: (a ++ (Z02 bs ++ 41 :: rest)))) = L:=by
   rw [Z0C]; simp only [List.length_append,List.length_cons]; omega
  have hw1:IntKind.i64.wrap ((pre.length:Int) + 1) = ((pre.length + 1:Nat):Int):=by rw [Z0A _ (by omega) (by omega)]; omega
  have hdr:(pre ++ c :: (a ++ (Z02 bs ++ 41 :: rest))).drop (pre.length + 1) = a ++ (Z02 bs ++ 41 :: rest):=by
   rw [← List.drop_drop,List.drop_left]; rfl
  have hw2:IntKind.i64.wrap ((pre.length:Int) + (IntKind.i64.wrap (1 + (a.length:Int)))) = ((pre.length + 1 + a.length:Nat):Int):=by
   rw [Z0A (1 + (a.length:Int)) (by omega) (by omega),Z0A _ (by omega) (by omega)]; omega
  have hat:∀ (d:UInt8) (r:List UInt8),Z02 bs ++ 41 :: rest = d :: r → Z0M (bt (pre ++ c :: (a ++ (Z02 bs ++ 41 :: rest)))) ((pre.length + 1 + a.length:Nat):Int) = (d.toNat:Int):=by
   intro d r he;have e1:pre ++ c :: (a ++ (Z02 bs ++ 41 :: rest)) = (pre ++ c :: a) ++ d :: r:=by rw [he]; simp
   have e2:pre.length + 1 + a.length = (pre ++ c :: a).length:=by simp; omega
   rw [e1,e2,Z1S]
  unfold impl_termAt.l4;rw [if_pos rfl,hw1,if_pos (by rw [hsz]; omega),Z1z,hdr,hself];simp only [Option.bind_some];rw [if_neg (by simp; omega),hw2,if_pos (by rw [hsz]; simp; omega),if_pos (by rw [hsz]; omega)];cases bs with
  | nil =>
   rw [hat 41 rest rfl,show decide ((((41:UInt8).toNat:Nat):Int) = 44) = false from rfl];obtain ⟨j,rfl⟩:∃ j,k = j + 1:=⟨k - 1,by simp at hk; omega⟩
   unfold impl_termAt.l4;rw [if_neg (by simp)]
   simp [Z02]
  | cons b bs =>
   rw [hat 44 _ rfl,show decide ((((44:UInt8).toNat:Nat):Int) = 44) = true from rfl];have e1:pre ++ c :: (a ++ (Z02 (b :: bs) ++ 41 :: rest)) = (pre ++ c :: a) ++ 44 :: (b ++ (Z02 bs ++ 41 :: rest)):=by simp [Z02]
   have e2:pre.length + 1 + a.length = (pre ++ c :: a).length:=by simp; omega
   rw [e1,e2,Z57 n self K L hL bs b (pre ++ c :: a) rest 44 k (by simp only [Z02,List.length_append,List.length_cons] at hlen ⊢; omega)
    (fun x hx=>hC x (List.mem_cons_of_mem _ hx)) (by simp at hk; omega)]
   congr 2
   simp [Z02]
   omega
theorem Z3Y:Z1p 44 = false ∧ Z1p 41 = false ∧ isW 44 = false ∧ isW 41 = false ∧ isW 40 = false:=by decide
theorem G_num (n:Nat) (self:ByteArray → Option (Int × Int)) (c:UInt8) (r:List UInt8) (hc:c = 45 ∨ Z1p c = true) :
  impl_termAt.G n self (bt (c :: r)) = impl_termAt.j0 n self (bt (c :: r)) true (fun _=>some (0,0)):=by
 have hsz:0 < (ByteArray.size (bt (c :: r)):Int):=by rw [Z0C]; simp <;> omega
 unfold impl_termAt.G;rw [Z1R,Z19,if_neg (by simp),if_pos ⟨by omega,hsz⟩,Z27];have h34:¬ (c.toNat:Int) = 34:=by
  rcases hc with rfl | hc
  ·decide
  ·unfold Z1p at hc
   have:=of_decide_eq_true hc;omega
 rw [if_neg (by simpa using h34),if_pos ⟨by omega,hsz⟩];rcases hc with rfl | hc
 ·rw [if_neg (by decide)]
 ·have h45:¬ (c.toNat:Int) = 45:=by
   unfold Z1p at hc;have:=of_decide_eq_true hc;omega
  rw [if_pos (by simpa using h45),if_pos ⟨by omega,hsz⟩,Z2i,hc]
  rfl
theorem G_sym (n:Nat) (self:ByteArray → Option (Int × Int)) (r:List UInt8) (hl:r.length ≤ 4294960000) (hn:r.length + 1 ≤ n) :
  impl_termAt.G n self (bt (34 :: r)) = some (if (r.takeWhile Z0X).length ≤ 20 ∧ r[(r.takeWhile Z0X).length]? = some 34 then (2,(((r.takeWhile Z0X).length + 2:Nat):Int)) else (0,0)):=by
 have hsz:0 < (ByteArray.size (bt (34 :: r)):Int):=by rw [Z0C]; simp <;> omega
 unfold impl_termAt.G;rw [Z1R,Z19,if_neg (by simp),if_pos ⟨by omega,hsz⟩,Z27,if_pos (by decide),Z6J n 34 r (by omega) hn];simp only [Option.bind_some]
 by_cases h:(r.takeWhile Z0X).length ≤ 20 ∧ r[(r.takeWhile Z0X).length]? = some 34
 ·rw [if_pos h,if_pos h,if_pos (by simp; omega)]
 ·rw [if_neg h,if_neg h,if_neg (by simp)]
theorem G_big (n:Nat) (self:ByteArray → Option (Int × Int)) (c:UInt8) (r:List UInt8) (hc:Z5a c = true) (hl:r.length ≤ 4294960000) (hn:r.length + 2 ≤ n) :
  impl_termAt.G n self (bt (c :: r)) =
   (if 20 < ((c :: r).takeWhile isW).length then some (0,0) else match (c :: r).drop ((c :: r).takeWhile isW).length with
    | []=>some (3,(((c :: r).takeWhile isW).length:Int))
    | d :: t=>if d = 40 then impl_termAt.j3 n self (bt (c :: r)) (((c :: r).takeWhile isW).length:Int) (fun _=>some (0,0)) else some (3,(((c :: r).takeWhile isW).length:Int))):=by
 have hsz:0 < (ByteArray.size (bt (c :: r)):Int):=by rw [Z0C]; simp <;> omega
 have hc':=hc;unfold Z5a at hc';have hc':=of_decide_eq_true hc';have hdg:Z1p c = false:=by unfold Z1p; exact decide_eq_false (by omega)
 have hlt:isLt c = true:=by unfold isLt; rw [hc]; simp
 unfold impl_termAt.G;rw [Z1R,Z19,if_neg (by simp),if_pos ⟨by omega,hsz⟩,Z27,if_neg (by simp; omega),if_pos ⟨by omega,hsz⟩,if_pos (by simp; omega),if_pos ⟨by omega,hsz⟩,Z2i,hdg];simp only [Option.bind_some];unfold impl_termAt.j0;rw [if_neg (by simp),if_pos ⟨by omega,hsz⟩,Z27,if_pos (by simp; omega),if_pos ⟨by omega,hsz⟩,decide_eq_true (by omega:(c.toNat:Int) ≤ 90)];unfold impl_termAt.j2;rw [if_pos rfl,Z52 n (c :: r) (by simp; omega) (by simp; omega)];dsimp only [Option.bind_some];rw [hlt,if_pos rfl];generalize hw:((c :: r).takeWhile isW).length = w;have hwle:w ≤ (c :: r).length:=by rw [← hw]; exact (List.takeWhile_prefix isW).length_le
 simp only [List.length_cons] at hwle
 by_cases h20:20 < w
 ·rw [if_pos h20,if_pos (by simp; omega)]
 ·rw [if_neg h20,if_neg (by simp; omega),Z0C]
  cases hd:(c :: r).drop w with
  | nil =>
   have:=List.drop_eq_nil_iff.1 hd;rw [if_neg];simp only [List.length_cons] at this ⊢
   simp
   omega
  | cons d t =>
   have hlen:=congrArg List.length hd;rw [List.length_drop] at hlen;simp only [List.length_cons] at hlen;have hat:Z0M (bt (c :: r)) (w:Int) = (d.toNat:Int):=by
    rw [ZAc,List.getD_eq_getElem?_getD,← List.head?_drop,hd]
    rfl
   rw [if_pos (by simp only [List.length_cons,decide_eq_false_iff_not]; omega),if_pos (by simp only [List.length_cons]; omega),hat];dsimp only
   by_cases h40:d = 40
   ·subst h40
    rw [if_neg (by decide),if_pos rfl]
   ·rw [if_neg h40,if_pos]
    simp only [Bool.not_eq_true',decide_eq_false_iff_not];intro e;exact h40 (UInt8.toNat_inj.1 (show d.toNat = (40:UInt8).toNat by rw [show (40:UInt8).toNat = 40 from rfl]; omega))
theorem G_other (n:Nat) (self:ByteArray → Option (Int × Int)) (c:UInt8) (r:List UInt8) (h1:¬ c = 34) (h2:¬ c = 45) (h3:Z1p c = false) (h4:Z5a c = false) :
  impl_termAt.G n self (bt (c :: r)) = some (0,0):=by
 have hsz:0 < (ByteArray.size (bt (c :: r)):Int):=by rw [Z0C]; simp <;> omega
 have n1:¬ (c.toNat:Int) = 34:=fun e=>h1 (UInt8.toNat_inj.1 (show c.toNat = (34:UInt8).toNat by rw [show (34:UInt8).toNat = 34 from rfl]; omega))
 have n2:¬ (c.toNat:Int) = 45:=fun e=>h2 (UInt8.toNat_inj.1 (show c.toNat = (45:UInt8).toNat by rw [show (45:UInt8).toNat = 45 from rfl]; omega))
 unfold Z5a at h4;have h4:=of_decide_eq_false h4;unfold impl_termAt.G;rw [Z1R,Z19,if_neg (by simp),if_pos ⟨by omega,hsz⟩,Z27,if_neg (by simpa using n1),if_pos ⟨by omega,hsz⟩,if_pos (by simpa using n2),if_pos ⟨by omega,hsz⟩,Z2i,h3];simp only [Option.bind_some];unfold impl_termAt.j0;rw [if_neg (by simp),if_pos ⟨by omega,hsz⟩,Z27]
 by_cases h65:(c.toNat:Int) ≥ 65
 ·rw [if_pos (by simpa using h65),if_pos ⟨by omega,hsz⟩]
  unfold impl_termAt.j2;rw [if_neg (by simp; omega)]
 ·rw [if_neg (by simpa using h65)]
  unfold impl_termAt.j2;rw [if_neg (by simp)]
end Go.Abs
namespace Go.Abs
set_option linter.unusedVariables false
set_option linter.unusedSimpArgs false
theorem Z4L (p:UInt8 → Bool) (l:List UInt8):l = l.takeWhile p ++ l.drop (l.takeWhile p).length:=by
 have:=(List.prefix_iff_eq_take.1 (List.takeWhile_prefix (l:=l) p))
 conv=>lhs; rw [← List.take_append_drop (l.takeWhile p).length l]
 rw [← this]
theorem ZAn (p:UInt8 → Bool) (l:List UInt8):(l.takeWhile p).all p = true:=by
 induction l with
 | nil=>rfl
 | cons c r ih =>
  rw [List.takeWhile_cons];rcases Z26 (p c) with h | h
  ·simp [h]
  ·simp only [h,if_true,List.all_cons,ih,Bool.and_self]
theorem name_of {c:UInt8} {r:List UInt8} (hc:Z5a c = true) (h:¬ 20 < ((c :: r).takeWhile isW).length):Z0l ((c :: r).takeWhile isW) = true:=by
 have hw:isW c = true:=by unfold isW isLt; rw [hc]; simp
 unfold Z0l;rw [ZAn];rw [List.takeWhile_cons,hw,if_pos rfl] at h ⊢;simp only [List.length_cons] at h ⊢
 simp [hc]
 omega
theorem Z5T (n:Nat) (s:ByteArray):impl_termAt.F (n + 1) s = impl_termAt.G n (impl_termAt.F n) s:=rfl
theorem Z6u:∀ (L:Nat) (l:List UInt8) (n:Nat),l.length ≤ L → L ≤ 4294960000 → l.length + 60 ≤ n → ∃ res,impl_termAt.F n (bt l) = some res ∧ TR l res:=by
 intro L
 induction L with
 | zero =>
  intro l n hl _ hn;obtain ⟨n,rfl⟩:∃ m,n = m + 1:=⟨n - 1,by omega⟩
  have:l = []:=List.length_eq_zero_iff.1 (by omega);subst this;rw [Z5T];unfold impl_termAt.G;rw [Z1R,Z19,if_pos (by simp)];exact ⟨_,rfl,.inl rfl⟩
 | succ L ih =>
  intro l n hl hL hn;obtain ⟨n,rfl⟩:∃ m,n = m + 1:=⟨n - 1,by omega⟩
  cases l with
  | nil =>
   rw [Z5T];unfold impl_termAt.G;rw [Z1R,Z19,if_pos (by simp)];exact ⟨_,rfl,.inl rfl⟩
  | cons c r =>
   simp only [List.length_cons] at hl hn;rw [Z5T]
   by_cases hq:c = 34
   ·subst hq
    rw [G_sym n _ r (by omega) (by omega)];refine ⟨_,rfl,?_⟩
    by_cases h:(r.takeWhile Z0X).length ≤ 20 ∧ r[(r.takeWhile Z0X).length]? = some 34
    ·rw [if_pos h]
     have hs:=Z4L Z0X r;cases hd:r.drop (r.takeWhile Z0X).length with
     | nil =>
      have h2:=h.2;rw [← List.head?_drop,hd] at h2;cases h2
     | cons d t =>
      have h2:=h.2;rw [← List.head?_drop,hd] at h2;cases h2;rw [hd] at hs;refine .inr ⟨2,34 :: (r.takeWhile Z0X ++ [34]),t,?_,Tm.sym _ h.1 (ZAn _ _),?_⟩
      ·congr 1
       simp only [List.length_cons,List.length_append,List.length_nil]
      ·conv=>lhs; rw [hs]
       simp
    ·rw [if_neg h]; exact .inl rfl
   ·by_cases hnum:c = 45 ∨ Z1p c = true
    ·rw [G_num n _ c r hnum]
     obtain ⟨h1,h2⟩:=num_at n (impl_termAt.F n) c r (fun _=>some (0,0)) (by omega) (by omega)
     by_cases hN:Z5Z (c :: r.takeWhile Z1p)
     ·rw [h1 hN]
      obtain ⟨x,hx0,hx1,hx⟩:=hN;refine ⟨_,rfl,.inr ⟨1,c :: r.takeWhile Z1p,r.drop (r.takeWhile Z1p).length,rfl,?_,?_⟩⟩
      ·rw [hx]; exact Tm.num x hx0 hx1
      ·rw [List.cons_append,← Z4L]
     ·rw [h2 hN]
      exact ⟨_,rfl,.inl rfl⟩
    ·by_cases hb:Z5a c = true
     ·rw [G_big n _ c r hb (by omega) (by omega)]
      by_cases h20:20 < ((c :: r).takeWhile isW).length
      ·rw [if_pos h20]; exact ⟨_,rfl,.inl rfl⟩
      ·rw [if_neg h20]
       have hnm:=name_of hb h20;have hs:=Z4L isW (c :: r);have hwle:((c :: r).takeWhile isW).length ≤ (c :: r).length:=(List.takeWhile_prefix isW).length_le;cases hd:(c :: r).drop ((c :: r).takeWhile isW).length with
       | nil =>
        rw [hd,List.append_nil] at hs;dsimp only;refine ⟨_,rfl,.inr ⟨3,(c :: r).takeWhile isW,[],rfl,Tm.con0 _ hnm,?_⟩⟩;rw [List.append_nil];exact hs
       | cons d t =>
        dsimp only
        by_cases h40:d = 40
        ·subst h40
         rw [if_pos rfl];unfold impl_termAt.j3;have hdl:=congrArg List.length hd;rw [List.length_drop] at hdl;simp only [List.length_cons] at hdl;have hlt:((c :: r).takeWhile isW).length < (c :: r).length:=by simp only [List.length_cons]; omega
         rcases Z9K n (impl_termAt.F n) (c :: r) (fun t22 =>
           if (decide (t22 < (ByteArray.size (bt (c :: r)):Int))) = true then
            if (0:Int) ≤ t22 ∧ t22 < (ByteArray.size (bt (c :: r)):Int) then
             if decide ((Z0M (bt (c :: r)) t22) = 41) = true then
              some (3,IntKind.i64.wrap (t22 + 1))
             else
              (fun _=>some (0,0)) ()
            else
             none
           else
            (fun _=>some (0,0)) ()) (by simp only [List.length_cons]; omega)
          (fun l' hl'=>ih l' n (by simp only [List.length_cons] at hl'; omega) (by omega) (by simp only [List.length_cons] at hl'; omega)) n _ hlt (by simp only [List.length_cons]; omega) with h | ⟨a,bs,rest,h1,h2,h3⟩
         ·exact ⟨_,h,.inl rfl⟩
         ·rw [h3]
          dsimp only;have ht:t = a ++ (Z02 bs ++ rest):=by rw [← h1,← List.drop_drop,hd]; rfl
          have hfull:c :: r = ((c :: r).takeWhile isW ++ 40 :: (a ++ Z02 bs)) ++ rest:=by
           conv=>lhs; rw [hs,hd,ht]
           simp
          have hlen2:((c :: r).takeWhile isW).length + 1 + (a ++ Z02 bs).length = ((c :: r).takeWhile isW ++ 40 :: (a ++ Z02 bs)).length:=by
           simp only [List.length_append,List.length_cons]; omega
          cases rest with
          | nil =>
           have hl2:=congrArg List.length hfull;rw [List.append_nil,← hlen2] at hl2;rw [Z0C,if_neg (by simp only [decide_eq_true_eq]; omega)];exact ⟨_,rfl,.inl rfl⟩
          | cons e u =>
           rw [hlen2];have hat:Z0M (bt (c :: r)) ((((c :: r).takeWhile isW ++ 40 :: (a ++ Z02 bs)).length:Nat):Int) = (e.toNat:Int):=by
            conv=>lhs; arg 1; rw [hfull]
            exact Z1S _ _ _
           have hl3:((((c :: r).takeWhile isW ++ 40 :: (a ++ Z02 bs)).length:Nat):Int) < (ByteArray.size (bt (c :: r)):Int):=by
            rw [Z0C];have hl2:=congrArg List.length hfull;rw [List.length_append] at hl2;have h9:(e :: u).length = u.length + 1:=rfl;omega
           have hl4:((c :: r).takeWhile isW ++ 40 :: (a ++ Z02 bs)).length ≤ 4294960000:=by
            rw [Z0C] at hl3;have hcr:(c :: r).length ≤ 4294960000:=by simp only [List.length_cons]; omega
            exact Nat.le_trans (Nat.le_of_lt (Int.ofNat_lt.1 hl3)) hcr
           rw [if_pos (decide_eq_true hl3),if_pos ⟨by omega,hl3⟩,hat]
           by_cases h41:e = 41
           ·subst h41
            rw [if_pos (by decide),Z0A _ (by omega) (by omega)];have hks:∃ ks:List UInt8 → Nat,∀ x ∈ a :: bs,Tm (ks x) x:=by
             classical
             refine ⟨fun x=>if h:∃ k,Tm k x then h.choose else 0,fun x hx=>?_⟩;have:=h2 x hx;show Tm (if h:∃ k,Tm k x then h.choose else 0) x;rw [dif_pos this];exact this.choose_spec
            obtain ⟨ks,hks⟩:=hks;refine ⟨_,rfl,.inr ⟨3,(c :: r).takeWhile isW ++ 40 :: (a ++ (Z02 bs ++ [41])),u,?_,Tm.con _ a bs hnm ks hks,?_⟩⟩
            ·congr 1
             simp only [List.length_append,List.length_cons,List.length_nil];omega
            ·conv=>lhs; rw [hfull]
             simp
           ·rw [if_neg]
            ·exact ⟨_,rfl,.inl rfl⟩
            ·simp only [decide_eq_true_eq]
             intro he;exact h41 (UInt8.toNat_inj.1 (show e.toNat = (41:UInt8).toNat by rw [show (41:UInt8).toNat = 41 from rfl]; omega))
        ·rw [if_neg h40]
         rw [hd] at hs;exact ⟨_,rfl,.inr ⟨3,(c :: r).takeWhile isW,d :: t,rfl,Tm.con0 _ hnm,hs⟩⟩
     ·rw [G_other n _ c r hq (fun e=>hnum (.inl e)) (Bool.eq_false_iff.2 (fun e=>hnum (.inr e))) (Bool.eq_false_iff.2 hb)]
      exact ⟨_,rfl,.inl rfl⟩
theorem stopW {rest:List UInt8} (h:ZA0 rest):rest = [] ∨ ∃ c t,rest = c :: t ∧ isW c = false:=ZAx Z3Y.2.2.1 Z3Y.2.2.2.1 h
theorem Z1H {k:Nat} {t:List UInt8} (h:Tm k t):∀ (rest:List UInt8) (n:Nat),ZA0 rest → t.length + rest.length ≤ 4294960000 → t.length + rest.length + 60 ≤ n →
  impl_termAt.F n (bt (t ++ rest)) = some ((k:Int),(t.length:Int)):=by
 induction h with
 | num x h0 h1 =>
  intro rest n hs hl hn;obtain ⟨n,rfl⟩:∃ m,n = m + 1:=⟨n - 1,by omega⟩
  obtain ⟨c,r,hc,hcd,hr⟩:=Z5E h0 h1;rw [hc] at hl hn;simp only [List.length_cons] at hl hn;have htw:(r ++ rest).takeWhile Z1p = r:=Z18 hr (ZAx Z3Y.1 Z3Y.2.1 hs);rw [hc,Z5T,List.cons_append,G_num n _ c (r ++ rest) hcd,(num_at n _ c (r ++ rest) _ (by simp; omega) (by simp; omega)).1 (by rw [htw,← hc]; exact ⟨x,h0,h1,rfl⟩),htw]
  rfl
 | sym m h hp =>
  intro rest n hs hl hn;obtain ⟨n,rfl⟩:∃ m,n = m + 1:=⟨n - 1,by omega⟩
  simp only [List.length_cons,List.length_append,List.length_nil] at hl hn;have htw:((m ++ [34]) ++ rest).takeWhile Z0X = m:=by
   rw [List.append_assoc];exact Z18 hp (.inr ⟨34,rest,rfl,by decide⟩)
  rw [Z5T,List.cons_append,G_sym n _ _ (by simp; omega) (by simp; omega),htw,if_pos ⟨h,by simp⟩]
  congr 2
  simp only [List.length_cons,List.length_append,List.length_nil]
 | con0 nm h =>
  intro rest n hs hl hn;obtain ⟨n,rfl⟩:∃ m,n = m + 1:=⟨n - 1,by omega⟩
  obtain ⟨c,r,rfl,hb,h20,hall⟩:=Z0s h;simp only [List.length_cons] at hl hn h20;have htw:(c :: (r ++ rest)).takeWhile isW = c :: r:=Z18 (a:=c :: r) hall (stopW hs);rw [Z5T,List.cons_append,G_big n _ c (r ++ rest) hb (by simp; omega) (by simp; omega),htw,if_neg (by simp; omega)];have hd:(c :: (r ++ rest)).drop (c :: r).length = rest:=by rw [← List.cons_append,List.drop_left]
  rw [hd];rcases hs with rfl | ⟨d,u,rfl,rfl | rfl⟩
  ·rfl
  ·rfl
  ·rfl
 | con nm a bs h ks hh ih =>
  intro rest n hs hl hn;obtain ⟨n,rfl⟩:∃ m,n = m + 1:=⟨n - 1,by omega⟩
  obtain ⟨c,r,rfl,hb,h20,hall⟩:=Z0s h;simp only [List.length_cons,List.length_append,List.length_nil] at hl hn h20;have e1:(c :: r ++ 40 :: (a ++ (Z02 bs ++ [41]))) ++ rest = c :: (r ++ 40 :: (a ++ (Z02 bs ++ 41 :: rest))):=by simp
  have htw:(c :: (r ++ 40 :: (a ++ (Z02 bs ++ 41 :: rest)))).takeWhile isW = c :: r:=Z18 (a:=c :: r) hall (.inr ⟨40,_,rfl,Z3Y.2.2.2.2⟩);have hd:(c :: (r ++ 40 :: (a ++ (Z02 bs ++ 41 :: rest)))).drop (c :: r).length = 40 :: (a ++ (Z02 bs ++ 41 :: rest)):=by rw [← List.cons_append,List.drop_left]
  rw [e1,Z5T,G_big n _ c _ hb (by simp; omega) (by simp; omega),htw,if_neg (by simp; omega),hd];dsimp only;rw [if_pos rfl];unfold impl_termAt.j3;have hbs:bs.length ≤ (Z02 bs).length:=by
   clear ih hh hl hn e1 htw hd
   induction bs with
   | nil=>simp
   | cons b bs ihb=>simp only [Z02,List.length_cons,List.length_append]; omega
  have key:=Z57 n (impl_termAt.F n) (fun t22 =>
    if (decide (t22 < (ByteArray.size (bt (c :: (r ++ 40 :: (a ++ (Z02 bs ++ 41 :: rest))))):Int))) = true then
     if (0:Int) ≤ t22 ∧ t22 < (ByteArray.size (bt (c :: (r ++ 40 :: (a ++ (Z02 bs ++ 41 :: rest))))):Int) then
      if decide ((Z0M (bt (c :: (r ++ 40 :: (a ++ (Z02 bs ++ 41 :: rest))))) t22) = 41) = true then
       some (3,IntKind.i64.wrap (t22 + 1))
      else
       (fun _=>some (0,0)) ()
     else
      none
    else
     (fun _=>some (0,0)) ()) (r.length + 1 + (1 + (a.length + ((Z02 bs).length + (1 + rest.length))))) (by omega) bs a (c :: r) rest 40 n
   (by simp only [List.length_append,List.length_cons]; omega)
   (fun x hx r' hr' hlt=>⟨ks x,(hh x hx).kind.1,ih x hx r' n hr' (by omega) (by omega)⟩) (by omega)
  rw [List.cons_append] at key;rw [key];dsimp only;have e2:c :: (r ++ 40 :: (a ++ (Z02 bs ++ 41 :: rest))) = (c :: r ++ 40 :: (a ++ Z02 bs)) ++ 41 :: rest:=by simp
  have e3:(c :: r).length + 1 + (a ++ Z02 bs).length = (c :: r ++ 40 :: (a ++ Z02 bs)).length:=by simp only [List.length_append,List.length_cons]; omega
  rw [e2,e3,Z0C,if_pos (decide_eq_true (Z1e _ _ _)),if_pos (Z0a _ _ _),Z1S,if_pos (by decide),Z0A _ (by simp only [List.length_append,List.length_cons]; omega) (by simp only [List.length_append,List.length_cons]; omega)]
  congr 2
  simp only [List.length_append,List.length_cons,List.length_nil];omega
end Go.Abs
namespace Go.Abs
set_option linter.unusedVariables false
set_option linter.unusedSimpArgs false
def Z0N (b:UInt8):Bool:=!decide (b = 40)
theorem Z2f {c d:UInt8} {v:Nat} (hd:d.toNat = v):(c.toNat:Int) = (v:Int) ↔ c = d:=by
 constructor
 ·intro h; exact UInt8.toNat_inj.1 (by omega)
 ·rintro rfl; omega
theorem e34 (c:UInt8):decide ((c.toNat:Int) = 34) = decide (c = 34):=decide_eq_decide.2 (Z2f (d:=34) rfl)
theorem e40 (c:UInt8):decide ((c.toNat:Int) = 40) = decide (c = 40):=decide_eq_decide.2 (Z2f (d:=40) rfl)
theorem e41 (c:UInt8):decide ((c.toNat:Int) = 41) = decide (c = 41):=decide_eq_decide.2 (Z2f (d:=41) rfl)
theorem e44 (c:UInt8):decide ((c.toNat:Int) = 44) = decide (c = 44):=decide_eq_decide.2 (Z2f (d:=44) rfl)
theorem ZCR (n:Nat) (K:Int → Option (ByteArray × (List ByteArray) × Bool)):∀ (r pre:List UInt8) (k:Nat),(pre ++ r).length ≤ 4294967296 → r.length + 1 ≤ k →
  spec_l01Args.l0 n (bt (pre ++ r)) K k (pre.length:Int) = K ((pre.length + (r.takeWhile Z0N).length:Nat):Int)
 | r,pre,0,_,hk=>by omega
 | [],pre,k + 1,hl,hk=>by
  unfold spec_l01Args.l0;rw [Z0C,if_neg (by simp)]
  rfl
 | c :: r,pre,k + 1,hl,hk=>by
  unfold spec_l01Args.l0;rw [Z0C,if_pos (decide_eq_true (Z1e pre r c)),if_pos (Z0a pre r c),Z1S,e40,List.takeWhile_cons]
  by_cases h:c = 40
  ·have hn:Z0N c = false:=by simp [Z0N,h]
   rw [hn]
   simp [h]
  ·have hn:Z0N c = true:=by simp [Z0N,h]
   rw [hn,if_pos rfl,if_pos (by simpa using h)];simp only [List.length_append,List.length_cons] at hl;rw [Z0A _ (by omega) (by omega),Z2o pre c,Z1d,ZCR n K r (pre ++ [c]) k (by simp; omega) (by simpa using hk)]
   congr 2
   simp
   omega
section
variable (n:Nat) (t6:Int) (K:Unit → Option (ByteArray × (List ByteArray) × Bool))
theorem Z8i (pre r:List UInt8) (k:Nat) (d f:Int) (q:Bool) (out:List ByteArray) (hl:pre.length ≤ 4294967296) :
  spec_l01Args.l1 n (bt (pre ++ 34 :: r)) t6 K (k + 1) d q f (pre.length:Int) out = spec_l01Args.l1 n (bt (pre ++ 34 :: r)) t6 K k d (!q) f ((pre.length + 1:Nat):Int) out:=by
 conv=>lhs; unfold spec_l01Args.l1
 rw [Z0C,if_pos (decide_eq_true (Z1e pre r 34)),if_pos (Z0a pre r 34),Z1S,if_pos (by decide),Z0A _ (by omega) (by omega)]
 rfl
theorem Z9p (pre r:List UInt8) (c:UInt8) (k:Nat) (d f:Int) (out:List ByteArray) (hl:pre.length ≤ 4294967296) (hc:c ≠ 34) :
  spec_l01Args.l1 n (bt (pre ++ c :: r)) t6 K (k + 1) d true f (pre.length:Int) out = spec_l01Args.l1 n (bt (pre ++ c :: r)) t6 K k d true f ((pre.length + 1:Nat):Int) out:=by
 conv=>lhs; unfold spec_l01Args.l1
 rw [Z0C,if_pos (decide_eq_true (Z1e pre r c)),if_pos (Z0a pre r c),Z1S,e34,if_neg (by simpa using hc),if_pos rfl,Z0A _ (by omega) (by omega)]
 rfl
theorem ZCO (pre r:List UInt8) (k:Nat) (d f:Int) (out:List ByteArray) (hl:pre.length ≤ 4294967296) (hd:-4611686018427387900 ≤ d ∧ d ≤ 4611686018427387900) :
  spec_l01Args.l1 n (bt (pre ++ 40 :: r)) t6 K (k + 1) d false f (pre.length:Int) out = spec_l01Args.l1 n (bt (pre ++ 40 :: r)) t6 K k (d + 1) false f ((pre.length + 1:Nat):Int) out:=by
 conv=>lhs; unfold spec_l01Args.l1
 rw [Z0C,if_pos (decide_eq_true (Z1e pre r 40)),if_pos (Z0a pre r 40),Z1S,if_neg (by decide),if_neg (by simp),if_pos (Z0a pre r 40),if_pos (by decide),Z0A _ (by omega) (by omega),Z0A _ (by omega) (by omega)]
 rfl
theorem ZCQ (pre r:List UInt8) (k:Nat) (d f:Int) (out:List ByteArray) (hl:pre.length ≤ 4294967296) (hd:-4611686018427387900 ≤ d ∧ d ≤ 4611686018427387900) (h1:d ≠ 1) :
  spec_l01Args.l1 n (bt (pre ++ 41 :: r)) t6 K (k + 1) d false f (pre.length:Int) out = spec_l01Args.l1 n (bt (pre ++ 41 :: r)) t6 K k (d - 1) false f ((pre.length + 1:Nat):Int) out:=by
 conv=>lhs; unfold spec_l01Args.l1
 rw [Z0C,if_pos (decide_eq_true (Z1e pre r 41)),if_pos (Z0a pre r 41),Z1S,if_neg (by decide),if_neg (by simp),if_pos (Z0a pre r 41),if_neg (by decide),if_pos (Z0a pre r 41),if_pos (by decide),Z0A (d - 1) (by omega) (by omega),
  if_neg (by simp; omega),Z0A _ (by omega) (by omega)]
 rfl
theorem ZCP (pre r:List UInt8) (k:Nat) (d f:Int) (out:List ByteArray) (hl:pre.length ≤ 4294967296) (h1:d ≠ 1) :
  spec_l01Args.l1 n (bt (pre ++ 44 :: r)) t6 K (k + 1) d false f (pre.length:Int) out = spec_l01Args.l1 n (bt (pre ++ 44 :: r)) t6 K k d false f ((pre.length + 1:Nat):Int) out:=by
 conv=>lhs; unfold spec_l01Args.l1
 rw [Z0C,if_pos (decide_eq_true (Z1e pre r 44)),if_pos (Z0a pre r 44),Z1S,if_neg (by decide),if_neg (by simp),if_pos (Z0a pre r 44),if_neg (by decide),if_pos (Z0a pre r 44),if_neg (by decide),if_pos (Z0a pre r 44),if_pos (by decide),
  if_neg (by simp; omega),Z0A _ (by omega) (by omega)]
 rfl
theorem a_calm (pre r:List UInt8) (c:UInt8) (k:Nat) (d f:Int) (out:List ByteArray) (hl:pre.length ≤ 4294967296) (h1:c ≠ 34) (h2:c ≠ 40) (h3:c ≠ 41) (h4:c ≠ 44) :
  spec_l01Args.l1 n (bt (pre ++ c :: r)) t6 K (k + 1) d false f (pre.length:Int) out = spec_l01Args.l1 n (bt (pre ++ c :: r)) t6 K k d false f ((pre.length + 1:Nat):Int) out:=by
 conv=>lhs; unfold spec_l01Args.l1
 rw [Z0C,if_pos (decide_eq_true (Z1e pre r c)),if_pos (Z0a pre r c),Z1S,e34,e40,e41,e44,if_neg (by simpa using h1),if_neg (by simp),if_pos (Z0a pre r c),if_neg (by simpa using h2),if_pos (Z0a pre r c),if_neg (by simpa using h3),if_pos (Z0a pre r c),
  if_neg (by simpa using h4),Z0A _ (by omega) (by omega)]
 rfl
theorem Z38 (l:List UInt8) (f i:Nat):ByteArray.extract (bt l) (Int.toNat (f:Int)) (Int.toNat (i:Int)) = bt ((l.take i).drop f):=by
 rw [Z1Y,Int.toNat_natCast,Int.toNat_natCast]
theorem ZCN (pre r:List UInt8) (k f:Nat) (out:List ByteArray) (hl:pre.length ≤ 4294967290) (hf:f ≤ pre.length) (ho:out.length ≤ pre.length) :
  spec_l01Args.l1 n (bt (pre ++ 44 :: r)) t6 K (k + 1) 1 false (f:Int) (pre.length:Int) out = spec_l01Args.l1 n (bt (pre ++ 44 :: r)) t6 K k 1 false ((pre.length + 1:Nat):Int) ((pre.length + 1:Nat):Int) (out ++ [bt (pre.drop f)]):=by
 conv=>lhs; unfold spec_l01Args.l1
 have h1:(0:Int) ≤ (f:Int) ∧ (f:Int) ≤ (pre.length:Int) ∧ (pre.length:Int) ≤ ((pre ++ 44 :: r).length:Int):=⟨by omega,by omega,by have:=Z1e pre r 44; omega⟩;have h2:∀ x:ByteArray,List.length out + List.length [x] ≤ lim:=fun x=>by unfold lim; simp only [List.length_singleton]; omega
 rw [Z0C,if_pos (decide_eq_true (Z1e pre r 44)),if_pos (Z0a pre r 44),Z1S,if_neg (by decide),if_neg (by simp),if_pos (Z0a pre r 44),if_neg (by decide),if_pos (Z0a pre r 44),if_neg (by decide),if_pos (Z0a pre r 44),if_pos (by decide),
  if_pos (by simp),if_pos h1,if_pos (h2 _),Z0A _ (by omega) (by omega),Z38,List.take_left]
 rfl
theorem a_end (pre r:List UInt8) (k f a:Nat) (ha:t6 = (a:Int)) (out:List ByteArray) (hl:(pre ++ 41 :: r).length ≤ 4294967290) (hf:f ≤ pre.length) (hal:a ≤ pre.length) (ho:out.length ≤ pre.length) :
  spec_l01Args.l1 n (bt (pre ++ 41 :: r)) t6 K (k + 1) 1 false (f:Int) (pre.length:Int) out = some (bt (pre.take a),out ++ [bt (pre.drop f)],decide (r = [])):=by
 subst ha;have hlt:=Z1e pre r 41
 conv=>lhs; unfold spec_l01Args.l1
 have h0:(0:Int) ≤ 0 ∧ (0:Int) ≤ (a:Int) ∧ (a:Int) ≤ ((pre ++ 41 :: r).length:Int):=⟨by omega,by omega,by omega⟩;have h1:(0:Int) ≤ (f:Int) ∧ (f:Int) ≤ (pre.length:Int) ∧ (pre.length:Int) ≤ ((pre ++ 41 :: r).length:Int):=⟨by omega,by omega,by omega⟩;have h2:∀ x:ByteArray,List.length out + List.length [x] ≤ lim:=fun x=>by unfold lim; simp only [List.length_singleton]; omega
 rw [Z0C,if_pos (decide_eq_true hlt),if_pos (Z0a pre r 41),Z1S,if_neg (by decide),if_neg (by simp),if_pos (Z0a pre r 41),if_neg (by decide),if_pos (Z0a pre r 41),if_pos (by decide),if_pos (by decide),if_pos h0,if_pos h1,if_pos (h2 _),
  Z38,List.take_left,Z0A _ (by omega) (by omega)]
 rw [show Int.toNat 0 = Int.toNat ((0:Nat):Int) from rfl,Z38,List.drop_zero,List.take_append_of_le_length hal]
 congr 4
 apply propext
 constructor
 ·intro h
  cases r with
  | nil=>rfl
  | cons x r=>simp only [List.length_append,List.length_cons] at h; omega
 ·rintro rfl
  simp only [List.length_append,List.length_cons,List.length_nil];omega
theorem Z6B (a:Nat) (ha:t6 = (a:Int)) (hK:K () = some (ByteArray.empty,[],false)):∀ (r pre:List UInt8) (k:Nat) (d:Int) (q:Bool) (f:Nat) (out:List ByteArray),(pre ++ r).length ≤ 4294967290 → r.length + 1 ≤ k →
  (-(4294967296:Int) ≤ d - r.length ∧ d + r.length ≤ 4294967296 * 4) → f ≤ pre.length + (if pre.length = a then 1 else 0) → a ≤ pre.length → out.length ≤ pre.length → (pre.length = a → d = 0 ∧ q = false ∧ ∃ r',r = 40 :: r') →
  ∃ x ys ok,spec_l01Args.l1 n (bt (pre ++ r)) t6 K k d q (f:Int) (pre.length:Int) out = some (x,ys,ok) ∧
   (ok = true → x = bt ((pre ++ r).take a) ∧ ∃ (p:List UInt8) (bs:List (List UInt8)),ys = out ++ (p :: bs).map bt ∧ (pre ++ r).drop f = p ++ (Z02 bs ++ [41]))
 | r,pre,0,_,_,_,_,_,hk,_,_,_,_,_=>by omega
 | [],pre,k + 1,d,q,f,out,hl,hk,hd,hf,hal,ho,hst=>by
  unfold spec_l01Args.l1;rw [Z0C,if_neg (by simp),hK];exact ⟨_,_,_,rfl,fun h=>by cases h⟩
 | c :: r,pre,k + 1,d,q,f,out,hl,hk,hd,hf,hal,ho,hst=>by
  have hk':r.length + 1 ≤ k:=by simpa using hk
  have hpl:pre.length + (r.length + 1) ≤ 4294967290:=by simpa using hl
  have hl':((pre ++ [c]) ++ r).length ≤ 4294967290:=by rw [← Z1d]; exact hl
  have hp1:(pre ++ [c]).length = pre.length + 1:=by simp
  have hne:¬ (pre ++ [c]).length = a:=by omega
  simp only [List.length_cons] at hd;have go:∀ (d':Int) (q':Bool) (f':Nat) (out':List ByteArray),(-(4294967296:Int) ≤ d' - r.length ∧ d' + r.length ≤ 4294967296 * 4) → f' ≤ pre.length + 1 → out'.length ≤ pre.length + 1 →
    ∃ x ys ok,spec_l01Args.l1 n (bt (pre ++ c :: r)) t6 K k d' q' (f':Int) ((pre.length + 1:Nat):Int) out' = some (x,ys,ok) ∧
     (ok = true → x = bt ((pre ++ c :: r).take a) ∧ ∃ (p:List UInt8) (bs:List (List UInt8)),ys = out' ++ (p :: bs).map bt ∧ (pre ++ c :: r).drop f' = p ++ (Z02 bs ++ [41])):=by
   intro d' q' f' out' h1 h2 h3;have:=Z6B a ha hK r (pre ++ [c]) k d' q' f' out' hl' hk' h1 (by rw [if_neg hne,hp1]; omega) (by omega) (by omega) (fun h=>absurd h hne);rw [← Z1d,hp1] at this;exact this
  have hfb:f ≤ pre.length + 1:=by split at hf <;> omega
  by_cases h34:c = 34
  ·subst h34
   rw [Z8i n t6 K pre r k d f q out (by omega)];exact go _ _ _ _ ⟨by omega,by omega⟩ hfb (by omega)
  ·cases q with
   | true =>
    rw [Z9p n t6 K pre r c k d f out (by omega) h34];exact go _ _ _ _ ⟨by omega,by omega⟩ hfb (by omega)
   | false =>
    by_cases h40:c = 40
    ·subst h40
     rw [ZCO n t6 K pre r k d f out (by omega) ⟨by omega,by omega⟩];exact go _ _ _ _ ⟨by omega,by omega⟩ hfb (by omega)
    ·have hpa:pre.length ≠ a:=by
      intro h;obtain ⟨_,_,r',hr'⟩:=hst h;cases hr';exact h40 rfl
     rw [if_neg hpa] at hf
     by_cases h41:c = 41
     ·subst h41
      by_cases hd1:d = 1
      ·subst hd1
       rw [a_end n t6 K pre r k f a ha out hl (by omega) hal ho];refine ⟨_,_,_,rfl,fun h=>?_⟩;have hr:r = []:=of_decide_eq_true h;subst hr;refine ⟨by rw [List.take_append_of_le_length hal],pre.drop f,[],by simp,?_⟩;rw [List.drop_append_of_le_length (by omega)]
       rfl
      ·rw [ZCQ n t6 K pre r k d f out (by omega) ⟨by omega,by omega⟩ hd1]
       exact go _ _ _ _ ⟨by omega,by omega⟩ hfb (by omega)
     ·by_cases h44:c = 44
      ·subst h44
       by_cases hd1:d = 1
       ·subst hd1
        rw [ZCN n t6 K pre r k f out (by omega) (by omega) ho];obtain ⟨x,ys,ok,h1,h2⟩:=go 1 false (pre.length + 1) (out ++ [bt (pre.drop f)]) ⟨by omega,by omega⟩ (by omega) (by simp; omega);refine ⟨x,ys,ok,h1,fun h=>?_⟩;obtain ⟨hx,p,bs,hys,hdr⟩:=h2 h;refine ⟨hx,pre.drop f,p :: bs,by rw [hys]; simp,?_⟩;rw [List.drop_append_of_le_length (by omega)];have:(pre ++ 44 :: r).drop (pre.length + 1) = r:=by rw [← List.drop_drop,List.drop_left]; rfl
        rw [this] at hdr;rw [hdr]
        simp [Z02]
       ·rw [ZCP n t6 K pre r k d f out (by omega) hd1]
        exact go _ _ _ _ ⟨by omega,by omega⟩ hfb (by omega)
      ·rw [a_calm n t6 K pre r c k d f out (by omega) h34 h40 h41 h44]
       exact go _ _ _ _ ⟨by omega,by omega⟩ hfb (by omega)
end
end Go.Abs
