/- The order of terms and of tuples. Conditions: none. -/
import Derived.Test.YtgdlicpmbgodjaaGreatDoorT11
namespace Go.Abs
set_option linter.unusedVariables false
set_option linter.unusedSimpArgs false
def lex2 {α β:Type} [DecidableEq α] (f:α → α → Int) (g:β → β → Int) (a b:α × β):Int:=if a.1 = b.1 then g a.2 b.2 else f a.1 b.1
theorem Ord3.lex2 {α β:Type} [DecidableEq α] {P:α → Prop} {Q:β → Prop} {f:α → α → Int} {g:β → β → Int} (hf:Ord3 P f) (hg:Ord3 Q g):Ord3 (fun x:α × β=>P x.1 ∧ Q x.2) (Go.Abs.lex2 f g) where
 rng a b ha hb:=by
  unfold Go.Abs.lex2
  split
  ·exact hg.rng _ _ ha.2 hb.2
  ·exact hf.rng _ _ ha.1 hb.1
 zero a b ha hb:=by
  unfold Go.Abs.lex2
  by_cases h:a.1 = b.1
  ·rw [if_pos h,hg.zero _ _ ha.2 hb.2]
   exact ⟨fun e=>Prod.ext h e,fun e=>by rw [e]⟩
  ·rw [if_neg h,hf.zero _ _ ha.1 hb.1]
   exact ⟨fun e=>absurd e h,fun e=>absurd (by rw [e]) h⟩
 neg a b ha hb:=by
  unfold Go.Abs.lex2
  by_cases h:a.1 = b.1
  ·rw [if_pos h,if_pos h.symm]
   exact hg.neg _ _ ha.2 hb.2
  ·rw [if_neg h,if_neg (fun e=>h e.symm)]
   exact hf.neg _ _ ha.1 hb.1
 trans a b c ha hb hc h1 h2:=by
  unfold Go.Abs.lex2 at *
  by_cases e1:a.1 = b.1
  ·rw [if_pos e1] at h1
   by_cases e2:b.1 = c.1
   ·rw [if_pos e2] at h2
    rw [if_pos (e1.trans e2)];exact hg.trans _ _ _ ha.2 hb.2 hc.2 h1 h2
   ·rw [if_neg e2] at h2
    rw [if_neg (by rw [e1]; exact e2),e1];exact h2
  ·rw [if_neg e1] at h1
   by_cases e2:b.1 = c.1
   ·rw [if_neg (by rw [← e2]; exact e1),← e2]
    exact h1
   ·rw [if_neg e2] at h2
    have h3:=hf.trans _ _ _ ha.1 hb.1 hc.1 h1 h2;have:a.1 ≠ c.1:=fun e=>by
     have:=(hf.zero _ _ ha.1 hc.1).2 e;omega
    rw [if_neg this];exact h3
inductive Rt where
 | num (x:Int)
 | sym (p:List UInt8)
 | con (nm:List UInt8) (xs:List (List UInt8))
def Rt.ok (N:Nat):Rt → Prop
 | .con _ xs=>∀ x ∈ xs,okL x ∧ x.length < N
 | _=>True
abbrev conc (nm:List UInt8) (xs:List (List UInt8)) (nm2:List UInt8) (ys:List (List UInt8)):Int:=lex2 Z8l (lex2 Z7v (Z3e tc)) (nm,((xs.length:Int),xs)) (nm2,((ys.length:Int),ys))
def rc:Rt → Rt → Int
 | .num x,.num y=>Z7v x y
 | .num _,_=>-1
 | .sym _,.num _=>1
 | .sym p,.sym q=>Z8l p q
 | .sym _,.con _ _=>-1
 | .con nm xs,.con nm2 ys=>conc nm xs nm2 ys
 | .con _ _,_=>1
inductive Rep:List UInt8 → Rt → Prop where
 | num (x:Int) (h0:-1000000 ≤ x) (h1:x ≤ 1000000):Rep (Lib.itoa x) (.num x)
 | sym (m:List UInt8) (h:m.length ≤ 20) (hp:m.all Z0X = true):Rep (34 :: (m ++ [34])) (.sym m)
 | con {l nm:List UInt8} {xs:List (List UInt8)} (h:Parts l nm xs) (ht:Tm 3 l):Rep l (.con nm xs)
theorem okL.rep {a:List UInt8} (h:okL a):∃ r,Rep a r:=by
 obtain ⟨k,hk,_⟩:=h;rcases hk with ⟨x,h0,h1⟩ | ⟨m,h,hp⟩ | ⟨_,h⟩ | ⟨_,b,bs,h,ks,hh⟩
 ·exact ⟨_,.num x h0 h1⟩
 ·exact ⟨_,.sym m h hp⟩
 ·exact ⟨_,.con (.con0 _ h) (.con0 _ h)⟩
 ·exact ⟨_,.con (.con _ b bs h (fun x hx=>⟨_,hh x hx⟩)) (.con _ b bs h ks hh)⟩
theorem Parts.same {a b nm:List UInt8} {xs:List (List UInt8)} (ha:Parts a nm xs) (hb:Parts b nm xs):a = b:=by
 cases ha <;> cases hb <;> rfl
theorem Z3J {a b:List UInt8} {r s:Rt} (ha:Rep a r) (hb:Rep b s) (la:a.length ≤ 200) (lb:b.length ≤ 200):tc a b = rc r s:=by
 cases ha with
 | num x h0 h1 =>
  cases hb with
  | num y k0 k1=>exact tc_num h0 h1 k0 k1 la lb
  | sym q k1 k2=>exact Z3h (.num x h0 h1) (.sym q k1 k2) la lb (by decide)
  | con h ht=>exact Z3h (.num x h0 h1) ht la lb (by decide)
 | sym p h1 h2 =>
  cases hb with
  | num y k0 k1=>exact Z3h (.sym p h1 h2) (.num y k0 k1) la lb (by decide)
  | sym q k1 k2=>exact tc_sym h1 h2 k1 k2
  | con h ht=>exact Z3h (.sym p h1 h2) ht la lb (by decide)
 | con h ht =>
  cases hb with
  | num y k0 k1=>exact Z3h ht (.num y k0 k1) la lb (by decide)
  | sym q k1 k2=>exact Z3h ht (.sym q k1 k2) la lb (by decide)
  | con k kt =>
   rw [tc_con h k ht kt la lb];show _ = lex2 Z8l (lex2 Z7v (Z3e tc)) _ _;unfold lex2;dsimp only
   congr 1
   rename_i _ xs _ ys
   by_cases e:xs.length = ys.length
   ·rw [if_pos e,if_pos (by rw [e])]
   ·rw [if_neg e,if_neg (by omega)]
theorem rep_inj {a b:List UInt8} {r:Rt} (ha:Rep a r) (hb:Rep b r):a = b:=by
 cases ha with
 | num=>cases hb; rfl
 | sym=>cases hb; rfl
 | con h ht=>cases hb with | con k kt=>exact h.same k
def Rt.rank:Rt → Nat
 | .num _=>1
 | .sym _=>2
 | .con _ _=>3
theorem rc_le (a b:Rt) (h:rc a b < 0):a.rank ≤ b.rank:=by
 cases a <;> cases b <;> first | (simp only [Rt.rank]; omega) | (exact absurd h (show ¬ (1:Int) < 0 by omega))
theorem rc_lt (a b:Rt) (h:a.rank < b.rank):rc a b < 0:=by
 cases a <;> cases b <;> first | (exact (show (-1:Int) < 0 by omega)) | (exfalso; simp only [Rt.rank] at h; omega)
theorem rc_ord (N:Nat) (h:Ord3 (fun a=>okL a ∧ a.length < N) tc):Ord3 (Rt.ok N) rc:=by
 have hc:=(ord_xcmp.lex2 (ord_icmp.lex2 (Z9I h)));have hx:=ord_xcmp;have hi:=ord_icmp;have c_rng:∀ nm xs nm2 ys,Rt.ok N (.con nm xs) → Rt.ok N (.con nm2 ys) → sgn (conc nm xs nm2 ys):=fun nm xs nm2 ys h1 h2 =>
  hc.rng (nm,((xs.length:Int),xs)) (nm2,((ys.length:Int),ys)) ⟨trivial,trivial,h1⟩ ⟨trivial,trivial,h2⟩
 have c_zero:∀ nm xs nm2 ys,Rt.ok N (.con nm xs) → Rt.ok N (.con nm2 ys) → (conc nm xs nm2 ys = 0 ↔ Rt.con nm xs = .con nm2 ys):=fun nm xs nm2 ys h1 h2 =>
  (hc.zero (nm,((xs.length:Int),xs)) (nm2,((ys.length:Int),ys)) ⟨trivial,trivial,h1⟩ ⟨trivial,trivial,h2⟩).trans ⟨fun e=>by
   have e1:=congrArg Prod.fst e;have e2:=congrArg (fun p=>p.2.2) e;dsimp only at e1 e2;rw [e1,e2],fun e=>by cases e; rfl⟩
 have c_neg:∀ nm xs nm2 ys,Rt.ok N (.con nm xs) → Rt.ok N (.con nm2 ys) → conc nm2 ys nm xs = - conc nm xs nm2 ys:=fun nm xs nm2 ys h1 h2 =>
  hc.neg (nm,((xs.length:Int),xs)) (nm2,((ys.length:Int),ys)) ⟨trivial,trivial,h1⟩ ⟨trivial,trivial,h2⟩
 have c_trans:∀ nm xs nm2 ys nm3 zs,Rt.ok N (.con nm xs) → Rt.ok N (.con nm2 ys) → Rt.ok N (.con nm3 zs) → conc nm xs nm2 ys < 0 → conc nm2 ys nm3 zs < 0 → conc nm xs nm3 zs < 0:=fun nm xs nm2 ys nm3 zs h1 h2 h3 =>
  hc.trans (nm,((xs.length:Int),xs)) (nm2,((ys.length:Int),ys)) (nm3,((zs.length:Int),zs)) ⟨trivial,trivial,h1⟩ ⟨trivial,trivial,h2⟩ ⟨trivial,trivial,h3⟩
 clear hc;refine ⟨fun a b ha hb=>?_,fun a b ha hb=>?_,fun a b ha hb=>?_,fun a b c ha hb hc' h1 h2=>?_⟩
 ·cases a <;> cases b <;> first | exact hi.rng _ _ trivial trivial | exact hx.rng _ _ trivial trivial | exact c_rng _ _ _ _ ha hb | (simp [rc,sgn])
 ·cases a <;> cases b <;> first
   | exact (hi.zero _ _ trivial trivial).trans ⟨fun e=>by rw [e],fun e=>by cases e; rfl⟩
   | exact (hx.zero _ _ trivial trivial).trans ⟨fun e=>by rw [e],fun e=>by cases e; rfl⟩
   | exact c_zero _ _ _ _ ha hb
   |(simp [rc]; done)
 ·cases a <;> cases b <;> first | exact hi.neg _ _ trivial trivial | exact hx.neg _ _ trivial trivial | exact c_neg _ _ _ _ ha hb | rfl
 ·have k1:=rc_le a b h1
  have k2:=rc_le b c h2
  by_cases k3:a.rank < c.rank
  ·exact rc_lt a c k3
  ·cases a <;> cases b <;> cases c <;> first
    |(exfalso; simp only [Rt.rank] at k1 k2 k3; omega)
    |(change Z7v _ _ < 0; exact hi.trans _ _ _ trivial trivial trivial h1 h2)
    |(change Z8l _ _ < 0; exact hx.trans _ _ _ trivial trivial trivial h1 h2)
    | exact c_trans _ _ _ _ _ _ ha hb hc' h1 h2
theorem rep_ok {N:Nat} {a:List UInt8} {r:Rt} (h:Rep a r) (hN:a.length < N + 1) (h2:a.length ≤ 200):Rt.ok N r:=by
 cases h with
 | num=>trivial
 | sym=>trivial
 | con h ht =>
  intro x hx;obtain ⟨_,h3⟩:=h.sub;obtain ⟨⟨k,h4⟩,h5⟩:=h3 x hx;exact ⟨⟨k,h4,by omega⟩,by omega⟩
theorem ZAu:∀ N:Nat,Ord3 (fun a=>okL a ∧ a.length < N) tc
 | 0=>by
  have no:∀ a,okL a ∧ a.length < 0 → False:=fun a ha=>Nat.not_lt_zero _ ha.2
  exact ⟨fun a _ ha=>(no a ha).elim,fun a _ ha=>(no a ha).elim,fun a _ ha=>(no a ha).elim,fun a _ _ ha=>(no a ha).elim⟩
 | N + 1=>by
  have hO:=rc_ord N (ZAu N);have key:∀ a,okL a ∧ a.length < N + 1 → a.length ≤ 200 ∧ ∃ r,Rep a r ∧ Rt.ok N r:=by
   rintro a ⟨ha,hl⟩;obtain ⟨r,hr⟩:=ha.rep;have h2:a.length ≤ 200:=by obtain ⟨_,_,h⟩:=ha; exact h
   exact ⟨h2,r,hr,rep_ok hr hl h2⟩
  refine ⟨fun a b ha hb=>?_,fun a b ha hb=>?_,fun a b ha hb=>?_,fun a b c ha hb hc h1 h2=>?_⟩
  ·obtain ⟨la,r,r1,r2⟩:=key a ha
   obtain ⟨lb,s,s1,s2⟩:=key b hb;rw [Z3J r1 s1 la lb];exact hO.rng _ _ r2 s2
  ·obtain ⟨la,r,r1,r2⟩:=key a ha
   obtain ⟨lb,s,s1,s2⟩:=key b hb;rw [Z3J r1 s1 la lb,hO.zero _ _ r2 s2];refine ⟨fun e=>?_,fun e=>?_⟩
   ·subst e; exact rep_inj r1 s1
   ·subst e
    refine (hO.zero r s r2 s2).1 ?_;rw [← Z3J r1 s1 la la,Z3J r1 r1 la la];exact (hO.zero r r r2 r2).2 rfl
  ·obtain ⟨la,r,r1,r2⟩:=key a ha
   obtain ⟨lb,s,s1,s2⟩:=key b hb;rw [Z3J r1 s1 la lb,Z3J s1 r1 lb la];exact hO.neg _ _ r2 s2
  ·obtain ⟨la,r,r1,r2⟩:=key a ha
   obtain ⟨lb,s,s1,s2⟩:=key b hb;obtain ⟨lc,t,t1,t2⟩:=key c hc;rw [Z3J r1 s1 la lb] at h1;rw [Z3J s1 t1 lb lc] at h2;rw [Z3J r1 t1 la lc];exact hO.trans _ _ _ r2 s2 t2 h1 h2
def bc (x y:ByteArray):Int:=tc x.data.toList y.data.toList
theorem bc_ord:Ord3 okS bc:=by
 have h:=ZAu 201;have k:∀ x,okS x → okL x.data.toList ∧ x.data.toList.length < 201:=by
  rintro x ⟨j,h1,h2⟩;have:x.data.toList.length ≤ 200:=h2;exact ⟨⟨j,h1,this⟩,by omega⟩
 refine ⟨fun a b ha hb=>h.rng _ _ (k a ha) (k b hb),fun a b ha hb=>(h.zero _ _ (k a ha) (k b hb)).trans ⟨fun e=>?_,fun e=>by rw [e]⟩,fun a b ha hb=>h.neg _ _ (k a ha) (k b hb),fun a b c ha hb hc=>h.trans _ _ _ (k a ha) (k b hb) (k c hc)⟩;rw [Z3w a,Z3w b,e]
abbrev tpc:List ByteArray → List ByteArray → Int:=Z3e bc
theorem tpc_ord:Ord3 (fun t:List ByteArray=>∀ s ∈ t,okS s) tpc:=Z9I bc_ord
end Go.Abs
