/- What both sides' comparison of tuples is; a right relation's rows stand in order. Conditions: none. -/
import Derived.Test.YtgdlicpmbgodjaaGreatDoorT12
namespace Go.Abs
set_option linter.unusedVariables false
set_option linter.unusedSimpArgs false
abbrev Tu:Type:=List ByteArray
abbrev Re:Type:=Int × List (List ByteArray)
theorem Z7i (n:Nat) (hn:1000 ≤ n) (A B:List ByteArray) (hA:A.length ≤ 6) (hB:B.length ≤ 6):∀ (r1 r2 pre1 pre2:List ByteArray) (j:Nat),A = pre1 ++ r1 → B = pre2 ++ r2 → pre1.length = pre2.length →
  r1.length + 1 ≤ j → (∀ s ∈ r1,okS s) → (∀ s ∈ r2,okS s) →
   spec_l02Cmp.l0 n A B (fun _=>(spec_l01Sign.F n (IntKind.i64.wrap ((A.length:Int) - (B.length:Int)))).bind fun r11=>some r11) j (pre1.length:Int) = some (tpc r1 r2)
 | r1,r2,pre1,pre2,0,_,_,_,hj,_,_=>by omega
 | [],r2,pre1,pre2,j + 1,eA,eB,hp,hj,h1,h2=>by
  have lA:A.length = pre1.length:=by rw [eA]; simp
  have lB:B.length = pre1.length + r2.length:=by rw [eB,hp]; simp
  rw [Z9r n A B _ j _ (by omega),Z1K,Z0A _ (by omega) (by omega)];simp only [Option.bind_some];cases r2 with
  | nil =>
   simp only [List.length_nil] at lB;rw [if_neg (by omega),if_neg (by omega)]
   rfl
  | cons y r2 =>
   simp only [List.length_cons] at lB;rw [if_pos (by omega)]
   rfl
 | x :: r1,[],pre1,pre2,j + 1,eA,eB,hp,hj,h1,h2=>by
  have lA:A.length = pre1.length + (r1.length + 1):=by rw [eA]; simp
  have lB:B.length = pre1.length:=by rw [eB,hp]; simp
  rw [Z9r n A B _ j _ (by omega),Z1K,Z0A _ (by omega) (by omega),if_neg (by omega),if_pos (by omega)]
  rfl
 | x :: r1,y :: r2,pre1,pre2,j + 1,eA,eB,hp,hj,h1,h2=>by
  have lA:A.length = pre1.length + (r1.length + 1):=by rw [eA]; simp
  have lB:B.length = pre1.length + (r2.length + 1):=by rw [eB,hp]; simp
  have gA:List.getD A pre1.length ByteArray.empty = x:=by rw [eA,Z0z]
  have gB:List.getD B pre1.length ByteArray.empty = y:=by rw [eB,hp,Z0z]
  obtain ⟨kx,x1,x2⟩:=h1 x List.mem_cons_self;obtain ⟨ky,y1,y2⟩:=h2 y List.mem_cons_self;have sx:x.data.toList.length ≤ 200:=x2;have sy:y.data.toList.length ≤ 200:=y2;obtain ⟨_,c1,_⟩:=ZAv x1 y1 sx sy n n (by omega) (by omega);rw [← Z3w,← Z3w] at c1;have key:=Z7i n hn A B hA hB r1 r2 (pre1 ++ [x]) (pre2 ++ [y]) j (by rw [eA]; simp) (by rw [eB]; simp) (by simp; omega) (by simp at hj; omega) (fun s hs=>h1 s (List.mem_cons_of_mem _ hs)) (fun s hs=>h2 s (List.mem_cons_of_mem _ hs));rw [← succ_mid'] at key;rw [ZCX n A B _ j _ (by omega) (by omega) (by omega),gA,gB,c1];simp only [Option.bind_some];show (if bc x y = 0 then _ else _) = some (if bc x y = 0 then Z3e bc r1 r2 else bc x y)
  by_cases hc:bc x y = 0
  ·rw [if_pos hc,if_pos hc]
   exact key
  ·rw [if_neg hc,if_neg hc]
   rfl
theorem Z1m (n:Nat) (hn:1000 ≤ n) (a b:List ByteArray) (ha:okT a) (hb:okT b):spec_l02Cmp.F n a b = some (tpc a b):=by
 unfold spec_l02Cmp.F;have h1:=ha.1;have h2:=hb.1;have c1:=Z7i n hn a b ha.1 hb.1 a b [] [] n rfl rfl rfl (by omega) ha.2 hb.2;simp only [List.length_nil] at c1;rw [show ((0:Nat):Int) = 0 from rfl] at c1;exact c1
theorem Z8T (n:Nat) (hn:1000 ≤ n) (a b:List ByteArray) (ha:okT a) (hb:okT b):impl_compareTuples.F n a b = some (tpc a b):=by
 obtain ⟨c,c1,c2,_⟩:=Z6s n n hn hn a b ha hb;rw [Z1m n hn a b ha hb] at c1;rw [c2,← c1]
def srt (l:List Tu):Prop:=l.Pairwise fun a b=>tpc a b < 0
theorem Z4r (n:Nat) (r:Re) (K:Unit → Option Bool):∀ (k i:Nat),r.2.length ≤ 400 → spec_RelOk.l1 n r K k (i:Int) = some true → (∀ t ∈ r.2,okT t) → 1000 ≤ n →
  ∀ j (h:j < r.2.length),i ≤ j → ((r.2[j]).length:Int) = r.1 ∧ (0 < j → tpc (r.2[j - 1]) (r.2[j]) < 0)
 | 0,i,hl,h,_,_,j,hj,hij=>by cases h
 | k + 1,i,hl,h,ok,hn,j,hj,hij=>by
  have hi:i < r.2.length:=by omega
  have g:List.getD r.2 i [] = r.2[i]:=by simp [hi]
  have okI:=ok _ (List.getElem_mem hi)
  by_cases e1:((List.getD r.2 i []).length:Int) = r.1
  ·cases hb:spec_TupleOk.F n (List.getD r.2 i []) with
   | none =>
    exfalso
    conv at h=>lhs; unfold spec_RelOk.l1
    rw [if_pos (by simp; omega),if_pos (by omega),Int.toNat_natCast,if_pos (by simpa using e1),if_pos (by omega),hb] at h;cases h
   | some b =>
    cases b with
    | false=>rw [RO_not n r K k i (by omega) hi e1 hb] at h; cases h
    | true =>
     by_cases h0:i = 0
     ·rw [Z9q n r K k i (by omega) hi e1 hb h0,show (i:Int) + 1 = ((i + 1:Nat):Int) by omega] at h
      by_cases e:j = i
      ·subst e
       exact ⟨by rw [← g]; exact e1,fun h=>by omega⟩
      ·exact Z4r n r K k (i + 1) hl h ok hn j hj (by omega)
     ·have hi1:i - 1 < r.2.length:=by omega
      have g1:List.getD r.2 (i - 1) [] = r.2[i - 1]:=by simp [hi1]
      have hc:=Z1m n hn _ _ (ok _ (List.getElem_mem hi1)) okI;rw [ZCU n r K k i (by omega) hi e1 hb (by omega) (by rw [g,g1]; exact hc)] at h
      split at h
      ·cases h
      ·rename_i hneg
       rw [show (i:Int) + 1 = ((i + 1:Nat):Int) by omega] at h
       by_cases e:j = i
       ·subst e
        exact ⟨by rw [← g]; exact e1,fun _=>by omega⟩
       ·exact Z4r n r K k (i + 1) hl h ok hn j hj (by omega)
  ·rw [RO_len n r K k i (by omega) hi e1] at h; cases h
theorem Z7j:∀ (l:List Tu),(∀ t ∈ l,okT t) → (∀ j (h:j < l.length),0 < j → tpc (l[j - 1]) (l[j]) < 0) → srt l
 | [],_,_=>List.Pairwise.nil
 | [a],_,_=>List.pairwise_singleton _ _
 | a :: b :: l,ok,h=>by
  have ih:=Z7j (b :: l) (fun t ht=>ok t (List.mem_cons_of_mem _ ht)) (fun j hj h0=>by
   have:=h (j + 1) (by simp only [List.length_cons] at hj ⊢; omega) (by omega);cases j with
   | zero=>omega
   | succ j=>exact this)
  have hab:tpc a b < 0:=h 1 (by simp) (by omega);refine List.pairwise_cons.2 ⟨fun c hc=>?_,ih⟩;rcases List.mem_cons.1 hc with rfl | hc
  ·exact hab
  ·exact tpc_ord.trans a b c (ok a (by simp)).2 (ok b (by simp)).2 (ok c (by simp [hc])).2 hab ((List.pairwise_cons.1 ih).1 c hc)
structure Z2X (r:Re):Prop where
 base:okR r
 len:∀ t ∈ r.2,(t.length:Int) = r.1
 srt:srt r.2
theorem relOk_is (n:Nat) (hn:1100000 ≤ n) (r:Re) (hb:okR r) (h:spec_RelOk.F n r = some true):Z2X r:=by
 have h2:spec_RelOk.l1 n r (fun _=>some true) n ((0:Nat):Int) = some true:=by
  unfold spec_RelOk.F at h;rw [Z0Y] at h;simp only [Option.bind_some] at h
  split at h
  ·split at h
   ·cases h
   ·exact h
  ·cases h
 have key:=Z4r n r _ n 0 hb.2.2.1 h2 hb.2.2.2 (by omega);refine ⟨hb,fun t ht=>?_,Z7j _ hb.2.2.2 (fun j hj h0=>(key j hj (Nat.zero_le _)).2 h0)⟩;obtain ⟨j,hj,rfl⟩:=List.getElem_of_mem ht;exact (key j hj (Nat.zero_le _)).1
end Go.Abs
