/- Functions of the library, by hand. Conditions: none. -/
import Derived.Test.YtgdlicpmbgodjaaGreatDoorLb
import Derived.Test.YtgdlicpmbgodjaaGreatDoorPl
import Derived.Test.YtgdlicpmbgodjaaGreatDoorRF0
import Derived.Test.YtgdlicpmbgodjaaGreatDoorBkE
import Derived.Test.YtgdlicpmbgodjaaGreatDoorInsF
namespace Go.Abs
open Go.Proofs
set_option linter.unusedVariables false
namespace impl_Back
def F (n:Nat) (xs:List CHK.T):Option (List CHK.T):=ZCF xs
def ent (n:Nat):Z0W:=⟨[.ro (.sl CHK)],[.ro (.sl CHK)],fun v=>F n v.1⟩
theorem ok (n:Nat):Z07 Tryz.prog 29 (ent n):=ent_back
end impl_Back
namespace R.slices_DeleteFunc_Tuple_Tuple
theorem ix (n:Nat) (raws:List (List Value)) (pr:(List Value × Unit) → Option Bool) (q:Nat → Bool) (hp:∀ j (h:j < raws.length),pr (raws[j],()) = some (q j)) (hl:raws.length ≤ 1152921504606846976) (K0:Unit → Option Int):∀ (k i:Nat),i ≤ raws.length → raws.length - i < k →
  (∃ j,i ≤ j ∧ j < raws.length ∧ q j = true ∧ (∀ t,i ≤ t → t < j → q t = false) ∧ R.slices_IndexFunc_Tuple_Tuple.l0 n raws pr (raws.length:Int) K0 k (i:Int) = some (j:Int)) ∨
  ((∀ t,i ≤ t → t < raws.length → q t = false) ∧ R.slices_IndexFunc_Tuple_Tuple.l0 n raws pr (raws.length:Int) K0 k (i:Int) = K0 ())
 | 0,i,hi,hk=>absurd hk (Nat.not_lt_zero _)
 | k + 1,i,hi,hk=>by
  by_cases h:i < raws.length
  ·have e1:List.getD raws (Int.toNat (i:Int)) (Kd.zc (.st (.sl (.str)))) = raws[i]:=by simp [h]
   have e2:IntKind.i64.wrap ((i:Int) + 1) = ((i + 1:Nat):Int):=by rw [Z0A _ (by omega) (by omega)]; omega
   have hd:decide ((i:Int) < (raws.length:Int)) = true:=by simp [h]
   have hr:(0:Int) ≤ (i:Int) ∧ (i:Int) < (raws.length:Int):=by omega
   have step:R.slices_IndexFunc_Tuple_Tuple.l0 n raws pr (raws.length:Int) K0 (k + 1) (i:Int) = if q i = true then some (i:Int) else R.slices_IndexFunc_Tuple_Tuple.l0 n raws pr (raws.length:Int) K0 k ((i + 1:Nat):Int):=by
    rw [← e2];show (if decide ((i:Int) < (raws.length:Int)) = true then _ else _) = _;rw [if_pos hd,if_pos hr,e1,hp i h]
    rfl
   rw [step];cases hq:q i with
   | true=>exact .inl ⟨i,Nat.le_refl _,h,hq,fun t h1 h2=>absurd h2 (by omega),by simp⟩
   | false =>
    simp only [Bool.false_eq_true,if_false];rcases ix n raws pr q hp hl K0 k (i + 1) (by omega) (by omega) with ⟨j,h1,h2,h3,h4,h5⟩ | ⟨h1,h2⟩
    ·refine .inl ⟨j,by omega,h2,h3,fun t h6 h7=>?_,h5⟩
     by_cases ht:t = i
     ·rw [ht]; exact hq
     ·exact h4 t (by omega) h7
    ·refine .inr ⟨fun t h6 h7=>?_,h2⟩
     by_cases ht:t = i
     ·rw [ht]; exact hq
     ·exact h1 t (by omega) h7
  ·refine .inr ⟨fun t h1 h2=>absurd h2 (by omega),?_⟩
   show (if decide ((i:Int) < (raws.length:Int)) = true then _ else _) = _;rw [if_neg (by simp; omega)]
theorem lp (n:Nat) (raws:List (List Value)) (pr:(List Value × Unit) → Option Bool) (q:Nat → Bool) (hp:∀ j (h:j < raws.length),pr (raws[j],()) = some (q j)) (hl:raws.length ≤ 1152921504606846976) (K0:Int → List (List Value) → Option (List (List Value))):∀ (k i j:Nat) (s:List (List Value)),raws.length - j < k → i ≤ j → j ≤ raws.length → s.length = raws.length →
  s.drop j = raws.drop j → s.take i = kp q (raws.take j) 0 → ∃ (i':Nat) (s':List (List Value)),R.slices_DeleteFunc_Tuple_Tuple.l0 n pr K0 k (i:Int) (j:Int) s = K0 (i':Int) s' ∧ s'.length = raws.length ∧ i' ≤ raws.length ∧ s'.take i' = kp q raws 0
 | 0,i,j,s,hk,_,_,_,_,_=>absurd hk (Nat.not_lt_zero _)
 | k + 1,i,j,s,hk,hij,hj,hs,hd,ht=>by
  by_cases h:j < raws.length
  ·have hjs:j < s.length:=by omega
   have e0:s[j] = raws[j]:=by
    have:=congrArg (fun l=>l[0]?) hd;simp only [List.getElem?_drop,Nat.add_zero] at this;rw [List.getElem?_eq_getElem hjs,List.getElem?_eq_getElem h] at this;exact Option.some.inj this
   have e1:List.getD s (Int.toNat (j:Int)) (Kd.zc (.st (.sl (.str)))) = raws[j]:=by
    rw [← e0]; simp [hjs]
   have e2:IntKind.i64.wrap ((j:Int) + 1) = ((j + 1:Nat):Int):=by rw [Z0A _ (by omega) (by omega)]; omega
   have e3:IntKind.i64.wrap ((i:Int) + 1) = ((i + 1:Nat):Int):=by rw [Z0A _ (by omega) (by omega)]; omega
   have hdj:decide ((j:Int) < (s.length:Int)) = true:=by simp [hjs]
   have hr:(0:Int) ≤ (j:Int) ∧ (j:Int) < (s.length:Int):=by omega
   have hri:(0:Int) ≤ (i:Int) ∧ (i:Int) < (s.length:Int):=by omega
   have e4:kp q (raws.take (j + 1)) 0 = kp q (raws.take j) 0 ++ (if q j then [] else [raws[j]]):=by
    rw [List.take_succ_eq_append_getElem h,Z59,List.length_take,Nat.min_eq_left (by omega)];simp only [kp,Nat.zero_add]
   have e5:s.drop (j + 1) = raws.drop (j + 1):=by
    have:=congrArg (List.drop 1) hd;simpa [List.drop_drop] using this
   have step:R.slices_DeleteFunc_Tuple_Tuple.l0 n pr K0 (k + 1) (i:Int) (j:Int) s = if (!q j) = true then R.slices_DeleteFunc_Tuple_Tuple.l0 n pr K0 k ((i + 1:Nat):Int) ((j + 1:Nat):Int) (s.set i raws[j]) else R.slices_DeleteFunc_Tuple_Tuple.l0 n pr K0 k (i:Int) ((j + 1:Nat):Int) s:=by
    rw [← e2,← e3];show (if decide ((j:Int) < (s.length:Int)) = true then _ else _) = _;rw [if_pos hdj,if_pos hr,e1,hp j h];simp only [Option.bind_some];rw [if_pos hri]
    rfl
   rw [step];cases hq:q j with
   | true =>
    simp only [Bool.not_true,Bool.false_eq_true,if_false];refine lp n raws pr q hp hl K0 k i (j + 1) s (by omega) (by omega) (by omega) hs e5 ?_;rw [e4,hq,ht]
    simp
   | false =>
    simp only [Bool.not_false,if_true];refine lp n raws pr q hp hl K0 k (i + 1) (j + 1) _ (by omega) (by omega) (by omega) (by simp [hs]) ?_ ?_
    ·rw [List.drop_set_of_lt (by omega)]; exact e5
    ·rw [e4,hq,← ht,List.take_succ_eq_append_getElem (by simp; omega)]
     simp [List.take_set_of_le]
  ·refine ⟨i,s,?_,hs,by omega,?_⟩
   ·show (if decide ((j:Int) < (s.length:Int)) = true then _ else _) = _
    rw [if_neg (by simp; omega)]
   ·rw [ht,show j = raws.length by omega,List.take_length]
theorem fr (n:Nat) (raws:List (List Value)) (pr:(List Value × Unit) → Option Bool) (q:Nat → Bool) (hp:∀ j (h:j < raws.length),pr (raws[j],()) = some (q j)) (hn:raws.length < n) (hl:raws.length ≤ 1152921504606846976):R.slices_DeleteFunc_Tuple_Tuple.F n raws pr = some (kp q raws 0):=by
 unfold R.slices_DeleteFunc_Tuple_Tuple.F;have hI:R.slices_IndexFunc_Tuple_Tuple.F n raws pr = R.slices_IndexFunc_Tuple_Tuple.l0 n raws pr (raws.length:Int) (fun _=>some (-1)) n ((0:Nat):Int):=rfl;rw [hI];rcases ix n raws pr q hp hl (fun _=>some (-1)) n 0 (Nat.zero_le _) (by omega) with ⟨j,h1,h2,h3,h4,h5⟩ | ⟨h1,h2⟩
 ·rw [h5]
  simp only [Option.bind_some];rw [if_neg (by rw [decide_eq_true_eq]; omega)];have e3:IntKind.i64.wrap ((j:Int) + 1) = ((j + 1:Nat):Int):=by rw [Z0A _ (by omega) (by omega)]; omega
  rw [e3];obtain ⟨i',s',k1,k2,k3,k4⟩:=lp n raws pr q hp hl _ n j (j + 1) raws (by omega) (by omega) (by omega) rfl rfl (by
   rw [List.take_succ_eq_append_getElem h2,Z59,List.length_take,Nat.min_eq_left (by omega)];simp only [kp,Nat.zero_add,h3,if_true,List.append_nil];exact (Z8R q _ 0 (fun t h6 h7=>h4 t (by omega) (by rw [List.length_take] at h7; omega))).symm)
  rw [k1];rw [if_pos (by omega),if_pos (by
   simp only [List.length_append,List.length_take,List.length_replicate,List.length_drop]
   omega)]
  rw [← k4]
  congr 1
  simp only [Int.toNat_natCast,Int.toNat_zero,List.drop_zero];rw [List.take_append_of_le_length (by rw [List.length_take]; omega),List.take_take,Nat.min_self]
 ·rw [h2]
  simp only [Option.bind_some];rw [if_pos (by simp)];rw [Z8R q raws 0 (fun t h6 h7=>h1 t h6 (by omega))]
end R.slices_DeleteFunc_Tuple_Tuple
namespace slices_DeleteFunc_Tuple_Tuple
def F (n:Nat) (xs:List (Kd.T (.sl (.str)))) (p:Kd.T (.sl (.str)) × Unit → Option Bool):Option (List (Kd.T (.sl (.str)))):=delF n xs p
def ent (n:Nat):Z0W:=⟨liA (.st (.sl (.str))) (.own .ro),liR (.st (.sl (.str))) (.own .ro),fun v=>F n v.1 v.2.1⟩
theorem ok (n:Nat):Z07 Tryz.prog 90 (ent n):=by
 refine ent_lift (.sl (.str)) (.own .ro) (R.slices_DeleteFunc_Tuple_Tuple.ok n) fun xs p zs h raws pr hlen hpr=>?_
 have h':delF n xs p = some zs:=h;unfold delF at h'
 split at h'
 ·rename_i hn
  let q:Nat → Bool:=fun i=>match xs[i]? with | some x=>(p (x,())).getD false | none=>false
  obtain ⟨h1,h2⟩:=Z9c q 0 h' (fun j hj b hb=>by
   simp only [q,Nat.zero_add,List.getElem?_eq_getElem hj,hb,Option.getD_some])
  simp only [Nat.zero_add] at h2;refine ⟨kp q (List.range xs.length) 0,List.Sublist.nodup (Z9N q _ _) List.nodup_range,fun i hi=>List.mem_range.1 ((Z9N q _ _).subset hi),?_,?_⟩
  rotate_left
  ·rw [← ZBl,← hlen,Z5h]
   exact R.slices_DeleteFunc_Tuple_Tuple.fr n raws pr q (fun j hj=>(hpr j (by omega) hj).trans (h2 j (by omega))) (by omega) (by omega)
  ·rw [← ZBl,Z5h]
   exact h1
 ·cases h'
end slices_DeleteFunc_Tuple_Tuple
namespace slices_Insert_Tuple_Tuple
def F (n:Nat) (xs:List TU.T) (i:Int) (vs:List TU.T):Option (List TU.T):=insF xs i vs
def ent (n:Nat):Z0W:=⟨insA (.own .ro),insR (.own .ro),fun v=>F n v.1 v.2.1 v.2.2.1⟩
theorem ok (n:Nat):Z07 Tryz.prog 140 (ent n):=ent_ins (.own .ro)
end slices_Insert_Tuple_Tuple
end Go.Abs
