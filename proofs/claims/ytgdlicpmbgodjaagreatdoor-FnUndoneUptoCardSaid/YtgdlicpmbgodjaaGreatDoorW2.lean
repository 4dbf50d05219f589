/- A row put into rows in order: the program's search, and its put. Conditions: none. -/
import Derived.Test.YtgdlicpmbgodjaaGreatDoorW1
namespace Go.Abs
set_option linter.unusedVariables false
set_option linter.unusedSimpArgs false
theorem Z8D (t:Tu):∀ (rows:List Tu) (i:Nat) (h:i < rows.length),i < Z2V t rows → tpc rows[i] t < 0
 | [],i,h,_=>absurd h (Nat.not_lt_zero _)
 | x :: r,i,h,hp=>by
  unfold Z2V at hp
  split at hp
  ·rename_i hx
   cases i with
   | zero=>exact hx
   | succ i=>exact Z8D t r i (by simpa using h) (by omega)
  ·omega
theorem Z8E (t:Tu) (ht:∀ s ∈ t,okS s):∀ (rows:List Tu),(∀ x ∈ rows,∀ s ∈ x,okS s) → srt rows → ∀ (i:Nat) (h:i < rows.length),Z2V t rows ≤ i → ¬ tpc rows[i] t < 0
 | [],_,_,i,h,_=>absurd h (Nat.not_lt_zero _)
 | x :: r,ok,hs,i,h,hp=>by
  obtain ⟨h1,h2⟩:=List.pairwise_cons.1 hs;unfold Z2V at hp
  split at hp
  ·rename_i hx
   cases i with
   | zero=>omega
   | succ i=>exact Z8E t ht r (fun z hz=>ok z (List.mem_cons_of_mem _ hz)) h2 i (by simpa using h) (by omega)
  ·rename_i hx
   cases i with
   | zero=>exact hx
   | succ i =>
    intro hc;have hi:i < r.length:=by simpa using h
    have hm:r[i] ∈ r:=List.getElem_mem hi;exact hx (tpc_ord.trans x r[i] t (ok x List.mem_cons_self) (ok _ (List.mem_cons_of_mem _ hm)) ht (h1 _ hm) hc)
theorem posT_mem {t:Tu} (ht:∀ s ∈ t,okS s) {rows:List Tu} (ok:∀ x ∈ rows,∀ s ∈ x,okS s) (hs:srt rows):t ∈ rows ↔ ∃ h:Z2V t rows < rows.length,tpc rows[Z2V t rows] t = 0:=by
 constructor
 ·intro hm
  obtain ⟨i,hi,e⟩:=List.mem_iff_getElem.1 hm;have h0:tpc rows[i] t = 0:=(tpc_ord.zero _ _ (ok _ (List.getElem_mem hi)) ht).2 e;have hle:Z2V t rows ≤ i:=by
   refine Nat.not_lt.1 fun hlt=>?_
   have:=Z8D t rows i hi hlt;omega
  have hp:Z2V t rows < rows.length:=by omega
  refine ⟨hp,?_⟩
  by_cases hpi:Z2V t rows = i
  ·have:rows[Z2V t rows] = rows[i]:=by congr 1
   rw [this]; exact h0
  ·have h1:=List.pairwise_iff_getElem.1 hs (Z2V t rows) i hp hi (by omega)
   rw [e] at h1;exact absurd h1 (Z8E t ht rows ok hs _ hp (Nat.le_refl _))
 ·rintro ⟨h,h0⟩
  have:=(tpc_ord.zero _ _ (ok _ (List.getElem_mem h)) ht).1 h0;rw [← this];exact List.getElem_mem h
theorem Z9Q {t:Tu} (ht:∀ s ∈ t,okS s) {rows:List Tu} (ok:∀ x ∈ rows,∀ s ∈ x,okS s) (hn:¬ t ∈ rows):Z3u t rows = rows.take (Z2V t rows) ++ t :: rows.drop (Z2V t rows):=by
 rw [Z6a];have hle:=Z3n t rows
 by_cases h:Z2V t rows < rows.length
 ·rw [List.getElem?_eq_getElem h]
  dsimp only;rw [if_neg];intro h0;have:=(tpc_ord.zero _ _ (ok _ (List.getElem_mem h)) ht).1 h0;exact hn (this ▸ List.getElem_mem h)
 ·rw [List.getElem?_eq_none (by omega)]
  dsimp only;rw [List.take_of_length_le (by omega),List.drop_of_length_le (by omega)]
theorem Z9R {t:Tu} (ht:∀ s ∈ t,okS s) {rows:List Tu} (ok:∀ x ∈ rows,∀ s ∈ x,okS s) (hn:¬ t ∈ rows):(Z3u t rows).length = rows.length + 1:=by
 have hle:=Z3n t rows;rw [Z9Q ht ok hn];simp only [List.length_append,List.length_cons,List.length_take,List.length_drop];omega
theorem half {a b:Nat} (h:a + b ≤ 4294967296):IntKind.i64.wrap (Int.fdiv (IntKind.u64.wrap (IntKind.i64.wrap ((a:Int) + (b:Int)))) (2 ^ (min (Int.toNat 1) (IntKind.bits IntKind.u64)))) = (((a + b) / 2:Nat):Int):=by
 have e0:IntKind.i64.wrap ((a:Int) + (b:Int)) = ((a + b:Nat):Int):=by rw [Z0A _ (by omega) (by omega)]; omega
 have e1:IntKind.u64.wrap ((a + b:Nat):Int) = ((a + b:Nat):Int):=by rw [IntKind.wrap_u64]; omega
 have e2:(2:Int) ^ (min (Int.toNat 1) (IntKind.bits IntKind.u64)) = 2:=by decide
 rw [e0,e1,e2,Int.fdiv_eq_ediv_of_nonneg _ (by omega),Z0A _ (by omega) (by omega)];omega
theorem Z6K (n:Nat) (rows:List Tu) (t:Tu) (f:Tu × Tu × Unit → Option Int) (hf:∀ x ∈ rows,f (x,t,()) = some (tpc x t)) (ht:∀ s ∈ t,okS s) (ok:∀ x ∈ rows,∀ s ∈ x,okS s) (hs:srt rows) (hl:rows.length ≤ 1048576) (t6:Int) (K:Int → Option (Int × Bool)) :
  ∀ (k a b:Nat),a ≤ Z2V t rows → Z2V t rows ≤ b → b ≤ rows.length → b - a < k → slices_BinarySearchFunc_Tuple_Tuple_Tuple.l0 n rows f t6 t K k (a:Int) (b:Int) = K (Z2V t rows:Int)
 | 0,a,b,_,_,_,hk=>absurd hk (Nat.not_lt_zero _)
 | k + 1,a,b,ha,hb,hbl,hk=>by
  by_cases h:a < b
  ·have hm:(a + b) / 2 < rows.length:=by omega
   conv=>lhs; unfold slices_BinarySearchFunc_Tuple_Tuple_Tuple.l0
   rw [if_pos (by simpa using h),half (by omega),if_pos (inl' hm),Z0c _ hm,hf _ (List.getElem_mem hm),Option.bind_some,wr1 (by omega)]
   by_cases hc:tpc rows[(a + b) / 2] t < 0
   ·rw [if_pos (by simpa using hc)]
    have:(a + b) / 2 < Z2V t rows:=Nat.not_le.1 fun hge=>Z8E t ht rows ok hs _ hm hge hc
    exact Z6K n rows t f hf ht ok hs hl t6 K k _ b (by omega) hb hbl (by omega)
   ·rw [if_neg (by simpa using hc)]
    have:Z2V t rows ≤ (a + b) / 2:=Nat.not_lt.1 fun hlt=>hc (Z8D t rows _ hm hlt)
    exact Z6K n rows t f hf ht ok hs hl t6 K k a _ ha this (by omega) (by omega)
  ·conv=>lhs; unfold slices_BinarySearchFunc_Tuple_Tuple_Tuple.l0
   rw [if_neg (by simp; omega)]
   congr 1
   omega
theorem ZB5 (n:Nat) (rows:List Tu) (t:Tu) (f:Tu × Tu × Unit → Option Int) (hf:∀ x ∈ rows,f (x,t,()) = some (tpc x t)) (ht:∀ s ∈ t,okS s) (ok:∀ x ∈ rows,∀ s ∈ x,okS s) (hs:srt rows) (hl:rows.length ≤ 1048576) (hn:rows.length < n) :
  slices_BinarySearchFunc_Tuple_Tuple_Tuple.F n rows t f = some ((Z2V t rows:Int),inL t rows):=by
 have hle:=Z3n t rows;unfold slices_BinarySearchFunc_Tuple_Tuple_Tuple.F;have:=fun K=>Z6K n rows t f hf ht ok hs hl (rows.length:Int) K n 0 rows.length (Nat.zero_le _) hle (Nat.le_refl _) (by omega)
 rw [show ((0:Nat):Int) = 0 from rfl] at this;rw [this];have hm:=posT_mem ht ok hs
 by_cases h:Z2V t rows < rows.length
 ·rw [if_pos (dlt h),if_pos (inl' h),Z0c _ h,hf _ (List.getElem_mem h),Option.bind_some]
  by_cases h0:tpc rows[Z2V t rows] t = 0
  ·rw [Z1C.2 (hm.2 ⟨h,h0⟩)]; simp [h0]
  ·have:inL t rows = false:=by
    cases hi:inL t rows with
    | false=>rfl
    | true=>obtain ⟨_,h1⟩:=hm.1 (Z1C.1 hi); exact absurd h1 h0
   rw [this]; simp [h0]
 ·rw [if_neg (dnl h)]
  have:inL t rows = false:=by
   cases hi:inL t rows with
   | false=>rfl
   | true=>obtain ⟨h1,_⟩:=hm.1 (Z1C.1 hi); exact absurd h1 h
  rw [this]
def Z5K (b:Bool) (r:Re) (t:Tu):Bool:=b && decide ((t.length:Int) = r.1) && !inL t r.2 && decide (r.2.length < 400)
theorem ZBI (n:Nat) (hn:1100000 ≤ n) (r:Re) (R:Z2X r) (t:Tu) (b:Bool) (hb:impl_isTuple.F n t = some b) (hok:b = true → okT t) :
  ∃ q,impl_RelPut.F n r t = some (q,Z5K b r t) ∧ (Z5K b r t = true → q = (r.1,Z3u t r.2)):=by
 have h4:=R.base.2.2.1;unfold impl_RelPut.F;rw [isRel_mk n hn r R,Option.bind_some,if_pos (by simp),hb,Option.bind_some];cases b with
 | false=>exact ⟨(0,[]),by rw [if_neg (by simp)]; simp [Z5K],fun h=>by simp [Z5K] at h⟩
 | true =>
  have T:=hok rfl;rw [if_pos (by simp)]
  by_cases hl:(t.length:Int) = r.1
  ·rw [if_neg (by simp [hl])]
   unfold impl_RelPut.j0;have okr:∀ x ∈ r.2,∀ s ∈ x,okS s:=fun x hx=>(R.base.2.2.2 x hx).2
   rw [Z65 n hn r R,Option.bind_some,ZB5 n r.2 t _ (fun x hx=>by
    show ((impl_compareTuples.F n x t).bind some) = _;rw [Z8T n (by omega) x t (R.base.2.2.2 x hx) T]
    rfl) T.2 okr R.srt (by omega) (by omega),Option.bind_some]
   by_cases hi:inL t r.2 = true
   ·exact ⟨r,by rw [if_pos hi]; simp [Z5K,hi],fun h=>by simp [Z5K,hi] at h⟩
   ·rw [if_neg hi]
    have hi':inL t r.2 = false:=by simpa using hi
    have hnm:¬ t ∈ r.2:=fun h=>hi (Z1C.2 h)
    by_cases h400:r.2.length = 400
    ·exact ⟨(0,[]),by rw [if_pos (by simp [h400])]; simp [Z5K,h400],fun h=>by simp [Z5K,h400] at h⟩
    ·have hlt:r.2.length < 400:=by omega
     have h6:=T.1;have hle:=Z3n t r.2;rw [if_neg (by simp; omega),Z4A n t (by omega),Option.bind_some];unfold slices_Insert_Tuple_Tuple.F insF;rw [if_pos (by
      simp only [lim,List.length_cons,List.length_nil];refine ⟨by omega,by show (Z2V t r.2:Int) ≤ (r.2.length:Int); omega,by omega,?_⟩;show r.2.length + 1 ≤ 4294967296
      omega),Option.bind_some]
     refine ⟨(r.1,Z3u t r.2),?_,fun _=>rfl⟩;have:Z5K true r t = true:=by simp [Z5K,hl,hi',hlt]
     rw [this,Z9Q T.2 okr hnm]
     simp
  ·exact ⟨(0,[]),by rw [if_pos (by simp [hl])]; simp [Z5K,hl],fun h=>by simp [Z5K,hl] at h⟩
theorem ZBb {r:Re} (R:Z2X r) {t:Tu} (T:okT t) (hl:(t.length:Int) = r.1) (hi:¬ t ∈ r.2) (h4:r.2.length < 400):Z2X (r.1,Z3u t r.2):=by
 have okr:∀ x ∈ r.2,∀ s ∈ x,okS s:=fun x hx=>(R.base.2.2.2 x hx).2
 have hm:=Z2O okr T.2;obtain ⟨b0,b1,b2,b3⟩:=R.base;refine ⟨⟨b0,b1,?_,fun x hx=>?_⟩,fun x hx=>?_,Z4W okr T.2 R.srt⟩
 ·show (Z3u t r.2).length ≤ 400
  rw [Z9R T.2 okr hi]; omega
 ·rcases (hm x).1 hx with rfl | h
  ·exact T
  ·exact b3 x h
 ·rcases (hm x).1 hx with rfl | h
  ·exact hl
  ·exact R.len x h
theorem ZAH {r:Re} (R:Z2X r) (b:List Tu):Z2X (r.1,Z10 r.2 b):=by
 obtain ⟨b0,b1,b2,b3⟩:=R.base;have hs:(Z10 r.2 b).Sublist r.2:=List.filter_sublist;exact ⟨⟨b0,b1,Nat.le_trans hs.length_le b2,fun x hx=>b3 x (hs.subset hx)⟩,fun x hx=>R.len x (hs.subset hx),List.Pairwise.sublist hs R.srt⟩
theorem ZBa {r:Re} (R:Z2X r) {t:Tu} (h:t ∈ r.2):Z2X (r.1,[t]):=by
 obtain ⟨b0,b1,b2,b3⟩:=R.base;refine ⟨⟨b0,b1,by show 1 ≤ 400; omega,fun x hx=>?_⟩,fun x hx=>?_,List.pairwise_singleton _ _⟩
 ·rw [List.mem_singleton.1 hx]; exact b3 t h
 ·rw [List.mem_singleton.1 hx]; exact R.len t h
theorem Z6x (n:Nat) (hn:1100000 ≤ n) (r:Re) (R:Z2X r) (t:Tu) (h:t ∈ r.2):spec_RelLess.F n r (r.1,[t]) = some (r.1,Z10 r.2 [t]):=by
 have h4:=R.base.2.2.1;unfold spec_RelLess.F;rw [Z4Q n hn r R,Option.bind_some,if_pos (by simp),Z4Q n hn _ (ZBa R h),Option.bind_some,if_pos (by simp),if_neg (by simp)];unfold spec_RelLess.j0;have:=Z2p n r (r.1,[t]) (0,[]) (fun x=>some x) (by omega) (by show 1 ≤ _; omega) (by show 1 < n; omega) (fun x hx=>by have:=(R.base.2.2.2 x hx).1; omega) (fun x hx=>by
  rw [List.mem_singleton.1 hx]; have:=(R.base.2.2.2 t h).1; omega) n 0 r.1 (Nat.zero_le _) (by omega)
 rw [show ((0:Nat):Int) = 0 from rfl,List.take_zero] at this;exact this
theorem del_eq (n:Nat) (hn:1100000 ≤ n) (r:Re) (R:Z2X r) (f:Tu × Unit → Option Bool) (t:Tu) (hf:∀ x ∈ r.2,f (x,()) = some (decide (x = t))):slices_DeleteFunc_Tuple_Tuple.F n r.2 f = some (Z10 r.2 [t]):=by
 have h4:=R.base.2.2.1;unfold slices_DeleteFunc_Tuple_Tuple.F delF;rw [if_pos (by omega),Z49 (q:=fun x=>decide (x = t)) (fun x hx=>hf x hx)];unfold Z10
 congr 2
 funext x
 have:inL x [t] = decide (x = t):=by
  unfold inL
  by_cases e:x = t
  ·simp [e]
  ·have:¬ t = x:=fun h=>e h.symm
   simp [e,this]
 rw [this]
end Go.Abs
