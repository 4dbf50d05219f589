/- The draws of two Dbs. Conditions: none. -/
import Derived.Test.YtgdlicpmbgodjaaGreatDoorK3
namespace Go.Abs
set_option linter.unusedVariables false
set_option linter.unusedSimpArgs false
abbrev Cur:Type:=List Int × Int × Int
structure CurOk (N:Nat) (c:Cur):Prop where
 bs:∀ b ∈ c.1,0 ≤ b ∧ b ≤ 255
 len:c.1.length ≤ 1048576
 at0:0 ≤ c.2.1
 at1:c.2.1 ≤ (N:Int)
 sd0:0 ≤ c.2.2
 sd1:c.2.2 ≤ 65520
theorem CurOk.mono {N M:Nat} {c:Cur} (h:CurOk N c) (hm:N ≤ M):CurOk M c:=⟨h.bs,h.len,h.at0,by have:=h.at1; omega,h.sd0,h.sd1⟩
def Yields {α:Type} (N K:Nat) (o:Option (α × Cur)) (P:α → Prop):Prop:=∃ v c,o = some (v,c) ∧ CurOk (N + K) c ∧ P v
theorem Yields.mono {α:Type} {N K L:Nat} {o:Option (α × Cur)} {P Q:α → Prop} (h:Yields N K o P) (hk:K ≤ L) (hp:∀ v,P v → Q v):Yields N L o Q:=by
 obtain ⟨v,c,e,h1,h2⟩:=h;exact ⟨v,c,e,h1.mono (by omega),hp v h2⟩
theorem Yields.bind {α β:Type} {N K L M:Nat} {o:Option (α × Cur)} {f:α × Cur → Option (β × Cur)} {P:α → Prop} {Q:β → Prop} (h:Yields N K o P) (hm:K + L ≤ M) (hf:∀ v c,CurOk (N + K) c → P v → Yields (N + K) L (f (v,c)) Q):Yields N M (o.bind f) Q:=by
 obtain ⟨v,c,e,h1,h2⟩:=h;obtain ⟨u,d,e2,h3,h4⟩:=hf v c h1 h2;exact ⟨u,d,by rw [e]; exact e2,h3.mono (by omega),h4⟩
theorem Yields.ret {α:Type} {N K:Nat} {v:α} {c:Cur} {P:α → Prop} (hc:CurOk N c) (hp:P v):Yields N K (some (v,c)) P:=⟨v,c,rfl,hc.mono (by omega),hp⟩
theorem Z2P {α:Type} {P:α → Prop} {l:List α} {d:α} (h:∀ x ∈ l,P x) (hd:P d) (i:Nat):P (List.getD l i d):=by
 rw [List.getD_eq_getElem?_getD];cases e:l[i]? with
 | none=>exact hd
 | some x=>exact h x (List.mem_of_getElem? e)
theorem pick_j0 {n N:Nat} {k x:Int} {c:Cur} (hc:CurOk N c) (hN:N ≤ 4000000000000000000) (hk:2 ≤ k) (hx:0 ≤ x):Yields N 1 (spec_l01Cur_pick.j0 n k x c) fun r=>0 ≤ r ∧ r < k:=by
 unfold spec_l01Cur_pick.j0;have h0:=hc.at0;have h1:=hc.at1;rw [if_neg (by omega),Z0A _ (by omega) (by omega)];exact ⟨_,_,rfl,⟨hc.bs,hc.len,by show 0 ≤ c.2.1 + 1; omega,by show c.2.1 + 1 ≤ _; omega,hc.sd0,hc.sd1⟩,Int.tmod_nonneg _ hx,Int.tmod_lt_of_pos _ (by omega)⟩
theorem Z2b {n N:Nat} {k:Int} {c:Cur} (hc:CurOk N c) (hN:N ≤ 4000000000000000000):Yields N 1 (spec_l01Cur_pick.F n c k) fun r=>0 ≤ r ∧ (r < k ∨ r = 0):=by
 unfold spec_l01Cur_pick.F
 by_cases hk:k < 2
 ·rw [if_pos (by simpa using hk)]
  exact .ret hc ⟨Int.le_refl _,.inr rfl⟩
 ·rw [if_neg (by simpa using hk)]
  have h0:=hc.at0;have s0:=hc.sd0;have s1:=hc.sd1;have byte:∀ i:Nat,0 ≤ List.getD c.1 i 0 ∧ List.getD c.1 i 0 ≤ 255:=fun i=>Z2P (P:=fun b:Int=>0 ≤ b ∧ b ≤ 255) hc.bs ⟨by omega,by omega⟩ i
  have fin:∀ {c:Cur} {x:Int},CurOk N c → 0 ≤ x → Yields N 1 (spec_l01Cur_pick.j0 n k x c) fun r=>0 ≤ r ∧ (r < k ∨ r = 0):=fun hc hx=>(pick_j0 hc hN (by omega) hx).mono (Nat.le_refl _) fun v h=>⟨h.1,.inl h.2⟩
  by_cases ha:c.2.1 < (c.1.length:Int)
  ·rw [if_pos (by simpa using ha),if_pos ⟨h0,ha⟩]
   have:=byte (Int.toNat c.2.1);rw [Z0A _ (by omega) (by omega)];exact fin hc this.1
  ·rw [if_neg (by simpa using ha)]
   have e1:IntKind.i64.wrap (c.2.2 * 1103) = c.2.2 * 1103:=Z0A _ (by omega) (by omega);have e2:IntKind.i64.wrap (c.2.2 * 1103 + 12345) = c.2.2 * 1103 + 12345:=Z0A _ (by omega) (by omega);rw [e1,e2];have m0:0 ≤ Int.tmod (c.2.2 * 1103 + 12345) 65521:=Int.tmod_nonneg _ (by omega);have m1:Int.tmod (c.2.2 * 1103 + 12345) 65521 < 65521:=Int.tmod_lt_of_pos _ (by omega);have hc2:CurOk N (c.1,(c.2.1,Int.tmod (c.2.2 * 1103 + 12345) 65521)):=⟨hc.bs,hc.len,hc.at0,hc.at1,m0,by show Int.tmod (c.2.2 * 1103 + 12345) 65521 ≤ 65520; omega⟩
   by_cases hl:(c.1.length:Int) > 0
   ·have t0:0 ≤ Int.tmod c.2.1 (c.1.length:Int):=Int.tmod_nonneg _ h0
    have t1:Int.tmod c.2.1 (c.1.length:Int) < (c.1.length:Int):=Int.tmod_lt_of_pos _ hl;rw [if_pos (by simpa using hl),if_neg (by omega),if_pos ⟨t0,t1⟩];refine fin hc2 ?_;have b:=byte (Int.toNat (Int.tmod c.2.1 (c.1.length:Int)));have d0:0 ≤ Int.tdiv (Int.tmod (c.2.2 * 1103 + 12345) 65521) 7:=Int.tdiv_nonneg m0 (by omega);have d1:Int.tdiv (Int.tmod (c.2.2 * 1103 + 12345) 65521) 7 ≤ 65521:=Int.le_trans (Int.tdiv_le_self _ m0) (by omega);rw [Z0A (Int.tdiv _ 7) (by omega) (by omega),Z0A (List.getD c.1 _ 0) (by omega) (by omega),Z0A _ (by omega) (by omega)];omega
   ·rw [if_neg (by simpa using hl)]
    exact fin hc2 (Int.le_refl _)
theorem Z1N {n N:Nat} {k:Int} {c:Cur} (hc:CurOk N c) (hN:N ≤ 4000000000000000000) (hk:1 ≤ k):Yields N 1 (spec_l01Cur_pick.F n c k) fun r=>0 ≤ r ∧ r < k:=(Z2b hc hN).mono (Nat.le_refl _) fun v h=>by omega
theorem Z3o {n N:Nat} {k:Int} {c:Cur} (hc:CurOk N c) (hN:N ≤ 4000000000000000000):Yields N 1 (spec_l01Cur_once.F n c k) fun _=>True:=by
 unfold spec_l01Cur_once.F;exact (Z2b hc hN).bind (L:=0) (by omega) fun v c hc _=>.ret hc trivial
theorem size_ok {n N:Nat} {k:Int} {c:Cur} (hc:CurOk N c) (hN:N ≤ 4000000000000000000) (h0:0 ≤ k) (h1:k ≤ 1000):Yields N 1 (spec_l01Cur_size.F n c k) fun r=>0 ≤ r ∧ r ≤ k:=by
 unfold spec_l01Cur_size.F;have hl:=hc.len;have d0:0 ≤ Int.tdiv (c.1.length:Int) 8:=Int.tdiv_nonneg (by omega) (by omega);have d1:Int.tdiv (c.1.length:Int) 8 ≤ (c.1.length:Int):=Int.tdiv_le_self _ (by omega);rw [Z0A (Int.tdiv _ 8) (by omega) (by omega),Z0A (1 + _) (by omega) (by omega),Z0A (k + 1) (by omega) (by omega),Z0A (1 + Int.tdiv _ 8 + 1) (by omega) (by omega)]
 split
 ·exact (Z1N hc hN (by omega)).bind (L:=0) (by omega) fun v c hc hv=>.ret hc (by omega)
 ·rename_i hk
  simp only [decide_eq_true_eq] at hk;exact (Z1N hc hN (by omega)).bind (L:=0) (by omega) fun v c hc hv=>.ret hc (by omega)
theorem ZBL {n N:Nat} {c:Cur} (hc:CurOk N c) (hN:N ≤ 3000000000000000000):Yields N 2 (spec_l01Cur_raw.F n c) fun _=>True:=by
 unfold spec_l01Cur_raw.F;refine (Z2b hc (by omega)).bind (L:=1) (by omega) fun v c hc hv=>?_
 dsimp only
 split
 ·exact (Z2b hc (by omega)).bind (L:=0) (by omega) fun v c hc hv=>.ret hc trivial
 ·split
  ·refine (Z1N hc (by omega) (by omega)).bind (L:=0) (by omega) fun v c hc hv=>?_
   dsimp only;rw [if_pos (by simp; omega)];exact .ret hc trivial
  ·exact (Z2b hc (by omega)).bind (L:=0) (by omega) fun v c hc hv=>.ret hc trivial
theorem Z5D {x:Int} (h0:-1000000 ≤ x) (h1:x ≤ 1000000):(Lib.itoa x).length ≤ 8:=by
 obtain ⟨v,hv,⟨_,_,e⟩ | ⟨_,e⟩⟩:=Z3t h0 h1 <;> rw [e] <;> have:=(Z9d hv).2 <;> simp <;> omega
structure TSelf (n:Nat) (self:Cur → Int → Option (ByteArray × Cur)) (d:Int) (K B M:Nat):Prop where
 hn:1100000 ≤ n
 hM:M ≤ 3000000000000000000
 hd:d ≤ 1000
 hd0:-1000 ≤ d
 hs:0 < d → ∀ (c:Cur) (N:Nat),CurOk N c → N ≤ M → Yields N K (self c (d - 1)) fun s=>s.size ≤ B
 hK:K ≤ 1000000
 hB:8 ≤ B
 hB2:B ≤ 1000000
section
variable {n:Nat} {self:Cur → Int → Option (ByteArray × Cur)} {d:Int} {K B M:Nat} (H:TSelf n self d K B M)
include H
theorem term_j3 {N:Nat} {c:Cur} (hc:CurOk N c) (hN:N + 3 * K + 1 ≤ M) (h0:0 < d):Yields N (3 * K) (spec_l01Cur_term.j3 n self d c) fun s=>s.size ≤ 3 * B + 8:=by
 obtain ⟨hn,hM,hd,hd0,hs,hK,hB,hB2⟩:=id H;unfold spec_l01Cur_term.j3;rw [Z0A (d - 1) (by omega) (by omega)];refine (hs h0 c N hc (by omega)).bind (L:=2 * K) (by omega) fun a c hc ha=>?_
 dsimp only;have z1:ByteArray.size ⟨#[78,111,100,101,40]⟩ = 5:=rfl;have z2:ByteArray.size ⟨#[44]⟩ = 1:=rfl;have z3:ByteArray.size ⟨#[41]⟩ = 1:=rfl;rw [if_pos (by rw [z1]; simp only [lim]; omega),if_pos (by rw [ByteArray.size_append,z1,z2]; simp only [lim]; omega)];refine (hs h0 c _ hc (by omega)).bind (L:=K) (by omega) fun b c hc hb=>?_
 dsimp only;rw [if_pos (by simp only [ByteArray.size_append,z1,z2,lim]; omega),if_pos (by simp only [ByteArray.size_append,z1,z2,lim]; omega)];refine (hs h0 c _ hc (by omega)).bind (L:=0) (by omega) fun e c hc he=>?_
 dsimp only;rw [if_pos (by simp only [ByteArray.size_append,z1,z2,lim]; omega),if_pos (by simp only [ByteArray.size_append,z1,z2,z3,lim]; omega)];exact .ret hc (by simp only [ByteArray.size_append,z1,z2,z3]; omega)
theorem ZAs {N:Nat} {c:Cur} {t:Int} {b:Bool} {Kn:Unit → Option (ByteArray × Cur)} (hc:CurOk N c) (hN:N + 3 * K + 1 ≤ M) (h0:0 < d) (hk:Yields N (3 * K + 1) (Kn ()) fun s=>s.size ≤ 3 * B + 8) :
  Yields N (3 * K + 1) (spec_l01Cur_term.j2 n self d t b c Kn) fun s=>s.size ≤ 3 * B + 8:=by
 obtain ⟨hn,hM,hd,hd0,hs,hK,hB,hB2⟩:=id H;unfold spec_l01Cur_term.j2;rw [Z0A (d - 1) (by omega) (by omega)];have z1:ByteArray.size ⟨#[67,111,110,115,40]⟩ = 5:=rfl;have z2:ByteArray.size ⟨#[44]⟩ = 1:=rfl;have z3:ByteArray.size ⟨#[41]⟩ = 1:=rfl;have z4:ByteArray.size ⟨#[83,40]⟩ = 2:=rfl
 split
 ·refine (hs h0 c N hc (by omega)).bind (L:=K) (by omega) fun a c hc ha=>?_
  dsimp only;rw [if_pos (by rw [z1]; simp only [lim]; omega),if_pos (by simp only [ByteArray.size_append,z1,z2,lim]; omega)];refine (hs h0 c _ hc (by omega)).bind (L:=0) (by omega) fun b c hc hb=>?_
  dsimp only;rw [if_pos (by simp only [ByteArray.size_append,z1,z2,lim]; omega),if_pos (by simp only [ByteArray.size_append,z1,z2,z3,lim]; omega)];exact .ret hc (by simp only [ByteArray.size_append,z1,z2,z3]; omega)
 ·split
  ·refine (hs h0 c N hc (by omega)).bind (L:=0) (by omega) fun a c hc ha=>?_
   dsimp only;rw [if_pos (by rw [z4]; simp only [lim]; omega),if_pos (by simp only [ByteArray.size_append,z4,z3,lim]; omega)];exact .ret hc (by simp only [ByteArray.size_append,z4,z3]; omega)
  ·exact hk
theorem Z7z {N:Nat} {c:Cur} {t:Int} {b:Bool} {Kn:Unit → Option (ByteArray × Cur)} (hc:CurOk N c) (hN:N + 3 * K + 1 ≤ M) (h0:0 < d ∨ b = true ∨ t = 3 ∨ t = 4) (hk:0 < d → Yields N (3 * K + 1) (Kn ()) fun s=>s.size ≤ 3 * B + 8) :
  Yields N (3 * K + 1) (spec_l01Cur_term.j1 n self d t b c Kn) fun s=>s.size ≤ 3 * B + 8:=by
 obtain ⟨hn,hM,hd,hd0,hs,hK,hB,hB2⟩:=id H;unfold spec_l01Cur_term.j1
 split
 ·refine (Z1N hc (by omega) (by omega)).bind (L:=0) (by omega) fun v c hc hv=>?_
  dsimp only;rw [if_pos (by simp; omega)];have hb:=Z2P (P:=fun x:Int=>-1000000 ≤ x ∧ x ≤ 1000000) (l:=[0,1,2,3,(-1),10,1000000,(-1000000)]) (d:=0) (by decide) (by decide) (Int.toNat v);rw [Z8N n _ (by omega) (by omega) (by omega),Option.bind_some];refine .ret hc ?_;rw [Z0C];have:=Z5D hb.1 hb.2;omega
 ·rename_i hb
  split
  ·refine (Z1N hc (by omega) (by omega)).bind (L:=0) (by omega) fun v c hc hv=>?_
   dsimp only;rw [if_pos (by simp; omega)];refine .ret hc ?_;have:=Z2P (P:=fun x:ByteArray=>x.size ≤ 8) (l:=[⟨#[34,34]⟩,⟨#[34,97,34]⟩,⟨#[34,98,32,99,34]⟩,⟨#[34,40,44,41,34]⟩,⟨#[34,120,34]⟩]) (d:=ByteArray.empty) (by decide) (by decide) (Int.toNat v);omega
  ·split
   ·refine (Z1N hc (by omega) (by omega)).bind (L:=0) (by omega) fun v c hc hv=>?_
    dsimp only;rw [if_pos (by simp; omega)];refine .ret hc ?_;have:=Z2P (P:=fun x:ByteArray=>x.size ≤ 8) (l:=[⟨#[78,105,108]⟩,⟨#[76,101,97,102]⟩,⟨#[65]⟩,⟨#[90,101,114,111]⟩]) (d:=ByteArray.empty) (by decide) (by decide) (Int.toNat v);omega
   ·rename_i h3 h4
    simp only [decide_eq_true_eq] at h3 h4;have hd1:0 < d:=by
     rcases h0 with h0 | h0 | h0 | h0
     ·exact h0
     ·exact absurd h0 hb
     ·exact absurd h0 h3
     ·exact absurd h0 h4
    split
    ·exact ZAs H hc hN hd1 (hk hd1)
    ·exact ZAs H hc hN hd1 (hk hd1)
theorem Z80 {N:Nat} {c:Cur} {t:Int} (hc:CurOk N c) (hN:N + 3 * K + 1 ≤ M) (h0:0 < d ∨ (0 ≤ t ∧ t ≤ 4)):Yields N (3 * K + 1) (spec_l01Cur_term.j0 n self d t c) fun s=>s.size ≤ 3 * B + 8:=by
 obtain ⟨hn,hM,hd,hd0,hs,hK,hB,hB2⟩:=id H;unfold spec_l01Cur_term.j0;have k3:0 < d → Yields N (3 * K + 1) (spec_l01Cur_term.j3 n self d c) fun s=>s.size ≤ 3 * B + 8:=fun h=>(term_j3 H hc hN h).mono (by omega) fun _ h=>h
 split
 ·rename_i h
  exact Z7z H hc hN (.inr (.inl h)) k3
 ·rename_i n0
  split
  ·rename_i h
   exact Z7z H hc hN (.inr (.inl h)) k3
  ·rename_i n1
   refine Z7z H hc hN ?_ k3;simp only [decide_eq_true_eq] at n0 n1 ⊢;rcases h0 with h | h
   ·exact .inl h
   ·exact .inr (by omega)
theorem ZAt {N:Nat} {c:Cur} (hc:CurOk N c) (hN:N + 3 * K + 2 ≤ M):Yields N (3 * K + 2) (spec_l01Cur_term.G n self c d) fun s=>s.size ≤ 3 * B + 8:=by
 obtain ⟨hn,hM,hd,hd0,hs,hK,hB,hB2⟩:=id H;unfold spec_l01Cur_term.G;refine (Z1N hc (by omega) (by omega)).bind (L:=3 * K + 1) (by omega) fun v c hc hv=>?_
 dsimp only
 split
 ·rename_i h1
  split
  ·rename_i h2
   simp only [decide_eq_true_eq] at h1 h2;rw [Z0A _ (by omega) (by omega)];exact Z80 H hc (by omega) (.inr (by omega))
  ·rename_i h2
   simp only [decide_eq_true_eq] at h1 h2;exact Z80 H hc (by omega) (.inr (by omega))
 ·rename_i h1
  simp only [decide_eq_true_eq] at h1;exact Z80 H hc (by omega) (.inl (by omega))
end
theorem term_0 {n N:Nat} {c:Cur} (hn:1100001 ≤ n) (hc:CurOk N c) (hN:N ≤ 2500000000000000000):Yields N 2 (spec_l01Cur_term.F n c 0) fun s=>s.size ≤ 32:=by
 obtain ⟨m,rfl⟩:∃ m,n = m + 1:=⟨n - 1,by omega⟩
 exact (ZAt (n:=m) (self:=spec_l01Cur_term.F m) (d:=0) (K:=0) (B:=8) (M:=3000000000000000000) ⟨by omega,by omega,by omega,by omega,fun h=>by omega,by omega,by omega,by omega⟩ hc (by omega))
theorem term_1 {n N:Nat} {c:Cur} (hn:1100002 ≤ n) (hc:CurOk N c) (hN:N ≤ 1500000000000000000):Yields N 8 (spec_l01Cur_term.F n c 1) fun s=>s.size ≤ 104:=by
 obtain ⟨m,rfl⟩:∃ m,n = m + 1:=⟨n - 1,by omega⟩
 exact (ZAt (n:=m) (self:=spec_l01Cur_term.F m) (d:=1) (K:=2) (B:=32) (M:=2000000000000000000) ⟨by omega,by omega,by omega,by omega,fun _ c N hc hN=>term_0 (n:=m) (by omega) hc (by omega),by omega,by omega,by omega⟩ hc (by omega))
theorem term_2 {n N:Nat} {c:Cur} (hn:1100003 ≤ n) (hc:CurOk N c) (hN:N ≤ 500000000000000000):Yields N 26 (spec_l01Cur_term.F n c 2) fun s=>s.size ≤ 320:=by
 obtain ⟨m,rfl⟩:∃ m,n = m + 1:=⟨n - 1,by omega⟩
 exact (ZAt (n:=m) (self:=spec_l01Cur_term.F m) (d:=2) (K:=8) (B:=104) (M:=1000000000000000000) ⟨by omega,by omega,by omega,by omega,fun _ c N hc hN=>term_1 (n:=m) (by omega) hc (by omega),by omega,by omega,by omega⟩ hc (by omega))
theorem any_l1 {n:Nat} {c:Cur} {Kx:ByteArray → Option (ByteArray × Cur)}:∀ (k:Nat) (s:ByteArray),203 - s.size < k → s.size ≤ 203 → ∃ s',s'.size ≤ 203 ∧ spec_l01Cur_any.l1 n c Kx k s = Kx s'
 | 0,s,h,_=>absurd h (Nat.not_lt_zero _)
 | k + 1,s,h,hs=>by
  unfold spec_l01Cur_any.l1;have z1:ByteArray.size ⟨#[83,40]⟩ = 2:=rfl;have z2:ByteArray.size ⟨#[41]⟩ = 1:=rfl
  by_cases hl:s.size ≤ 200
  ·rw [if_pos (by simp; omega),if_pos (by rw [z1]; simp only [lim]; omega),if_pos (by rw [ByteArray.size_append,z1,z2]; simp only [lim]; omega)]
   exact any_l1 k _ (by simp only [ByteArray.size_append,z1,z2]; omega) (by simp only [ByteArray.size_append,z1,z2]; omega)
  ·rw [if_neg (by simp; omega)]
   exact ⟨s,hs,rfl⟩
theorem any_j0 {n N:Nat} {c:Cur} {s:ByteArray} (hn:1100000 ≤ n) (hc:CurOk N c) (hN:N ≤ 400000000000000000) (hs:s.size ≤ 200):Yields N 4 (spec_l01Cur_any.j0 n s c) fun s=>s.size ≤ 500:=by
 unfold spec_l01Cur_any.j0;refine (Z3o hc (by omega)).bind (L:=3) (by omega) fun v c hc _=>?_
 dsimp only
 split
 ·refine (Z1N hc (by omega) (by omega)).bind (L:=2) (by omega) fun v c hc hv=>?_
  dsimp only
  split
  ·refine (Z1N hc (by omega) (by omega)).bind (L:=0) (by omega) fun v c hc hv=>?_
   dsimp only;rw [if_pos (by simp; omega)];refine .ret hc ?_;exact Nat.le_trans (Z2P (P:=fun x:ByteArray=>x.size ≤ 30) (by decide) (by decide) _) (by omega)
  ·split
   ·rw [Z0A _ (by omega) (by omega)]
    refine (Z1N hc (by omega) (by omega)).bind (L:=1) (by omega) fun v c hc hv=>?_
    dsimp only;rw [if_pos (by omega)];refine (Z1N hc (by omega) (by omega)).bind (L:=0) (by omega) fun u c hc hu=>?_
    dsimp only;rw [if_pos (by simp; omega)];have hg:ByteArray.size (List.getD ([⟨#[40]⟩,⟨#[41]⟩,⟨#[44]⟩,⟨#[34]⟩,⟨#[49]⟩,⟨#[32]⟩]:List ByteArray) (Int.toNat u) ByteArray.empty) ≤ 1:=Z2P (P:=fun x:ByteArray=>x.size ≤ 1) (by decide) (by decide) _;have e1:(ByteArray.extract s (Int.toNat 0) (Int.toNat v)).size ≤ 200:=by rw [ByteArray.size_extract]; omega
    have e2:(ByteArray.extract s (Int.toNat v) (Int.toNat (s.size:Int))).size ≤ 200:=by rw [ByteArray.size_extract]; omega
    rw [if_pos (by simp only [lim]; omega),if_pos (by omega),if_pos (by rw [ByteArray.size_append]; simp only [lim]; omega)];refine .ret hc ?_;rw [ByteArray.size_append,ByteArray.size_append];omega
   ·obtain ⟨s',h1,h2⟩:=any_l1 (n:=n) (c:=c) (Kx:=fun s12=>some (s12,c)) n s (by omega) (by omega)
    rw [h2];exact .ret hc (by omega)
 ·exact .ret hc (by omega)
theorem any_ok {n N:Nat} {c:Cur} (hn:1100003 ≤ n) (hc:CurOk N c) (hN:N ≤ 300000000000000000):Yields N 30 (spec_l01Cur_any.F n c) fun s=>s.size ≤ 500:=by
 unfold spec_l01Cur_any.F;refine (term_2 hn hc (by omega)).bind (L:=4) (by omega) fun s c hc hs=>?_
 dsimp only
 split
 ·exact any_j0 (by omega) hc (by omega) (by decide)
 ·rename_i h
  simp only [decide_eq_true_eq] at h;exact any_j0 (by omega) hc (by omega) (by omega)
theorem Z8o {n:Nat} (hn:1100003 ≤ n) (u:List ByteArray) (T:Nat) (hT:T ≤ 100) (Kx:Cur → List ByteArray → Option (List ByteArray × Cur)):∀ (k i N:Nat) (c:Cur) (t:List ByteArray),i ≤ T → T - i < k → CurOk N c → N + (T - i) * 8 ≤ 200000000000000000 → t.length ≤ i → (∀ s ∈ t,s.size ≤ 500) →
  ∃ c' t',CurOk (N + (T - i) * 8) c' ∧ t'.length ≤ T ∧ (∀ s ∈ t',s.size ≤ 500) ∧ spec_l01Cur_tuple.l0 n (T:Int) u Kx k (i:Int) c t = Kx c' t'
 | 0,i,N,c,t,hi,hk,_,_,_,_=>absurd hk (Nat.not_lt_zero _)
 | k + 1,i,N,c,t,hi,hk,hc,hN,ht,hs=>by
  by_cases h:i < T
  ·obtain ⟨v,c1,e1,h1,h2⟩:=term_1 (n:=n) (by omega) hc (by omega)
   obtain ⟨c2,t2,a1,a2,a3,a4⟩:=Z8o hn u T hT Kx k (i + 1) (N + 8) c1 (t ++ [v]) (by omega) (by omega) h1 (by omega) (by simp; omega) (fun s hsm=>by
    rcases List.mem_append.1 hsm with hsm | hsm
    ·exact hs s hsm
    ·rw [List.mem_singleton.1 hsm]; omega)
   refine ⟨c2,t2,a1.mono (by omega),a2,a3,?_⟩
   conv=>lhs; unfold spec_l01Cur_tuple.l0
   rw [if_pos (by simp; omega),e1,Option.bind_some,if_pos (by simp [lim]; omega),wr1 (by omega)];exact a4
  ·refine ⟨c,t,hc.mono (by omega),by omega,hs,?_⟩
   conv=>lhs; unfold spec_l01Cur_tuple.l0
   rw [if_neg (by simp; omega)]
theorem Z8n {n N:Nat} {c:Cur} (hn:1100003 ≤ n) (T:Nat) (hT:T ≤ 100) (hc:CurOk N c) (hN:N ≤ 100000000000000000):Yields N 900 (spec_l01Cur_tuple.F n c (T:Int)) fun t=>t.length ≤ T + 1 ∧ ∀ s ∈ t,s.size ≤ 500:=by
 unfold spec_l01Cur_tuple.F;obtain ⟨c',t',a1,a2,a3,a4⟩:=Z8o hn [] T hT (fun c9 t10 =>
  (spec_l01Cur_once.F n c9 20).bind fun r11 =>
  if r11.1 = true then
  (spec_l01Cur_any.F n r11.2).bind fun r12 =>
  if List.length t10 + List.length [r12.1] ≤ lim then
  some (t10 ++ [r12.1],r12.2)
  else
  none
  else
  some (t10,r11.2)) n 0 N c [] (Nat.zero_le _) (by omega) hc (by omega) (by simp) (fun _ h=>by cases h)
 rw [show ((0:Nat):Int) = 0 from rfl] at a4;rw [a4];have a1:CurOk (N + 800) c':=a1.mono (by omega);have:Yields (N + 800) 100 ((spec_l01Cur_once.F n c' 20).bind fun r11 =>
  if r11.1 = true then
  (spec_l01Cur_any.F n r11.2).bind fun r12 =>
  if List.length t' + List.length [r12.1] ≤ lim then
  some (t' ++ [r12.1],r12.2)
  else
  none
  else
  some (t',r11.2)) fun t=>t.length ≤ T + 1 ∧ ∀ s ∈ t,s.size ≤ 500:=by
  refine (Z3o a1 (by omega)).bind (L:=30) (by omega) fun v c hc _=>?_
  dsimp only
  split
  ·refine (any_ok hn hc (by omega)).bind (L:=0) (by omega) fun s c hc hs=>?_
   dsimp only;rw [if_pos (by simp [lim]; omega)];refine .ret hc ⟨by simp; omega,fun x hx=>?_⟩;rcases List.mem_append.1 hx with hx | hx
   ·exact a3 x hx
   ·rw [List.mem_singleton.1 hx]; exact hs
  ·exact .ret hc ⟨by omega,a3⟩
 obtain ⟨v,d,e,h1,h2⟩:=this;exact ⟨v,d,e,h1.mono (by omega),h2⟩
end Go.Abs
namespace Go.Abs
set_option linter.unusedVariables false
set_option linter.unusedSimpArgs false
theorem okS_num {x:Int} (h0:-1000000 ≤ x) (h1:x ≤ 1000000):okS (bt (Lib.itoa x)):=⟨1,by rw [Z12]; exact .num x h0 h1,by rw [Z0C]; have:=Z5D h0 h1; omega⟩
theorem ZBn (u:Nat) (h:u < 10):Lib.itoa (u:Int) = [UInt8.ofNat (48 + u)]:=by
 unfold Lib.itoa;rw [if_neg (by omega),Int.toNat_natCast,Z2z h]
theorem itoa_10:Lib.itoa 10 = [49,48]:=by
 show (if (10:Int) < 0 then _ else Lib.decDigits 10) = _;rw [if_neg (by omega),Z63 (by omega),Z2z (by omega)]
 rfl
theorem itoa_m1:Lib.itoa (-1) = [45,49]:=by
 show (if (-1:Int) < 0 then 45 :: Lib.decDigits 1 else _) = _;rw [if_pos (by omega),Z2z (by omega)]
 rfl
theorem tm_1:Tm 1 [49]:=by
 have:=Tm.num 1 (by omega) (by omega)
 rwa [show (1:Int) = ((1:Nat):Int) from rfl,ZBn 1 (by omega)] at this
theorem tm_nil:Tm 3 [78,105,108]:=.con0 _ (by decide)
theorem Z9b:∀ x ∈ ([⟨#[49]⟩,⟨#[50]⟩,⟨#[34,97,34]⟩,⟨#[78,105,108]⟩,⟨#[83,40,49,41]⟩,⟨#[49,48]⟩,⟨#[67,111,110,115,40,49,44,78,105,108,41]⟩,⟨#[45,49]⟩]:List ByteArray),okS x:=by
 intro x hx;simp only [List.mem_cons,List.not_mem_nil,or_false] at hx;rcases hx with rfl | rfl | rfl | rfl | rfl | rfl | rfl | rfl
 ·exact ⟨1,tm_1,by decide⟩
 ·have:=okS_num (x:=((2:Nat):Int)) (by omega) (by omega)
  rw [ZBn 2 (by omega)] at this;exact this
 ·exact ⟨2,.sym [97] (by decide) (by decide),by decide⟩
 ·exact ⟨3,tm_nil,by decide⟩
 ·exact ⟨3,.con [83] [49] [] (by decide) (fun _=>1) (fun x hx=>by rw [List.mem_singleton] at hx; subst hx; exact tm_1),by decide⟩
 ·exact ⟨1,show Tm 1 [49,48] from itoa_10 ▸ .num 10 (by omega) (by omega),by decide⟩
 ·exact ⟨3,.con [67,111,110,115] [49] [[78,105,108]] (by decide) (fun x=>if x = [49] then 1 else 3) (fun x hx=>by
   simp only [List.mem_cons,List.not_mem_nil,or_false] at hx;rcases hx with rfl | rfl
   ·exact tm_1
   ·exact tm_nil),by decide⟩
 ·exact ⟨1,show Tm 1 [45,49] from itoa_m1 ▸ .num (-1) (by omega) (by omega),by decide⟩
theorem okT_len {t:Tu} (h:okT t):t.length ≤ 10 ∧ ∀ s ∈ t,s.size ≤ 500:=⟨by have:=h.1; omega,fun s hs=>by obtain ⟨_,_,h2⟩:=h.2 s hs; omega⟩
theorem ZBp (t:Tu):∀ l:List Tu,(Z3u t l).length ≤ l.length + 1
 | []=>Nat.le_refl _
 | x :: r=>by
  have:=ZBp t r;unfold Z3u
  split
  ·simp; omega
  ·split <;> simp
def ZCT (r:Re):Prop:=r.2.length ≤ 450 ∧ ∀ t ∈ r.2,t.length ≤ 10 ∧ ∀ s ∈ t,s.size ≤ 500
theorem rel_l1 {n:Nat} (T:Nat) (hT:T ≤ 6) (x:Int) (u v:Re) (Kx:Cur → Tu → Option (Re × Cur)):∀ (k i N:Nat) (c:Cur) (t:Tu),i ≤ T → T - i < k → CurOk N c → N + (T - i) ≤ 4000000000000000000 → t.length = i → (∀ s ∈ t,okS s) →
  ∃ c' t',CurOk (N + (T - i)) c' ∧ t'.length = T ∧ (∀ s ∈ t',okS s) ∧ spec_l01Cur_rel.l1 n (T:Int) x u v Kx k (i:Int) c t = Kx c' t'
 | 0,i,N,c,t,hi,hk,_,_,_,_=>absurd hk (Nat.not_lt_zero _)
 | k + 1,i,N,c,t,hi,hk,hc,hN,ht,hs=>by
  by_cases h:i < T
  ·obtain ⟨r,c1,e1,h1,h2⟩:=Z1N (n:=n) (k:=8) hc (by omega) (by omega)
   have hg:=Z2P (d:=(⟨#[49]⟩:ByteArray)) Z9b (Z9b _ List.mem_cons_self) (Int.toNat r);generalize hL:([⟨#[49]⟩,⟨#[50]⟩,⟨#[34,97,34]⟩,⟨#[78,105,108]⟩,⟨#[83,40,49,41]⟩,⟨#[49,48]⟩,⟨#[67,111,110,115,40,49,44,78,105,108,41]⟩,⟨#[45,49]⟩]:List ByteArray) = L at hg;have hLl:L.length = 8:=by rw [← hL]; rfl
   have e2:List.getD L (Int.toNat r) ByteArray.empty = List.getD L (Int.toNat r) ⟨#[49]⟩:=by
    have:Int.toNat r < L.length:=by omega
    simp [this]
   obtain ⟨c2,t2,a1,a2,a3,a4⟩:=rel_l1 T hT x u v Kx k (i + 1) (N + 1) c1 (t ++ [List.getD L (Int.toNat r) ByteArray.empty]) (by omega) (by omega) h1 (by omega) (by simp; omega) (fun s hsm=>by
    rcases List.mem_append.1 hsm with hsm | hsm
    ·exact hs s hsm
    ·rw [List.mem_singleton.1 hsm,e2]; exact hg)
   refine ⟨c2,t2,a1.mono (by omega),a2,a3,?_⟩
   conv=>lhs; unfold spec_l01Cur_rel.l1
   rw [hL,if_pos (by simp; omega),e1,Option.bind_some,if_pos (by dsimp only; omega),if_pos (by show _ + 1 ≤ 4294967296; omega),wr1 (by omega)];exact a4
  ·refine ⟨c,t,hc.mono (by omega),by omega,hs,?_⟩
   conv=>lhs; unfold spec_l01Cur_rel.l1
   rw [if_neg (by simp; omega)]
section
variable {n:Nat} (hn:1100003 ≤ n)
include hn
theorem rel_l0 (T:Nat) (hT:T ≤ 6) (u:Re) (Kx:Cur → Re → Option (Re × Cur)):∀ (k m N:Nat) (c:Cur) (a:Int) (rows:List Tu),m < k → CurOk N c → N + m * 6 ≤ 4000000000000000000 → rows.length + m ≤ 100 → (∀ t ∈ rows,okT t ∧ t.length = T) →
  ∃ c' rows',CurOk (N + m * 6) c' ∧ rows'.length ≤ rows.length + m ∧ (∀ t ∈ rows',okT t ∧ t.length = T) ∧ spec_l01Cur_rel.l0 n (T:Int) u Kx k (m:Int) c (a,rows) = Kx c' (a,rows')
 | 0,m,N,c,a,rows,hk,_,_,_,_=>absurd hk (Nat.not_lt_zero _)
 | k + 1,0,N,c,a,rows,hk,hc,hN,hr,ok=>by
  refine ⟨c,rows,hc.mono (by omega),by omega,ok,?_⟩
  conv=>lhs; unfold spec_l01Cur_rel.l0
  rw [if_neg (by simp)]
 | k + 1,m + 1,N,c,a,rows,hk,hc,hN,hr,ok=>by
  have cont:∀ (c1:Cur) (t1:Tu),CurOk (N + 6) c1 → t1.length = T → (∀ s ∈ t1,okS s) → ∃ c' rows',CurOk (N + 6 + m * 6) c' ∧ rows'.length ≤ rows.length + (m + 1) ∧ (∀ t ∈ rows',okT t ∧ t.length = T) ∧
    ((spec_l02Put.F n rows t1).bind fun r19=>spec_l01Cur_rel.l0 n (T:Int) u Kx k (IntKind.i64.wrap (((m + 1:Nat):Int) - 1)) c1 (a,r19.1)) = Kx c' (a,rows'):=by
   intro c1 t1 h1 h2 h3;have ot:okT t1:=⟨by omega,h3⟩;obtain ⟨b,hb⟩:=Z7S n (by omega) rows t1 (by omega) (fun t ht=>(ok t ht).1) ot;have hl:=ZBp t1 rows;obtain ⟨c',rows',a1,a2,a3,a4⟩:=rel_l0 T hT u Kx k m (N + 6) c1 a (Z3u t1 rows) (by omega) h1 (by omega) (by omega) (fun t ht=>by
    rcases (Z2O (fun y hy=>(ok y hy).1.2) h3 t).1 ht with rfl | ht
    ·exact ⟨ot,h2⟩
    ·exact ok t ht)
   refine ⟨c',rows',a1,by omega,a3,?_⟩;rw [hb,Option.bind_some,Z0A _ (by omega) (by omega),show (((m + 1:Nat):Int) - 1) = (m:Int) by omega];exact a4
  obtain ⟨c1,t1,h1,h2,h3,h4⟩:=rel_l1 T hT ((m + 1:Nat):Int) u (a,rows) (fun t17 t18=>(spec_l02Put.F n rows t18).bind fun r19=>spec_l01Cur_rel.l0 n (T:Int) u Kx k (IntKind.i64.wrap (((m + 1:Nat):Int) - 1)) t17 (a,r19.1)) n 0 N c [] (Nat.zero_le _) (by omega) hc (by omega) rfl (fun _ h=>by cases h);obtain ⟨c',rows',a1,a2,a3,a4⟩:=cont c1 t1 (h1.mono (by omega)) h2 h3;refine ⟨c',rows',a1.mono (by omega),a2,a3,?_⟩
  conv=>lhs; unfold spec_l01Cur_rel.l0
  rw [if_pos (by simp)];rw [show ((0:Nat):Int) = 0 from rfl] at h4;exact h4.trans a4
theorem rel_l2 (u:Re) (Kx:Cur → Re → Option (Re × Cur)):∀ (k i N:Nat) (c:Cur) (a:Int) (rows:List Tu),402 - i < k → i ≤ 402 → CurOk N c → N + 500 ≤ 4000000000000000000 + i → rows.length ≤ i → (∀ t ∈ rows,t.length ≤ 10 ∧ ∀ s ∈ t,s.size ≤ 500) →
  ∃ c' rows',CurOk (N + (403 - i)) c' ∧ rows'.length ≤ 402 ∧ (∀ t ∈ rows',t.length ≤ 10 ∧ ∀ s ∈ t,s.size ≤ 500) ∧ spec_l01Cur_rel.l2 n u Kx k (i:Int) c (a,rows) = Kx c' (a,rows')
 | 0,i,N,c,a,rows,hk,_,_,_,_,_=>absurd hk (Nat.not_lt_zero _)
 | k + 1,i,N,c,a,rows,hk,hi,hc,hN,hr,ok=>by
  obtain ⟨r,c1,e1,h1,h2⟩:=Z1N (n:=n) (k:=3) hc (by omega) (by omega)
  by_cases h:(i:Int) < 399 + r
  ·have hi8:=Z5D (x:=(i:Int)) (by omega) (by omega)
   obtain ⟨c2,rows2,a1,a2,a3,a4⟩:=rel_l2 u Kx k (i + 1) (N + 1) c1 a (rows ++ [[bt (Lib.itoa (i:Int))]]) (by omega) (by omega) h1 (by omega) (by simp; omega) (fun t ht=>by
    rcases List.mem_append.1 ht with ht | ht
    ·exact ok t ht
    ·rw [List.mem_singleton.1 ht]
     refine ⟨by simp,fun s hs=>?_⟩;rw [List.mem_singleton.1 hs,Z0C]
     omega)
   refine ⟨c2,rows2,a1.mono (by omega),a2,a3,?_⟩
   conv=>lhs; unfold spec_l01Cur_rel.l2
   rw [e1,Option.bind_some];dsimp only;rw [Z0A (399 + r) (by omega) (by omega),if_pos (by simpa using h),Z8N n _ (by omega) (by omega) (by omega),Option.bind_some,if_pos (by show _ + 1 ≤ 4294967296; omega),wr1 (by omega)];exact a4
  ·refine ⟨c1,rows,h1.mono (by omega),by omega,ok,?_⟩
   conv=>lhs; unfold spec_l01Cur_rel.l2
   rw [e1,Option.bind_some];dsimp only;rw [Z0A (399 + r) (by omega) (by omega),if_neg (by simpa using h)]
theorem rel_ok {N:Nat} {c:Cur} (T:Nat) (hT:T ≤ 6) (hc:CurOk N c) (hN:N ≤ 50000000000000000):Yields N 2000 (spec_l01Cur_rel.F n c (T:Int)) ZCT:=by
 unfold spec_l01Cur_rel.F;refine (size_ok hc (by omega) (by omega) (by omega)).bind (L:=1900) (by omega) fun v c hc hv=>?_
 dsimp only;obtain ⟨m,rfl⟩:∃ m:Nat,v = (m:Int):=⟨v.toNat,by omega⟩
 obtain ⟨c1,rows,a1,a2,a3,a4⟩:=rel_l0 hn T hT (0,[]) (fun t20 t21 =>
 (spec_l01Cur_once.F n t20 16).bind fun r22 =>
 if r22.1 = true then
 (spec_l01Cur_pick.F n r22.2 4).bind fun r23 =>
 if decide (r23.1 = 0) = true then
 (spec_l01Cur_raw.F n r23.2).bind fun r24 =>
 some ((r24.1,t21.2),r24.2)
 else
 if decide (r23.1 = 1) = true then
 (spec_l01Cur_tuple.F n r23.2 (T:Int)).bind fun r25 =>
 if List.length t21.2 + List.length [r25.1] ≤ lim then
 some ((t21.1,t21.2 ++ [r25.1]),r25.2)
 else
 none
 else
 if decide (r23.1 = 2) = true then
 if List.length t21.2 + List.length ([([⟨#[120]⟩]:List ByteArray)]:List (List ByteArray)) ≤ lim then
 some ((t21.1,t21.2 ++ ([([⟨#[120]⟩]:List ByteArray)]:List (List ByteArray))),r23.2)
 else
 none
 else
 spec_l01Cur_rel.l2 n (0,[]) (fun t32 t33 =>
 some (t33,t32)) n 0 r23.2 (1,[])
 else
 some (t21,r22.2)) n m (N + 1) c (T:Int) [] (by omega) hc (by omega) (by simp; omega) (fun _ h=>by cases h)
 rw [a4];have a1:CurOk (N + 100) c1:=a1.mono (by omega);have sm:∀ t ∈ rows,t.length ≤ 10 ∧ ∀ s ∈ t,s.size ≤ 500:=fun t ht=>okT_len (a3 t ht).1
 simp only [List.length_nil] at a2;have:∀ o,Yields (N + 100) 1600 o ZCT → Yields (N + 1) 1900 o ZCT:=by
  rintro o ⟨v,d,e,h1,h2⟩;exact ⟨v,d,e,h1.mono (by omega),h2⟩
 refine this _ ?_;refine (Z3o a1 (by omega)).bind (L:=1500) (by omega) fun v c hc _=>?_
 dsimp only
 split
 ·refine (Z2b hc (by omega)).bind (L:=1400) (by omega) fun v c hc hv=>?_
  dsimp only
  split
  ·exact (ZBL hc (by omega)).bind (L:=0) (by omega) fun v c hc _=>.ret hc ⟨by show rows.length ≤ 450; omega,sm⟩
  ·split
   ·refine (Z8n hn T (by omega) hc (by omega)).bind (L:=0) (by omega) fun t c hc ht=>?_
    dsimp only;rw [if_pos (by show _ + 1 ≤ 4294967296; omega)];refine .ret hc ⟨by show (rows ++ [t]).length ≤ 450; simp; omega,fun x hx=>?_⟩;rcases List.mem_append.1 hx with hx | hx
    ·exact sm x hx
    ·rw [List.mem_singleton.1 hx]
     exact ⟨by omega,ht.2⟩
   ·split
    ·rw [if_pos (by show _ + 1 ≤ 4294967296; omega)]
     refine .ret hc ⟨by show (rows ++ [_]).length ≤ 450; simp; omega,fun x hx=>?_⟩;rcases List.mem_append.1 hx with hx | hx
     ·exact sm x hx
     ·rw [List.mem_singleton.1 hx]
      exact ⟨by simp,fun s hs=>by rw [List.mem_singleton.1 hs]; decide⟩
    ·obtain ⟨c2,rows2,b1,b2,b3,b4⟩:=rel_l2 hn (0,[]) (fun t32 t33=>some (t33,t32)) n 0 _ c 1 [] (by omega) (by omega) hc (by omega) (by simp) (fun _ h=>by cases h)
     rw [show ((0:Nat):Int) = 0 from rfl] at b4;rw [b4];exact ⟨_,_,rfl,b1.mono (by omega),by show rows2.length ≤ 450; omega,b3⟩
 ·exact .ret hc ⟨by show rows.length ≤ 450; omega,sm⟩
end
theorem open_ok (n:Nat) (code:List Int) (hb:∀ b ∈ code,0 ≤ b ∧ b ≤ 255) (hl:code.length ≤ 1048576):∃ c,spec_l01Open.F n code = some c ∧ CurOk 0 c:=by
 unfold spec_l01Open.F;have m0:0 ≤ Int.tmod (code.length:Int) 1000:=Int.tmod_nonneg _ (by omega);have m1:Int.tmod (code.length:Int) 1000 < 1000:=Int.tmod_lt_of_pos _ (by omega);rw [Z0A (61 + _) (by omega) (by omega)];exact ⟨_,rfl,⟨hb,hl,Int.le_refl _,Int.le_refl _,by show 0 ≤ 61 + _; omega,by show 61 + _ ≤ 65520; omega⟩⟩
end Go.Abs
namespace Go.Abs
set_option linter.unusedVariables false
set_option linter.unusedSimpArgs false
def DbSm (d:List Re):Prop:=d.length ≤ 3 ∧ ∀ x ∈ d,ZCT x
section
variable {n:Nat} (hn:1100003 ≤ n)
include hn
theorem Z8v (u:List Re) (Kx:Cur → List Re → Option (List Re × Cur)):∀ (k i N:Nat) (c:Cur) (d:List Re),i ≤ 3 → 3 - i < k → CurOk N c → N + (3 - i) * 2000 ≤ 50000000000000000 → d.length = i → (∀ x ∈ d,ZCT x) →
  ∃ c' d',CurOk (N + (3 - i) * 2000) c' ∧ DbSm d' ∧ spec_l01Cur_shaped.l0 n u Kx k (i:Int) c d = Kx c' d'
 | 0,i,N,c,d,hi,hk,_,_,_,_=>absurd hk (Nat.not_lt_zero _)
 | k + 1,i,N,c,d,hi,hk,hc,hN,hd,hs=>by
  by_cases h:i < 3
  ·obtain ⟨v,c1,e,h1,h2⟩:=rel_ok hn i (by omega) hc (by omega)
   obtain ⟨c',d',g1,g2,g3⟩:=Z8v u Kx k (i + 1) (N + 2000) c1 (d ++ [v]) (by omega) (by omega) h1 (by omega) (by simp [hd]) (fun x hx=>by
    rcases List.mem_append.1 hx with hx | hx
    ·exact hs x hx
    ·rw [List.mem_singleton.1 hx]; exact h2)
   refine ⟨c',d',g1.mono (by omega),g2,?_⟩
   conv=>lhs; unfold spec_l01Cur_shaped.l0
   rw [if_pos (by simp; omega),e,Option.bind_some];dsimp only;rw [if_pos (by simp [lim]; omega),wr1 (by omega),g3]
  ·refine ⟨c,d,hc.mono (by omega),⟨by omega,hs⟩,?_⟩
   conv=>lhs; unfold spec_l01Cur_shaped.l0
   rw [if_neg (by simp; omega)]
theorem Z72 {N:Nat} {c:Cur} (hc:CurOk N c) (hN:N ≤ 40000000000000000):Yields N 6000 (spec_l01Cur_shaped.F n c) DbSm:=by
 unfold spec_l01Cur_shaped.F;obtain ⟨c',d',g1,g2,g3⟩:=Z8v hn [] (fun c7 d8=>some (d8,c7)) n 0 N c [] (by omega) (by omega) hc (by omega) rfl (fun _ h=>by cases h);rw [show ((0:Nat):Int) = 0 from rfl] at g3;exact ⟨d',c',g3,g1.mono (by omega),g2⟩
end
end Go.Abs
