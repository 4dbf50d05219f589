/- slices.Insert at []Tuple: its entry, the end. Conditions: none. -/
import Derived.Test.YtgdlicpmbgodjaaGreatDoorA4
import Derived.Test.YtgdlicpmbgodjaaGreatDoorIns
set_option linter.unusedVariables false
namespace Go.Abs
open Go.Proofs
abbrev TU:Kd:=.st (.sl .str)
@[reducible] def insA (m:Md):List ASh:=[.mv (.sl TU) (.own m),.ro (.int .i64),.mv (.sl TU) (.own m)]
@[reducible] def insR (m:Md):List RSh:=[.own (.sl TU) (.own m)]
def insF (xs:List TU.T) (i:Int) (vs:List TU.T):Option (List TU.T) :=
 if 0 ≤ i ∧ i ≤ (xs.length:Int) ∧ 0 < vs.length ∧ xs.length + vs.length ≤ lim then some (xs.take i.toNat ++ vs ++ xs.drop i.toNat) else none
section
variable {α:Type} (xs vs:List α) (i:Nat) (hi:i ≤ xs.length)
include hi
theorem Z53:(xs.take i ++ vs ++ xs.drop i).length = xs.length + vs.length:=by
 simp only [List.length_append,List.length_take,List.length_drop];omega
theorem ZBg (k:Nat) (h:k < i):(xs.take i ++ vs ++ xs.drop i)[k]? = xs[k]?:=by
 rw [List.append_assoc,List.getElem?_append_left (by rw [List.length_take]; omega),List.getElem?_take_of_lt h]
theorem Z8P (k:Nat) (h:i ≤ k) (h2:k < i + vs.length):(xs.take i ++ vs ++ xs.drop i)[k]? = vs[k - i]?:=by
 have e:(xs.take i).length = i:=by rw [List.length_take]; omega
 rw [List.append_assoc,List.getElem?_append_right (by omega),e,List.getElem?_append_left (by omega)]
theorem ZBh (k:Nat) (h:i + vs.length ≤ k):(xs.take i ++ vs ++ xs.drop i)[k]? = xs[k - vs.length]?:=by
 have e:(xs.take i ++ vs).length = i + vs.length:=by rw [List.length_append,List.length_take]; omega
 rw [List.getElem?_append_right (by omega),e,List.getElem?_drop]
 congr 1
 omega
end
theorem Z3V {α:Type} {a b:List α} {i j:Nat} (h:a[i]? = b[j]?) (hi:i < a.length) (hj:j < b.length):a[i] = b[j]:=by
 rw [List.getElem?_eq_getElem hi,List.getElem?_eq_getElem hj] at h;exact Option.some.inj h
theorem Z4Z {L:List Value} {k:Nat} (h:k < L.length):Z0K L 1 k = [L[k]]:=by
 simp only [Z0K,Nat.mul_one];rw [List.drop_eq_getElem_cons h]
 rfl
theorem ins_own {S:Nat → Prop} {w w2:World} {m:Md} {xs vs:List TU.T} {A:Option Addr} {L L2:List Value} {G G2:Nat → Nat → Prop} {F0 F2:Nat → Prop} {i B O C:Nat}
  (hi:i ≤ xs.length) (hL:L.length = xs.length) (hL2:L2.length = vs.length)
  (g1:∀ k b,G k b → F0 b) (g2:∀ k ad,A = some ad → ¬ G k ad.block) (g3:∀ k j b,k ≠ j → G k b → ¬ G j b) (g4:∀ k (h:k < xs.length),Own S w TU m xs[k] (Z0K L 1 k) (G k))
  (k1:∀ k b,G2 k b → F2 b) (k3:∀ k j b,k ≠ j → G2 k b → ¬ G2 j b) (k4:∀ k (h:k < vs.length),Own S w TU m vs[k] (Z0K L2 1 k) (G2 k))
  (h02:∀ b,F2 b → ¬ F0 b) (hA:∀ ad,A = some ad → F0 ad.block) (z0:∀ b,F0 b → b < w.heap.size) (z2:∀ b,F2 b → b < w.heap.size) (hFS:∀ b,F0 b → ¬ S b)
  (hx:Ext w w2 (fun b _=>∃ ad,A = some ad ∧ ad.block = b)) (hB:(∃ ad,A = some ad ∧ ad.block = B) ∨ (w.heap.size ≤ B ∧ B < w2.heap.size))
  (hC:xs.length + vs.length ≤ C) (hc:CellsAt w2 B O (L.take i ++ L2 ++ L.drop i)) (hr:ZAj w2 B O C) :
  Own S w2 (.sl TU) (.own m) (xs.take i ++ vs ++ xs.drop i) [.slice (some ⟨B,O,none⟩) (xs.length + vs.length) C] (fun b=>F0 b ∨ F2 b ∨ (w.heap.size ≤ b ∧ b < w2.heap.size)):=by
 have hSw:∀ b o v,S b → w.cell? ⟨b,o,none⟩ = some v → w2.cell? ⟨b,o,none⟩ = some v:=fun b o v hb hv =>
  hx.same (fun ⟨ad,h1,h2⟩=>hFS ad.block (hA ad h1) (by rw [h2]; exact hb)) hv
 have key:=Z7D (S:=S) (w:=w2) (e:=TU) (m:=m) (xs:=xs.take i ++ vs ++ xs.drop i) (L:=L.take i ++ L2 ++ L.drop i) (b:=B) (o:=O) (cap:=C)
  (F:=fun b=>F0 b ∨ F2 b ∨ (w.heap.size ≤ b ∧ b < w2.heap.size)) hc (by rw [Z53 _ _ _ hi]; exact hC) (by show ZAj w2 B O (C * 1); rw [Nat.mul_one]; exact hr)
  (by
   rcases hB with ⟨ad,h1,h2⟩ | h
   ·exact .inl (h2 ▸ hA ad h1)
   ·exact .inr (.inr h))
  (fun k b=>(k < i ∧ G k b) ∨ (i ≤ k ∧ k < i + vs.length ∧ G2 (k - i) b) ∨ (i + vs.length ≤ k ∧ G (k - vs.length) b)) ?_ ?_ ?_ ?_
 ·rw [Z53 _ _ _ hi] at key
  exact key
 ·rintro k b (⟨_,a⟩ | ⟨_,_,a⟩ | ⟨_,a⟩)
  ·exact .inl (g1 _ b a)
  ·exact .inr (.inl (k1 _ b a))
  ·exact .inl (g1 _ b a)
 ·intro k h
  have hne:∀ b,(F0 b ∨ F2 b) → (w.heap.size ≤ B ∧ B < w2.heap.size) → b ≠ B:=fun b hb hw e=>by
   rcases hb with hb | hb
   ·have:=z0 b hb; omega
   ·have:=z2 b hb; omega
  rcases h with ⟨_,a⟩ | ⟨_,_,a⟩ | ⟨_,a⟩
  ·rcases hB with ⟨ad,h1,h2⟩ | h
   ·exact g2 _ ad h1 (h2 ▸ a)
   ·exact hne B (.inl (g1 _ _ a)) h rfl
  ·rcases hB with ⟨ad,h1,h2⟩ | h
   ·exact h02 B (k1 _ _ a) (h2 ▸ hA ad h1)
   ·exact hne B (.inr (k1 _ _ a)) h rfl
  ·rcases hB with ⟨ad,h1,h2⟩ | h
   ·exact g2 _ ad h1 (h2 ▸ a)
   ·exact hne B (.inl (g1 _ _ a)) h rfl
 ·rintro k j b hne (⟨a0,a⟩ | ⟨a0,a1,a⟩ | ⟨a0,a⟩) (⟨c0,c⟩ | ⟨c0,c1,c⟩ | ⟨c0,c⟩)
  ·exact g3 _ _ b (by omega) a c
  ·exact h02 b (k1 _ b c) (g1 _ b a)
  ·exact g3 _ _ b (by omega) a c
  ·exact h02 b (k1 _ b a) (g1 _ b c)
  ·exact k3 _ _ b (by omega) a c
  ·exact h02 b (k1 _ b a) (g1 _ b c)
  ·exact g3 _ _ b (by omega) a c
  ·exact h02 b (k1 _ b c) (g1 _ b a)
  ·exact g3 _ _ b (by omega) a c
 ·intro k hk
  have hk':=hk;rw [Z53 _ _ _ hi] at hk';have hkL:k < (L.take i ++ L2 ++ L.drop i).length:=by rw [Z53 _ _ _ (by omega)]; omega
  show Own S w2 TU m _ (Z0K _ 1 k) _;rw [Z4Z hkL]
  by_cases h1:k < i
  ·rw [Z3V (ZBg xs vs i hi k h1) hk (by omega),Z3V (ZBg L L2 i (by omega) k h1) hkL (by omega),← Z4Z (by omega)]
   exact (g4 k (by omega)).mono (fun _ h=>h) hSw (fun b hb=>.inl ⟨h1,hb⟩) (fun b o hb=>hx.cell b o (z0 b (g1 _ b hb)) (fun ⟨ad,h3,h4⟩=>g2 _ ad h3 (h4 ▸ hb)))
  ·by_cases h2:k < i + vs.length
   ·rw [Z3V (Z8P xs vs i hi k (by omega) h2) hk (by omega),Z3V (Z8P L L2 i (by omega) k (by omega) (by omega)) hkL (by omega),← Z4Z (by omega)]
    exact (k4 (k - i) (by omega)).mono (fun _ h=>h) hSw (fun b hb=>.inr (.inl ⟨by omega,h2,hb⟩)) (fun b o hb=>hx.cell b o (z2 b (k1 _ b hb)) (fun ⟨ad,h3,h4⟩=>h02 b (k1 _ b hb) (h4 ▸ hA ad h3)))
   ·have e0:L2.length = vs.length:=hL2
    have e1:=ZBh L L2 i (by omega) k (by omega);rw [e0] at e1;rw [Z3V (ZBh xs vs i hi k (by omega)) hk (by omega),Z3V e1 hkL (by omega),← Z4Z (by omega)];exact (g4 (k - vs.length) (by omega)).mono (fun _ h=>h) hSw (fun b hb=>.inr (.inr ⟨by omega,hb⟩)) (fun b o hb=>hx.cell b o (z0 b (g1 _ b hb)) (fun ⟨ad,h3,h4⟩=>g2 _ ad h3 (h4 ▸ hb)))
theorem Z7k {w:World} {b o i:Nat} {L L2:List Value} (hi:i ≤ L.length)
  (h1:∀ j (h:j < i),w.cell? ⟨b,o + j,none⟩ = some (L[j]'(by omega))) (h2:∀ j (h:j < L2.length),w.cell? ⟨b,o + (i + j),none⟩ = some L2[j])
  (h3:∀ j (h:j < (L.drop i).length),w.cell? ⟨b,o + (i + L2.length + j),none⟩ = some (L.drop i)[j]):CellsAt w b o (L.take i ++ L2 ++ L.drop i):=by
 intro k hk;have hk':=hk;rw [Z53 _ _ _ hi] at hk'
 by_cases c1:k < i
 ·rw [Z3V (ZBg L L2 i hi k c1) hk (by omega)]
  exact h1 k c1
 ·by_cases c2:k < i + L2.length
  ·rw [Z3V (Z8P L L2 i hi k (by omega) c2) hk (by omega)]
   have:=h2 (k - i) (by omega)
   rwa [show o + (i + (k - i)) = o + k by omega] at this
  ·have hd:k - (i + L2.length) < (L.drop i).length:=by rw [List.length_drop]; omega
   rw [Z3V (ZBh L L2 i hi k (by omega)) hk (by omega)];have:=h3 (k - (i + L2.length)) hd;rw [show o + (i + L2.length + (k - (i + L2.length))) = o + k by omega] at this;rw [this,List.getElem_drop]
   congr 2
   omega
theorem Z47 {w:World} {b o:Nat} (h:∃ v,w.cell? ⟨b,o,none⟩ = some v):∃ t k,w.shape? b = some (t,k) ∧ o < k:=by
 obtain ⟨v,hv⟩:=h;unfold World.cell? at hv;unfold World.shape?;dsimp only at hv ⊢
 split at hv
 ·rename_i c e fr hb
  rw [if_neg (by simp)] at hv;exact ⟨_,_,rfl,(Array.getElem?_eq_some_iff.1 hv).1⟩
 ·cases hv
end Go.Abs
set_option linter.unusedVariables false
namespace Go.Abs
open Go.Proofs
section
variable {w:World} {b off i:Nat} {L L2:List Value} (hi:i ≤ L.length) (h1:∀ j (h:j < i),w.cell? ⟨b,off + j,none⟩ = some (L[j]'(by omega)))
 (hsp:∀ j,j < L.length + L2.length → (w.cell? ⟨b,off + j,none⟩).isSome = true)
include hi h1 hsp
theorem two_a:CellsAt ((w.setCells b (off + (i + L2.length)) (L.drop i)).setCells b (off + i) L2) b off (L.take i ++ L2 ++ L.drop i):=by
 have hd:(L.drop i).length = L.length - i:=List.length_drop;have hs1:∀ j,j < (L.drop i).length → (w.cell? ⟨b,off + (i + L2.length) + j,none⟩).isSome = true:=fun j hj=>by
  rw [Nat.add_assoc]; exact hsp _ (by omega)
 refine Z7k hi (fun j h=>?_) (fun j h=>?_) (fun j h=>?_)
 ·rw [World.cell?_setCells_out b L2 _ _ ⟨b,off + j,none⟩ (fun _ _=>by show off + j < off + i ∨ off + i + L2.length ≤ off + j; omega),
   World.cell?_setCells_out b (L.drop i) _ _ ⟨b,off + j,none⟩ (fun _ _=>by show off + j < off + (i + L2.length) ∨ off + (i + L2.length) + (L.drop i).length ≤ off + j; omega)]
  exact h1 j h
 ·rw [show off + (i + j) = off + i + j by omega]
  exact World.cell?_setCells_in b L2 (off + i) _ (fun j hj=>isSome_setCells b _ _ _ hs1 _ (by rw [Nat.add_assoc]; exact hsp _ (by omega))) j h
 ·rw [World.cell?_setCells_out b L2 _ _ ⟨b,off + (i + L2.length + j),none⟩ (fun _ _=>by show off + (i + L2.length + j) < off + i ∨ off + i + L2.length ≤ off + (i + L2.length + j); omega),show off + (i + L2.length + j) = off + (i + L2.length) + j by omega]
  exact World.cell?_setCells_in b (L.drop i) (off + (i + L2.length)) _ hs1 j h
theorem two_b:CellsAt ((w.setCells b (off + i) L2).setCells b (off + (i + L2.length)) (L.drop i)) b off (L.take i ++ L2 ++ L.drop i):=by
 have hd:(L.drop i).length = L.length - i:=List.length_drop;have hs1:∀ j,j < L2.length → (w.cell? ⟨b,off + i + j,none⟩).isSome = true:=fun j hj=>by
  rw [Nat.add_assoc]; exact hsp _ (by omega)
 refine Z7k hi (fun j h=>?_) (fun j h=>?_) (fun j h=>?_)
 ·rw [World.cell?_setCells_out b (L.drop i) _ _ ⟨b,off + j,none⟩ (fun _ _=>by show off + j < off + (i + L2.length) ∨ off + (i + L2.length) + (L.drop i).length ≤ off + j; omega),
   World.cell?_setCells_out b L2 _ _ ⟨b,off + j,none⟩ (fun _ _=>by show off + j < off + i ∨ off + i + L2.length ≤ off + j; omega)]
  exact h1 j h
 ·rw [World.cell?_setCells_out b (L.drop i) _ _ ⟨b,off + (i + j),none⟩ (fun _ _=>by show off + (i + j) < off + (i + L2.length) ∨ off + (i + L2.length) + (L.drop i).length ≤ off + (i + j); omega),show off + (i + j) = off + i + j by omega]
  exact World.cell?_setCells_in b L2 (off + i) _ hs1 j h
 ·rw [show off + (i + L2.length + j) = off + (i + L2.length) + j by omega]
  exact World.cell?_setCells_in b (L.drop i) (off + (i + L2.length)) _ (fun j hj=>isSome_setCells b _ _ _ hs1 _ (by rw [Nat.add_assoc]; exact hsp _ (by omega))) j h
end
theorem Z6L {w:World} {b o n o1 o2:Nat} {X Y:List Value} (h:ZAj w b o n) (h1:∀ j,j < X.length → (w.cell? ⟨b,o1 + j,none⟩).isSome = true)
  (h2:∀ j,j < Y.length → (w.cell? ⟨b,o2 + j,none⟩).isSome = true):ZAj ((w.setCells b o1 X).setCells b o2 Y) b o n:=by
 intro j;refine ⟨fun hj=>?_,by rw [World.frozen?_setCells,World.frozen?_setCells]; exact (h j).2⟩;obtain ⟨v,hv⟩:=(h j).1 hj;exact Option.isSome_iff_exists.1 (isSome_setCells b Y o2 _ (fun k hk=>isSome_setCells b X o1 _ h1 _ (h2 k hk)) _ (isSome_setCells b X o1 _ h1 _ (by rw [hv]; rfl)))
theorem ent_ins (m:Md):Z07 Tryz.prog 140 ⟨insA m,insR m,fun v=>insF v.1 v.2.1 v.2.2.1⟩ where
 body:=⟨Tryz.f140,Tryz.func140,(by
  have hn : (Tryz.f140.name == "runtime.NumGoroutine") = false := by kernel_rfl
  intro h1; rw [h1] at hn; exact absurd hn (by simp)),by kernel_rfl⟩
 ans:=by
  rintro ⟨xs,i0,vs,u⟩ ys hr w vals g hE;have hr:insF xs i0 vs = some ys:=hr
  match vals,hE with
  | [],hE=>have:=hE.len; cases this
  | [_],hE=>have:=hE.len; cases this
  | [_,_],hE=>have:=hE.len; cases this
  | _ :: _ :: _ :: _ :: _,hE=>have:=hE.len; cases this
  | [v0,v1,v2],hE =>
  obtain ⟨hp0,hown,hv0⟩:=hE.arg 0 _ v0 rfl rfl;obtain ⟨hF1,hp1,c1,hro1,hv1⟩:=hE.arg 1 _ v1 rfl rfl;obtain ⟨hp2,hown2,hv2⟩:=hE.arg 2 _ v2 rfl rfl;have e1:v1 = .int .i64 i0:=by rw [hv1.1,show c1 = [.int .i64 i0] from hro1]; rfl
  obtain ⟨⟨h0,h1,h2,h3⟩,rfl⟩:(0 ≤ i0 ∧ i0 ≤ (xs.length:Int) ∧ 0 < vs.length ∧ xs.length + vs.length ≤ lim) ∧ ys = xs.take i0.toNat ++ vs ++ xs.drop i0.toNat:=by
   unfold insF at hr
   split at hr
   ·rename_i hc
    exact ⟨hc,(Option.some.inj hr).symm⟩
   ·cases hr
  obtain ⟨i,rfl⟩:=Int.eq_ofNat_of_zero_le h0;simp only [lim] at h3;have hi:i ≤ xs.length:=Int.ofNat_le.1 h1;rw [Int.toNat_natCast];obtain ⟨A,cap,L,hcs,l1,l2,l3,l4,l5,G,g1,g2,g3,g4⟩:=Z4y (show Own g.S w (.sl TU) (.own m) xs (g.cs 0) (g.F 0) from hown);obtain ⟨A2,cap2,L2,hcs2,k1,k2,k3,k4,k5,G2,m1,m2,m3,m4⟩:=Z4y (show Own g.S w (.sl TU) (.own m) vs (g.cs 2) (g.F 2) from hown2);have hL:L.length = xs.length:=by rw [l4]; exact Nat.mul_one _
  have hL2:L2.length = vs.length:=by rw [k4]; exact Nat.mul_one _
  have o1:∀ v ∈ L,v.oneCell' = true:=Z3I l4 g4
  have o2:∀ v ∈ L2,v.oneCell' = true:=Z3I k4 m4
  have hv0':v0 = .slice A xs.length cap:=by rw [hv0.1,hcs]; rfl
  have hv2':v2 = .slice A2 vs.length cap2:=by rw [hv2.1,hcs2]; rfl
  obtain ⟨ad2,hA2⟩:∃ ad,A2 = some ad:=by
   cases A2 with
   | none=>have:=k2 rfl; omega
   | some a=>exact ⟨a,rfl⟩
  obtain ⟨vb,voff,sp⟩:=ad2;subst hA2;obtain ⟨e2,hvF,hvR⟩:=k3 _ rfl;obtain rfl:sp = none:=e2;have hvF:g.F 2 vb:=hvF;have hvR:ZAj w vb voff (cap2 * 1):=hvR;rw [Nat.mul_one] at hvR;have cv:CellsAt w vb voff L2:=k5 vb voff rfl;have hvs:∀ j v,L2[j]? = some v → w.cell? ⟨vb,voff + j,none⟩ = some v:=fun j v hj=>by
   have hlt:=(List.getElem?_eq_some_iff.1 hj).1;rw [cv j hlt,← List.getElem?_eq_getElem hlt]; exact hj
  have h02:∀ b,g.F 2 b → ¬ g.F 0 b:=fun b h=>hE.FF 2 0 b (by omega) h
  have hA:∀ ad,A = some ad → g.F 0 ad.block:=fun ad h=>(l3 ad h).2.1
  have fin:∀ (w2:World) (B O C:Nat),Ext w w2 (fun b _=>∃ ad,A = some ad ∧ ad.block = b) → ((∃ ad,A = some ad ∧ ad.block = B) ∨ (w.heap.size ≤ B ∧ B < w2.heap.size)) → xs.length + vs.length ≤ C →
    CellsAt w2 B O (L.take i ++ L2 ++ L.drop i) → ZAj w2 B O C →
    ∃ g2,Done w w2 (Z0Q (insA m) (xs,(i:Int),vs,u)) g g2 (Z73 (insR m) (xs.take i ++ vs ++ xs.drop i)) (.slice (some ⟨B,O,none⟩) (xs.length + vs.length) C):=by
   intro w2 B O C hx hB hC hc hR;have ho:=ins_own (S:=g.S) (m:=m) hi hL hL2 g1 g2 g3 g4 m1 m3 m4 h02 hA (hE.Fsz 0) (hE.Fsz 2) (hE.FS 0) hx hB hC hc hR;refine ⟨⟨g.S,fun j b=>j = 3 ∧ (g.F 0 b ∨ g.F 2 b ∨ (w.heap.size ≤ b ∧ b < w2.heap.size)),g.pl,fun _=>[.slice (some ⟨B,O,none⟩) (xs.length + vs.length) C]⟩,
    hx.mono ?_,fun _ h=>h,fun _ h=>.inl h,fun b hb=>Nat.lt_of_lt_of_le (hE.Ssz b hb) hx.size,?_,?_,?_,?_,trivial,?_⟩
   ·rintro b o _ ⟨ad,a1,rfl⟩
    exact .inl ⟨0,hA ad a1⟩
   ·rintro j b ⟨_,a | a | a⟩
    ·exact .inl ⟨0,a⟩
    ·exact .inl ⟨2,a⟩
    ·exact .inr a.1
   ·rintro j b ⟨_,a | a | a⟩
    ·exact Nat.lt_of_lt_of_le (hE.Fsz 0 b a) hx.size
    ·exact Nat.lt_of_lt_of_le (hE.Fsz 2 b a) hx.size
    ·exact a.2
   ·rintro j b ⟨_,a | a | a⟩ hS
    ·exact hE.FS 0 b a hS
    ·exact hE.FS 2 b a hS
    ·have:=hE.Ssz b hS; omega
   ·rintro j k b hne ⟨rfl,_⟩ ⟨rfl,_⟩
    exact hne rfl
   ·show RetRep g.S w2 _ _ (.own (.sl TU) (.own m) (xs.take i ++ vs ++ xs.drop i)) _
    refine ⟨ho.mono (fun _ h=>h) (fun _ _ _ _ h=>h) (fun b h=>⟨rfl,h⟩) (fun _ _ _=>⟨rfl,rfl⟩),rfl,rfl⟩
  subst hv0' e1 hv2';have hvz:vb < w.heap.size:=hE.Fsz 2 vb hvF
  by_cases hroom:xs.length + vs.length ≤ cap
  ·-- room
   obtain ⟨ad,rfl⟩:∃ ad,A = some ad:=by
    cases A with
    | none=>have:=l2 rfl; omega
    | some a=>exact ⟨a,rfl⟩
   obtain ⟨b,off,sp⟩:=ad;obtain ⟨e2,hbF,hbR⟩:=l3 _ rfl;obtain rfl:sp = none:=e2;have hbF:g.F 0 b:=hbF;have hbR:ZAj w b off (cap * 1):=hbR;rw [Nat.mul_one] at hbR;have cL:CellsAt w b off L:=l5 b off rfl;have hcsL:∀ j v,L[j]? = some v → w.cell? ⟨b,off + j,none⟩ = some v:=fun j v hj=>by
    have hlt:=(List.getElem?_eq_some_iff.1 hj).1;rw [cL j hlt,← List.getElem?_eq_getElem hlt]; exact hj
   have hsp:∀ j,j < xs.length + vs.length → (w.cell? ⟨b,off + j,none⟩).isSome = true:=fun j hj=>by
    obtain ⟨v,hv⟩:=(hbR j).1 (by omega);rw [hv]; rfl
   have hvb:vb ≠ b:=fun e=>h02 vb hvF (e ▸ hbF)
   have hd:(L.drop i).length = xs.length - i:=by rw [List.length_drop,hL]
   by_cases hin:i < xs.length
   ·obtain ⟨tA,kA,hsa,hka⟩:=Z47 ((hvR 0).1 (by omega))
    obtain ⟨tB,kB,hsb,hkb⟩:=Z47 ((hbR 0).1 (by omega));have hfe:w.frozen? ⟨vb,kA,none⟩ = false:=by
     have:=(hvR (kA - voff)).2
     rwa [show voff + (kA - voff) = kA by omega] at this
    refine (Z7Y b off xs.length cap i vb voff vs.length cap2 L L2 w hin h2 hroom (by omega) hvb hL hL2 hcsL hsp (fun j _=>(hbR j).2) hvs o1 o2 tA tB kA kB hsa hsb (by omega) (by have:=(hvR 0).2; rwa [Nat.add_zero] at this) hfe).mono fun e w2 ⟨he,hw⟩=>?_
    have hs1:∀ j,j < (L.drop i).length → (w.cell? ⟨b,off + (i + vs.length) + j,none⟩).isSome = true:=fun j hj=>by rw [Nat.add_assoc]; exact hsp _ (by omega)
    have hs2:∀ j,j < L2.length → (w.cell? ⟨b,off + i + j,none⟩).isSome = true:=fun j hj=>by rw [Nat.add_assoc]; exact hsp _ (by omega)
    obtain ⟨g2,hD⟩:=fin w2 b off cap (by
      rw [hw];exact ((Ext.drew w _).trans ((Ext.setCells w.drew b _ _).mono fun b' o' _ hh=>⟨_,rfl,hh.1.symm⟩)).trans ((Ext.setCells _ b _ _).mono fun b' o' _ hh=>⟨_,rfl,hh.1.symm⟩))
     (.inl ⟨_,rfl,rfl⟩) hroom (by
      rw [hw];have:=two_a (w:=w.drew) (b:=b) (off:=off) (i:=i) (L:=L) (L2:=L2) (by omega) (fun j h=>cL j (by omega)) (fun j hj=>hsp j (by omega));rw [hL2] at this;exact this) (by rw [hw]; exact Z6L (w:=w.drew) hbR hs1 hs2)
    exact ⟨_,g2,he,hD⟩
   ·obtain rfl:i = xs.length:=by omega
    refine (Z5F b off xs.length cap vb voff vs.length cap2 L2 w h2 hroom (by omega) hL2 (fun j hj=>by rw [Nat.add_assoc]; exact hsp _ (by omega)) (fun j _=>by rw [Nat.add_assoc]; exact (hbR _).2) hvs o2).mono fun e w2 ⟨he,hw⟩=>?_
    have hs2:∀ j,j < L2.length → (w.cell? ⟨b,off + xs.length + j,none⟩).isSome = true:=fun j hj=>by rw [Nat.add_assoc]; exact hsp _ (by omega)
    have hd0:L.drop xs.length = []:=List.drop_of_length_le (by omega);obtain ⟨g2,hD⟩:=fin w2 b off cap (by rw [hw]; exact (Ext.setCells w b _ _).mono fun b' o' _ hh=>⟨_,rfl,hh.1.symm⟩) (.inl ⟨_,rfl,rfl⟩) hroom (by
      rw [hw];have:=two_b (w:=w) (b:=b) (off:=off) (i:=xs.length) (L:=L) (L2:=L2) (by omega) (fun j h=>cL j (by omega)) (fun j hj=>hsp j (by omega));rw [hd0] at this ⊢;exact this) (by
      rw [hw];exact Z6L (X:=L2) (Y:=[]) (o2:=0) hbR hs2 (fun j hj=>absurd hj (Nat.not_lt_zero _)))
    exact ⟨_,g2,he,hD⟩
  ·have hbig:(xs.length + vs.length) * 24 ≤ 140737488355328:=by omega
   by_cases hin:i < xs.length
   ·obtain ⟨ad,rfl⟩:∃ ad,A = some ad:=by
     cases A with
     | none=>have:=l2 rfl; omega
     | some a=>exact ⟨a,rfl⟩
    obtain ⟨b,off,sp⟩:=ad;obtain ⟨e2,hbF,hbR⟩:=l3 _ rfl;obtain rfl:sp = none:=e2;have cL:CellsAt w b off L:=l5 b off rfl;have hcsL:∀ j v,L[j]? = some v → w.cell? ⟨b,off + j,none⟩ = some v:=fun j v hj=>by
     have hlt:=(List.getElem?_eq_some_iff.1 hj).1;rw [cL j hlt,← List.getElem?_eq_getElem hlt]; exact hj
    refine (Z8S b off xs.length cap i vb voff vs.length cap2 L L2 w hin h2 l1 (by omega) hbig hL hL2 hcsL hvs o1 o2).mono fun e w2 ⟨he,hw⟩=>?_
    have hge:=grownCap_ge w (xs.length + vs.length) cap 49;generalize grownCap w (xs.length + vs.length) cap 49 = C at he hw hge;rw [drew_setCells] at hw;generalize hROW:(L.take i).toArray ++ Builtin.zeroCells (Value.agg #[.slice none 0 0]).cells (xs.length + vs.length - i) ++ Builtin.zeroCells (Value.agg #[.slice none 0 0]).cells (C - (xs.length + vs.length)) = ROW at hw;have hRs:ROW.size = C:=by
     rw [← hROW]
     simp [Builtin.zeroCells,Value.cells,hL]
     omega
    have hRl:∀ j (h:j < i),ROW[j]? = some (L[j]'(by omega)):=fun j h=>by
     rw [← hROW,Array.append_assoc,Array.getElem?_append_left (by simp [hL]; omega)]
     simp [h]
    obtain ⟨n1,n2⟩:=Z1P w ROW 49;obtain ⟨W,hW⟩:∃ W,W = (w.alloc (.cells ROW 49)).drew.drew:=⟨_,rfl⟩
    rw [← hW] at hw;have hWs:W.heap.size = w.heap.size + 1:=by rw [hW]; exact World.size_alloc ..
    have hWR:ZAj W w.heap.size 0 C:=by rw [hW,← hRs]; exact n2
    have hWx:Ext w W (fun _ _=>False):=by rw [hW]; exact ((Ext.alloc _ _ _).trans (Ext.drew _ _)).trans (Ext.drew _ _)
    have hWc:∀ j (h:j < i),W.cell? ⟨w.heap.size,0 + j,none⟩ = some (L[j]'(by omega)):=fun j h=>by
     have e3:W.cell? ⟨w.heap.size,0 + j,none⟩ = (w.alloc (.cells ROW 49)).cell? ⟨w.heap.size,0 + j,none⟩:=by rw [hW]; rfl
     rw [e3,Nat.zero_add,World.cell?_alloc_at _ _ _ _ rfl];exact hRl j h
    have hsp:∀ j,j < L.length + L2.length → (W.cell? ⟨w.heap.size,0 + j,none⟩).isSome = true:=fun j hj=>by
     obtain ⟨v,hv⟩:=(hWR j).1 (by omega);rw [hv]; rfl
    have hd:(L.drop i).length = xs.length - i:=by rw [List.length_drop,hL]
    have tb:=two_b (w:=W) (b:=w.heap.size) (off:=0) (i:=i) (L:=L) (L2:=L2) (by omega) hWc hsp;have rm:=Z6L (X:=L2) (Y:=L.drop i) (o1:=0 + i) (o2:=0 + (i + L2.length)) hWR (fun j hj=>by rw [Nat.add_assoc]; exact hsp _ (by omega)) (fun j hj=>by rw [Nat.add_assoc]; exact hsp _ (by omega));rw [Nat.zero_add,Nat.zero_add,hL2,← hw] at tb rm;have hx:Ext w w2 (fun b' _=>b' = w.heap.size):=by
     rw [hw];exact (((hWx.mono (fun _ _ _ h=>h.elim)).trans ((Ext.setCells W w.heap.size _ _).mono fun b' o' _ hh=>hh.1)).trans ((Ext.setCells _ w.heap.size _ _).mono fun b' o' _ hh=>hh.1))
    have hsz:w.heap.size < w2.heap.size:=by
     have a1:=(Ext.setCells W w.heap.size i L2).size;have a2:=(Ext.setCells (W.setCells w.heap.size i L2) w.heap.size (i + vs.length) (L.drop i)).size;rw [← hw] at a2;omega
    obtain ⟨g2,hD⟩:=fin w2 w.heap.size 0 C (hx.mono fun b' o' hb' hh=>absurd hh (by omega)) (.inr ⟨Nat.le_refl _,hsz⟩) hge tb rm;exact ⟨_,g2,he,hD⟩
   ·obtain rfl:i = xs.length:=by omega
    have hnil:A = none → xs.length = 0:=fun h=>by have:=l2 h; omega
    refine (Z5G A xs.length cap vb voff vs.length cap2 L L2 w h2 l1 (by omega) hbig hL hL2 hnil (fun a ha j v hj=>by
      obtain ⟨b,off,sp⟩:=a;obtain ⟨e2,_,_⟩:=l3 _ ha;obtain rfl:sp = none:=e2;have cL:CellsAt w b off L:=l5 b off ha;have hlt:=(List.getElem?_eq_some_iff.1 hj).1;rw [Addr.add_lit,cL j hlt,← List.getElem?_eq_getElem hlt];exact hj) hvs o2).mono fun e w2 ⟨he,hw⟩=>?_
    have hge:=grownCap_ge w (xs.length + vs.length) cap 49;generalize grownCap w (xs.length + vs.length) cap 49 = C at he hw hge;have hd0:L.drop xs.length = []:=List.drop_of_length_le (by omega);have ht0:L.take xs.length = L:=List.take_of_length_le (by omega);obtain ⟨n1,n2⟩:=Z1P w.drew ((L ++ L2).toArray ++ Builtin.zeroCells (Value.agg #[.slice none 0 0]).cells (C - (xs.length + vs.length))) 49;rw [← hw] at n1 n2;have hsz2:((L ++ L2).toArray ++ Builtin.zeroCells (Value.agg #[.slice none 0 0]).cells (C - (xs.length + vs.length))).size = C:=by
     simp [Builtin.zeroCells,Value.cells,hL,hL2]
     omega
    rw [hsz2] at n2;have hx:Ext w w2 (fun _ _=>False):=by rw [hw]; exact (Ext.drew w _).trans (Ext.alloc _ _ _)
    have hsz:w.heap.size < w2.heap.size:=by rw [hw]; exact Nat.lt_of_lt_of_eq (Nat.lt_succ_self _) (World.size_alloc ..).symm
    obtain ⟨g2,hD⟩:=fin w2 w.heap.size 0 C (hx.mono fun _ _ _ h=>h.elim) (.inr ⟨Nat.le_refl _,hsz⟩) hge (by
      rw [hd0,ht0,List.append_nil];intro j hj;have:=n1 j (by simp only [Array.toList_append,List.length_append] at hj ⊢; omega);simp only [Array.toList_append] at this;rw [List.getElem_append_left (by simpa using hj)] at this;exact this) n2
    exact ⟨_,g2,he,hD⟩
end Go.Abs
