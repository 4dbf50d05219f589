/- The draws of a Db and of changes. Conditions: none. -/
import Derived.Test.YtgdlicpmbgodjaaGreatDoorD3
import Derived.Test.YtgdlicpmbgodjaaGreatDoorU3
namespace Go.Abs
set_option linter.unusedVariables false
set_option linter.unusedSimpArgs false
def ChsSm (l:List Ch):Prop:=l.length ≤ 20000 ∧ ∀ c ∈ l,∀ s ∈ c.2.1,s.size ≤ 1048576
theorem ChsSm.add {l:List Ch} {c:Ch} {m:Nat} (h:l.length ≤ m ∧ ∀ c ∈ l,∀ s ∈ c.2.1,s.size ≤ 1048576) (hc:∀ s ∈ c.2.1,s.size ≤ 1048576):(l ++ [c]).length ≤ m + 1 ∧ ∀ x ∈ l ++ [c],∀ s ∈ x.2.1,s.size ≤ 1048576 :=
 ⟨by simp; exact h.1,fun x hx=>by
  rcases List.mem_append.1 hx with hx | hx
  ·exact h.2 x hx
  ·rw [List.mem_singleton.1 hx]; exact hc⟩
theorem Z8c {d:List Re} (h:DbSm d):d.length ≤ 1048576 ∧ (∀ x ∈ d,∀ t ∈ x.2,∀ s ∈ t,s.size ≤ 1048576) ∧ ∀ x ∈ d,∀ t ∈ x.2,t.length ≤ 1048576 :=
 ⟨by have:=h.1; omega,fun x hx t ht s hs=>by have:=((h.2 x hx).2 t ht).2 s hs; omega,fun x hx t ht=>by have:=((h.2 x hx).2 t ht).1; omega⟩
theorem Z7e {n:Nat} (hn:1100003 ≤ n) (code:List Int) (hb:∀ b ∈ code,0 ≤ b ∧ b ≤ 255) (hl:code.length ≤ 1048576):∃ d l,spec_DrawApply.F n code = some (d,l) ∧ DbSm d ∧ ChsSm l:=by
 obtain ⟨c,e0,hc⟩:=open_ok n code hb hl;obtain ⟨a,c1,e1,h1,A⟩:=Z72 hn hc (by omega);obtain ⟨b,c2,e2,h2,B⟩:=Z72 hn h1 (by omega);obtain ⟨p1,p2,p3⟩:=Z8c A;obtain ⟨q1,q2,q3⟩:=Z8c B;obtain ⟨w,w1,w2⟩:=ZAZ n n (by omega) (by omega) a b p1 p2 p3 q1 q2 q3;have hw:w.1.length ≤ 16000 ∧ ∀ x ∈ w.1,∀ s ∈ x.2.1,s.size ≤ 1048576:=by
  rcases w2 with rfl | ⟨rfl,DA,DB,hab,har⟩
  ·exact ⟨Nat.zero_le _,fun x hx=>by cases hx⟩
  ·have hlen:=ZC2 (a:=a) (b:=b) (i:=0) (fun x hx=>(DA.rel x hx).2.2.1) (fun x hx=>(DB.rel x hx).2.2.1)
   have h20:=DA.len;refine ⟨by show (chs a b 0).length ≤ 16000; omega,fun x hx s hs=>?_⟩;rcases ZC1 hx with ⟨y,hy,ht⟩ | ⟨y,hy,ht⟩
   ·exact p2 y hy _ ht s hs
   ·exact q2 y hy _ ht s hs
 obtain ⟨q,c3,e3,h3,_⟩:=Z3o (n:=n) (k:=5) h2 (by omega);unfold spec_DrawApply.F;rw [e0,Option.bind_some,e1,Option.bind_some,e2,Option.bind_some,w1,Option.bind_some,e3,Option.bind_some];dsimp only
 by_cases hq:q = true
 ·obtain ⟨r4,c4,e4,h4,_⟩:=Z2b (n:=n) (k:=4) h3 (by omega)
  obtain ⟨r5,c5,e5,h5,k5⟩:=Z1N (n:=n) (k:=3) h4 (by omega) (by omega);obtain ⟨T,rfl⟩:=Int.eq_ofNat_of_zero_le k5.1;obtain ⟨t,c6,e6,h6,k6⟩:=Z8n hn T (by omega) h5 (by omega);obtain ⟨r7,c7,e7,h7,_⟩:=Z2b (n:=n) (k:=2) h6 (by omega);obtain ⟨q8,c8,e8,h8,_⟩:=Z3o (n:=n) (k:=16) h7 (by omega);have hw2:=ChsSm.add (c:=(r4,(t,decide (r7 = 0)))) hw (fun s hs=>by have:=k6.2 s hs; omega);rw [if_pos hq,e4,Option.bind_some];dsimp only;rw [e5,Option.bind_some];dsimp only;rw [e6,Option.bind_some];dsimp only;rw [e7,Option.bind_some];dsimp only;rw [if_pos (by simp [lim]; omega),e8,Option.bind_some];dsimp only
  by_cases hq8:q8 = true
  ·obtain ⟨r9,c9,e9,h9,_⟩:=ZBL (n:=n) h8 (by omega)
   have hw3:=ChsSm.add (c:=(r9,([],false))) hw2 (fun s hs=>by cases hs);rw [if_pos hq8,e9,Option.bind_some];dsimp only;rw [if_pos (by simp [lim]; omega)];exact ⟨_,_,rfl,A,by omega,hw3.2⟩
  ·rw [if_neg hq8]
   exact ⟨_,_,rfl,A,by omega,hw2.2⟩
 ·obtain ⟨q8,c8,e8,h8,_⟩:=Z3o (n:=n) (k:=16) h3 (by omega)
  rw [if_neg hq,e8,Option.bind_some];dsimp only
  by_cases hq8:q8 = true
  ·obtain ⟨r9,c9,e9,h9,_⟩:=ZBL (n:=n) h8 (by omega)
   have hw3:=ChsSm.add (c:=(r9,([],false))) hw (fun s hs=>by cases hs);rw [if_pos hq8,e9,Option.bind_some];dsimp only;rw [if_pos (by simp [lim]; omega)];exact ⟨_,_,rfl,A,by omega,hw3.2⟩
  ·rw [if_neg hq8]
   exact ⟨_,_,rfl,A,by omega,hw.2⟩
end Go.Abs
