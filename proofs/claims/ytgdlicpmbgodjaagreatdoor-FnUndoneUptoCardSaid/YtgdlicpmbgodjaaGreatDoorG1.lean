/- Keys of rows; rows put in order. Conditions: none. -/
import Derived.Test.YtgdlicpmbgodjaaGreatDoorT13
namespace Go.Abs
set_option linter.unusedVariables false
set_option linter.unusedSimpArgs false
def Z3u (t:Tu):List Tu → List Tu
 | []=>[t]
 | x :: r=>if tpc x t < 0 then x :: Z3u t r else if tpc x t = 0 then x :: r else t :: x :: r
theorem Z2O {t:Tu}:∀ {l:List Tu},(∀ x ∈ l,∀ s ∈ x,okS s) → (∀ s ∈ t,okS s) → ∀ y,y ∈ Z3u t l ↔ y = t ∨ y ∈ l
 | [],_,_,y=>by simp [Z3u]
 | x :: r,h,ht,y=>by
  have ih:=Z2O (t:=t) (l:=r) (fun z hz=>h z (List.mem_cons_of_mem _ hz)) ht y;unfold Z3u
  split
  ·rw [List.mem_cons,ih,List.mem_cons]
   constructor
   ·rintro (h | h | h)
    ·exact .inr (.inl h)
    ·exact .inl h
    ·exact .inr (.inr h)
   ·rintro (h | h | h)
    ·exact .inr (.inl h)
    ·exact .inl h
    ·exact .inr (.inr h)
  ·split
   ·rename_i h0
    have:x = t:=(tpc_ord.zero x t (h x List.mem_cons_self) ht).1 h0;rw [this]
    simp
   ·simp
theorem Z4W {t:Tu}:∀ {l:List Tu},(∀ x ∈ l,∀ s ∈ x,okS s) → (∀ s ∈ t,okS s) → srt l → srt (Z3u t l)
 | [],_,_,_=>List.pairwise_singleton _ _
 | x :: r,h,ht,hs=>by
  obtain ⟨h1,h2⟩:=List.pairwise_cons.1 hs;have hx:=h x List.mem_cons_self;have hr:∀ z ∈ r,∀ s ∈ z,okS s:=fun z hz=>h z (List.mem_cons_of_mem _ hz)
  unfold Z3u
  split
  ·rename_i hlt
   refine List.pairwise_cons.2 ⟨fun y hy=>?_,Z4W hr ht h2⟩;rcases (Z2O hr ht y).1 hy with rfl | hy
   ·exact hlt
   ·exact h1 y hy
  ·split
   ·exact hs
   ·rename_i h3 h4
    have hn:=tpc_ord.neg x t hx ht;have htx:tpc t x < 0:=by
     have:tpc x t > 0:=by omega
     show Z3e bc t x < 0;have e:Z3e bc t x = - tpc x t:=hn;omega
    refine List.pairwise_cons.2 ⟨fun y hy=>?_,hs⟩;rcases List.mem_cons.1 hy with rfl | hy
    ·exact htx
    ·exact tpc_ord.trans t x y ht hx (hr y hy) htx (h1 y hy)
theorem ZB0:∀ {a b:List Tu},(∀ x ∈ a,∀ s ∈ x,okS s) → srt a → srt b → (∀ x,x ∈ a ↔ x ∈ b) → a = b
 | [],[],_,_,_,_=>rfl
 | [],y :: b,_,_,_,h=>by have:=(h y).2 List.mem_cons_self; cases this
 | x :: a,[],_,_,_,h=>by have:=(h x).1 List.mem_cons_self; cases this
 | x :: a,y :: b,ok,ha,hb,h=>by
  obtain ⟨a1,a2⟩:=List.pairwise_cons.1 ha;obtain ⟨b1,b2⟩:=List.pairwise_cons.1 hb;have okx:=ok x List.mem_cons_self;have oky:∀ s ∈ y,okS s:=ok y ((h y).2 List.mem_cons_self)
  have irr:∀ z:Tu,(∀ s ∈ z,okS s) → ¬ tpc z z < 0:=fun z hz=>by
   have:=(tpc_ord.zero z z hz hz).2 rfl;show ¬ Z3e bc z z < 0;have e:Z3e bc z z = 0:=this;omega
  have hxy:x = y:=by
   rcases List.mem_cons.1 ((h x).1 List.mem_cons_self) with e | hx
   ·exact e
   ·rcases List.mem_cons.1 ((h y).2 List.mem_cons_self) with e | hy
    ·exact e.symm
    ·exact absurd (tpc_ord.trans x y x okx oky okx (a1 y hy) (b1 x hx)) (irr x okx)
  subst hxy;rw [ZB0 (fun z hz=>ok z (List.mem_cons_of_mem _ hz)) a2 b2 (fun z=>?_)]
  constructor
  ·intro hz
   rcases List.mem_cons.1 ((h z).1 (List.mem_cons_of_mem _ hz)) with e | hz'
   ·subst e; exact absurd (a1 z hz) (irr z okx)
   ·exact hz'
  ·intro hz
   rcases List.mem_cons.1 ((h z).2 (List.mem_cons_of_mem _ hz)) with e | hz'
   ·subst e; exact absurd (b1 z hz) (irr z okx)
   ·exact hz'
end Go.Abs
