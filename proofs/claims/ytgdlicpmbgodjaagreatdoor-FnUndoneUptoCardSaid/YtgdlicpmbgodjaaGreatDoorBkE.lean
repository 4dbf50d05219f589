/- impl.Back: its entry. Conditions: none. -/
import Derived.Test.YtgdlicpmbgodjaaGreatDoorA4
import Derived.Test.YtgdlicpmbgodjaaGreatDoorBk
import Derived.Test.YtgdlicpmbgodjaaGreatDoorIn
import Derived.Test.YtgdlicpmbgodjaaGreatDoorBF0
set_option linter.unusedVariables false
namespace Go.Abs
abbrev CHK:Kd:=.st (.pair (.int .i64) (.pair (.st (.sl .str)) .bool))
def ZCF (xs:List CHK.T):Option (List CHK.T) :=
 if xs.length ≤ lim ∧ xs.all (fun c=>decide (c.2.1.length ≤ lim)) = true then some (xs.reverse.map fun c=>(c.1,(c.2.1,!c.2.2))) else none
theorem ro_chk {S:Nat → Prop} {w:World} {x:CHK.T} {cs:List Value} (h:RO S w CHK x cs) :
  ∃ A cap,cs = [.int .i64 x.1,.slice A x.2.1.length cap,.bool x.2.2] ∧ RO S w (.sl .str) x.2.1 [.slice A x.2.1.length cap]:=by
 obtain ⟨c1,c2,rfl,h1,c3,c4,rfl,h2,h3⟩:=(show RO S w (.pair (.int .i64) (.pair (.st (.sl .str)) .bool)) x cs from h);have h1:c1 = [.int .i64 x.1]:=h1;have h3:c4 = [.bool x.2.2]:=h3;obtain ⟨A,cap,rfl,hl,he⟩:=(show RO S w (.sl .str) x.2.1 c3 from h2);subst h1 h3;exact ⟨A,cap,rfl,A,cap,rfl,hl,he⟩
def atC (L:List Value) (n i:Nat):List Value:=if i < n then Z0K L 3 i else CHK.zc
theorem ro_all {S:Nat → Prop} {w:World} {xs:List CHK.T} {L:List Value} (h:∀ i (h:i < xs.length),RO S w CHK xs[i] (Z0K L 3 i)) (i:Nat):RO S w CHK (xs.getD i CHK.zero) (atC L xs.length i):=by
 unfold atC
 by_cases hi:i < xs.length
 ·rw [if_pos hi]
  have e:xs.getD i CHK.zero = xs[i]:=by simp [hi]
  rw [e];exact h i hi
 ·rw [if_neg hi]
  have e:xs.getD i CHK.zero = CHK.zero:=by simp [List.getD_eq_getElem?_getD,List.getElem?_eq_none (Nat.le_of_not_lt hi)]
  rw [e];exact RO.zero CHK
theorem ZAl {α:Type} (xs:List α) (d:α):((List.range xs.length).map fun k=>xs.getD (xs.length - 1 - k) d) = xs.reverse:=by
 apply List.ext_getElem
 ·simp
 ·intro i h1 h2
  simp only [List.length_map,List.length_range] at h1;rw [List.getElem_map,List.getElem_range,List.getElem_reverse];have:xs.length - 1 - i < xs.length:=by omega
  simp [this]
end Go.Abs
set_option linter.unusedVariables false
namespace Go.Abs
open Go.Proofs
def TYK:List (Nat × Kd):=[(3,.int .i64),(4,.bool),(9,.str),(47,.sl .str),(49,.st (.sl .str)),(26,.sl CHK),(51,CHK)]
theorem TYK_ok:TysOk Tryz.prog TYK:=show (TYK.all (Z3f Tryz.prog TYK)) = true by kernel_rfl
noncomputable def cB (n:Nat):Ctx:=Z0D Tryz.prog TYK [(99,B.impl_copyTuple.ent n)]
theorem cB_ok (n:Nat):Z0T (cB n):=Z3P TYK_ok
theorem mB_ok (n:Nat):MOk (cB n):=Z01 (mem_cons (B.impl_copyTuple.ok n) Z00)
def rfOf:Code → Code × Code
 | .seq _ (.seq _ (.seq (.seq _ (.block _ (.rangeFunc _ _ x (.block _ y)))) _))=>(x,y)
 | _=>(.skip,.skip)
def opsOf:Code → Array Oper
 | .region _ o _=>o
 | _=>#[]
noncomputable def opsA:Array Oper:=opsOf (rfOf (Tryz.f29.body.getD .skip)).1
noncomputable def opsC:Array Oper:=opsOf (rfOf (Tryz.f29.body.getD .skip)).2
abbrev OB (ys:List CHK.T):Obj:=⟨.sl CHK,.own .ro,ys,true,true,[],none⟩
abbrev envR (x:CHK.T) (ys:List CHK.T):Env:=⟨[(10,.v CHK x),(3,.pt 3 0 [])],[(3,some (OB ys))]⟩
def ZBS (e:Env):Option (List CHK.T):=match e.obj 3 with
 | some (some o)=>if h:o.K.beq (.sl CHK) = true then (if (o.m.beq (.own .ro) && o.par && o.box && o.hl.isNone) = true then some (Z1r h o.x) else none) else none
 | _=>none
theorem Z7F {e:Env} {ys:List CHK.T} (h:ZBS e = some ys):∃ lg,e.obj 3 = some (some ⟨.sl CHK,.own .ro,ys,true,true,lg,none⟩):=by
 unfold ZBS at h
 split at h
 ·rename_i o ho
  split at h
  ·rename_i hb
   split at h
   ·rename_i hc
    obtain ⟨K,m,x,box,par,log,hl⟩:=o;simp only [Bool.and_eq_true,Option.isNone_iff_eq_none] at hc;obtain ⟨⟨⟨h1,h2⟩,h3⟩,h4⟩:=hc;have e1:=Kd.eq_of_beq hb;have e2:=Md.eq_of_beq h1;dsimp only at e1 e2 h2 h3 h4;subst e1 e2 h2 h3 h4;cases h;exact ⟨log,ho⟩
   ·cases h
  ·cases h
 ·cases h
noncomputable def envA (n:Nat) (x:CHK.T) (ys:List CHK.T):Option Env:=ZAf (cB n) 24 [] opsA.toList opsA.toList (envR x ys) some
theorem evA (n:Nat) (x:CHK.T) (ys:List CHK.T):(envA n x ys).isSome = true:=by kernel_rfl
theorem evC (n:Nat) (x:CHK.T) (ys:List CHK.T):((envA n x ys).bind fun e=>Z4J (cB n) 24 [(21,.own .ro),(22,.own .ro)] opsC.toList opsC.toList e [] fun tr e'=>if ZAP opsC.toList tr = true then ZBS e' else none) =
  (B.impl_copyTuple.F n x.2.1).bind fun r=>if List.length ys + List.length [(x.1,(r,!x.2.2))] ≤ lim then some (ys ++ [(x.1,(r,!x.2.2))]) else none:=by kernel_rfl
end Go.Abs
set_option linter.unusedVariables false
namespace Go.Abs
open Go.Proofs
def Z4E (w:World) (g:Gh):Base:=⟨w,g.S,fun b=>(∃ i,g.F i b) ∨ ∃ i off,g.pl i = some (b,off),fun _ _=>False,fun i=>(g.pl i,g.cs i)⟩
theorem InvG.rebase {P:Program} {B:Base} {nt:Nat} {e:Env} {a:Act} {w w':World} {g:Gh} (h:InvG P B nt e a w g) (hs:w.heap.size ≤ w'.heap.size)
  (hc:∀ b o,b < w.heap.size → w'.cell? ⟨b,o,none⟩ = w.cell? ⟨b,o,none⟩ ∧ w'.frozen? ⟨b,o,none⟩ = w.frozen? ⟨b,o,none⟩) (hG:GlobOk P g.S w'):InvG P (Z4E w' g) nt e a w' g:=by
 have hw:∀ b o v,g.S b → w.cell? ⟨b,o,none⟩ = some v → w'.cell? ⟨b,o,none⟩ = some v:=fun b o v hb hv=>by rw [(hc b o (h.Ssz b hb)).1]; exact hv
 have hF:∀ i b o,g.F i b → w'.cell? ⟨b,o,none⟩ = w.cell? ⟨b,o,none⟩ ∧ w'.frozen? ⟨b,o,none⟩ = w.frozen? ⟨b,o,none⟩:=fun i b o hb=>hc b o (h.Fsz i b hb)
 have hp:∀ i n b o,InR (g.pl i) n b o → w'.cell? ⟨b,o,none⟩ = w.cell? ⟨b,o,none⟩ ∧ w'.frozen? ⟨b,o,none⟩ = w.frozen? ⟨b,o,none⟩:=fun i n b o hR=>by
  obtain ⟨o0,e0,_,_⟩:=hR;exact hc b o (h.plz i b o0 e0).1
 refine ⟨⟨hG,?_⟩,h.tmps,h.defers,Ext.refl _ _,fun b hb=>Nat.lt_of_lt_of_le (h.Ssz b hb) hs,fun i b hb=>Nat.lt_of_lt_of_le (h.Fsz i b hb) hs,fun _ h=>h,fun _ h=>.inl h,fun i b hb=>.inl (.inl ⟨i,hb⟩),
  h.FS,h.FF,fun i b off e=>⟨Nat.lt_of_lt_of_le (h.plz i b off e).1 hs,(h.plz i b off e).2⟩,h.absent,fun i o ho=>?_,fun i=>?_⟩
 ·rintro b o hS ((⟨i,hF⟩ | ⟨i,off,hp⟩) | h0)
  ·exact h.FS i b hF hS
  ·exact (h.plz i b off hp).2.1 hS
  ·exact h0
 ·have hO:=h.objs i o ho
  refine ⟨fun hh=>?_,fun p hh hq=>?_,hO.box,fun _=>?_,fun b off hp=>.inl (.inl (.inr ⟨i,off,hp⟩)),fun q off hq=>(hO.que q off hq).mono (Z1h hq).1 (fun _ h=>h) hw (fun b o hb=>hF i b o hb)⟩
  ·obtain ⟨h1,h2⟩:=hO.own hh
   exact ⟨h1.mono (fun _ h=>h) hw (fun _ h=>h) (fun b o hb=>hF i b o hb),h2.of_same fun b o hR=>hp i _ b o hR⟩
  ·exact (hO.hole p hh hq).mono (fun _ h=>h) hw (fun b o hb=>hF i b o hb) (fun b o hR=>hp i _ b o hR)
  ·unfold Z3d
   split
   ·exact ⟨fun _=>rfl,fun _=>rfl⟩
   ·exact ⟨rfl,fun _=>rfl⟩
 ·exact (h.slots i).mono (fun _ h=>h) hw (fun j o ho=>⟨h.objs j o ho,rfl,rfl,fun b o hb=>(hF j b o hb).1⟩)
theorem InvG.zone {P:Program} {B:Base} {nt:Nat} {e:Env} {a:Act} {w:World} {g:Gh} (h:InvG P B nt e a w g) {Z:Nat → Prop} (hF:∀ b,B.Fx b → Z b) (hR:∀ b o,¬ B.Rx b o) (hN:∀ b,B.w0.heap.size ≤ b → Z b) :
  (∀ i b,g.F i b → Z b) ∧ ∀ i b off,g.pl i = some (b,off) → Z b:=by
 refine ⟨fun i b hb=>(h.Fb i b hb).elim (hF b) (hN b),fun i b off hp=>?_⟩
 by_cases ho:∃ o,e.obj i = some (some o)
 ·obtain ⟨o,ho⟩:=ho
  rcases (h.objs i o ho).plx b off hp with (h1 | h1) | ⟨_,h1⟩
  ·exact hF b h1
  ·exact hN b h1
  ·exact (hR b off (h1 off (Nat.le_refl _) (by have:=o.K.size_pos; omega))).elim
 ·rw [(h.absent i fun o e=>ho ⟨o,e⟩).2] at hp
  cases hp
theorem Z7l {W:World} {a:Addr} {o:Go.Obj} (h:W.heap[a.block]? = some o) (hc:o.isCells = false):W.cell? a = none ∧ W.frozen? a = false:=by
 unfold World.cell? World.frozen?;rw [h]
 cases o <;> first | exact ⟨rfl,rfl⟩ | (cases hc)
section
variable {W:World} {l:Nat} {o o':Go.Obj}
theorem Z3L (hl:W.heap[l]? = some o) (h1:o.isCells = false) (h2:o'.isCells = false) (a:Addr):(W.putObj l o').cell? a = W.cell? a ∧ (W.putObj l o').frozen? a = W.frozen? a:=by
 have hlt:l < W.heap.size:=(Array.getElem?_eq_some_iff.1 hl).1
 by_cases ha:a.block = l
 ·have e1:(W.putObj l o').heap[a.block]? = some o':=by rw [ha]; exact World.putObj_heap_same hlt
  have e2:W.heap[a.block]? = some o:=by rw [ha]; exact hl
  obtain ⟨c1,c2⟩:=Z7l e1 h2;obtain ⟨d1,d2⟩:=Z7l e2 h1;exact ⟨c1.trans d1.symm,c2.trans d2.symm⟩
 ·have e1:(W.putObj l o').heap[a.block]? = W.heap[a.block]?:=World.putObj_heap_other ha
  exact ⟨World.cell?_of_block e1,World.frozen?_of_block e1⟩
theorem Z8C {w:World} (hx:Ext w W (fun _ _=>False)) (hlw:w.heap.size ≤ l) (hl:W.heap[l]? = some o) (h1:o.isCells = false) (h2:o'.isCells = false):Ext w (W.putObj l o') (fun _ _=>False) :=
 ⟨hx.os,hx.tape,hx.output,hx.drawn,by have:=hx.size; simp [World.putObj] at this ⊢; exact this,fun b hb h0=>(World.putObj_heap_other (by omega)).trans (hx.block b hb h0),
  fun b q hb h0=>⟨(Z3L hl h1 h2 _).1.trans (hx.cell b q hb h0).1,(Z3L hl h1 h2 _).2.trans (hx.cell b q hb h0).2⟩⟩
theorem put_glob {P:Program} {S:Nat → Prop} (h:GlobOk P S W) (hl:W.heap[l]? = some o) (h1:o.isCells = false):GlobOk P S (W.putObj l o'):=by
 intro nm hm q hq;obtain ⟨k1,cs,t,fr,k2,k3⟩:=h nm hm q hq;refine ⟨k1,cs,t,fr,(World.putObj_heap_other ?_).trans k2,k3⟩;intro e;rw [e] at k2;rw [hl] at k2;cases k2;cases h1
end
def Zn (n0 b:Nat):Prop:=n0 ≤ b ∧ b ≠ n0 + 2 ∧ b ≠ n0 + 3 ∧ b ≠ n0 + 4
structure Mid (w:World) (S0:Nat → Prop) (ys:List CHK.T) (W:World) (S F:Nat → Prop) (cs:List Value):Prop where
 s0:∀ b,S0 b → S b
 sz:∀ b,S b → S0 b ∨ Zn w.heap.size b
 sl:∀ b,S b → b < W.heap.size
 so:¬ S (w.heap.size + 1)
 fz:∀ b,F b → Zn w.heap.size b ∧ b ≠ w.heap.size + 1 ∧ b < W.heap.size ∧ ¬ S b
 own:Own S W (.sl CHK) (.own .ro) ys cs F
 pl:PlOk W (some (w.heap.size + 1,0)) cs
 ob:w.heap.size + 1 < W.heap.size
 ext:Ext w W (fun _ _=>False)
theorem Mid.to {w:World} {S0:Nat → Prop} {ys:List CHK.T} {W W':World} {S F:Nat → Prop} {cs:List Value} (h:Mid w S0 ys W S F cs) (hs:W.heap.size ≤ W'.heap.size)
  (hc:∀ b o,b < W.heap.size → W'.cell? ⟨b,o,none⟩ = W.cell? ⟨b,o,none⟩ ∧ W'.frozen? ⟨b,o,none⟩ = W.frozen? ⟨b,o,none⟩) (hx:Ext w W' (fun _ _=>False)):Mid w S0 ys W' S F cs :=
 ⟨h.s0,h.sz,fun b hb=>Nat.lt_of_lt_of_le (h.sl b hb) hs,h.so,fun b hb=>⟨(h.fz b hb).1,(h.fz b hb).2.1,Nat.lt_of_lt_of_le (h.fz b hb).2.2.1 hs,(h.fz b hb).2.2.2⟩,
  h.own.mono (fun _ h=>h) (fun b o v hb hv=>by rw [(hc b o (h.sl b hb)).1]; exact hv) (fun _ h=>h) (fun b o hb=>hc b o (h.fz b hb).2.2.1),
  h.pl.of_same fun b o hR=>by
   obtain ⟨o0,e0,_,_⟩:=hR;cases e0;exact hc _ o h.ob,
  Nat.lt_of_lt_of_le h.ob hs,hx⟩
theorem Mid.abi {α:Type} {w:World} {S0:Nat → Prop} {f:α → List CHK.T} {B:Nat} (hB:w.heap.size ≤ B):AbiFrom B (fun (pre:α) W=>∃ S F cs,Mid w S0 (f pre) W S F cs) where
 put:=by
  rintro s W l o o' ⟨S,F,cs,h⟩ hl hh h1 h2;exact ⟨S,F,cs,h.to (by simp [World.putObj]) (fun b q _=>Z3L hh h1 h2 _) (Z8C h.ext (by omega) hh h1 h2)⟩
 lay:=by
  rintro s W o ⟨S,F,cs,h⟩ h1;exact ⟨S,F,cs,h.to (by simp) (fun b q hb=>⟨World.cell?_alloc_past _ _ _ hb,World.frozen?_alloc_past _ _ _ hb⟩) (h.ext.step (Ext.alloc _ _ (fun _ _=>False)) (fun _ _ _ h=>h))⟩
def ghM (w:World) (S F:Nat → Prop) (cs:List Value):Gh:=⟨S,fun i b=>i = 3 ∧ F b,fun i=>if i = 3 then some (w.heap.size + 1,0) else none,fun _=>cs⟩
theorem Mid.inv {w:World} {S0:Nat → Prop} {ys:List CHK.T} {W:World} {S F:Nat → Prop} {cs:List Value} (h:Mid w S0 ys W S F cs) (hG:GlobOk Tryz.prog S0 w) (hS0:∀ b,S0 b → b < w.heap.size)
  {a:Act} (ht:a.tmps.size = 24) (hd:a.defers = []) (h3:a.tmps.getD 3 undef = .pointer (some ⟨w.heap.size + 1,0,none⟩)) {x:CHK.T} {c:List Value} (hx:RO S0 w CHK x c) (h10:a.tmps.getD 10 undef = CHK.val c) :
  InvG Tryz.prog (Z4E W (ghM w S F cs)) 24 (envR x ys) a W (ghM w S F cs):=by
 have hGW:GlobOk Tryz.prog S W:=hG.mono h.s0 fun b hb=>h.ext.block b (hS0 b hb) (fun _ h=>h)
 have hp3:∀ i b off,(ghM w S F cs).pl i = some (b,off) → i = 3 ∧ b = w.heap.size + 1 ∧ off = 0:=fun i b off hp=>by
  have hp:(if i = 3 then some (w.heap.size + 1,0) else none) = some (b,off):=hp
  split at hp
  ·cases hp; exact ⟨‹_›,rfl,rfl⟩
  ·cases hp
 refine ⟨⟨hGW,?_⟩,ht,hd,Ext.refl _ _,h.sl,fun i b hb=>(h.fz b hb.2).2.2.1,fun _ h=>h,fun _ h=>.inl h,fun i b hb=>.inl (.inl ⟨i,hb⟩),fun i b hb=>(h.fz b hb.2).2.2.2,
  fun i j b hij hi hj=>hij (hi.1.trans hj.1.symm),fun i b off hp=>?_,fun i hn=>?_,fun i o ho=>?_,fun i=>?_⟩
 ·rintro b o hS ((⟨i,hF⟩ | ⟨i,off,hp⟩) | h0)
  ·exact (h.fz b hF.2).2.2.2 hS
  ·obtain ⟨_,rfl,_⟩:=hp3 i b off hp
   exact h.so hS
  ·exact h0
 ·obtain ⟨rfl,rfl,rfl⟩:=hp3 i b off hp
  exact ⟨h.ob,h.so,fun j hj=>(h.fz _ hj.2).2.1 rfl,fun j off' hj=>(hp3 j _ off' hj).1.symm⟩
 ·have hi:i ≠ 3:=fun e=>hn (OB ys) (by rw [e]; rfl)
  exact ⟨fun b hb=>hi hb.1,if_neg hi⟩
 ·have hi:i = 3 ∧ o = OB ys:=by
   have ho:Z0B [(3,some (OB ys))] i = some (some o):=ho
   by_cases hi:3 = i
   ·subst hi
    cases ho;exact ⟨rfl,rfl⟩
   ·simp [Z0B,hi] at ho
  obtain ⟨rfl,rfl⟩:=hi;refine ⟨fun _=>⟨h.own.mono (fun _ h=>h) (fun _ _ _ _ h=>h) (fun b hb=>⟨rfl,hb⟩) (fun _ _ _=>⟨rfl,rfl⟩),h.pl⟩,fun p hp _=>by (cases hp),rfl,fun _=>?_,fun b off hp=>.inl (.inl (.inr ⟨3,off,hp⟩)),fun q off hq=>?_⟩
  ·unfold Z3d
   split
   ·exact ⟨fun _=>rfl,fun _=>rfl⟩
   ·exact ⟨rfl,fun _=>rfl⟩
  ·cases hq
 ·by_cases hi:10 = i
  ·subst hi
   refine ⟨c,hx.mono h.s0 (fun b o v hb hv=>?_),?_⟩
   ·rw [(h.ext.cell b o (hS0 b hb) (fun h=>h)).1]; exact hv
   ·rw [h10]; exact RO.vrep (fun a b e=>by cases e) hx
  ·by_cases hi3:3 = i
   ·subst hi3
    refine ⟨⟨fun e=>by (cases e),fun o ho=>by (cases ho; exact Nat.zero_le _)⟩,fun o ho _ _=>?_⟩;cases ho;exact ⟨w.heap.size + 1,0,cs,_,_,_,rfl,rfl,h3⟩
   ·have:(envR x ys).get i = .dead:=by simp [Env.get,Z0B,hi,hi3]
    rw [this];exact trivial
end Go.Abs
set_option linter.unusedVariables false
set_option linter.unusedSimpArgs false
namespace Go.Abs
open Go.Proofs
def Z8O (ops:Array Oper):Bool:=ops.toList.all fun o=>match o.op with | .defer _=>false | _=>true
theorem Z5o {ops:Array Oper} (h:Z8O ops = true):∀ (i:Nat) o,ops[i]? = some o → ∀ c,o.op ≠ .defer c:=by
 intro i o ho c hc;have hm:o ∈ ops.toList:=by
  rw [Array.getElem?_eq_some_iff] at ho;obtain ⟨hi,rfl⟩:=ho;exact Array.getElem_mem_toList hi
 have:=List.all_eq_true.1 h o hm;rw [hc] at this;cases this
theorem noDeferA:Z8O opsA = true:=by kernel_rfl
theorem noDeferC:Z8O opsC = true:=by kernel_rfl
theorem evA3 (n:Nat) (x:CHK.T) (ys:List CHK.T):((envA n x ys).bind ZBS) = some ys:=by kernel_rfl
def Asg (n:Nat) (w:World) (S0:Nat → Prop) (x:CHK.T) (ys:List CHK.T) (a:Act) (W:World):Prop :=
 w.heap.size + 5 ≤ W.heap.size ∧ Ext w W (fun _ _=>False) ∧ ∃ e B g,envA n x ys = some e ∧ InvG Tryz.prog B 24 e a W g ∧ g.pl 3 = some (w.heap.size + 1,0) ∧ (∀ b,S0 b → g.S b) ∧ (∀ b,g.S b → S0 b ∨ Zn w.heap.size b) ∧
  (∀ i b,g.F i b → Zn w.heap.size b) ∧ (∀ i b off,g.pl i = some (b,off) → Zn w.heap.size b)
theorem Asg.abi {n:Nat} {w:World} {S0:Nat → Prop} {x:CHK.T} {ys:List CHK.T} {a:Act} {B:Nat} (hB:w.heap.size ≤ B):AbiFrom B (fun (_:Unit) W=>Asg n w S0 x ys a W) where
 put:=by
  rintro s W l o o' ⟨h0,hx,e,B',g,h1,h2,h3,h4,h5,h6,h7⟩ hl hh k1 k2;refine ⟨by simp [World.putObj]; exact h0,Z8C hx (by omega) hh k1 k2,e,_,g,h1,h2.rebase (by simp [World.putObj]) (fun b q _=>Z3L hh k1 k2 _) (put_glob h2.globw hh k1),h3,h4,h5,h6,h7⟩
 lay:=by
  rintro s W o ⟨h0,hx,e,B',g,h1,h2,h3,h4,h5,h6,h7⟩ k1;exact ⟨Nat.le_trans h0 (by simp),hx.step (Ext.alloc _ _ (fun _ _=>False)) (fun _ _ _ h=>h),e,_,g,h1,h2.world (Ext.alloc _ _ _),h3,h4,h5,h6,h7⟩
theorem Z9P {n0:Nat} {W W':World} {X:Nat → Nat → Prop} (hx:Ext W W' X) (hX:∀ b o,X b o → Zn n0 b) (hn:n0 ≤ W.heap.size):Z3z (n0 + 3) W W' ∧ Bk.KpB n0 (n0 + 2) W W':=by
 refine ⟨fun k o h1 h2 h3 _=>?_,⟨hx.os,hx.tape,hx.output,hx.size,fun k hk=>?_⟩,fun v hv=>?_⟩
 ·rw [hx.block k (Array.getElem?_eq_some_iff.1 h3).1 (fun q hq=>by have:=hX k q hq; unfold Zn at this; omega)]
  exact h3
 ·exact hx.block k (by omega) (fun q hq=>by have:=hX k q hq; unfold Zn at this; omega)
 ·exact hx.same (fun hq=>by have:=hX _ _ hq; unfold Zn at this; omega) hv
theorem Z3m {w W:World} {S F:Nat → Prop} {cs:List Value} {S0:Nat → Prop} {ys:List CHK.T} (h:Mid w S0 ys W S F cs):∀ b,(Z4E W (ghM w S F cs)).Fx b → Zn w.heap.size b:=by
 rintro b (⟨i,hb⟩ | ⟨i,off,hp⟩)
 ·exact (h.fz b hb.2).1
 ·have hp:(if i = 3 then some (w.heap.size + 1,0) else none) = some (b,off):=hp
  split at hp
  ·cases hp
   unfold Zn;omega
  ·cases hp
theorem ZCH (n l m:Nat) {w:World} {S0:Nat → Prop} {ys:List CHK.T} {W:World} {S F:Nat → Prop} {cs:List Value} (h:Mid w S0 ys W S F cs) (h5:w.heap.size + 5 ≤ W.heap.size) (hG:GlobOk Tryz.prog S0 w) (hS0:∀ b,S0 b → b < w.heap.size)
  {a:Act} (ht:a.tmps.size = 24) (hd:a.defers = []) (h3:a.tmps.getD 3 undef = .pointer (some ⟨w.heap.size + 1,0,none⟩)) {x:CHK.T} {c:List Value} (hx:RO S0 w CHK x c) (h10:a.tmps.getD 10 undef = CHK.val c) :
  (Code.region 3 opsA false).wpIn (Fence.wide.inRound l) m Tryz.prog (Exit.then (fun a1 W1=>Z3z (w.heap.size + 3) W W1 ∧ Bk.KpB w.heap.size (w.heap.size + 2) W W1 ∧ Asg n w S0 x ys a1 W1) (fun _ _ _=>False)) a W:=by
 have hi:=h.inv hG hS0 ht hd h3 hx h10;obtain ⟨e,he⟩:=Option.isSome_iff_exists.1 (evA n x ys);have h3e:=evA3 n x ys;rw [he,Option.bind_some] at h3e;obtain ⟨e',e1,h2⟩:=Z6k (B:=Z4E W (ghM w S F cs)) (cB_ok n) (mB_ok n) (List.range opsA.size) opsA.toList (envR x ys) some Z7B he;cases e1;refine wpIn_region (Z1w (Z5o noDeferA) (by rintro ⟨_,_,hq⟩; exact hq) _ _ _ (h2 a W ⟨_,hi⟩ _ fun a1 W1 ⟨g1,hi1⟩=>?_));have hX:∀ b o,(Z4E W (ghM w S F cs)).X b o → Zn w.heap.size b:=fun b o hb=>hb.elim (Z3m h b) (fun h=>h.elim)
 obtain ⟨k1,k2⟩:=Z9P hi1.ext hX (by have:(Z4E W (ghM w S F cs)).w0 = W:=rfl; rw [this]; omega);obtain ⟨z1,z2⟩:=hi1.zone (Z:=Zn w.heap.size) (Z3m h) (fun _ _ h=>h) (fun b hb=>by
  have hb:W.heap.size ≤ b:=hb;unfold Zn
  omega)
 obtain ⟨lg,ho⟩:=Z7F h3e;refine ⟨k1,k2,Nat.le_trans h5 hi1.ext.size,h.ext.step hi1.ext (fun b o hb hX'=>by have:=hX b o hX'; unfold Zn at this; omega),e,_,g1,he,hi1,?_,fun b hb=>hi1.S0 b (h.s0 b hb),fun b hb=>?_,z1,z2⟩
 ·have hp:=(hi1.objs 3 _ ho).par rfl
  unfold Z3d at hp
  split at hp
  ·exact hp.1 (by simp [Z4E,ghM])
  ·exact hp.1
 ·rcases hi1.Sb b hb with h1 | h1 | h1
  ·exact h.sz b h1
  ·exact .inr (Z3m h b h1)
  ·have h1:W.heap.size ≤ b:=h1
   exact .inr (by unfold Zn; omega)
theorem body_ok (n l m:Nat) {w:World} {S0:Nat → Prop} {ys zs:List CHK.T} {W:World} {a:Act} {x:CHK.T} (h:Asg n w S0 x ys a W) (hl:x.2.1.length ≤ lim) (hy:ys.length + 1 ≤ lim) (hz:zs = ys ++ [(x.1,(x.2.1,!x.2.2))])
  {α:Type} (f:List α → List CHK.T) (pre:List α) (hf:f pre = zs) :
  (Code.block 1 (Code.region 4 opsC true)).wpIn (Fence.wide.inRound l) m Tryz.prog (Z97 (w.heap.size + 3) (Bk.KpB w.heap.size (w.heap.size + 2)) (fun (pre:List α) W=>∃ S F cs,Mid w S0 (f pre) W S F cs) pre W) a W:=by
 obtain ⟨h5,hx,e,B,g,he,hi,hp3,hs0,hs,hF,hp⟩:=h;have hev:=evC n x ys;rw [he,Option.bind_some] at hev;have hc:Go.Abs.B.impl_copyTuple.F n x.2.1 = some x.2.1:=by
  unfold Go.Abs.B.impl_copyTuple.F;rw [if_pos (by simpa using hl),List.nil_append]
 rw [hc,Option.bind_some,if_pos (by simpa using hy),← hz] at hev;have hG:=hi.globw;have hi2:=hi.rebase (Nat.le_refl _) (fun _ _ _=>⟨rfl,rfl⟩) hG;obtain ⟨e',e1,h2⟩:=Z9a (B:=Z4E W g) (k:=ZBS) (cB_ok n) (mB_ok n) hev;refine wpIn_block (wpIn_region_any Bk.mixB (Z22 (Z5o noDeferC) (by rintro ⟨_,_,hq⟩; exact hq) _ _ _ _ (h2 a _ ⟨_,hi2.grow (Ext.drew W _)⟩ _ fun a1 W1 ⟨g1,hi1⟩=>?_)));have hfx:∀ b,(Z4E W g).Fx b → Zn w.heap.size b:=by
  rintro b (⟨i,hb⟩ | ⟨i,off,hb⟩)
  ·exact hF i b hb
  ·exact hp i b off hb
 have hX:∀ b o,(Z4E W g).X b o → Zn w.heap.size b:=fun b o hb=>hb.elim (hfx b) (fun h=>h.elim)
 obtain ⟨k1,k2⟩:=Z9P hi1.ext hX (by have:(Z4E W g).w0 = W:=rfl; rw [this]; omega);obtain ⟨lg,ho⟩:=Z7F e1;have hO:=hi1.objs 3 _ ho;have hpl:g1.pl 3 = some (w.heap.size + 1,0):=by
  have hp:=hO.par rfl;unfold Z3d at hp;have e4:((Z4E W g).hd 3).1 = some (w.heap.size + 1,0):=hp3;rw [e4] at hp
  split at hp
  ·exact hp.1 (by simp)
  ·exact hp.1
 obtain ⟨q1,q2,q3,q4⟩:=hi1.plz 3 _ _ hpl;obtain ⟨o1,o2⟩:=hO.own rfl;refine (show Z3z (w.heap.size + 3) W W1 ∧ Bk.KpB w.heap.size (w.heap.size + 2) W W1 ∧ ∃ S F cs,Mid w S0 (f pre) W1 S F cs from ⟨k1,k2,g1.S,g1.F 3,g1.cs 3,?_⟩);rw [hf];refine ⟨fun b hb=>hi1.S0 b (hs0 b hb),fun b hb=>?_,hi1.Ssz,q2,fun b hb=>⟨?_,fun e=>q3 3 (e ▸ hb),hi1.Fsz 3 b hb,hi1.FS 3 b hb⟩,o1,by rw [← hpl]; exact o2,q1,hx.step hi1.ext (fun b o hb hX'=>by have:=hX b o hX'; unfold Zn at this; omega)⟩
 ·rcases hi1.Sb b hb with h1 | h1 | h1
  ·exact hs b h1
  ·exact .inr (hfx b h1)
  ·have h1:W.heap.size ≤ b:=h1
   exact .inr (by unfold Zn; omega)
 ·rcases hi1.Fb 3 b hb with h1 | h1
  ·exact hfx b h1
  ·have h1:W.heap.size ≤ b:=h1
   unfold Zn;omega
section
open Go.RowKit Go.Shelf Go.Proofs.Bk
attribute [local go_sem] Oper.semAt_some
set_option maxRecDepth 100000 in
set_option maxHeartbeats 4000000 in
theorem ZCE (w:World) (S0:Nat → Prop) (hG:GlobOk Tryz.prog S0 w) (hS0:∀ b,S0 b → b < w.heap.size) (xs:List CHK.T) (hl:xs.length ≤ lim) (hr:∀ c ∈ xs,c.2.1.length ≤ lim)
  (A:Option Addr) (cap:Nat) (L:List Value) (l1:xs.length ≤ cap) (l2:L.length = xs.length * 3) (l3:∀ b o,A = some ⟨b,o,none⟩ → CellsAt w b o L) (l4:0 < xs.length → ∃ b o,A = some ⟨b,o,none⟩ ∧ S0 b)
  (l5:∀ i (h:i < xs.length),RO S0 w CHK xs[i] (Z0K L 3 i)) :
  CallsIn Fence.wide 4 Tryz.prog 29 #[.slice A xs.length cap] w fun e w2=>∃ S F cs,e = .returned (Kd.val (.sl CHK) cs) ∧ Mid w S0 (xs.reverse.map fun c=>(c.1,(c.2.1,!c.2.2))) w2 S F cs:=by
 have t26:=Tryz.underlying26; have t51:=Tryz.underlying51;have a26:=Tryz.isAgg26; have a51:=Tryz.isAgg51;have z26:=Tryz.sizeOf26; have z51:=Tryz.sizeOf51;have v26:=Tryz.zeroValue26; have v51:=Tryz.zeroValue51;have u26:=run_underlying Tryz.underlying26; have u51:=run_underlying Tryz.underlying51;have mixed:=mixB;have hall:=ro_all l5;have hz:∀ i,∃ q:Value × Value × Value,atC L xs.length i = [q.1,q.2.1,q.2.2]:=fun i=>by
  obtain ⟨B,c,h1,_⟩:=ro_chk (hall i);exact ⟨(_,_,_),h1⟩
 obtain ⟨z,hz⟩:=Classical.axiomOfChoice hz;refine callsIn_of_wp_marks Tryz.func29 rfl trivial ?_ rfl;simp only [Tryz.ntmps29,List.size_toArray,List.length_cons,List.length_nil,Nat.reduceAdd,Nat.reduceSub,Array.replicate_succ,Array.replicate_zero,List.push_toArray,List.append_toArray,List.nil_append,List.cons_append]
 gi_wp2
 refine ⟨trivial,(back_in Fence.wide 3 trivial rfl _ _ _ _).mono ?_⟩;rintro e w' ⟨rfl,rfl⟩
 gi_wp2
 rename_i K hK;obtain ⟨W1,hW1⟩:∃ W1,W1 = ((w.alloc (.cells #[] 51)).alloc (.cells #[.slice (some ⟨w.heap.size,0,none⟩) 0 0] 26)).alloc (.cells #[.slice A xs.length cap] 26):=⟨_,rfl⟩
 rw [← hW1];have hsz:W1.heap.size = w.heap.size + 3:=by rw [hW1]; simp
 have hx1:Ext w W1 (fun _ _=>False):=by rw [hW1]; exact ((Ext.alloc _ _ _).step (Ext.alloc _ _ (fun _ _=>False)) (fun _ _ _ h=>h)).step (Ext.alloc _ _ (fun _ _=>False)) (fun _ _ _ h=>h)
 have hm0:Mid w S0 [] W1 S0 (fun b=>b = w.heap.size) [.slice (some ⟨w.heap.size,0,none⟩) 0 0]:=by
  refine ⟨fun _ h=>h,fun _ h=>.inl h,fun b hb=>by have:=hS0 b hb; omega,fun h=>by have:=hS0 _ h; omega,fun b hb=>?_,?_,?_,by omega,hx1⟩
  ·subst hb
   exact ⟨by unfold Zn; omega,by omega,by omega,fun h=>by have:=hS0 _ h; omega⟩
  ·refine ⟨_,0,rfl,Nat.le_refl _,fun h=>by (cases h),fun ad e=>?_,fun _ _=>False,fun _ _ h=>h.elim,fun _ _ _ h=>h,fun _ _ _ _ h=>h.elim,fun i hi=>absurd hi (Nat.not_lt_zero _)⟩
   cases e;refine ⟨rfl,rfl,fun j=>⟨fun hj=>absurd hj (by simp),?_⟩⟩;rw [hW1,World.frozen?_alloc_past _ _ _ (by simp; omega)];exact World.frozen?_alloc2_first _ _ _ _
  ·intro b o e
   cases e;refine ⟨fun j hj=>?_,fun j hj=>?_⟩
   ·obtain rfl:j = 0:=by simpa using hj
    rw [hW1,World.cell?_alloc_past _ _ _ (by simp)];rw [World.cell?_alloc_at _ _ _ _ (by simp)]
    rfl
   ·rw [hW1,World.frozen?_alloc_past _ _ _ (by simp)]
    exact World.frozen?_alloc2_new _ _ _ _
 let fE:Nat → CHK.T:=fun i=>((xs.getD i CHK.zero).1,((xs.getD i CHK.zero).2.1,!(xs.getD i CHK.zero).2.2))
 have hlim:∀ i,(xs.getD i CHK.zero).2.1.length ≤ lim:=fun i=>by
  by_cases hi:i < xs.length
  ·have:xs.getD i CHK.zero = xs[i]:=by simp [hi]
   rw [this];exact hr _ (List.getElem_mem hi)
  ·have:xs.getD i CHK.zero = CHK.zero:=by simp [List.getD_eq_getElem?_getD,List.getElem?_eq_none (Nat.le_of_not_lt hi)]
   rw [this];exact Nat.zero_le _
 refine Z31 rfl (by omega) (gf:=147) (lb:=#[.pointer (some ⟨w.heap.size + 2,0,none⟩)]) rfl trivial (enters_of Tryz.func147 (by kernel_rfl) rfl) (encs:=encE z) (w0:=W1)
  (stops Fence.wide 3 trivial rfl (by omega) (w.heap.size + 2) w.heap.size xs.length cap A z hl W1 (by omega) (by omega) ?cBs ?cells) (fun h k=>h.trans k) ?hKb (Below.refl _ _) (fun x=>rfl)
  (fun pre W=>∃ S F cs,Mid w S0 (pre.map fE) W S F cs) (Mid.abi (by omega)) ⟨_,_,_,hm0⟩ (fun pre x a W=>Asg 0 w S0 (xs.getD x CHK.zero) (pre.map fE) a W) (fun pre x a=>Asg.abi (by omega)) ?assign ?body ?done
 case cBs =>
  rw [hW1,World.cell?_alloc_at _ _ _ _ (by simp)]
  rfl
 case cells =>
  by_cases h0:xs.length = 0
  ·exact .inl h0
  ·obtain ⟨b,o,rfl,hb⟩:=l4 (by omega)
   refine .inr ⟨b,o,rfl,hS0 b hb,fun j hj=>?_⟩;have hcl:=l3 b o rfl;have e1:Z0K L 3 j = [(z j).1,(z j).2.1,(z j).2.2]:=by rw [← hz j]; unfold atC; rw [if_pos hj]
   have gt:∀ q (hq:q < 3),W1.cell? ⟨b,o + j * 3 + q,none⟩ = some (([(z j).1,(z j).2.1,(z j).2.2]:List Value)[q]'(by simpa using hq)):=fun q hq=>by
    rw [(hx1.cell b _ (hS0 b hb) (fun h=>h)).1,Nat.add_assoc,hcl (j * 3 + q) (by omega)];have e2:(Z0K L 3 j)[q]? = some (L[j * 3 + q]'(by omega)):=by
     simp only [Z0K];rw [List.getElem?_take,if_pos hq,List.getElem?_drop,List.getElem?_eq_getElem (by omega)]
    rw [e1] at e2;rw [List.getElem?_eq_getElem (by simpa using hq)] at e2;exact e2.symm
   exact ⟨gt 0 (by omega),gt 1 (by omega),gt 2 (by omega)⟩
 case hKb =>
  intro W k o o' hk hh h1 _;refine ⟨belowK_b (w:=W1) (by omega) W k o o' hk hh h1 ‹_›,fun v hv=>?_⟩;rw [World.cell?_of_block (w:=W) (World.putObj_heap_other (by show w.heap.size + 2 ≠ k; omega))];exact hv
 case assign =>
  rintro l pre x W ⟨S,F,cs,hm⟩ hlen h5;have:=ZCH 0 l (4 - 1 - 1) hm (by omega) hG hS0 (a:={ tmps:=((#[9,10]:Array Tmp).zip (encE z x)).foldl (fun t (p,v)=>t.setIfInBounds p v) #[.slice A xs.length cap,undef,.slice none 0 0,.pointer (some ⟨w.heap.size + 1,0,none⟩),undef,undef,.slice (some ⟨w.heap.size,0,none⟩) 0 0,.slice A xs.length cap,.func (.func 147) #[] #[.pointer (some ⟨w.heap.size + 1 + 1,0,none⟩)],undef,undef,undef,undef,undef,undef,undef,undef,undef,undef,undef,undef,undef,undef,undef],defers:=[] })
   (by simp [encE]) rfl (by simp [encE]) (hall x) (by rw [hz x]; simp [encE]; rfl)
  rw [← hsz] at this;exact this
 case body =>
  rintro l pre x a1 W hA hlen;have:=body_ok 0 l (4 - 1 - 1) hA (hlim x) (by rw [List.length_map]; omega) rfl (fun pre=>pre.map fE) (pre ++ [x]) (by simp [fE]);rw [← hsz] at this;exact this
 case done =>
  rintro D ys W hD rfl ⟨S,F,cs,hm⟩ hdef;refine hK _ _ ?_;obtain ⟨A',cap',rfl,_⟩:=hm.own;have hc:=(hm.pl _ _ rfl).1 0 (by simp);simp only [Nat.add_zero,List.getElem_cons_zero] at hc
  gi_wp2
  refine ⟨by simp,.inl ⟨_,_,rfl,run_takeDeferred hdef,?_⟩⟩;have e5:(upto (back xs.length) xs.length).map fE = xs.reverse.map fun c=>(c.1,(c.2.1,!c.2.2)):=by
   rw [← ZAl xs CHK.zero,List.map_map];unfold upto;rw [List.map_map]
   rfl
  refine ⟨_,results_tmp rfl _ _ _,S,F,[.slice A' ((upto (back xs.length) xs.length).map fE).length cap'],by simp [Kd.val,Kd.agg],?_⟩;rw [← e5];exact hm.to (by simp [World.putObj]) (fun b q _=>Z3L hdef rfl rfl _) (Z8C hm.ext (by omega) hdef rfl rfl)
end
theorem ent_back:Z07 Tryz.prog 29 ⟨[.ro (.sl CHK)],[.ro (.sl CHK)],fun v=>ZCF v.1⟩ where
 body:=⟨Tryz.f29,Tryz.func29,(by
  have hn : (Tryz.f29.name == "runtime.NumGoroutine") = false := by kernel_rfl
  intro h1; rw [h1] at hn; exact absurd hn (by simp)),by kernel_rfl⟩
 ans:=by
  rintro ⟨xs,u⟩ ys hr w vals g hE;have hr:ZCF xs = some ys:=hr
  match vals,hE with
  | [],hE=>have:=hE.len; cases this
  | _ :: _ :: _,hE=>have:=hE.len; cases this
  | [v0],hE =>
  obtain ⟨_,_,c,hro,hv⟩:=hE.arg 0 _ v0 rfl rfl;unfold ZCF at hr
  split at hr
  case isFalse=>cases hr
  rename_i hc;cases hr;obtain ⟨A,cap,L,rfl,l1,l2,l3,l4,l5⟩:=ro_row (show RO g.S w (.sl CHK) xs c from hro);obtain rfl:v0 = .slice A xs.length cap:=hv.1;refine callsIn_wide.1 ((ZCE w g.S hE.glob hE.Ssz xs hc.1 (fun c hm=>of_decide_eq_true (List.all_eq_true.1 hc.2 c hm)) A cap L l1 l2 l3 l4 l5).mono ?_);rintro e w2 ⟨S,F,cs,rfl,hm⟩;refine ⟨_,⟨fun b=>S b ∨ F b,fun _ _=>False,g.pl,fun _=>cs⟩,rfl,hm.ext.mono (fun _ _ _ h=>h.elim),fun b hb=>.inl (hm.s0 b hb),?_,?_,fun _ _ h=>h.elim,fun _ _ h=>h.elim,fun _ _ h=>h.elim,fun _ _ _ _ h=>h.elim,trivial,?_⟩
  ·rintro b (hb | hb)
   ·rcases hm.sz b hb with h | h
    ·exact .inl h
    ·exact .inr (.inr h.1)
   ·exact .inr (.inr (hm.fz b hb).1.1)
  ·rintro b (hb | hb)
   ·exact hm.sl b hb
   ·exact (hm.fz b hb).2.2.1
  ·have ho:=Own.toRO (S':=fun b=>S b ∨ F b) (fun b hb=>.inl hb) (fun b hb=>.inr hb) hm.own
   exact ⟨fun _ h=>h,ho,RO.vrep (fun a b e=>by (cases e)) ho⟩
end Go.Abs
