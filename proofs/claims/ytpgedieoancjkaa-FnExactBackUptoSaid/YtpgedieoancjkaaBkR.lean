/- impl.Back: a round. Conditions: none. -/
import Derived.Test.YtpgedieoancjkaaBkQ
set_option linter.unusedVariables false
namespace Go.Abs
open Go.Proofs

/-- A state seen from its own world on. -/
def rbase (w : World) (g : Gh) : Base := ⟨w, g.S, fun b => (∃ i, g.F i b) ∨ ∃ i off, g.pl i = some (b, off), fun _ _ => False, fun i => (g.pl i, g.cs i)⟩

theorem InvG.rebase {P : Program} {B : Base} {nt : Nat} {e : Env} {a : Act} {w w' : World} {g : Gh} (h : InvG P B nt e a w g) (hs : w.heap.size ≤ w'.heap.size)
    (hc : ∀ b o, b < w.heap.size → w'.cell? ⟨b, o, none⟩ = w.cell? ⟨b, o, none⟩ ∧ w'.frozen? ⟨b, o, none⟩ = w.frozen? ⟨b, o, none⟩) (hG : GlobOk P g.S w') : InvG P (rbase w' g) nt e a w' g := by
  have hw : ∀ b o v, g.S b → w.cell? ⟨b, o, none⟩ = some v → w'.cell? ⟨b, o, none⟩ = some v := fun b o v hb hv => by rw [(hc b o (h.Ssz b hb)).1]; exact hv
  have hF : ∀ i b o, g.F i b → w'.cell? ⟨b, o, none⟩ = w.cell? ⟨b, o, none⟩ ∧ w'.frozen? ⟨b, o, none⟩ = w.frozen? ⟨b, o, none⟩ := fun i b o hb => hc b o (h.Fsz i b hb)
  have hp : ∀ i n b o, InR (g.pl i) n b o → w'.cell? ⟨b, o, none⟩ = w.cell? ⟨b, o, none⟩ ∧ w'.frozen? ⟨b, o, none⟩ = w.frozen? ⟨b, o, none⟩ := fun i n b o hR => by
    obtain ⟨o0, e0, _, _⟩ := hR
    exact hc b o (h.plz i b o0 e0).1
  refine ⟨⟨hG, ?_⟩, h.tmps, h.defers, Ext.refl _ _, fun b hb => Nat.lt_of_lt_of_le (h.Ssz b hb) hs, fun i b hb => Nat.lt_of_lt_of_le (h.Fsz i b hb) hs, fun _ h => h, fun _ h => .inl h, fun i b hb => .inl (.inl ⟨i, hb⟩),
    h.FS, h.FF, fun i b off e => ⟨Nat.lt_of_lt_of_le (h.plz i b off e).1 hs, (h.plz i b off e).2⟩, h.absent, fun i o ho => ?_, fun i => ?_⟩
  · rintro b o hS ((⟨i, hF⟩ | ⟨i, off, hp⟩) | h0)
    · exact h.FS i b hF hS
    · exact (h.plz i b off hp).2.1 hS
    · exact h0
  · have hO := h.objs i o ho
    refine ⟨fun hh => ?_, fun p hh hq => ?_, hO.box, fun _ => ?_, fun b off hp => .inl (.inl (.inr ⟨i, off, hp⟩)), fun q off hq => (hO.que q off hq).mono (queAt_ok hq).1 (fun _ h => h) hw (fun b o hb => hF i b o hb)⟩
    · obtain ⟨h1, h2⟩ := hO.own hh
      exact ⟨h1.mono (fun _ h => h) hw (fun _ h => h) (fun b o hb => hF i b o hb), h2.of_same fun b o hR => hp i _ b o hR⟩
    · exact (hO.hole p hh hq).mono (fun _ h => h) hw (fun b o hb => hF i b o hb) (fun b o hR => hp i _ b o hR)
    · unfold ParOk
      split
      · exact ⟨fun _ => rfl, fun _ => rfl⟩
      · exact ⟨rfl, fun _ => rfl⟩
  · exact (h.slots i).mono (fun _ h => h) hw (fun j o ho => ⟨h.objs j o ho, rfl, rfl, fun b o hb => (hF j b o hb).1⟩)

/-- Where the blocks of objects lie. -/
theorem InvG.zone {P : Program} {B : Base} {nt : Nat} {e : Env} {a : Act} {w : World} {g : Gh} (h : InvG P B nt e a w g) {Z : Nat → Prop} (hF : ∀ b, B.Fx b → Z b) (hR : ∀ b o, ¬ B.Rx b o) (hN : ∀ b, B.w0.heap.size ≤ b → Z b) :
    (∀ i b, g.F i b → Z b) ∧ ∀ i b off, g.pl i = some (b, off) → Z b := by
  refine ⟨fun i b hb => (h.Fb i b hb).elim (hF b) (hN b), fun i b off hp => ?_⟩
  by_cases ho : ∃ o, e.obj i = some (some o)
  · obtain ⟨o, ho⟩ := ho
    rcases (h.objs i o ho).plx b off hp with (h1 | h1) | ⟨_, h1⟩
    · exact hF b h1
    · exact hN b h1
    · exact (hR b off (h1 off (Nat.le_refl _) (by have := o.K.size_pos; omega))).elim
  · rw [(h.absent i fun o e => ho ⟨o, e⟩).2] at hp
    cases hp

theorem cell_none {W : World} {a : Addr} {o : Go.Obj} (h : W.heap[a.block]? = some o) (hc : o.isCells = false) : W.cell? a = none ∧ W.frozen? a = false := by
  unfold World.cell? World.frozen?
  rw [h]
  cases o <;> first | exact ⟨rfl, rfl⟩ | (cases hc)

section
variable {W : World} {l : Nat} {o o' : Go.Obj}
theorem put_cell (hl : W.heap[l]? = some o) (h1 : o.isCells = false) (h2 : o'.isCells = false) (a : Addr) : (W.putObj l o').cell? a = W.cell? a ∧ (W.putObj l o').frozen? a = W.frozen? a := by
  have hlt : l < W.heap.size := (Array.getElem?_eq_some_iff.1 hl).1
  by_cases ha : a.block = l
  · have e1 : (W.putObj l o').heap[a.block]? = some o' := by rw [ha]; exact World.putObj_heap_same hlt
    have e2 : W.heap[a.block]? = some o := by rw [ha]; exact hl
    obtain ⟨c1, c2⟩ := cell_none e1 h2
    obtain ⟨d1, d2⟩ := cell_none e2 h1
    exact ⟨c1.trans d1.symm, c2.trans d2.symm⟩
  · have e1 : (W.putObj l o').heap[a.block]? = W.heap[a.block]? := World.putObj_heap_other ha
    exact ⟨World.cell?_of_block e1, World.frozen?_of_block e1⟩

theorem put_ext {w : World} (hx : Ext w W (fun _ _ => False)) (hlw : w.heap.size ≤ l) (hl : W.heap[l]? = some o) (h1 : o.isCells = false) (h2 : o'.isCells = false) : Ext w (W.putObj l o') (fun _ _ => False) :=
  ⟨hx.os, hx.tape, hx.output, hx.drawn, by have := hx.size; simp [World.putObj] at this ⊢; exact this, fun b hb h0 => (World.putObj_heap_other (by omega)).trans (hx.block b hb h0),
    fun b q hb h0 => ⟨(put_cell hl h1 h2 _).1.trans (hx.cell b q hb h0).1, (put_cell hl h1 h2 _).2.trans (hx.cell b q hb h0).2⟩⟩

theorem put_glob {P : Program} {S : Nat → Prop} (h : GlobOk P S W) (hl : W.heap[l]? = some o) (h1 : o.isCells = false) : GlobOk P S (W.putObj l o') := by
  intro nm hm q hq
  obtain ⟨k1, cs, t, fr, k2, k3⟩ := h nm hm q hq
  refine ⟨k1, cs, t, fr, (World.putObj_heap_other ?_).trans k2, k3⟩
  intro e
  rw [e] at k2
  rw [hl] at k2
  cases k2
  cases h1
end

/-- The blocks that the loop may write. -/
def Zn (n0 b : Nat) : Prop := n0 ≤ b ∧ b ≠ n0 + 2 ∧ b ≠ n0 + 3 ∧ b ≠ n0 + 4

/-- Between two rounds. -/
structure Mid (w : World) (S0 : Nat → Prop) (ys : List CHK.T) (W : World) (S F : Nat → Prop) (cs : List Value) : Prop where
  s0 : ∀ b, S0 b → S b
  sz : ∀ b, S b → S0 b ∨ Zn w.heap.size b
  sl : ∀ b, S b → b < W.heap.size
  so : ¬ S (w.heap.size + 1)
  fz : ∀ b, F b → Zn w.heap.size b ∧ b ≠ w.heap.size + 1 ∧ b < W.heap.size ∧ ¬ S b
  own : Own S W (.sl CHK) (.own mB) ys cs F
  pl : PlOk W (some (w.heap.size + 1, 0)) cs
  ob : w.heap.size + 1 < W.heap.size
  ext : Ext w W (fun _ _ => False)

theorem Mid.to {w : World} {S0 : Nat → Prop} {ys : List CHK.T} {W W' : World} {S F : Nat → Prop} {cs : List Value} (h : Mid w S0 ys W S F cs) (hs : W.heap.size ≤ W'.heap.size)
    (hc : ∀ b o, b < W.heap.size → W'.cell? ⟨b, o, none⟩ = W.cell? ⟨b, o, none⟩ ∧ W'.frozen? ⟨b, o, none⟩ = W.frozen? ⟨b, o, none⟩) (hx : Ext w W' (fun _ _ => False)) : Mid w S0 ys W' S F cs :=
  ⟨h.s0, h.sz, fun b hb => Nat.lt_of_lt_of_le (h.sl b hb) hs, h.so, fun b hb => ⟨(h.fz b hb).1, (h.fz b hb).2.1, Nat.lt_of_lt_of_le (h.fz b hb).2.2.1 hs, (h.fz b hb).2.2.2⟩,
    h.own.mono (fun _ h => h) (fun b o v hb hv => by rw [(hc b o (h.sl b hb)).1]; exact hv) (fun _ h => h) (fun b o hb => hc b o (h.fz b hb).2.2.1),
    h.pl.of_same fun b o hR => by
      obtain ⟨o0, e0, _, _⟩ := hR
      cases e0
      exact hc _ o h.ob,
    Nat.lt_of_lt_of_le h.ob hs, hx⟩

theorem Mid.abi {α : Type} {w : World} {S0 : Nat → Prop} {f : α → List CHK.T} {B : Nat} (hB : w.heap.size ≤ B) : AbiFrom B (fun (pre : α) W => ∃ S F cs, Mid w S0 (f pre) W S F cs) where
  put := by
    rintro s W l o o' ⟨S, F, cs, h⟩ hl hh h1 h2
    exact ⟨S, F, cs, h.to (by simp [World.putObj]) (fun b q _ => put_cell hh h1 h2 _) (put_ext h.ext (by omega) hh h1 h2)⟩
  lay := by
    rintro s W o ⟨S, F, cs, h⟩ h1
    exact ⟨S, F, cs, h.to (by simp) (fun b q hb => ⟨World.cell?_alloc_past _ _ _ hb, World.frozen?_alloc_past _ _ _ hb⟩) (h.ext.step (Ext.alloc _ _ (fun _ _ => False)) (fun _ _ _ h => h))⟩

/-- The state at a round's start. -/
def ghM (w : World) (S F : Nat → Prop) (cs : List Value) : Gh := ⟨S, fun i b => i = 3 ∧ F b, fun i => if i = 3 then some (w.heap.size + 1, 0) else none, fun _ => cs⟩

theorem Mid.inv {w : World} {S0 : Nat → Prop} {ys : List CHK.T} {W : World} {S F : Nat → Prop} {cs : List Value} (h : Mid w S0 ys W S F cs) (hG : GlobOk Try.prog S0 w) (hS0 : ∀ b, S0 b → b < w.heap.size)
    {a : Act} (ht : a.tmps.size = 24) (hd : a.defers = []) (h3 : a.tmps.getD 3 undef = .pointer (some ⟨w.heap.size + 1, 0, none⟩)) {x : CHK.T} {c : List Value} (hx : RO S0 w CHK x c) (h10 : a.tmps.getD 10 undef = CHK.val c) :
    InvG Try.prog (rbase W (ghM w S F cs)) 24 (envR x ys) a W (ghM w S F cs) := by
  have hGW : GlobOk Try.prog S W := hG.mono h.s0 fun b hb => h.ext.block b (hS0 b hb) (fun _ h => h)
  have hp3 : ∀ i b off, (ghM w S F cs).pl i = some (b, off) → i = 3 ∧ b = w.heap.size + 1 ∧ off = 0 := fun i b off hp => by
    have hp : (if i = 3 then some (w.heap.size + 1, 0) else none) = some (b, off) := hp
    split at hp
    · cases hp; exact ⟨‹_›, rfl, rfl⟩
    · cases hp
  refine ⟨⟨hGW, ?_⟩, ht, hd, Ext.refl _ _, h.sl, fun i b hb => (h.fz b hb.2).2.2.1, fun _ h => h, fun _ h => .inl h, fun i b hb => .inl (.inl ⟨i, hb⟩), fun i b hb => (h.fz b hb.2).2.2.2,
    fun i j b hij hi hj => hij (hi.1.trans hj.1.symm), fun i b off hp => ?_, fun i hn => ?_, fun i o ho => ?_, fun i => ?_⟩
  · rintro b o hS ((⟨i, hF⟩ | ⟨i, off, hp⟩) | h0)
    · exact (h.fz b hF.2).2.2.2 hS
    · obtain ⟨_, rfl, _⟩ := hp3 i b off hp
      exact h.so hS
    · exact h0
  · obtain ⟨rfl, rfl, rfl⟩ := hp3 i b off hp
    exact ⟨h.ob, h.so, fun j hj => (h.fz _ hj.2).2.1 rfl, fun j off' hj => (hp3 j _ off' hj).1.symm⟩
  · have hi : i ≠ 3 := fun e => hn (OB ys) (by rw [e]; rfl)
    exact ⟨fun b hb => hi hb.1, if_neg hi⟩
  · have hi : i = 3 ∧ o = OB ys := by
      have ho : look [(3, some (OB ys))] i = some (some o) := ho
      by_cases hi : 3 = i
      · subst hi
        cases ho
        exact ⟨rfl, rfl⟩
      · simp [look, hi] at ho
    obtain ⟨rfl, rfl⟩ := hi
    refine ⟨fun _ => ⟨h.own.mono (fun _ h => h) (fun _ _ _ _ h => h) (fun b hb => ⟨rfl, hb⟩) (fun _ _ _ => ⟨rfl, rfl⟩), h.pl⟩, fun p hp _ => by (cases hp), rfl, fun _ => ?_, fun b off hp => .inl (.inl (.inr ⟨3, off, hp⟩)), fun q off hq => ?_⟩
    · unfold ParOk
      split
      · exact ⟨fun _ => rfl, fun _ => rfl⟩
      · exact ⟨rfl, fun _ => rfl⟩
    · cases hq
  · by_cases hi : 10 = i
    · subst hi
      refine ⟨c, hx.mono h.s0 (fun b o v hb hv => ?_), ?_⟩
      · rw [(h.ext.cell b o (hS0 b hb) (fun h => h)).1]; exact hv
      · rw [h10]; exact RO.vrep (fun a b e => by cases e) hx
    · by_cases hi3 : 3 = i
      · subst hi3
        refine ⟨⟨fun e => by (cases e), fun o ho => by (cases ho; exact Nat.zero_le _)⟩, fun o ho _ _ => ?_⟩
        cases ho
        exact ⟨w.heap.size + 1, 0, cs, _, _, _, rfl, rfl, h3⟩
      · have : (envR x ys).get i = .dead := by simp [Env.get, look, hi, hi3]
        rw [this]
        exact trivial
end Go.Abs
