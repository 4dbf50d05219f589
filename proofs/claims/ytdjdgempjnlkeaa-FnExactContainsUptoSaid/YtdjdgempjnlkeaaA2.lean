/- The abstract interpreter of the elaborated code, and that what it answers is what the machine does: part 2. Conditions: none. -/
import Derived.Laws.MakeOwn
import Derived.Laws.Append
import Derived.Deep.AppendSrc
import Derived.Deep.Upon
import Derived.Deep.DeepAppendWide
import Derived.Test.YtdjdgempjnlkeaaA1
set_option linter.unusedVariables false
set_option linter.unusedSimpArgs false
namespace Go.Abs
section
variable {c : Ctx} {B : Base} {nt : Nat} {o : Oper} {Ω : Type} {k : Delta → Option Ω} {out : Ω} {fr : Bool}
structure Bnds (lo hi : Option Operand) (bs : List View) (len : Nat) (l h : Int) : Prop where
 low : ∀ {P : Program} {B : Base} {nt : Nat} {e : Env} {a : Act} {w : World} {g : Gh}, InvG P B nt e a w g → (lo.toList ++ hi.toList).map (fun x => e.view (e.opd x)) = bs →
  (lo.map a.eval = none ∧ l = 0 ∨ ∃ ik, lo.map a.eval = some (.int ik l)) ∧ (hi.map a.eval = none ∧ h = (len : Int) ∨ ∃ ik, hi.map a.eval = some (.int ik h))
theorem views_slice {e : Env} {x : Operand} {lo hi : Option Operand} {t : Nat} {v : View} {bs : List View} (ho : o.op = .slice t x lo hi none) (h : e.views o = v :: bs) :
  e.view (e.opd x) = v ∧ (lo.toList ++ hi.toList).map (fun x => e.view (e.opd x)) = bs := by
 have : o.op.operands = #[x] ++ lo.toArray ++ hi.toArray ++ (Option.none : Option Operand).toArray := by rw [ho]; rfl
 simp only [Env.views, Oper.opds, this] at h
 cases lo <;> cases hi <;> simp at h ⊢ <;> exact h
theorem exec_slice {P : Program} {a : Act} {w : World} {x : Operand} {lo hi : Option Operand} {t : Nat} {d : TypeDesc} (ho : o.op = .slice t x lo hi none) (hu : P.underlying t = some d) (hd : ∀ n e, d ≠ .array n e) :
  (execOp a.eval o).run P w = ((Instr.slice t (a.eval x) (lo.map a.eval) (hi.map a.eval) none).run P w).andThen fun v w' => .ok (.value v) w' := by
 have : (Instr.sliceAt t (a.eval x) (lo.map a.eval) (hi.map a.eval) none).run P w = (Instr.slice t (a.eval x) (lo.map a.eval) (hi.map a.eval) none).run P w := by
  unfold Instr.sliceAt
  rw [Sem.run_bind, run_underlying hu, Result.andThen_ok]
  cases d <;> first | rfl | exact absurd rfl (hd _ _)
 simp only [execOp, ho, Option.map_none, Sem.run_bind, this]
 rfl
theorem ok_slice_str {x : Operand} {lo hi : Option Operand} {t : Nat} {s : ByteArray} {v : View} {bs : List View} {l h : Int} (hc : CtxOk c) (ho : o.op = .slice t x lo hi none) (ht : tyIs c t .str = true)
  (hv : rdv v = some ⟨.str, s⟩) (hb : Bnds lo hi bs s.size l h) (h0 : 0 ≤ l ∧ l ≤ h ∧ h ≤ (s.size : Int)) (hk : put1 nt o.dst (.v .str (s.extract l.toNat h.toNat)) k = some out) : Step1 c B nt o (v :: bs) fr k out := by
 obtain ⟨hT, _⟩ := tyIs_ok hc.ty ht
 have hu := hT.str rfl
 refine stepOk_pure hk fun e he a w g hg => ⟨.string (s.extract l.toNat h.toNat), ?_, rep_mk_str _ _ _ _ _⟩
 obtain ⟨v1, v2⟩ := views_slice ho he.1
 obtain ⟨cs, r1, r2⟩ := rdv_rep hg v1 hv
 rw [show cs = [.string s] from r1] at r2
 have e1 : a.eval x = .string s := r2.1
 obtain ⟨b1, b2⟩ := hb.low hg v2
 rw [exec_slice ho hu (by intros; simp), e1]
 unfold Instr.slice
 simp only [Sem.run_bind, run_underlying hu, Result.andThen_ok, Option.isSome_none, Bool.false_eq_true, if_false, Sem.run_pure, run_bounds false s.size s.size _ _ l h b1 b2 h0.1 h0.2.1 h0.2.2 (Nat.le_refl _)]
theorem run_slice_sl {P : Program} {ty : List (Nat × Kd)} {t : Nat} {e : Kd} (hty : TysOk P ty) (ht : TyOk P ty t (.sl e)) {w : World} {A : Option Addr} {len cap : Nat} {lo hi : Option Value} {l h : Int}
  (b1 : lo = none ∧ l = 0 ∨ ∃ ik, lo = some (.int ik l)) (b2 : hi = none ∧ h = (len : Int) ∨ ∃ ik, hi = some (.int ik h)) (h0 : 0 ≤ l ∧ l ≤ h ∧ h ≤ (len : Int)) (hcap : len ≤ cap) :
  (Instr.slice t (.slice A len cap) lo hi none).run P w = .ok (.slice (if cap = l.toNat then A else A.map (·.add (l.toNat * e.size))) (h.toNat - l.toNat) (cap - l.toNat)) w := by
 obtain ⟨t', hu, hl⟩ := ht.sl e rfl
 have hs := (hty.get hl).size w
 unfold Instr.slice
 simp only [Sem.run_bind, run_underlying hu, Result.andThen_ok, run_bounds true len cap lo hi l h b1 b2 h0.1 h0.2.1 h0.2.2 hcap, hs, Sem.run_pure]
theorem ok_slice_ro {x : Operand} {lo hi : Option Operand} {t : Nat} {e : Kd} {xs : List e.T} {q : Option Obj} {bs : List View} {l h : Int} (hc : CtxOk c) (ho : o.op = .slice t x lo hi none) (ht : tyIs c t (.sl e) = true)
  (hb : Bnds lo hi bs xs.length l h) (h0 : 0 ≤ l ∧ l ≤ h ∧ h ≤ (xs.length : Int)) (hk : put1 nt o.dst (.v (.sl e) ((List.take h.toNat xs).drop l.toNat)) k = some out) : Step1 c B nt o ((.v (.sl e) xs, q) :: bs) fr k out := by
 obtain ⟨hT, _⟩ := tyIs_ok hc.ty ht
 obtain ⟨t', hu, hl'⟩ := hT.sl e rfl
 refine stepOk_pure hk fun e0 he a w g hg => ?_
 obtain ⟨v1, v2⟩ := views_slice ho he.1
 obtain ⟨cs, hro, hv⟩ := view_rep hg v1
 obtain ⟨A, cap, rfl, hl, hel⟩ := hro
 have e1 : a.eval x = .slice A xs.length cap := hv.1
 obtain ⟨b1, b2⟩ := hb.low hg v2
 have len : ((List.take h.toNat xs).drop l.toNat).length = h.toNat - l.toNat := by simp; omega
 refine ⟨.slice (if cap = l.toNat then A else A.map (·.add (l.toNat * e.size))) (h.toNat - l.toNat) (cap - l.toNat), ?_, [.slice (if cap = l.toNat then A else A.map (·.add (l.toNat * e.size))) (h.toNat - l.toNat) (cap - l.toNat)], ?_, rfl, rfl⟩
 ·rw [exec_slice ho hu (by intros; simp), e1, run_slice_sl hc.ty hT b1 b2 h0 hl]
  rfl
 ·refine ⟨_, _, by rw [len], by rw [len]; omega, fun i hi => ?_⟩
  rw [len] at hi
  have hi2 : l.toNat + i < xs.length := by omega
  obtain ⟨b, off, vs, hA, hb', hcs, hro2⟩ := hel (l.toNat + i) hi2
  have hne : cap ≠ l.toNat := by omega
  refine ⟨b, off + l.toNat * e.size, vs, ?_, hb', ?_, ?_⟩
  ·rw [if_neg hne, hA]; simp only [Option.map_some, add_nospot]
  ·have : off + l.toNat * e.size + i * e.size = off + (l.toNat + i) * e.size := by rw [Nat.add_mul]; omega
   rw [this]; exact hcs
  ·have : ((List.take h.toNat xs).drop l.toNat)[i]'(by rw [len]; exact hi) = xs[l.toNat + i] := by simp
   rw [this]; exact hro2
theorem look_app {α : Type} : ∀ (l r : List (Nat × α)) (n : Nat), look (l ++ r) n = match look l n with | some x => some x | none => look r n
 | [], _, _ => rfl
 |(i, x) :: l, r, n => by
  simp only [List.cons_append, look]
  split
  ·rfl
  ·exact look_app l r n
theorem look_cons_self {α : Type} (n : Nat) (x : α) (l : List (Nat × α)) : look ((n, x) :: l) n = some x := by
 simp [look]
theorem look_cons_ne {α : Type} {i n : Nat} (h : i ≠ n) (x : α) (l : List (Nat × α)) : look ((i, x) :: l) n = look l n := by
 simp [look, h]
theorem look_gone : ∀ (mv : List Nat) (n : Nat), look (gone mv) n = if n ∈ mv then some none else none
 | [], _ => by simp [gone, look]
 | i :: l, n => by
  by_cases h : i = n
  ·subst h; simp [gone, look]
  ·have ih := look_gone l n
   simp only [gone] at ih
   simp only [gone, List.map_cons]
   rw [look_cons_ne h, ih]
   have : (n ∈ i :: l) ↔ n ∈ l := by simp [show n ≠ i from fun e => h e.symm]
   simp [this]
def Gh.new (g : Gh) (d : Nat) (mv : List Nat) (Fd : Nat → Prop) (pl : Place) (cs : List Value) : Gh where
 S := g.S
 F := fun i b => if i = d then Fd b else if i ∈ mv then False else g.F i b
 pl := fun i => if i = d then pl else if i ∈ mv then none else g.pl i
 cs := fun i => if i = d then cs else g.cs i
theorem InvG.create {P : Program} {nt : Nat} {e : Env} {a : Act} {w w' : World} {g : Gh} (h : InvG P B nt e a w g) (hx : Ext w w' (fun _ _ => False)) {d : Nat} (hd : e.obj d = none) (mv : List Nat)
  (hmv : ∀ i, i ∈ mv → ∃ o, e.obj i = some (some o)) (ob : Obj) (Fd : Nat → Prop) (pl : Place) (cs : List Value)
  (hFd : ∀ b, Fd b → (w.heap.size ≤ b ∧ b < w'.heap.size) ∨ ∃ i, i ∈ mv ∧ g.F i b)
  (hpl : ∀ b off, pl = some (b, off) → w.heap.size ≤ b ∧ b < w'.heap.size ∧ ¬ Fd b)
  (hok : Own g.S w' ob.K ob.m ob.x cs Fd ∧ PlOk w' pl cs) (hbox : ob.box = pl.isSome) (hhl : ob.hl = none) (hpar : ob.par = false) :
  InvG P B nt ⟨e.slots, (d, some ob) :: gone mv ++ e.objs⟩ a w' (g.new d mv Fd pl cs) := by
 have hdm : d ∉ mv := fun hm => by obtain ⟨o, ho⟩ := hmv d hm; rw [hd] at ho; cases ho
 have hobj : ∀ i, (Env.mk e.slots ((d, some ob) :: gone mv ++ e.objs)).obj i = if i = d then some (some ob) else if i ∈ mv then some none else e.obj i := by
  intro i
  show look ((d, some ob) :: (gone mv ++ e.objs)) i = _
  by_cases hi : i = d
  ·subst hi; rw [look_cons_self, if_pos rfl]
  ·rw [look_cons_ne (fun e => hi e.symm), if_neg hi, look_app, look_gone]
   by_cases hm : i ∈ mv
   ·rw [if_pos hm, if_pos hm]
   ·rw [if_neg hm, if_neg hm]; rfl
 have hFlt : ∀ i b, g.F i b → b < w.heap.size := h.Fsz
 have Fnew : ∀ i b, (g.new d mv Fd pl cs).F i b → (i = d ∧ Fd b) ∨ (i ≠ d ∧ i ∉ mv ∧ g.F i b) := by
  intro i b hF
  simp only [Gh.new] at hF
  split at hF
  ·exact .inl ⟨by assumption, hF⟩
  ·split at hF
   ·exact hF.elim
   ·exact .inr ⟨by assumption, by assumption, hF⟩
 have plnew : ∀ i b off, (g.new d mv Fd pl cs).pl i = some (b, off) → (i = d ∧ pl = some (b, off)) ∨ (i ≠ d ∧ i ∉ mv ∧ g.pl i = some (b, off)) := by
  intro i b off hF
  simp only [Gh.new] at hF
  split at hF
  ·exact .inl ⟨by assumption, hF⟩
  ·split at hF
   ·cases hF
   ·exact .inr ⟨by assumption, by assumption, hF⟩
 have base_le : B.w0.heap.size ≤ w.heap.size := h.ext.size
 have old : ∀ i b, g.F i b → B.Fx b ∨ B.w0.heap.size ≤ b := h.Fb
 refine h.change (fun i => i = d ∨ i ∈ mv) rfl (h.ext.step hx (fun _ _ _ h => h.elim)) (fun _ h => h) (fun b o v _ hv => hx.same (fun h => h) hv)
  (fun b hb => Nat.lt_of_lt_of_le (h.Ssz b hb) hx.size) ?_ h.Sb ?_ ?_ ?_ ?_ ?_ ?_ ?_ ?_ ?_
 ·intro i b hF
  rcases Fnew i b hF with ⟨_, hF⟩ | ⟨_, _, hF⟩
  ·rcases hFd b hF with ⟨_, h2⟩ | ⟨j, _, h2⟩
   ·exact h2
   ·exact Nat.lt_of_lt_of_le (hFlt j b h2) hx.size
  ·exact Nat.lt_of_lt_of_le (hFlt i b hF) hx.size
 ·intro i b hF
  rcases Fnew i b hF with ⟨_, hF⟩ | ⟨_, _, hF⟩
  ·rcases hFd b hF with ⟨h1, _⟩ | ⟨j, _, h2⟩
   ·exact .inr (by omega)
   ·exact old j b h2
  ·exact old i b hF
 ·intro i b hF hS
  have hS' : g.S b := hS
  rcases Fnew i b hF with ⟨_, hF⟩ | ⟨_, _, hF⟩
  ·rcases hFd b hF with ⟨h1, _⟩ | ⟨j, _, h2⟩
   ·have := h.Ssz b hS'; omega
   ·exact h.FS j b h2 hS'
  ·exact h.FS i b hF hS'
 ·intro i j b hne hF hF'
  rcases Fnew i b hF with ⟨h1, hF⟩ | ⟨h1, h2, hF⟩ <;> rcases Fnew j b hF' with ⟨h3, hF'⟩ | ⟨h3, h4, hF'⟩
  ·exact hne (h1.trans h3.symm)
  ·rcases hFd b hF with ⟨h5, _⟩ | ⟨l, h5, h6⟩
   ·have := hFlt j b hF'; omega
   ·exact h.FF l j b (fun e => h4 (e ▸ h5)) h6 hF'
  ·rcases hFd b hF' with ⟨h5, _⟩ | ⟨l, h5, h6⟩
   ·have := hFlt i b hF; omega
   ·exact h.FF l i b (fun e => h2 (e ▸ h5)) h6 hF
  ·exact h.FF i j b hne hF hF'
 ·intro i b off hp
  rcases plnew i b off hp with ⟨h1, hp⟩ | ⟨h1, h2, hp⟩
  ·obtain ⟨h3, h4, h5⟩ := hpl b off hp
   refine ⟨h4, fun hS => by have := h.Ssz b hS; omega, fun j hF => ?_, fun j off' hp' => ?_⟩
   ·rcases Fnew j b hF with ⟨_, hF⟩ | ⟨_, _, hF⟩
    ·exact h5 hF
    ·have := hFlt j b hF; omega
   ·rcases plnew j b off' hp' with ⟨h6, _⟩ | ⟨_, _, h6⟩
    ·exact h1.trans h6.symm
    ·have := (h.plz j b off' h6).1; omega
  ·obtain ⟨h3, h4, h5, h6⟩ := h.plz i b off hp
   refine ⟨Nat.lt_of_lt_of_le h3 hx.size, h4, fun j hF => ?_, fun j off' hp' => ?_⟩
   ·rcases Fnew j b hF with ⟨_, hF⟩ | ⟨_, _, hF⟩
    ·rcases hFd b hF with ⟨h7, _⟩ | ⟨l, _, h7⟩
     ·omega
     ·exact h5 l h7
    ·exact h5 j hF
   ·rcases plnew j b off' hp' with ⟨_, h7⟩ | ⟨_, _, h7⟩
    ·have := (hpl b off' h7).1; omega
    ·exact h6 j off' h7
 ·intro i hi
  have hi1 : i ≠ d := fun e => hi (.inl e)
  have hi2 : i ∉ mv := fun e => hi (.inr e)
  refine ⟨by rw [hobj, if_neg hi1, if_neg hi2], ?_, ?_, ?_, fun b o hF => hx.cell b o (hFlt i b hF) (fun h => h), fun b off hp o => hx.cell b o (h.plz i b off hp).1 (fun h => h)⟩
  ·funext b; simp [Gh.new, hi1, hi2]
  ·simp [Gh.new, hi1, hi2]
  ·simp [Gh.new, hi1]
 ·intro i hi hno
  rcases hi with rfl | hi
  ·exact absurd (by rw [hobj, if_pos rfl]) (hno ob)
  ·have : i ≠ d := fun e => hdm (e ▸ hi)
   exact ⟨fun b hF => by simp [Gh.new, this, hi] at hF, by simp [Gh.new, this, hi]⟩
 ·intro i o' hi ho'
  rw [hobj] at ho'
  rcases hi with rfl | hi
  ·rw [if_pos rfl] at ho'
   cases ho'
   refine ⟨fun _ => ?_, (fun p hp => by rw [hhl] at hp; cases hp), ?_, (fun hp => by rw [hpar] at hp; cases hp), (fun b off hp => ?_), fun q off hq => no_que hhl hq⟩
   ·simp only [Gh.new, if_pos]
    exact hok
   ·simp [Gh.new, hbox]
   ·simp only [Gh.new, if_pos] at hp
    have := (hpl b off hp).1
    exact .inl (by omega)
  ·have : i ≠ d := fun e => hdm (e ▸ hi)
   rw [if_neg this, if_pos hi] at ho'
   cases ho'
 ·intro i hi n p v hs
  rcases hi with rfl | hi
  ·exact absurd hd hs.1.1
  ·have : i ≠ d := fun e => hdm (e ▸ hi)
   have e1 : (Env.mk e.slots ((d, some ob) :: gone mv ++ e.objs)).obj i = some none := by rw [hobj, if_neg this, if_pos hi]
   exact ⟨⟨by rw [e1]; simp, (fun o ho => by rw [e1] at ho; cases ho)⟩, (fun o ho => by rw [e1] at ho; cases ho)⟩
 ·intro i hi n p v hs
  rcases hi with rfl | hi
  ·exact absurd hd hs.1.1
  ·have : i ≠ d := fun e => hdm (e ▸ hi)
   have e1 : (Env.mk e.slots ((d, some ob) :: gone mv ++ e.objs)).obj i = some none := by rw [hobj, if_neg this, if_pos hi]
   exact ⟨⟨by rw [e1]; simp, (fun o ho => by rw [e1] at ho; cases ho)⟩, (fun o ho => by rw [e1] at ho; cases ho)⟩
theorem step_new {vs : List View} {ob : Obj} {isPt : Bool} {mv : List Nat} (hk : putNew nt o.dst fr ob isPt (gone mv) k = some out) (hhl : ob.hl = none) (hpar : ob.par = false) (hlog : ob.log = [])
  (h : ∀ e : Env, e.views o = vs → ∀ a w g, InvG c.P B nt e a w g → ∃ v w' Fd pl cs, (execOp a.eval o).run c.P w = .ok (.value v) w' ∧ Ext w w' (fun _ _ => False) ∧ (∀ i, i ∈ mv → ∃ o, e.obj i = some (some o)) ∧
   (∀ b, Fd b → (w.heap.size ≤ b ∧ b < w'.heap.size) ∨ ∃ i, i ∈ mv ∧ g.F i b) ∧ (∀ b off, pl = some (b, off) → w.heap.size ≤ b ∧ b < w'.heap.size ∧ ¬ Fd b) ∧
   (Own g.S w' ob.K ob.m ob.x cs Fd ∧ PlOk w' pl cs) ∧ ob.box = pl.isSome ∧
   (if isPt then ∃ b off, pl = some (b, off) ∧ v = .pointer (some ⟨b, off, none⟩) else VRep ob.K cs v)) : Step1 c B nt o vs fr k out := by
 unfold putNew at hk
 split at hk
 ·cases hk
 ·rename_i d hd
  split at hk
  ·rename_i hf
   rw [Bool.and_eq_true] at hf
   have hlt : d < nt := Nat.le_of_ble_eq_true hf.1
   refine ⟨_, hk, fun e he => stepOk_value hd hlt fun a w g hg => ?_⟩
   have hfr : fresh e o.dst = true := by rw [he.2]; exact hf.2
   have hnone : e.obj d = none := by
    rw [hd] at hfr
    simp only [fresh, Bool.and_eq_true] at hfr
    simpa using hfr.1.1.1.1
   obtain ⟨v, w', Fd, pl, cs, r1, r2, r3, r4, r5, r6, r7, r8⟩ := h e he.1 a w g hg
   refine ⟨v, w', _, r1, hg.create r2 hnone mv r3 ob Fd pl cs r4 r5 r6 r7 hhl hpar, ?_⟩
   have e1 : (Env.mk e.slots (((d, some ob) :: gone mv) ++ e.objs)).obj d = some (some ob) := by
    show look ((d, some ob) :: (gone mv ++ e.objs)) d = _
    exact look_cons_self _ _ _
   have hok1 : ∀ p, okAl ob 0 p = true := fun p => by simp [okAl, since, hlog]
   cases isPt with
   | true =>
    obtain ⟨b, off, e2, rfl⟩ := r8
    refine ⟨⟨by rw [e1]; simp, fun _ _ => Nat.zero_le _⟩, fun o2 ho2 _ _ => ?_⟩
    rw [e1] at ho2
    cases ho2
    exact ⟨b, off, cs, ob.K, ob.m, ob.x, getP_nil _ _ _, by simp only [nav, Gh.new, if_pos, e2], rfl⟩
   | false =>
    refine ⟨⟨by rw [e1]; simp, fun _ _ => Nat.zero_le _⟩, fun o2 ho2 _ _ => ?_⟩
    rw [e1] at ho2
    cases ho2
    exact ⟨pl, cs, ob.K, ob.m, ob.x, getP_nil _ _ _, by simp only [nav, Gh.new, if_pos], r8⟩
  ·cases hk
end
end Go.Abs
namespace Go.Abs
def elemAt (L : List Value) (s i : Nat) : List Value := (L.drop (i * s)).take s
theorem elemAt_length {L : List Value} {s n i : Nat} (hL : L.length = n * s) (hi : i < n) : (elemAt L s i).length = s := by
 have : (i + 1) * s ≤ n * s := Nat.mul_le_mul_right s hi
 rw [Nat.add_mul, Nat.one_mul] at this
 simp only [elemAt, List.length_take, List.length_drop]
 omega
theorem elemAt_left {L R : List Value} {s n i : Nat} (hL : L.length = n * s) (hi : i < n) : elemAt (L ++ R) s i = elemAt L s i := by
 have : (i + 1) * s ≤ n * s := Nat.mul_le_mul_right s hi
 rw [Nat.add_mul, Nat.one_mul] at this
 simp only [elemAt]
 rw [List.drop_append_of_le_length (by omega), List.take_append_of_le_length (by rw [List.length_drop]; omega)]
theorem elemAt_right {L R : List Value} {s n i : Nat} (hL : L.length = n * s) : elemAt (L ++ R) s (n + i) = elemAt R s i := by
 simp only [elemAt]
 rw [Nat.add_mul, ← hL, ← List.drop_drop, List.drop_left]
theorem CellsAt.elem {w : World} {b o : Nat} {L : List Value} (h : CellsAt w b o L) (s i : Nat) : CellsAt w b (o + i * s) (elemAt L s i) := h.sub (i * s) s
theorem own_mk {S : Nat → Prop} {w : World} {e : Kd} {m : Md} {xs : List e.T} {L : List Value} {b o cap : Nat} {F : Nat → Prop} (hc : CellsAt w b o L) (hcap : xs.length ≤ cap)
  (hroom : Room w b o (cap * e.size)) (hF : F b) (G : Nat → Nat → Prop) (hG : ∀ i b, G i b → F b) (hG1 : ∀ i, ¬ G i b) (hG2 : ∀ i j b, i ≠ j → G i b → ¬ G j b)
  (he : ∀ i (h : i < xs.length), Own S w e m xs[i] (elemAt L e.size i) (G i)) : Own S w (.sl e) (.own m) xs [.slice (some ⟨b, o, none⟩) xs.length cap] F := by
 refine ⟨some ⟨b, o, none⟩, cap, rfl, hcap, (fun h => by cases h), fun ad had => ?_, G, hG, fun i ad had => ?_, hG2, fun i hi => ⟨b, o, elemAt L e.size i, rfl, hc.elem e.size i, he i hi⟩⟩
 ·cases had; exact ⟨rfl, hF, hroom⟩
 ·cases had; exact hG1 i
theorem row_of {w : World} {e : Kd} (Q : (x : e.T) → List Value → Nat → Prop) (hQ : ∀ x cs i, Q x cs i → cs.length = e.size) {A : Option Addr} : ∀ (xs : List e.T) (k : Nat),
  (∀ i (h : i < xs.length), ∃ b o vs, A = some ⟨b, o, none⟩ ∧ CellsAt w b (o + (k + i) * e.size) vs ∧ Q xs[i] vs (k + i)) →
  ∃ L : List Value, L.length = xs.length * e.size ∧ (∀ b o, A = some ⟨b, o, none⟩ → CellsAt w b (o + k * e.size) L) ∧ ∀ i (h : i < xs.length), Q xs[i] (elemAt L e.size i) (k + i)
 | [], k, _ => ⟨[], by simp, fun _ _ _ j hj => absurd hj (Nat.not_lt_zero _), fun i h => absurd h (Nat.not_lt_zero _)⟩
 | x :: xs, k, h => by
  obtain ⟨b0, o0, vs, hA, hc, hq⟩ := h 0 (by simp)
  obtain ⟨L, h1, h2, h3⟩ := row_of Q hQ (A := A) xs (k + 1) (fun i hi => by
   have := h (i + 1) (by simpa using hi)
   simpa [Nat.add_comm 1 i, Nat.add_assoc, Nat.add_left_comm] using this)
  have lv : vs.length = e.size := hQ _ _ _ hq
  refine ⟨vs ++ L, ?_, fun b o hb => ?_, fun i hi => ?_⟩
  ·simp only [List.length_append, List.length_cons, lv, h1, Nat.add_mul, Nat.one_mul]; omega
  ·rw [hA] at hb
   cases hb
   refine CellsAt.join (by simpa using hc) ?_
   have := h2 b0 o0 hA
   rw [lv, show o0 + k * e.size + e.size = o0 + (k + 1) * e.size by rw [Nat.add_mul]; omega]
   exact this
  ·cases i with
   | zero =>
    have : elemAt (vs ++ L) e.size 0 = vs := by simp only [elemAt, Nat.zero_mul, List.drop_zero]; rw [← lv, List.take_left]
    rw [this]; simpa using hq
   | succ i =>
    have h4 := h3 i (by simpa using hi)
    have : elemAt (vs ++ L) e.size (i + 1) = elemAt L e.size i := by
     rw [Nat.add_comm i 1]
     exact elemAt_right (by rw [lv, Nat.one_mul])
    rw [this]
    simpa [Nat.add_comm 1 i, Nat.add_assoc, Nat.add_left_comm] using h4
theorem own_row {S : Nat → Prop} {w : World} {e : Kd} {m : Md} {xs : List e.T} {cs : List Value} {F : Nat → Prop} (h : Own S w (.sl e) (.own m) xs cs F) :
  ∃ A cap L, cs = [.slice A xs.length cap] ∧ xs.length ≤ cap ∧ (A = none → cap = 0) ∧ (∀ ad, A = some ad → ad.spot = none ∧ F ad.block ∧ Room w ad.block ad.off (cap * e.size)) ∧
   L.length = xs.length * e.size ∧ (∀ b o, A = some ⟨b, o, none⟩ → CellsAt w b o L) ∧
   ∃ G : Nat → Nat → Prop, (∀ i b, G i b → F b) ∧ (∀ i ad, A = some ad → ¬ G i ad.block) ∧ (∀ i j b, i ≠ j → G i b → ¬ G j b) ∧
    ∀ i (h : i < xs.length), Own S w e m xs[i] (elemAt L e.size i) (G i) := by
 obtain ⟨A, cap, rfl, hl, hn, hr, G, hG, hG1, hG2, he⟩ := h
 obtain ⟨L, h1, h2, h3⟩ := row_of (w := w) (e := e) (fun x cs i => Own S w e m x cs (G i)) (fun _ _ _ h => h.length) (A := A) xs 0 (fun i hi => by simpa using he i hi)
 exact ⟨A, cap, L, rfl, hl, hn, hr, h1, fun b o hA => by simpa using h2 b o hA, G, hG, hG1, hG2, fun i hi => by simpa using h3 i hi⟩
theorem ro_row {S : Nat → Prop} {w : World} {e : Kd} {xs : List e.T} {cs : List Value} (h : RO S w (.sl e) xs cs) :
  ∃ A cap L, cs = [.slice A xs.length cap] ∧ xs.length ≤ cap ∧ L.length = xs.length * e.size ∧ (∀ b o, A = some ⟨b, o, none⟩ → CellsAt w b o L) ∧
   (0 < xs.length → ∃ b o, A = some ⟨b, o, none⟩ ∧ S b) ∧ ∀ i (h : i < xs.length), RO S w e xs[i] (elemAt L e.size i) := by
 obtain ⟨A, cap, rfl, hl, he⟩ := h
 obtain ⟨L, h1, h2, h3⟩ := row_of (w := w) (e := e) (fun x cs _ => RO S w e x cs) (fun _ _ _ h => h.length) (A := A) xs 0
  (fun i hi => by obtain ⟨b, o, vs, r1, _, r2, r3⟩ := he i hi; exact ⟨b, o, vs, r1, by simpa using r2, r3⟩)
 exact ⟨A, cap, L, rfl, hl, h1, fun b o hA => by simpa using h2 b o hA, fun h0 => by obtain ⟨b, o, vs, r1, r2, _⟩ := he 0 h0; exact ⟨b, o, r1, r2⟩, fun i hi => by simpa using h3 i hi⟩
theorem Md.fits_zero {S : Nat → Prop} {w : World} : ∀ {K : Kd} {m : Md} (F : Nat → Prop), Md.fits K m = true → Own S w K m K.zero K.zc F
 | K, .ro, F, _ => Own.ro.2 (RO.zero K)
 | .sl e, .own m, F, _ => ⟨none, 0, rfl, Nat.le_refl _, fun _ => rfl, (fun _ h => by cases h), fun _ _ => False, (fun _ _ h => h.elim), (fun _ _ h => by cases h), (fun _ _ _ _ h => h.elim), fun i h => absurd h (Nat.not_lt_zero _)⟩
 | .st k, .own m, F, h => Md.fits_zero (K := k) (m := .own m) F h
 | .st k, .pr m n, F, h => Md.fits_zero (K := k) (m := .pr m n) F h
 | .pair a b, .pr m n, F, h => by
  have h' : (Md.fits a m && Md.fits b n) = true := h
  rw [Bool.and_eq_true] at h'
  exact ⟨a.zc, b.zc, fun _ => False, fun _ => False, rfl, fun _ h => h.elim, fun _ h => h.elim, fun _ h => h.elim, Md.fits_zero _ h'.1, Md.fits_zero _ h'.2⟩
 | .int _, .own _, _, h | .bool, .own _, _, h | .str, .own _, _, h | .err, .own _, _, h | .raw _, .own _, _, h | .pair _ _, .own _, _, h | .int _, .pr _ _, _, h | .bool, .pr _ _, _, h | .str, .pr _ _, _, h | .err, .pr _ _, _, h | .raw _, .pr _ _, _, h | .sl _, .pr _ _, _, h => by simp [Md.fits] at h
theorem new_cells (w : World) (cs : Array Value) (t : Nat) : CellsAt (w.alloc (.cells cs t)) w.heap.size 0 cs.toList ∧ Room (w.alloc (.cells cs t)) w.heap.size 0 cs.size := by
 refine ⟨fun j hj => ?_, fun j => ⟨fun hj => ⟨cs[j], ?_⟩, ?_⟩⟩
 ·rw [Nat.zero_add, World.cell?_alloc_at _ _ _ _ rfl]; simp [Array.getElem?_eq_getElem (show j < cs.size by simpa using hj)]
 ·rw [Nat.zero_add, World.cell?_alloc_at _ _ _ _ rfl]; simp [hj]
 ·exact World.frozen?_alloc_at _ _ _ _ rfl
theorem PlOk.mk {w : World} {b o : Nat} {cs : List Value} (h1 : CellsAt w b o cs) (h2 : ∀ j, j < cs.length → w.frozen? ⟨b, o + j, none⟩ = false) : PlOk w (some (b, o)) cs := by
 intro b' o' e
 simp only [Option.some.injEq, Prod.mk.injEq] at e
 obtain ⟨rfl, rfl⟩ := e
 exact ⟨h1, h2⟩
theorem RO.ext {S : Nat → Prop} {w w' : World} {X : Nat → Nat → Prop} {K : Kd} {x : K.T} {cs : List Value} (h : RO S w K x cs) (hx : Ext w w' X) (hX : ∀ b o, S b → ¬ X b o) : RO S w' K x cs :=
 h.mono (fun _ h => h) (fun b o _ hb hv => hx.same (hX b o hb) hv)
theorem Own.ext {S : Nat → Prop} {w w' : World} {K : Kd} {m : Md} {x : K.T} {cs : List Value} {F : Nat → Prop} (h : Own S w K m x cs F) (hx : Ext w w' (fun _ _ => False)) (hF : ∀ b, F b → b < w.heap.size) : Own S w' K m x cs F :=
 h.mono (fun _ h => h) (fun _ _ _ _ hv => hx.same (fun h => h) hv) (fun _ h => h) (fun b o hb => hx.cell b o (hF b hb) (fun h => h))
theorem InvG.grow {P : Program} {B : Base} {nt : Nat} {e : Env} {a : Act} {w w' : World} {g : Gh} (h : InvG P B nt e a w g) (hx : Ext w w' (fun _ _ => False)) :
  InvG P B nt e a w' { g with S := fun b => g.S b ∨ (w.heap.size ≤ b ∧ b < w'.heap.size) } := by
 have hb0 : B.w0.heap.size ≤ w.heap.size := h.ext.size
 refine h.change (fun _ => False) rfl (h.ext.step hx (fun _ _ _ h => h.elim)) (fun b hb => .inl hb) (fun b o v _ hv => hx.same (fun h => h) hv) ?_ (fun i b hF => Nat.lt_of_lt_of_le (h.Fsz i b hF) hx.size) ?_ h.Fb ?_ h.FF ?_ ?_
  (fun _ h => h.elim) (fun _ _ h => h.elim) (fun _ h => h.elim) (fun _ h => h.elim)
 ·rintro b (hb | hb)
  ·exact Nat.lt_of_lt_of_le (h.Ssz b hb) hx.size
  ·exact hb.2
 ·rintro b (hb | hb)
  ·exact h.Sb b hb
  ·exact .inr (.inr (by omega))
 ·rintro i b hF (hb | hb)
  ·exact h.FS i b hF hb
  ·have := h.Fsz i b hF; omega
 ·intro i b off hp
  obtain ⟨h1, h2, h3, h4⟩ := h.plz i b off hp
  refine ⟨Nat.lt_of_lt_of_le h1 hx.size, ?_, h3, h4⟩
  rintro (hb | hb)
  ·exact h2 hb
  ·omega
 ·exact fun i _ => ⟨rfl, rfl, rfl, rfl, fun b o hF => hx.cell b o (h.Fsz i b hF) (fun h => h), fun b off hp o => hx.cell b o (h.plz i b off hp).1 (fun h => h)⟩
section
variable {c : Ctx} {B : Base} {nt : Nat} {o : Oper} {Ω : Type} {k : Delta → Option Ω} {out : Ω} {fr : Bool}
theorem ok_nil_own {x : Operand} {e : Kd} {m : Md} {q : Option Obj} (ho : o.op = .assign x) (hk : putNew nt o.dst fr ⟨.sl e, .own m, [], false, false, [], none⟩ false [] k = some out) : Step1 c B nt o [(.nils, q)] fr k out := by
 refine step_new (mv := []) hk rfl rfl rfl fun e0 he a w g hg => ?_
 have h1 : a.eval x = .slice none 0 0 := view_rep hg (views_one he (x := x) (by rw [ho]; rfl))
 refine ⟨.slice none 0 0, w, fun _ => False, none, [.slice none 0 0], ?_, Ext.refl _ _, (fun i h => by cases h), fun b h => h.elim, (fun b off h => by cases h), ⟨?_, (fun b off h => by cases h)⟩, rfl, rfl, rfl⟩
 ·simp only [execOp, ho, h1]; rfl
 ·exact Md.fits_zero (K := .sl e) (m := .own m) _ rfl
theorem ok_alloc {t : Nat} {K : Kd} {m : Md} (hc : CtxOk c) (ho : o.op = .alloc t) (ht : look c.ty t = some K) (hm : Md.fits K m = true)
  (hk : putNew nt o.dst fr ⟨K, m, K.zero, true, false, [], none⟩ true [] k = some out) : Step1 c B nt o [] fr k out := by
 have hT := hc.ty.get ht
 refine step_new (mv := []) hk rfl rfl rfl fun e0 he a w g hg => ?_
 obtain ⟨z, hz, hzc, _⟩ := hT.zero w
 obtain ⟨n1, n2⟩ := new_cells w z.cells t
 rw [hzc] at n1 n2
 have hsz : K.zc.length = K.size := (RO.zero (S := fun _ => True) (w := w) K).length
 refine ⟨.pointer (some ⟨w.heap.size, 0, none⟩), w.alloc (.cells z.cells t), fun _ => False, some (w.heap.size, 0), K.zc, ?_, Ext.alloc _ _ _, (fun i h => by cases h), fun b h => h.elim, ?_, ⟨Md.fits_zero _ hm, ?_⟩, rfl, w.heap.size, 0, rfl, rfl⟩
 ·have : (Instr.alloc t true (.tuple #[])).run c.P w = .ok (.pointer (some ⟨w.heap.size, 0, none⟩)) (w.alloc (.cells z.cells t)) := by
   simp only [Instr.alloc, Sem.run_bind, hz, Result.andThen_ok, newVar, newRow, run_newObj, Sem.run_pure]
   rfl
  simp only [execOp, ho, Sem.run_bind, this, Result.andThen_ok, Sem.run_pure]
 ·intro b off e1
  simp only [Option.some.injEq, Prod.mk.injEq] at e1
  obtain ⟨rfl, rfl⟩ := e1
  exact ⟨Nat.le_refl _, by rw [World.size_alloc]; omega, fun h => h⟩
 ·rw [hzc]
  exact PlOk.mk n1 (fun j _ => (n2 j).2)
theorem ok_box_v {t : Nat} {x : Operand} {K : Kd} {z : K.T} {q : Option Obj} (hc : CtxOk c) (ho : o.op = .box t x) (ht : tyIs c t K = true)
  (hk : putNew nt o.dst fr ⟨K, .ro, z, true, false, [], none⟩ true [] k = some out) : Step1 c B nt o [(.v K z, q)] fr k out := by
 refine step_new (mv := []) hk rfl rfl rfl fun e0 he a w g hg => ?_
 obtain ⟨cs, hro, hv⟩ := view_rep hg (views_one he (x := x) (by rw [ho]; rfl))
 obtain ⟨n1, n2⟩ := new_cells w (a.eval x).cells t
 have hx := Ext.alloc w (.cells (a.eval x).cells t) (fun _ _ => False)
 refine ⟨.pointer (some ⟨w.heap.size, 0, none⟩), w.alloc (.cells (a.eval x).cells t), fun _ => False, some (w.heap.size, 0), cs, ?_, hx, (fun i h => by cases h), fun b h => h.elim, ?_, ⟨Own.ro.2 (hro.ext hx (fun _ _ _ h => h)), ?_⟩, rfl, w.heap.size, 0, rfl, rfl⟩
 ·simp only [execOp, ho, Instr.box, Sem.run_bind, newVar, newRow, run_newObj, Result.andThen_ok, Sem.run_pure]
  rfl
 ·intro b off e1
  simp only [Option.some.injEq, Prod.mk.injEq] at e1
  obtain ⟨rfl, rfl⟩ := e1
  exact ⟨Nat.le_refl _, by rw [World.size_alloc]; omega, fun h => h⟩
 ·rw [hv.2] at n1 n2 ⊢
  exact PlOk.mk n1 (fun j _ => (n2 j).2)
theorem al_root {P : Program} {B : Base} {nt : Nat} {e : Env} {a : Act} {w : World} {g : Gh} (h : InvG P B nt e a w g) {x : Operand} {id n : Nat} {o : Obj}
  (hv : e.view (e.opd x) = (.al id n [], some o)) (hh : noHole o = true) (hk : okAl o n [] = true) :
  e.obj id = some (some o) ∧ VRep o.K (g.cs id) (a.eval x) ∧ Own g.S w o.K o.m o.x (g.cs id) (g.F id) := by
 obtain ⟨q, cs', K', m', x', F', h1, h2, h3, f⟩ := al_focus h hv hh hk
 simp only [getP_nil, Option.some.injEq] at h1
 simp only [nav, Option.some.injEq, Prod.mk.injEq] at h2
 cases h1
 rw [← h2.2] at h3
 exact ⟨view_al hv, h3, ((h.objs id o (view_al hv)).own (noHole_ok hh)).1⟩
theorem ok_box_al {t id n : Nat} {x : Operand} {ob : Obj} (hc : CtxOk c) (ho : o.op = .box t x) (ht : (tyIs c t ob.K && noHole ob && okAl ob n [] && !ob.par) = true)
  (hk : putNew nt o.dst fr ⟨ob.K, ob.m, ob.x, true, false, [], none⟩ true [(id, none)] k = some out) : Step1 c B nt o [(.al id n [], some ob)] fr k out := by
 simp only [Bool.and_eq_true] at ht
 refine step_new (mv := [id]) hk rfl rfl rfl fun e0 he a w g hg => ?_
 obtain ⟨r1, r2, r3⟩ := al_root hg (views_one he (x := x) (by rw [ho]; rfl)) ht.1.1.2 ht.1.2
 obtain ⟨n1, n2⟩ := new_cells w (a.eval x).cells t
 have hx := Ext.alloc w (.cells (a.eval x).cells t) (fun _ _ => False)
 refine ⟨.pointer (some ⟨w.heap.size, 0, none⟩), w.alloc (.cells (a.eval x).cells t), g.F id, some (w.heap.size, 0), g.cs id, ?_, hx, (fun i h => by simp at h; subst h; exact ⟨ob, r1⟩),
  fun b h => .inr ⟨id, by simp, h⟩, ?_, ⟨r3.ext hx (fun b hb => hg.Fsz id b hb), ?_⟩, rfl, w.heap.size, 0, rfl, rfl⟩
 ·simp only [execOp, ho, Instr.box, Sem.run_bind, newVar, newRow, run_newObj, Result.andThen_ok, Sem.run_pure]
  rfl
 ·intro b off e1
  simp only [Option.some.injEq, Prod.mk.injEq] at e1
  obtain ⟨rfl, rfl⟩ := e1
  exact ⟨Nat.le_refl _, by rw [World.size_alloc]; omega, fun h => by have := hg.Fsz id _ h; omega⟩
 ·rw [r2.2] at n1 n2 ⊢
  exact PlOk.mk n1 (fun j _ => (n2 j).2)
theorem made_get {z : List Value} {n i : Nat} (hz : 0 < z.length) (hi : i < n) : elemAt (madeCells z.toArray (n * z.length)).toList z.length i = z := by
 have hle : (i + 1) * z.length ≤ n * z.length := Nat.mul_le_mul_right _ hi
 rw [Nat.add_mul, Nat.one_mul] at hle
 apply List.ext_getElem
 ·rw [elemAt_length (n := n) (by simp [madeCells]) hi]
 ·intro j h1 h2
  have hj : j < z.length := h2
  simp only [elemAt, List.getElem_take, List.getElem_drop, madeCells, Array.toList_map, Array.toList_range, List.getElem_map, List.getElem_range]
  have : (i * z.length + j) % z.length = j := by rw [Nat.mul_comm, Nat.mul_add_mod, Nat.mod_eq_of_lt hj]
  simp [this, hj]
theorem run_mkslice {P : Program} {ty : List (Nat × Kd)} {t : Nat} {e : Kd} (hty : TysOk P ty) (ht : TyOk P ty t (.sl e)) (w : World) {n cp : Int} (ik il : IntKind) (h : 0 ≤ n ∧ n ≤ cp ∧ cp ≤ (lim : Int)) :
  ∃ t', (Instr.makeSlice t (.int ik n) (.int il cp)).run P w = .ok (.slice (some ⟨w.heap.size, 0, none⟩) n.toNat cp.toNat) (w.alloc (.cells (madeCells e.zc.toArray (cp.toNat * e.size)) t')) := by
 obtain ⟨t', hu, hl⟩ := ht.sl e rfl
 obtain ⟨i, z, h1, h2, h3, h4, h5, h6⟩ := (hty.get hl).info
 refine ⟨t', ?_⟩
 have hb : (i.bytes : Int) * cp ≤ 281474976710656 := by
  have : (i.bytes : Int) * cp ≤ 4096 * (lim : Int) := Int.mul_le_mul (by omega) h.2.2 (by omega) (by omega)
  have e2 : (lim : Int) = 4294967296 := rfl
  rw [e2] at this
  omega
 have := run_make (P := P) w t t' i z hu h1 h4 ik il n cp h.1 h.2.1 hb (by have e2 : (lim : Int) = 4294967296 := rfl; omega)
 rw [h5, h2] at this
 exact this
theorem zc_length (K : Kd) : K.zc.length = K.size := (RO.zero (S := fun _ => True) (w := default) K).length
theorem own_made {S : Nat → Prop} {w : World} {e : Kd} {m : Md} {t' : Nat} {n cp : Nat} (hm : Md.fits e m = true) (hn : n ≤ cp) :
  Own S (w.alloc (.cells (madeCells e.zc.toArray (cp * e.size)) t')) (.sl e) (.own m) (List.replicate n e.zero) [.slice (some ⟨w.heap.size, 0, none⟩) n cp] (fun b => b = w.heap.size) := by
 obtain ⟨n1, n2⟩ := new_cells w (madeCells e.zc.toArray (cp * e.size)) t'
 have hz := zc_length e
 have hsz : (madeCells e.zc.toArray (cp * e.size)).size = cp * e.size := size_madeCells _ _
 rw [hsz] at n2
 have hle : n * e.size ≤ cp * e.size := Nat.mul_le_mul_right _ hn
 have key := own_mk (S := S) (w := w.alloc (.cells (madeCells e.zc.toArray (cp * e.size)) t')) (e := e) (m := m) (xs := List.replicate n e.zero) (L := (madeCells e.zc.toArray (cp * e.size)).toList.take (n * e.size))
  (b := w.heap.size) (o := 0) (cap := cp) (F := fun b => b = w.heap.size) ?_ (by simpa using hn) n2 rfl (fun _ _ => False) (fun _ _ h => h.elim) (fun _ h => h) (fun _ _ _ _ h => h.elim) ?_
 ·simpa using key
 ·have := n1.sub 0 (n * e.size); simpa using this
 ·intro i hi
  have hi' : i < n := by simpa using hi
  have e1 : elemAt ((madeCells e.zc.toArray (cp * e.size)).toList.take (n * e.size)) e.size i = e.zc := by
   have h0 := made_get (z := e.zc) (n := cp) (i := i) (by rw [hz]; exact e.size_pos) (by omega)
   rw [hz] at h0
   have h1 := elemAt_left (L := (madeCells e.zc.toArray (cp * e.size)).toList.take (n * e.size)) (R := (madeCells e.zc.toArray (cp * e.size)).toList.drop (n * e.size)) (s := e.size) (n := n) (i := i)
    (by rw [List.length_take, Array.length_toList, hsz, Nat.min_eq_left hle]) hi'
   rw [List.take_append_drop] at h1
   rw [← h1]; exact h0
  rw [e1, List.getElem_replicate]
  exact Md.fits_zero _ hm
theorem ok_make_own {t : Nat} {x y : Operand} {ik il : IntKind} {n cp : Int} {e : Kd} {m : Md} {q1 q2 : Option Obj} (hc : CtxOk c) (ho : o.op = .makeSlice t x y) (ht : look c.ty t = some (.sl e)) (hm : Md.fits e m = true)
  (h : 0 ≤ n ∧ n ≤ cp ∧ cp ≤ (lim : Int)) (hk : putNew nt o.dst fr ⟨.sl e, .own m, List.replicate n.toNat e.zero, false, false, [], none⟩ false [] k = some out) : Step1 c B nt o [(.v (.int ik) n, q1), (.v (.int il) cp, q2)] fr k out := by
 have hT := hc.ty.get ht
 refine step_new (mv := []) hk rfl rfl rfl fun e0 he a w g hg => ?_
 obtain ⟨v1, v2⟩ := views_two he (x := x) (y := y) (by rw [ho]; rfl)
 obtain ⟨t', hr⟩ := run_mkslice hc.ty hT w ik il h
 refine ⟨.slice (some ⟨w.heap.size, 0, none⟩) n.toNat cp.toNat, _, fun b => b = w.heap.size, none, [.slice (some ⟨w.heap.size, 0, none⟩) n.toNat cp.toNat], ?_, Ext.alloc _ _ _, (fun i h => by cases h),
  fun b hb => .inl ⟨by omega, by rw [World.size_alloc]; omega⟩, (fun b off h => by cases h), ⟨own_made (t' := t') hm (by omega), (fun b off h => by cases h)⟩, rfl, rfl, rfl⟩
 simp only [execOp, ho, rep_int (view_rep hg v1), rep_int (view_rep hg v2), Sem.run_bind, hr, Result.andThen_ok, Sem.run_pure]
theorem ok_make_ro {t : Nat} {x y : Operand} {ik il : IntKind} {n cp : Int} {e : Kd} {q1 q2 : Option Obj} (hc : CtxOk c) (ho : o.op = .makeSlice t x y) (ht : look c.ty t = some (.sl e))
  (h : 0 ≤ n ∧ n ≤ cp ∧ cp ≤ (lim : Int)) (hk : put1 nt o.dst (.v (.sl e) (List.replicate n.toNat e.zero)) k = some out) : Step1 c B nt o [(.v (.int ik) n, q1), (.v (.int il) cp, q2)] fr k out := by
 have hT := hc.ty.get ht
 refine stepOk_put1 hk fun e0 he a w g hg => ?_
 obtain ⟨v1, v2⟩ := views_two he.1 (x := x) (y := y) (by rw [ho]; rfl)
 obtain ⟨t', hr⟩ := run_mkslice hc.ty hT w ik il h
 have hx := Ext.alloc w (.cells (madeCells e.zc.toArray (cp.toNat * e.size)) t') (fun _ _ => False)
 refine ⟨.slice (some ⟨w.heap.size, 0, none⟩) n.toNat cp.toNat, _, _, ?_, hg.grow hx, [.slice (some ⟨w.heap.size, 0, none⟩) n.toNat cp.toNat], ?_, rfl, rfl⟩
 ·simp only [execOp, ho, rep_int (view_rep hg v1), rep_int (view_rep hg v2), Sem.run_bind, hr, Result.andThen_ok, Sem.run_pure]
 ·exact Own.toRO (fun b hb => .inl hb) (fun b hb => .inr ⟨by omega, by rw [World.size_alloc]; omega⟩) (own_made (S := g.S) (m := .ro) (by cases e <;> rfl) (by omega))
end
end Go.Abs
namespace Go.Abs
theorem nodup_ok : ∀ {l : List Nat}, nodup l = true → l.Nodup
 | [], _ => List.nodup_nil
 | a :: l, h => by
  simp only [nodup, Bool.and_eq_true] at h
  refine List.nodup_cons.2 ⟨fun hm => ?_, nodup_ok h.2⟩
  have : (l.any (Nat.beq a)) = true := List.any_eq_true.2 ⟨a, hm, by simp⟩
  rw [this] at h
  simp at h
theorem fold_set (vs : List Value) (off : Nat) : ∀ (j : Nat) (cs : Array Value), off + j + vs.length ≤ cs.size →
  ((vs.zipIdx j).foldl (fun cs q => cs.setIfInBounds (off + q.2) q.1) cs).size = cs.size ∧
  ∀ p, ((vs.zipIdx j).foldl (fun cs q => cs.setIfInBounds (off + q.2) q.1) cs)[p]? = if off + j ≤ p ∧ p < off + j + vs.length then vs[p - (off + j)]? else cs[p]? := by
 induction vs with
 | nil => intro j cs _; refine ⟨rfl, fun p => ?_⟩; rw [if_neg (by simp only [List.length_nil]; omega)]; rfl
 | cons v r ih =>
  intro j cs h
  simp only [List.length_cons] at h
  obtain ⟨h1, h2⟩ := ih (j + 1) (cs.setIfInBounds (off + j) v) (by simp; omega)
  simp only [List.zipIdx_cons, List.foldl_cons]
  refine ⟨by rw [h1]; simp, fun p => ?_⟩
  rw [h2 p]
  by_cases hp : off + (j + 1) ≤ p ∧ p < off + (j + 1) + r.length
  ·rw [if_pos hp, if_pos (by simp; omega), show p - (off + j) = (p - (off + (j + 1))) + 1 by omega]
   simp
  ·rw [if_neg hp]
   by_cases hj : p = off + j
   ·subst hj
    rw [if_pos (by simp), Nat.sub_self]
    simp [Array.getElem?_setIfInBounds, show off + j < cs.size by omega]
   ·rw [if_neg (by simp; omega)]
    simp [Ne.symm hj, Array.getElem?_setIfInBounds]
theorem fill_ok (place : Nat → Option (Nat × Nat)) : ∀ (vals : List (Nat × Value)) (cells : Array Value), (vals.map (·.1)).Nodup →
  (∀ i v, (i, v) ∈ vals → ∃ off, place i = some (off, v.cells.size) ∧ off + v.cells.size ≤ cells.size) →
  (∀ i j oi si oj sj, i ≠ j → place i = some (oi, si) → place j = some (oj, sj) → oi + si ≤ oj ∨ oj + sj ≤ oi) →
  ∃ r, Instr.fill place cells vals = some r ∧ r.size = cells.size ∧
   (∀ i v off, look vals i = some v → place i = some (off, v.cells.size) → (r.toList.drop off).take v.cells.size = v.cells.toList) ∧
   (∀ p, (∀ i v off, look vals i = some v → place i = some (off, v.cells.size) → p < off ∨ off + v.cells.size ≤ p) → r[p]? = cells[p]?)
 | [], cells, _, _, _ => ⟨cells, rfl, rfl, fun _ _ _ h => by simp [look] at h, fun _ _ => rfl⟩
 |(i, v) :: rest, cells, hk, hp, hd => by
  obtain ⟨off, h1, h2⟩ := hp i v List.mem_cons_self
  have hk' := List.nodup_cons.1 (show (i :: rest.map (·.1)).Nodup from hk)
  have hfold : v.cells.zipIdx.foldl (fun cs (q : Value × Nat) => cs.setIfInBounds (off + q.2) q.1) cells = ((v.cells.toList.zipIdx 0).foldl (fun cs q => cs.setIfInBounds (off + q.2) q.1) cells) := by
   rw [← Array.foldl_toList]; simp
  obtain ⟨s1, s2⟩ := fold_set v.cells.toList off 0 cells (by simpa using h2)
  rw [← hfold] at s1 s2
  obtain ⟨r, r1, r2, r3, r4⟩ := fill_ok place rest (v.cells.zipIdx.foldl (fun cs (q : Value × Nat) => cs.setIfInBounds (off + q.2) q.1) cells) hk'.2
   (fun j u hu => by rw [s1]; exact hp j u (List.mem_cons_of_mem _ hu)) hd
  have notin : ∀ j u, look rest j = some u → j ≠ i := fun j u hu e => hk'.1 (by rw [← e]; exact List.mem_map.2 ⟨(j, u), look_mem hu, rfl⟩)
  have mine : ∀ p, off ≤ p → p < off + v.cells.size → r[p]? = v.cells[p - off]? := by
   intro p hp1 hp2
   rw [r4 p (fun j u oj hu hpj => ?_), s2 p, if_pos (by simpa using ⟨hp1, hp2⟩)]
   ·simp
   ·rcases hd i j off _ oj _ (fun e => notin j u hu e.symm) h1 hpj with h | h <;> omega
  refine ⟨r, ?_, by rw [r2, s1], ?_, ?_⟩
  ·rw [Instr.fill, h1]
   simp only [ne_eq, not_true_eq_false, decide_false, Bool.false_or]
   rw [if_neg (by simp; omega)]
   exact r1
  ·intro j u oj hu hpj
   by_cases hij : i = j
   ·subst hij
    have : u = v := by simp [look] at hu; exact hu.symm
    subst this
    rw [h1] at hpj
    simp only [Option.some.injEq, Prod.mk.injEq, and_true] at hpj
    subst hpj
    apply List.ext_getElem?
    intro p
    rw [List.getElem?_take, List.getElem?_drop]
    split
    ·rename_i hlt
     have := mine (off + p) (by omega) (by omega)
     rw [show off + p - off = p by omega] at this
     simpa using this
    ·rename_i hge
     rw [List.getElem?_eq_none (by simp; omega)]
   ·rw [look_cons_ne hij] at hu
    exact r3 j u oj hu hpj
  ·intro p hout
   rw [r4 p (fun j u oj hu hpj => hout j u oj (by rw [look_cons_ne (fun e => notin j u hu e.symm)]; exact hu) hpj), s2 p]
   have := hout i v off (look_cons_self _ _ _) h1
   rw [if_neg (by simp; omega)]
def PartRep (e : Env) (g : Gh) (w : World) : Part → Value → Prop
 | .v K x, v => ∃ cs, RO g.S w K x cs ∧ VRep K cs v
 | .nils, v => v = .slice none 0 0
 | .al id o, v => e.obj id = some (some o) ∧ o.hl = none ∧ o.par = false ∧ VRep o.K (g.cs id) v ∧ Own g.S w o.K o.m o.x (g.cs id) (g.F id)
theorem part_rep {P : Program} {B : Base} {nt : Nat} {e : Env} {a : Act} {w : World} {g : Gh} (h : InvG P B nt e a w g) {x : Operand} {v : View} {p : Part} (hv : e.view (e.opd x) = v) (hp : partOf v = some p) :
  PartRep e g w p (a.eval x) := by
 unfold partOf at hp
 split at hp
 ·cases hp; exact view_rep h hv
 ·cases hp; exact view_rep h hv
 ·rename_i id n o
  split at hp
  ·rename_i hc
   cases hp
   simp only [Bool.and_eq_true] at hc
   obtain ⟨r1, r2, r3⟩ := al_root h hv hc.1.1 hc.1.2
   exact ⟨r1, noHole_ok hc.1.1, by simpa using hc.2, r2, r3⟩
  ·cases hp
 ·cases hp
theorem parts_rep {P : Program} {B : Base} {nt : Nat} {e : Env} {a : Act} {w : World} {g : Gh} (h : InvG P B nt e a w g) : ∀ {ps : List (Nat × Operand)} {vs : List View} {pl : List (Nat × Part)},
  ps.map (fun q => e.view (e.opd q.2)) = vs → partsOf ps vs = some pl → pl.map (·.1) = ps.map (·.1) ∧
   (∀ i p, look pl i = some p → ∃ v, look (ps.map fun q => (q.1, a.eval q.2)) i = some v ∧ PartRep e g w p v) ∧ (∀ i, look pl i = none → look (ps.map fun q => (q.1, a.eval q.2)) i = none) ∧
   (∀ i p, (i, p) ∈ pl → ∃ v, PartRep e g w p v)
 | [], [], pl, _, hp => by
  simp only [partsOf, Option.some.injEq] at hp
  subst hp
  exact ⟨rfl, fun _ _ h => by simp [look] at h, fun _ _ => rfl, fun _ _ h => by cases h⟩
 |(i, x) :: ps, v :: vs, pl, hv, hp => by
  simp only [List.map_cons, List.cons.injEq] at hv
  simp only [partsOf] at hp
  split at hp
  ·rename_i p r h1 h2
   cases hp
   obtain ⟨r1, r2, r3, r4⟩ := parts_rep h hv.2 h2
   have hpr := part_rep h hv.1 h1
   refine ⟨by simp [r1], fun j q hj => ?_, fun j hj => ?_, fun j q hj => ?_⟩
   ·by_cases hij : i = j
    ·subst hij
     rw [look_cons_self] at hj
     cases hj
     exact ⟨a.eval x, by rw [List.map_cons, look_cons_self], hpr⟩
    ·rw [look_cons_ne hij] at hj
     rw [List.map_cons, look_cons_ne hij]
     exact r2 j q hj
   ·by_cases hij : i = j
    ·subst hij; rw [look_cons_self] at hj; cases hj
    ·rw [look_cons_ne hij] at hj
     rw [List.map_cons, look_cons_ne hij]
     exact r3 j hj
   ·rcases List.mem_cons.1 hj with hj | hj
    ·cases hj; exact ⟨_, hpr⟩
    ·exact r4 j q hj
  ·cases hp
 | [], _ :: _, _, _, hp => by simp [partsOf] at hp
 | _ :: _, [], _, hv, _ => by simp at hv
def Fpart (g : Gh) (pl : List (Nat × Part)) (n : Nat) (b : Nat) : Prop := ∃ id o, look pl n = some (.al id o) ∧ g.F id b
theorem moved_mem {pl : List (Nat × Part)} : ∀ {n id : Nat} {o : Obj}, look pl n = some (.al id o) → id ∈ moved pl := by
 induction pl with
 | nil => intro n id o h; simp [look] at h
 | cons q l ih =>
  intro n id o h
  obtain ⟨i, p⟩ := q
  by_cases hi : i = n
  ·subst hi
   rw [look_cons_self] at h
   cases h
   simp [moved]
  ·rw [look_cons_ne hi] at h
   have := ih h
   cases p <;> simp [moved, this]
theorem moved_inj {pl : List (Nat × Part)} : (moved pl).Nodup → ∀ {n n' id : Nat} {o o' : Obj}, look pl n = some (.al id o) → look pl n' = some (.al id o') → n = n' := by
 induction pl with
 | nil => intro _ n n' id o o' h; simp [look] at h
 | cons q l ih =>
  intro hnd n n' id o o' h h'
  obtain ⟨i, p⟩ := q
  have hl : (moved l).Nodup := by cases p <;> simp [moved] at hnd <;> first | exact hnd | exact hnd.2
  by_cases hi : i = n <;> by_cases hi' : i = n'
  ·exact hi.symm.trans hi'
  ·subst hi
   rw [look_cons_self] at h
   rw [look_cons_ne hi'] at h'
   cases h
   simp [moved] at hnd
   exact absurd (moved_mem h') hnd.1
  ·subst hi'
   rw [look_cons_self] at h'
   rw [look_cons_ne hi] at h
   cases h'
   simp [moved] at hnd
   exact absurd (moved_mem h) hnd.1
  ·rw [look_cons_ne hi] at h
   rw [look_cons_ne hi'] at h'
   exact ih hl h h'
theorem nilOf_own {S : Nat → Prop} {w : World} {F : Nat → Prop} : ∀ {K : Kd} {m : Md} {y : K.T}, nilOf K = some y → Md.fits K m = true → Own S w K m y [.slice none 0 0] F
 | .sl e, m, y, h, hm => by
  simp only [nilOf, Option.some.injEq] at h
  subst h
  exact Md.fits_zero (K := .sl e) F hm
 | .int _, _, _, h, _ | .bool, _, _, h, _ | .str, _, _, h, _ | .err, _, _, h, _ | .raw _, _, _, h, _ | .st _, _, _, h, _ | .pair _ _, _, _, h, _ => by simp [nilOf] at h
theorem Own.of_flat {S : Nat → Prop} {w : World} {F : Nat → Prop} : ∀ {K : Kd} {m : Md} {y : K.T} {cs : List Value}, K.flat = true → Md.fits K m = true → RO S w K y cs → Own S w K m y cs F
 | K, .ro, y, cs, _, _, h => Own.ro.2 h
 | .st k, .own m, y, cs, hf, hm, h => Own.of_flat (K := k) (m := .own m) hf hm h
 | .st k, .pr m n, y, cs, hf, hm, h => Own.of_flat (K := k) (m := .pr m n) hf hm h
 | .pair a b, .pr m n, y, cs, hf, hm, h => by
  have hf' : (a.flat && b.flat) = true := hf
  have hm' : (Md.fits a m && Md.fits b n) = true := hm
  rw [Bool.and_eq_true] at hf' hm'
  obtain ⟨c1, c2, rfl, h1, h2⟩ := h
  exact ⟨c1, c2, fun _ => False, fun _ => False, rfl, fun _ h => h.elim, fun _ h => h.elim, fun _ h => h.elim, Own.of_flat hf'.1 hm'.1 h1, Own.of_flat hf'.2 hm'.2 h2⟩
 | .sl _, .own _, _, _, hf, _, _ => by simp [Kd.flat] at hf
 | .int _, .own _, _, _, _, h, _ | .bool, .own _, _, _, _, h, _ | .str, .own _, _, _, _, h, _ | .err, .own _, _, _, _, h, _ | .raw _, .own _, _, _, _, h, _ | .pair _ _, .own _, _, _, _, h, _ | .int _, .pr _ _, _, _, _, h, _ | .bool, .pr _ _, _, _, _, h, _ | .str, .pr _ _, _, _, _, h, _ | .err, .pr _ _, _, _, _, h, _ | .raw _, .pr _ _, _, _, _, h, _
 | .sl _, .pr _ _, _, _, _, h, _ => by simp [Md.fits] at h
theorem cast_own {e : Env} {g : Gh} {w : World} {K : Kd} {m : Md} {p : Option Part} {y : K.T} {v : Value} (hc : cast1 K m p = some y) (hp : ∀ q, p = some q → PartRep e g w q v) :
  (p = none ∧ Own g.S w K m y K.zc (fun _ => False)) ∨ ∃ q, p = some q ∧ Own g.S w K m y v.cells.toList (fun b => ∃ id o, q = .al id o ∧ g.F id b) := by
 cases p with
 | none =>
  simp only [cast1] at hc
  split at hc
  ·cases hc; exact .inl ⟨rfl, Md.fits_zero _ (by assumption)⟩
  ·cases hc
 | some q =>
  refine .inr ⟨q, rfl, ?_⟩
  have hr := hp q rfl
  cases q with
  | v K' z =>
   simp only [cast1] at hc
   split at hc
   ·rename_i hk
    have := Kd.eq_of_beq hk
    subst this
    split at hc
    ·rename_i hro
     simp only [Option.some.injEq] at hc
     have hc' : z = y := hc
     subst hc'
     obtain ⟨cs, h1, h2⟩ := hr
     rw [h2.2]
     simp only [isRo, Bool.and_eq_true, Bool.or_eq_true] at hro
     rcases hro with hro | hro
     ·rw [Md.eq_of_beq hro]; exact Own.ro.2 h1
     ·exact Own.of_flat hro.1 hro.2 h1
    ·cases hc
   ·cases hc
  | nils =>
   simp only [cast1] at hc
   split at hc
   ·have hr' : v = .slice none 0 0 := hr
    rw [hr']
    exact nilOf_own hc (by assumption)
   ·cases hc
  | al id ob =>
   simp only [cast1] at hc
   split at hc
   ·rename_i hk
    have hk' := Kd.eq_of_beq hk
    split at hc
    ·rename_i hm
     have hm' := Md.eq_of_beq hm
     obtain ⟨_, _, _, h4, h5⟩ := hr
     rw [h4.2]
     obtain ⟨oK, om, ox, obx, opar, olog, ohl⟩ := ob
     dsimp only at hk' hm' hk hc h5
     subst hk'
     subst hm'
     simp only [Option.some.injEq] at hc
     have hc' : ox = y := hc
     subst hc'
     exact h5.mono (fun _ h => h) (fun _ _ _ _ h => h) (fun b hb => ⟨id, _, rfl, hb⟩) (fun _ _ _ => ⟨rfl, rfl⟩)
    ·cases hc
   ·cases hc
theorem Md.fits_ro (K : Kd) : Md.fits K .ro = true := by cases K <;> rfl
theorem Md.fits_snd {a b : Kd} {m : Md} (h : Md.fits (.pair a b) m = true) : Md.fits b m.snd = true := by
 cases m with
 | ro => exact Md.fits_ro b
 | own _ => simp [Md.fits] at h
 | pr m n =>
  have h' : (Md.fits a m && Md.fits b n) = true := h
  rw [Bool.and_eq_true] at h'
  exact h'.2
theorem Own.pair_of {S : Nat → Prop} {w : World} {a b : Kd} {m : Md} {x : a.T} {y : b.T} {c1 c2 : List Value} {F F1 F2 : Nat → Prop} (hm : Md.fits (.pair a b) m = true)
  (h1 : ∀ b, F1 b → F b) (h2 : ∀ b, F2 b → F b) (h3 : ∀ b, F1 b → ¬ F2 b) (ha : Own S w a m.fst x c1 F1) (hb : Own S w b m.snd y c2 F2) :
  Own S w (.pair a b) m ((x, y) : a.T × b.T) (c1 ++ c2) F := by
 cases m with
 | ro => exact ⟨c1, c2, rfl, Own.ro.1 ha, Own.ro.1 hb⟩
 | own _ => simp [Md.fits] at hm
 | pr m n => exact ⟨c1, c2, F1, F2, rfl, h1, h2, h3, ha, hb⟩
theorem bld_own {ty : List (Nat × Kd)} {e : Env} {g : Gh} {w : World} {pl : List (Nat × Part)} {R Z : List Value} (hF : ∀ n n' b, n ≠ n' → Fpart g pl n b → ¬ Fpart g pl n' b) :
  ∀ (fs : List Field) (k : Kd) (m : Md) (n off : Nat) (x : k.T), fldsOk ty fs off k = true → Md.fits k m = true → bld k m n pl = some x → R.length = off + k.size → Z.drop off = k.zc →
   (∀ i (fd : Field) K, fs[i]? = some fd → look ty fd.type = some K → (∀ p, look pl (n + i) = some p → ∃ v : Value, PartRep e g w p v ∧ (R.drop fd.offset).take K.size = v.cells.toList) ∧
    (look pl (n + i) = none → (R.drop fd.offset).take K.size = (Z.drop fd.offset).take K.size)) →
   Own g.S w k m x (R.drop off) (fun b => ∃ i, n ≤ i ∧ Fpart g pl i b)
 | [], _, _, _, _, _, h, _, _, _, _, _ => by simp [fldsOk] at h
 | [fd], k, m, n, off, x, h, hm, hb, hR, hZ, hp => by
  simp only [fldsOk, Bool.and_eq_true] at h
  obtain ⟨⟨h1, h2⟩, h3⟩ := h
  have e1 := Nat.eq_of_beq_eq_true h1
  have hnp := Kd.np_ok h3
  have hb' : cast1 k m (look pl n) = some x := by
   cases k <;> first | exact hb | exact absurd rfl (hnp _ _)
  obtain ⟨p1, p2⟩ := hp 0 fd k rfl (tyHas_ok h2)
  rw [e1, Nat.add_zero] at p1 p2
  have hall : (R.drop off).take k.size = R.drop off := List.take_of_length_le (by rw [List.length_drop]; omega)
  rw [hall] at p1 p2
  cases hl : look pl n with
  | none =>
   rw [hl] at hb'
   rcases cast_own (e := e) (g := g) (w := w) (v := undef) hb' (fun q hq => by cases hq) with ⟨_, ho⟩ | ⟨q, hq, _⟩
   ·rw [p2 hl, hZ, List.take_of_length_le (by rw [zc_length]; omega)]
    exact ho.mono (fun _ h => h) (fun _ _ _ _ h => h) (fun _ h => h.elim) (fun _ _ h => h.elim)
   ·cases hq
  | some p =>
   obtain ⟨v, r1, r2⟩ := p1 p hl
   rw [hl] at hb'
   rcases cast_own (e := e) (g := g) (w := w) (v := v) hb' (fun q hq => by cases hq; exact r1) with ⟨hq, _⟩ | ⟨q, hq, ho⟩
   ·cases hq
   ·cases hq
    rw [r2]
    refine ho.mono (fun _ h => h) (fun _ _ _ _ h => h) (fun b hb => ?_) (fun _ _ _ => ⟨rfl, rfl⟩)
    obtain ⟨id, ob, rfl, hf⟩ := hb
    exact ⟨n, Nat.le_refl _, id, ob, hl, hf⟩
 | fd :: gd :: r, k, m, n, off, x, h, hm, hb, hR, hZ, hp => by
  cases k with
  | pair a b =>
   simp only [fldsOk, Bool.and_eq_true] at h
   obtain ⟨⟨⟨h1, h2⟩, h3⟩, h4⟩ := h
   have e1 := Nat.eq_of_beq_eq_true h1
   have hb' : (match cast1 a m.fst (look pl n), bld b m.snd (n + 1) pl with | some x, some y => some ((x, y) : a.T × b.T) | _, _ => none) = some x := hb
   simp only [Kd.size] at hR
   have hZ' : Z.drop off = a.zc ++ b.zc := hZ
   have hms : Md.fits b m.snd = true := Md.fits_snd hm
   cases hx1 : cast1 a m.fst (look pl n) with
   | none => rw [hx1] at hb'; cases hb'
   | some x1 =>
    cases hx2 : bld b m.snd (n + 1) pl with
    | none => rw [hx1, hx2] at hb'; cases hb'
    | some x2 =>
     rw [hx1, hx2] at hb'
     simp only [Option.some.injEq] at hb'
     subst hb'
     have rest := bld_own (ty := ty) (e := e) (w := w) (R := R) (Z := Z) hF (gd :: r) b m.snd (n + 1) (off + a.size) x2 h4 hms hx2 (by omega)
      (by rw [← List.drop_drop, hZ', ← zc_length a, List.drop_left])
      (fun i fd' K hi hK => by
       have := hp (i + 1) fd' K (by simpa using hi) hK
       rwa [show n + (i + 1) = n + 1 + i by omega] at this)
     obtain ⟨p1, p2⟩ := hp 0 fd a rfl (tyHas_ok h2)
     rw [e1, Nat.add_zero] at p1 p2
     have split : R.drop off = (R.drop off).take a.size ++ R.drop (off + a.size) := by rw [← List.drop_drop, List.take_append_drop]
     have first : Own g.S w a m.fst x1 ((R.drop off).take a.size) (Fpart g pl n) := by
      cases hl : look pl n with
      | none =>
       rw [hl] at hx1
       rcases cast_own (e := e) (g := g) (w := w) (v := undef) hx1 (fun q hq => by cases hq) with ⟨_, ho⟩ | ⟨q, hq, _⟩
       ·rw [p2 hl, hZ', ← zc_length a, List.take_left]
        exact ho.mono (fun _ h => h) (fun _ _ _ _ h => h) (fun _ h => h.elim) (fun _ _ h => h.elim)
       ·cases hq
      | some p =>
       obtain ⟨v, r1, r2⟩ := p1 p hl
       rw [hl] at hx1
       rcases cast_own (e := e) (g := g) (w := w) (v := v) hx1 (fun q hq => by cases hq; exact r1) with ⟨hq, _⟩ | ⟨q, hq, ho⟩
       ·cases hq
       ·cases hq
        rw [r2]
        refine ho.mono (fun _ h => h) (fun _ _ _ _ h => h) (fun b hb => ?_) (fun _ _ _ => ⟨rfl, rfl⟩)
        obtain ⟨id, ob, rfl, hf⟩ := hb
        exact ⟨id, ob, hl, hf⟩
     rw [split]
     exact Own.pair_of (F := fun b => ∃ i, n ≤ i ∧ Fpart g pl i b) (F1 := Fpart g pl n) (F2 := fun b => ∃ i, n + 1 ≤ i ∧ Fpart g pl i b) hm
      (fun b hb => ⟨n, Nat.le_refl _, hb⟩) (fun b ⟨i, hi, hb⟩ => ⟨i, by omega, hb⟩) (fun b hb ⟨i, hi, hb2⟩ => hF n i b (by omega) hb hb2) first rest
  | _ => simp [fldsOk] at h
theorem blds_own {e : Env} {g : Gh} {w : World} {pl : List (Nat × Part)} {R Z : List Value} {K : Kd} {m : Md} {N : Nat} (hR : R.length = N * K.size) :
  ∀ (k n : Nat) (xs : List K.T), blds K m n pl k = some xs → n + k = N → (∀ i, i < N → elemAt Z K.size i = K.zc) →
   (∀ i, i < N → (∀ p, look pl i = some p → ∃ v : Value, PartRep e g w p v ∧ elemAt R K.size i = v.cells.toList) ∧ (look pl i = none → elemAt R K.size i = elemAt Z K.size i)) →
   xs.length = k ∧ ∀ i (h : i < xs.length), Own g.S w K m xs[i] (elemAt R K.size (n + i)) (Fpart g pl (n + i))
 | 0, n, xs, h, _, _, _ => by
  simp only [blds, Option.some.injEq] at h
  subst h
  exact ⟨rfl, fun i h => absurd h (Nat.not_lt_zero _)⟩
 | k + 1, n, xs, h, hn, hZ, hp => by
  simp only [blds] at h
  split at h
  ·rename_i x l hx hl
   cases h
   obtain ⟨h1, h2⟩ := blds_own hR k (n + 1) l hl (by omega) hZ hp
   refine ⟨by simp [h1], fun i hi => ?_⟩
   cases i with
   | zero =>
    simp only [List.getElem_cons_zero, Nat.add_zero]
    obtain ⟨p1, p2⟩ := hp n (by omega)
    cases hq : look pl n with
    | none =>
     rw [hq] at hx
     rcases cast_own (e := e) (g := g) (w := w) (v := undef) hx (fun q hq => by cases hq) with ⟨_, ho⟩ | ⟨q, hq, _⟩
     ·rw [p2 hq, hZ n (by omega)]
      exact ho.mono (fun _ h => h) (fun _ _ _ _ h => h) (fun _ h => h.elim) (fun _ _ h => h.elim)
     ·cases hq
    | some p =>
     obtain ⟨v, r1, r2⟩ := p1 p hq
     rw [hq] at hx
     rcases cast_own (e := e) (g := g) (w := w) (v := v) hx (fun q hq => by cases hq; exact r1) with ⟨hq, _⟩ | ⟨q, hq, ho⟩
     ·cases hq
     ·cases hq
      rw [r2]
      refine ho.mono (fun _ h => h) (fun _ _ _ _ h => h) (fun b hb => ?_) (fun _ _ _ => ⟨rfl, rfl⟩)
      obtain ⟨id, ob, rfl, hf⟩ := hb
      exact ⟨id, ob, by assumption, hf⟩
   | succ i =>
    have := h2 i (by simpa using hi)
    rw [show n + (i + 1) = n + 1 + i by omega]
    simpa using this
  ·cases h
theorem part_size {e : Env} {g : Gh} {w : World} {p : Part} {v : Value} {K : Kd} {m : Md} {y : K.T} (hr : PartRep e g w p v) (hc : cast1 K m (some p) = some y) : v.cells.size = K.size := by
 rcases cast_own (e := e) (g := g) (w := w) (v := v) hc (fun q hq => by cases hq; exact hr) with ⟨hq, _⟩ | ⟨q, hq, ho⟩
 ·cases hq
 ·have := ho.length; simpa using this
theorem bld_cast {pl : List (Nat × Part)} {ty : List (Nat × Kd)} : ∀ (fs : List Field) (k : Kd) (m : Md) (n off : Nat) (x : k.T), fldsOk ty fs off k = true → bld k m n pl = some x →
  ∀ (i : Nat) (fd : Field) (K : Kd), fs[i]? = some fd → look ty fd.type = some K → off ≤ fd.offset ∧ fd.offset + K.size ≤ off + k.size ∧ (∀ p, look pl (n + i) = some p → ∃ m' y, cast1 K m' (some p) = some y)
 | [], _, _, _, _, _, h, _, _, _, _, _, _ => by simp [fldsOk] at h
 | [fd0], k, m, n, off, x, h, hb, i, fd, K, hi, hK => by
  simp only [fldsOk, Bool.and_eq_true] at h
  obtain ⟨⟨h1, h2⟩, h3⟩ := h
  have e1 := Nat.eq_of_beq_eq_true h1
  have hnp := Kd.np_ok h3
  have hb' : cast1 k m (look pl n) = some x := by
   cases k <;> first | exact hb | exact absurd rfl (hnp _ _)
  cases i with
  | zero =>
   simp at hi
   subst hi
   rw [tyHas_ok h2] at hK
   cases hK
   exact ⟨by omega, by omega, fun p hp => ⟨m, x, by rw [Nat.add_zero] at hp; rw [hp] at hb'; exact hb'⟩⟩
  | succ i => simp at hi
 | fd0 :: gd :: r, k, m, n, off, x, h, hb, i, fd, K, hi, hK => by
  cases k with
  | pair a b =>
   simp only [fldsOk, Bool.and_eq_true] at h
   obtain ⟨⟨⟨h1, h2⟩, h3⟩, h4⟩ := h
   have e1 := Nat.eq_of_beq_eq_true h1
   have hb' : (match cast1 a m.fst (look pl n), bld b m.snd (n + 1) pl with | some x, some y => some ((x, y) : a.T × b.T) | _, _ => none) = some x := hb
   cases hx1 : cast1 a m.fst (look pl n) with
   | none => rw [hx1] at hb'; cases hb'
   | some x1 =>
    cases hx2 : bld b m.snd (n + 1) pl with
    | none => rw [hx1, hx2] at hb'; cases hb'
    | some x2 =>
     cases i with
     | zero =>
      simp at hi
      subst hi
      rw [tyHas_ok h2] at hK
      cases hK
      exact ⟨by omega, by simp only [Kd.size]; omega, fun p hp => ⟨m.fst, x1, by rw [Nat.add_zero] at hp; rw [hp] at hx1; exact hx1⟩⟩
     | succ i =>
      obtain ⟨q1, q2, q3⟩ := bld_cast (gd :: r) b m.snd (n + 1) (off + a.size) x2 h4 hx2 i fd K (by simpa using hi) hK
      exact ⟨by omega, by simp only [Kd.size]; omega, fun p hp => q3 p (by rw [show n + 1 + i = n + (i + 1) by omega]; exact hp)⟩
  | _ => simp [fldsOk] at h
end Go.Abs
namespace Go.Abs
theorem run_mapM {α β : Type} {P : Program} {w : World} (f : α → Sem β) (g : α → β) : ∀ (l : List α), (∀ x, x ∈ l → (f x).run P w = .ok (g x) w) → (l.mapM f).run P w = .ok (l.map g) w
 | [], _ => rfl
 | x :: l, h => by
  rw [List.mapM_cons]
  simp only [Sem.run_bind, h x List.mem_cons_self, Result.andThen_ok, run_mapM f g l (fun y hy => h y (List.mem_cons_of_mem _ hy)), Sem.run_pure, List.map_cons]
theorem run_mapM_array {α β : Type} {P : Program} {w : World} (f : α → Sem β) (g : α → β) (l : Array α) (h : ∀ x, x ∈ l.toList → (f x).run P w = .ok (g x) w) : (l.mapM f).run P w = .ok (l.map g) w := by
 rw [Array.mapM_eq_mapM_toList, Sem.run_map, run_mapM f g l.toList h, Result.andThen_ok]
 congr 1
 apply Array.ext'
 simp
theorem fld_nf {ty : List (Nat × Kd)} : ∀ (fs : List Field) (k : Kd) (off : Nat), fldsOk ty fs off k = true → fs.length = k.nf
 | [], _, _, h => by simp [fldsOk] at h
 | [fd0], k, off, h => by
  simp only [fldsOk, Bool.and_eq_true] at h
  have := Kd.np_ok h.2
  cases k with
  | pair a b => exact absurd rfl (this a b)
  | _ => rfl
 | fd0 :: gd :: r, k, off, h => by
  cases k with
  | pair a b =>
   simp only [fldsOk, Bool.and_eq_true] at h
   have := fld_nf (gd :: r) b _ h.2
   simp only [Kd.nf, List.length_cons] at this ⊢
   omega
  | _ => simp [fldsOk] at h
theorem keysIn_ok {pl : List (Nat × Part)} {n : Nat} (h : keysIn pl n = true) : ∀ i, i ∈ pl.map (·.1) → i < n := by
 intro i hi
 obtain ⟨q, h1, rfl⟩ := List.mem_map.1 hi
 have := List.all_eq_true.1 h q h1
 exact Nat.lt_of_lt_of_le (Nat.lt_of_succ_le (Nat.le_of_ble_eq_true this)) (Nat.le_refl _)
theorem fld_ty {ty : List (Nat × Kd)} : ∀ (fs : List Field) (k : Kd) (off : Nat), fldsOk ty fs off k = true → ∀ fd, fd ∈ fs → ∃ K, look ty fd.type = some K
 | [], _, _, h, _, _ => by simp [fldsOk] at h
 | [fd0], k, off, h, fd, hm => by
  simp only [fldsOk, Bool.and_eq_true] at h
  simp at hm
  subst hm
  exact ⟨k, tyHas_ok h.1.2⟩
 | fd0 :: gd :: r, k, off, h, fd, hm => by
  cases k with
  | pair a b =>
   simp only [fldsOk, Bool.and_eq_true] at h
   rcases List.mem_cons.1 hm with rfl | hm
   ·exact ⟨a, tyHas_ok h.1.1.2⟩
   ·exact fld_ty (gd :: r) b _ h.2 fd hm
  | _ => simp [fldsOk] at h
theorem fld_apart {ty : List (Nat × Kd)} : ∀ (fs : List Field) (k : Kd) (off : Nat), fldsOk ty fs off k = true → ∀ (i j : Nat) (fi fj : Field) (Ki Kj : Kd), i < j → fs[i]? = some fi → fs[j]? = some fj → look ty fi.type = some Ki → look ty fj.type = some Kj →
  fi.offset + Ki.size ≤ fj.offset ∧ off ≤ fj.offset
 | [], _, _, h, _, _, _, _, _, _, _, _, _, _, _ => by simp [fldsOk] at h
 | [fd0], k, off, h, i, j, fi, fj, Ki, Kj, hij, hi, hj, _, _ => by
  cases j with
  | zero => omega
  | succ j => simp at hj
 | fd0 :: gd :: r, k, off, h, i, j, fi, fj, Ki, Kj, hij, hi, hj, hKi, hKj => by
  cases k with
  | pair a b =>
   simp only [fldsOk, Bool.and_eq_true] at h
   obtain ⟨⟨⟨h1, h2⟩, h3⟩, h4⟩ := h
   have e1 := Nat.eq_of_beq_eq_true h1
   cases j with
   | zero => omega
   | succ j =>
    have low : off + a.size ≤ fj.offset := by
     have : ∀ (fs : List Field) (k : Kd) (off : Nat), fldsOk ty fs off k = true → ∀ (j : Nat) (fj : Field), fs[j]? = some fj → off ≤ fj.offset := by
      intro fs
      induction fs with
      | nil => intro k off h; simp [fldsOk] at h
      | cons f0 r ih =>
       intro k off h j fj hj
       cases r with
       | nil =>
        simp only [fldsOk, Bool.and_eq_true] at h
        have := Nat.eq_of_beq_eq_true h.1.1
        cases j with
        | zero => simp at hj; subst hj; omega
        | succ j => simp at hj
       | cons f1 r =>
        cases k with
        | pair a b =>
         simp only [fldsOk, Bool.and_eq_true] at h
         have := Nat.eq_of_beq_eq_true h.1.1.1
         cases j with
         | zero => simp at hj; subst hj; omega
         | succ j => have := ih b (off + a.size) h.2 j fj (by simpa using hj); omega
        | _ => simp [fldsOk] at h
     exact this (gd :: r) b (off + a.size) h4 j fj (by simpa using hj)
    cases i with
    | zero =>
     simp at hi
     subst hi
     rw [tyHas_ok h2] at hKi
     cases hKi
     omega
    | succ i =>
     have := fld_apart (gd :: r) b (off + a.size) h4 i j fi fj Ki Kj (by omega) (by simpa using hi) (by simpa using hj) hKi hKj
     omega
  | _ => simp [fldsOk] at h
theorem mem_look {α : Type} : ∀ {l : List (Nat × α)} {i : Nat} {x : α}, (l.map (·.1)).Nodup → (i, x) ∈ l → look l i = some x
 | [], _, _, _, h => by cases h
 |(j, y) :: l, i, x, hn, h => by
  have hn' := List.nodup_cons.1 (show (j :: l.map (·.1)).Nodup from hn)
  rcases List.mem_cons.1 h with h | h
  ·cases h; exact look_cons_self _ _ _
  ·by_cases hj : j = i
   ·subst hj; exact absurd (List.mem_map.2 ⟨(j, x), h, rfl⟩) hn'.1
   ·rw [look_cons_ne hj]; exact mem_look hn'.2 h
section
variable {c : Ctx} {B : Base} {nt : Nat} {o : Oper} {Ω : Type} {k : Delta → Option Ω} {out : Ω} {fr : Bool}
theorem run_build {P : Program} {nt : Nat} {ty : List (Nat × Kd)} (hty : TysOk P ty) {e : Env} {a : Act} {w : World} {g : Gh} (hg : InvG P B nt e a w g) {t : Nat} {K : Kd} {m : Md} {x : K.T} {ps : Array (Nat × Operand)} {vs : List View} {pl : List (Nat × Part)}
  (ht : look ty t = some (.st K)) (hv : ps.toList.map (fun q => e.view (e.opd q.2)) = vs) (hp : partsOf ps.toList vs = some pl) (hn : nodup (moved pl) = true) (hk : nodup (pl.map (·.1)) = true) (hin : keysIn pl K.nf = true) (hm : Md.fits K m = true) (hb : bld K m 0 pl = some x) :
  ∃ R : List Value, (Instr.build t (ps.map fun q => (q.1, a.eval q.2))).run P w = .ok (.agg R.toArray) w ∧ Own g.S w K m x R (fun b => ∃ i, Fpart g pl i b) := by
 have hT := hty.get ht
 obtain ⟨fs, hu, hfs⟩ := hT.st K rfl
 obtain ⟨z, hz, hzc, _⟩ := hT.zero w
 obtain ⟨k1, k2, k3, k4⟩ := parts_rep hg hv hp
 have hplaces : (fs.mapM fun f => do pure (f.offset, ← sizeOf f.type) : Sem (Array (Nat × Nat))).run P w = .ok (fs.map fun f => (f.offset, match look ty f.type with | some K => K.size | none => 0)) w := by
  refine run_mapM_array _ _ fs fun f hf => ?_
  obtain ⟨K', hK'⟩ := fld_ty fs.toList K 0 hfs f hf
  simp only [Sem.run_bind, (hty.get hK').size, Result.andThen_ok, Sem.run_pure, hK']
 have hkeys : ((ps.toList.map fun q => (q.1, a.eval q.2)).map (·.1)).Nodup := by
  have : (ps.toList.map fun q => (q.1, a.eval q.2)).map (·.1) = pl.map (·.1) := by rw [k1]; simp
  rw [this]; exact nodup_ok hk
 have hzl : K.zc.length = K.size := zc_length K
 have hplc : ∀ (i : Nat) (fd : Field) (K' : Kd), fs.toList[i]? = some fd → look ty fd.type = some K' → (fs.map fun f => (f.offset, match look ty f.type with | some K => K.size | none => 0))[i]? = some (fd.offset, K'.size) := by
  intro i fd K' h1 h2
  have : fs[i]? = some fd := by simpa using h1
  simp [this, h2]
 have hplc' : ∀ (i : Nat) (q : Nat × Nat), (fs.map fun f => (f.offset, match look ty f.type with | some K => K.size | none => 0))[i]? = some q → ∃ (fd : Field) (K' : Kd), fs.toList[i]? = some fd ∧ look ty fd.type = some K' ∧ q = (fd.offset, K'.size) := by
  intro i q h
  simp only [Array.getElem?_map, Option.map_eq_some_iff] at h
  obtain ⟨fd, h1, h2⟩ := h
  have hmem : fd ∈ fs.toList := by have := Array.mem_of_getElem? h1; simpa using this
  obtain ⟨K', hK'⟩ := fld_ty fs.toList K 0 hfs fd hmem
  rw [hK'] at h2
  exact ⟨fd, K', by simpa using h1, hK', h2.symm⟩
 have hcast := bld_cast (pl := pl) fs.toList K m 0 0 x hfs hb
 have vals : ∀ i v, look (ps.toList.map fun q => (q.1, a.eval q.2)) i = some v → ∃ p, look pl i = some p ∧ PartRep e g w p v := by
  intro i v hlv
  cases hl : look pl i with
  | none => rw [k3 i hl] at hlv; cases hlv
  | some p =>
   obtain ⟨v', h1, h2⟩ := k2 i p hl
   rw [h1] at hlv
   cases hlv
   exact ⟨p, rfl, h2⟩
 have hsz : fs.size = K.nf := by have := fld_nf fs.toList K 0 hfs; simpa using this
 have hin : ∀ i v, (i, v) ∈ (ps.toList.map fun q => (q.1, a.eval q.2)) → i < fs.size := by
  intro i v h
  have : (ps.toList.map fun q => (q.1, a.eval q.2)).map (·.1) = pl.map (·.1) := by rw [k1]; simp
  have h2 : i ∈ pl.map (·.1) := this ▸ List.mem_map.2 ⟨_, h, rfl⟩
  have := keysIn_ok hin i h2
  omega
 obtain ⟨r, r1, r2, r3, r4⟩ := fill_ok (fun i => (fs.map fun f => (f.offset, match look ty f.type with | some K => K.size | none => 0))[i]?) (ps.toList.map fun q => (q.1, a.eval q.2)) K.zc.toArray hkeys
  (fun i v hi => by
   have hlt := hin i v hi
   obtain ⟨p, h1, h2⟩ := vals i v (mem_look hkeys hi)
   have hfd : fs.toList[i]? = some fs[i] := by simp [hlt]
   obtain ⟨K', hK'⟩ := fld_ty fs.toList K 0 hfs fs[i] (by simp)
   obtain ⟨c1, c2, c3⟩ := hcast i fs[i] K' hfd hK'
   obtain ⟨m', y, h3⟩ := c3 p (by simpa using h1)
   have hs := part_size h2 h3
   refine ⟨fs[i].offset, ?_, ?_⟩
   ·rw [hplc i fs[i] K' hfd hK', hs]
   ·rw [hs]; simp only [List.size_toArray, hzl]; omega)
  (fun i j oi si oj sj hij hi hj => by
   obtain ⟨fi, Ki, a1, a2, a3⟩ := hplc' i _ hi
   obtain ⟨fj, Kj, b1, b2, b3⟩ := hplc' j _ hj
   simp only [Prod.mk.injEq] at a3 b3
   rcases Nat.lt_or_gt_of_ne hij with hlt | hlt
   ·have := (fld_apart fs.toList K 0 hfs i j fi fj Ki Kj hlt a1 b1 a2 b2).1; omega
   ·have := (fld_apart fs.toList K 0 hfs j i fj fi Kj Ki hlt b1 a1 b2 a2).1; omega)
 refine ⟨r.toList, ?_, ?_⟩
 ·have hzc2 : z.cells = K.zc.toArray := hzc
  simp only [Instr.build, Sem.run_bind, hz, Result.andThen_ok, run_underlying hu, hplaces, hzc2, Array.toList_map, r1, Sem.run_pure]
 ·have hF : ∀ n n' b, n ≠ n' → Fpart g pl n b → ¬ Fpart g pl n' b := by
   rintro n n' b hne ⟨id, ob, h1, h2⟩ ⟨id', ob', h3, h4⟩
   by_cases hid : id = id'
   ·subst hid
    exact hne (moved_inj (nodup_ok hn) h1 h3)
   ·exact hg.FF id id' b hid h2 h4
  have := bld_own (ty := ty) (e := e) (g := g) (w := w) (pl := pl) (R := r.toList) (Z := K.zc) hF fs.toList K m 0 0 x hfs hm hb (by simp [r2, hzl]) (by simp) ?_
  ·rw [List.drop_zero] at this
   exact this.mono (fun _ h => h) (fun _ _ _ _ h => h) (fun b ⟨i, _, h⟩ => ⟨i, h⟩) (fun _ _ _ => ⟨rfl, rfl⟩)
  ·intro i fd K' hi hK'
   rw [Nat.zero_add]
   obtain ⟨c1, c2, c3⟩ := hcast i fd K' hi hK'
   refine ⟨fun p hpl => ?_, fun hnone => ?_⟩
   ·obtain ⟨v, h1, h2⟩ := k2 i p hpl
    obtain ⟨m', y, h3⟩ := c3 p (by simpa using hpl)
    have hs := part_size h2 h3
    refine ⟨v, h2, ?_⟩
    have := r3 i v fd.offset h1 (by rw [hplc i fd K' hi hK', hs])
    rwa [hs] at this
   ·apply List.ext_getElem?
    intro p
    rw [List.getElem?_take, List.getElem?_take]
    split
    ·rename_i hlt
     rw [List.getElem?_drop, List.getElem?_drop]
     have := r4 (fd.offset + p) (fun j v oj hj hpj => by
      obtain ⟨fj, Kj, b1, b2, b3⟩ := hplc' j _ hpj
      simp only [Prod.mk.injEq] at b3
      have hne : i ≠ j := fun e => by subst e; rw [k3 i hnone] at hj; cases hj
      rcases Nat.lt_or_gt_of_ne hne with hlt' | hlt'
      ·have := (fld_apart fs.toList K 0 hfs i j fd fj K' Kj hlt' hi b1 hK' b2).1; omega
      ·have := (fld_apart fs.toList K 0 hfs j i fj fd Kj K' hlt' b1 hi b2 hK').1; omega)
     simpa using this
    ·rfl
theorem views_build {e : Env} {t : Nat} {ps : Array (Nat × Operand)} {vs : List View} (h : e.views o = vs) (ho : o.op.operands = (ps.toList.map (·.2)).toArray) : ps.toList.map (fun q => e.view (e.opd q.2)) = vs := by
 rw [← h]
 simp only [Env.views, Oper.opds, ho, List.map_map]
 rfl
theorem parts_mem {e : Env} : ∀ {ps : List (Nat × Operand)} {vs : List View} {pl : List (Nat × Part)}, ps.map (fun q => e.view (e.opd q.2)) = vs → partsOf ps vs = some pl → ∀ i, i ∈ moved pl → ∃ o, e.obj i = some (some o)
 | [], [], pl, _, hp => by
  simp only [partsOf, Option.some.injEq] at hp
  subst hp
  intro i h; cases h
 |(j, x) :: ps, v :: vs, pl, hv, hp => by
  simp only [List.map_cons, List.cons.injEq] at hv
  unfold partsOf at hp
  split at hp
  ·rename_i p l h1 h2
   cases hp
   have ih := parts_mem hv.2 h2
   intro i hi
   unfold partOf at h1
   split at h1
   ·cases h1; exact ih i hi
   ·cases h1; exact ih i hi
   ·split at h1
    ·cases h1
     rename_i id n ob _
     rcases List.mem_cons.1 (show i ∈ id :: moved l from hi) with rfl | hi
     ·exact ⟨ob, view_al hv.1⟩
     ·exact ih i hi
    ·cases h1
   ·cases h1
  ·cases hp
 | [], _ :: _, _, hv, _ => by cases hv
 | _ :: _, [], _, hv, _ => by cases hv
theorem ok_build_own {t : Nat} {ps : Array (Nat × Operand)} {vs : List View} {pl : List (Nat × Part)} {K : Kd} {m : Md} {x : K.T} (hc : CtxOk c) (ho : o.op = .build t ps) (ht : look c.ty t = some (.st K)) (hp : partsOf ps.toList vs = some pl)
  (hg0 : (nodup (moved pl) && nodup (pl.map (·.1)) && keysIn pl K.nf && Md.fits K m) = true) (hb : bld K m 0 pl = some x)
  (hk : putNew nt o.dst fr ⟨.st K, m, x, false, false, [], none⟩ false (gone (moved pl)) k = some out) : Step1 c B nt o vs fr k out := by
 simp only [Bool.and_eq_true] at hg0
 refine step_new (mv := moved pl) hk rfl rfl rfl fun e0 he a w g hg => ?_
 have hv := views_build (t := t) he (ps := ps) (by rw [ho]; rfl)
 obtain ⟨R, r1, r2⟩ := run_build hc.ty hg ht hv hp hg0.1.1.1 hg0.1.1.2 hg0.1.2 hg0.2 hb
 refine ⟨.agg R.toArray, w, fun b => ∃ i, Fpart g pl i b, none, R, ?_, Ext.refl _ _, parts_mem hv hp, ?_, (fun b off h => by cases h), ⟨Own.st.2 r2, (fun b off h => by cases h)⟩, rfl, ?_⟩
 ·simp only [execOp, ho, Sem.run_bind, r1, Result.andThen_ok, Sem.run_pure]
 ·rintro b ⟨i, id, ob, h1, h2⟩
  exact .inr ⟨id, moved_mem h1, h2⟩
 ·exact (show VRep (.st K) R (.agg R.toArray) from ⟨rfl, rfl⟩)
theorem ok_build_ro {t : Nat} {ps : Array (Nat × Operand)} {vs : List View} {pl : List (Nat × Part)} {K : Kd} {x : K.T} (hc : CtxOk c) (ho : o.op = .build t ps) (ht : look c.ty t = some (.st K)) (hp : partsOf ps.toList vs = some pl)
  (hg0 : ((moved pl).isEmpty && nodup (pl.map (·.1)) && keysIn pl K.nf) = true) (hb : bld K .ro 0 pl = some x)
  (hk : put1 nt o.dst (.v (.st K) x) k = some out) : Step1 c B nt o vs fr k out := by
 simp only [Bool.and_eq_true] at hg0
 have hm0 : moved pl = [] := List.isEmpty_iff.1 hg0.1.1
 refine stepOk_pure hk fun e0 he a w g hg => ?_
 have hv := views_build (t := t) he.1 (ps := ps) (by rw [ho]; rfl)
 obtain ⟨R, r1, r2⟩ := run_build (m := .ro) hc.ty hg ht hv hp (by rw [hm0]; rfl) hg0.1.2 hg0.2 (by cases K <;> rfl) hb
 refine ⟨.agg R.toArray, ?_, R, (show RO g.S w (.st K) x R from ?_), rfl, rfl⟩
 ·simp only [execOp, ho, Sem.run_bind, r1, Result.andThen_ok, Sem.run_pure]
 refine Own.toRO (K := .st K) (fun b hb => hb) (fun b hb => ?_) (Own.st.2 r2)
 ·obtain ⟨i, id, ob, h1, _⟩ := hb
  have := moved_mem h1
  rw [hm0] at this
  cases this
theorem blds_cast {pl : List (Nat × Part)} {K : Kd} {m : Md} : ∀ (k n : Nat) (xs : List K.T), blds K m n pl k = some xs → ∀ i, i < k → ∀ p, look pl (n + i) = some p → ∃ y, cast1 K m (some p) = some y
 | 0, _, _, _, i, hi, _, _ => absurd hi (Nat.not_lt_zero i)
 | k + 1, n, xs, h, i, hi, p, hp => by
  simp only [blds] at h
  split at h
  ·rename_i x l hx hl
   cases i with
   | zero => rw [Nat.add_zero] at hp; exact ⟨x, by rw [← hp]; exact hx⟩
   | succ i => exact blds_cast k (n + 1) l hl i (by omega) p (by rw [← hp]; congr 1; omega)
  ·cases h
theorem run_buildSlice {P : Program} {nt : Nat} {ty : List (Nat × Kd)} (hty : TysOk P ty) {e : Env} {a : Act} {w : World} {g : Gh} (hg : InvG P B nt e a w g) {t n : Nat} {K : Kd} {m : Md} {xs : List K.T} {ps : Array (Nat × Operand)} {vs : List View} {pl : List (Nat × Part)}
  (ht : look ty t = some (.sl K)) (hv : ps.toList.map (fun q => e.view (e.opd q.2)) = vs) (hp : partsOf ps.toList vs = some pl) (hn : nodup (moved pl) = true) (hk : nodup (pl.map (·.1)) = true) (hin : keysIn pl n = true) (hsz : n * K.size ≤ 16777216) (hb : blds K m 0 pl n = some xs) :
  ∃ (R : List Value) (t' : Nat), xs.length = n ∧ (Instr.buildSlice t n (ps.map fun q => (q.1, a.eval q.2))).run P w = .ok (.slice (some ⟨w.heap.size, 0, none⟩) n n) (w.alloc (.cells R.toArray t')) ∧
   Own g.S (w.alloc (.cells R.toArray t')) (.sl K) (.own m) xs [.slice (some ⟨w.heap.size, 0, none⟩) n n] (fun b => b = w.heap.size ∨ ∃ i, Fpart g pl i b) := by
 have hT := hty.get ht
 obtain ⟨t', hu, hl⟩ := hT.sl K rfl
 have hE := hty.get hl
 obtain ⟨z, hz, hzc, _⟩ := hE.zero w
 obtain ⟨k1, k2, k3, k4⟩ := parts_rep hg hv hp
 have hzl : K.zc.length = K.size := zc_length K
 have hpos := K.size_pos
 have hsz2 : (madeCells K.zc.toArray (n * K.size)).size = n * K.size := size_madeCells _ _
 have hkeq : (ps.toList.map fun q => (q.1, a.eval q.2)).map (·.1) = pl.map (·.1) := by rw [k1]; simp
 have hkeys : ((ps.toList.map fun q => (q.1, a.eval q.2)).map (·.1)).Nodup := by rw [hkeq]; exact nodup_ok hk
 have hin2 : ∀ i v, (i, v) ∈ (ps.toList.map fun q => (q.1, a.eval q.2)) → i < n := fun i v h => keysIn_ok hin i (hkeq ▸ List.mem_map.2 ⟨_, h, rfl⟩)
 have hcast := blds_cast (pl := pl) n 0 xs hb
 have vals : ∀ i v, look (ps.toList.map fun q => (q.1, a.eval q.2)) i = some v → ∃ p, look pl i = some p ∧ PartRep e g w p v := by
  intro i v hlv
  cases hl : look pl i with
  | none => rw [k3 i hl] at hlv; cases hlv
  | some p =>
   obtain ⟨v', h1, h2⟩ := k2 i p hl
   rw [h1] at hlv
   cases hlv
   exact ⟨p, rfl, h2⟩
 have vsz : ∀ i v, i < n → look (ps.toList.map fun q => (q.1, a.eval q.2)) i = some v → v.cells.size = K.size := by
  intro i v hi h
  obtain ⟨p, h1, h2⟩ := vals i v h
  obtain ⟨y, h3⟩ := hcast i hi p (by simpa using h1)
  exact part_size h2 h3
 obtain ⟨r, r1, r2, r3, r4⟩ := fill_ok (fun i => some (i * K.size, K.size)) (ps.toList.map fun q => (q.1, a.eval q.2)) (madeCells K.zc.toArray (n * K.size)) hkeys
  (fun i v hi => by
   have hlt := hin2 i v hi
   have hs := vsz i v hlt (mem_look hkeys hi)
   refine ⟨i * K.size, by rw [hs], ?_⟩
   rw [hs, hsz2]
   have : (i + 1) * K.size ≤ n * K.size := Nat.mul_le_mul_right _ hlt
   rw [Nat.add_mul, Nat.one_mul] at this
   exact this)
  (fun i j oi si oj sj hij hi hj => by
   simp only [Option.some.injEq, Prod.mk.injEq] at hi hj
   obtain ⟨rfl, rfl⟩ := hi
   obtain ⟨rfl, rfl⟩ := hj
   rcases Nat.lt_or_gt_of_ne hij with h | h
   ·left
    have : (i + 1) * K.size ≤ j * K.size := Nat.mul_le_mul_right _ h
    rw [Nat.add_mul, Nat.one_mul] at this
    exact this
   ·right
    have : (j + 1) * K.size ≤ i * K.size := Nat.mul_le_mul_right _ h
    rw [Nat.add_mul, Nat.one_mul] at this
    exact this)
 have hrl : r.toList.length = n * K.size := by simpa [hsz2] using r2
 have hF : ∀ n n' b, n ≠ n' → Fpart g pl n b → ¬ Fpart g pl n' b := by
  rintro n n' b hne ⟨id, ob, h1, h2⟩ ⟨id', ob', h3, h4⟩
  by_cases hid : id = id'
  ·subst hid
   exact hne (moved_inj (nodup_ok hn) h1 h3)
  ·exact hg.FF id id' b hid h2 h4
 have hFs : ∀ i b, Fpart g pl i b → b < w.heap.size := fun i b ⟨id, ob, _, h2⟩ => hg.Fsz id b h2
 obtain ⟨e1, e2⟩ := blds_own (e := e) (g := g) (w := w) (pl := pl) (R := r.toList) (Z := (madeCells K.zc.toArray (n * K.size)).toList) hrl n 0 xs hb (by omega) (fun i hi => by
   have := made_get (z := K.zc) (n := n) (i := i) (by omega) hi
   rwa [hzl] at this) (fun i hi => by
   refine ⟨fun p hpl => ?_, fun hnone => ?_⟩
   ·obtain ⟨v, h1, h2⟩ := k2 i p hpl
    have hs := vsz i v hi h1
    refine ⟨v, h2, ?_⟩
    have := r3 i v (i * K.size) h1 (by rw [hs])
    rwa [hs] at this
   ·apply List.ext_getElem?
    intro p
    simp only [elemAt]
    rw [List.getElem?_take, List.getElem?_take]
    split
    ·rename_i hlt
     rw [List.getElem?_drop, List.getElem?_drop]
     have := r4 (i * K.size + p) (fun j v oj hj hpj => by
      simp only [Option.some.injEq, Prod.mk.injEq] at hpj
      obtain ⟨rfl, hs⟩ := hpj
      rw [← hs]
      have hne : i ≠ j := fun e => by subst e; rw [k3 i hnone] at hj; cases hj
      rcases Nat.lt_or_gt_of_ne hne with h | h
      ·left
       have : (i + 1) * K.size ≤ j * K.size := Nat.mul_le_mul_right _ h
       rw [Nat.add_mul, Nat.one_mul] at this
       omega
      ·right
       have : (j + 1) * K.size ≤ i * K.size := Nat.mul_le_mul_right _ h
       rw [Nat.add_mul, Nat.one_mul] at this
       omega)
     simpa using this
    ·rfl)
 refine ⟨r.toList, t', e1, ?_, ?_⟩
 ·have hnb : ¬ (n * K.size > 2 ^ 24) := by omega
  by_cases h0 : n * K.size = 0
  ·have hn0 : n = 0 := by
    rcases Nat.mul_eq_zero.1 h0 with h | h
    ·exact h
    ·omega
   subst hn0
   have hps : ps.toList.map (fun q => (q.1, a.eval q.2)) = [] := by
    cases hq : ps.toList.map (fun q => (q.1, a.eval q.2)) with
    | nil => rfl
    | cons q l => exact absurd (hin2 q.1 q.2 (by rw [hq]; exact List.mem_cons_self)) (Nat.not_lt_zero _)
   have hr0 : r = #[] := by apply Array.ext'; exact List.length_eq_zero_iff.1 (by rw [hrl]; omega)
   simp only [Instr.buildSlice, Sem.run_bind, run_underlying hu, hE.size, Result.andThen_ok, hnb, ite_false, h0, ite_true, Sem.run_pure, Array.toList_map, hps, Instr.fill, newRow, run_newObj]
   subst hr0
   rw [if_neg (by omega)]
   have hm : ∀ f : Nat → Value, (Array.range 0).map f = #[] := fun f => by simp
   simp only [Sem.run_bind, Sem.run_pure, Result.andThen_ok, run_newObj, hm]
   rfl
  ·have hmc : (Array.range (n * K.size)).map (fun i => K.zc.toArray[i % K.zc.toArray.size]!) = madeCells K.zc.toArray (n * K.size) := rfl
   simp only [Instr.buildSlice, Sem.run_bind, run_underlying hu, hE.size, Result.andThen_ok, hnb, ite_false, h0, Sem.run_pure, Array.toList_map, hz, hzc, hmc, r1, newRow, run_newObj]
   rfl
 ·obtain ⟨n1, n2⟩ := new_cells w r.toList.toArray t'
  have hx := Ext.alloc w (.cells r.toList.toArray t') (fun _ _ => False)
  have hrs : r.toList.toArray.size = n * K.size := by simpa using hrl
  rw [hrs] at n2
  have := own_mk (S := g.S) (w := w.alloc (.cells r.toList.toArray t')) (e := K) (m := m) (xs := xs) (L := r.toList) (b := w.heap.size) (o := 0) (cap := n) (F := fun b => b = w.heap.size ∨ ∃ i, Fpart g pl i b) (by simpa using n1) (by omega)
   n2 (.inl rfl) (fun i b => Fpart g pl i b) (fun i b h => .inr ⟨i, h⟩) (fun i h => by have := hFs i _ h; omega) (fun i j b hij h1 h2 => hF i j b hij h1 h2)
   (fun i hi => by
    have := e2 i hi
    rw [Nat.zero_add] at this
    exact this.ext hx (fun b hb => hFs i b hb))
  rw [e1] at this
  exact this
theorem ok_buildSlice_own {t n : Nat} {ps : Array (Nat × Operand)} {vs : List View} {pl : List (Nat × Part)} {K : Kd} {m : Md} {xs : List K.T} (hc : CtxOk c) (ho : o.op = .buildSlice t n ps) (ht : look c.ty t = some (.sl K)) (hp : partsOf ps.toList vs = some pl)
  (hg0 : (nodup (moved pl) && nodup (pl.map (·.1)) && keysIn pl n && Nat.ble (n * K.size) 16777216 && Md.fits K m) = true) (hb : blds K m 0 pl n = some xs)
  (hk : putNew nt o.dst fr ⟨.sl K, .own m, xs, false, false, [], none⟩ false (gone (moved pl)) k = some out) : Step1 c B nt o vs fr k out := by
 simp only [Bool.and_eq_true] at hg0
 refine step_new (mv := moved pl) hk rfl rfl rfl fun e0 he a w g hg => ?_
 have hv := views_build (t := t) he (ps := ps) (by rw [ho]; rfl)
 obtain ⟨R, t', r0, r1, r2⟩ := run_buildSlice hc.ty hg ht hv hp hg0.1.1.1.1 hg0.1.1.1.2 hg0.1.1.2 (Nat.le_of_ble_eq_true hg0.1.2) hb
 refine ⟨.slice (some ⟨w.heap.size, 0, none⟩) n n, w.alloc (.cells R.toArray t'), fun b => b = w.heap.size ∨ ∃ i, Fpart g pl i b, none, _, ?_, Ext.alloc _ _ _, parts_mem hv hp, ?_, (fun b off h => by cases h), ⟨r2, (fun b off h => by cases h)⟩, rfl, ?_⟩
 ·simp only [execOp, ho, Sem.run_bind, r1, Result.andThen_ok, Sem.run_pure]
 ·rintro b (rfl | ⟨i, id, ob, h1, h2⟩)
  ·exact .inl ⟨Nat.le_refl _, by rw [World.size_alloc]; omega⟩
  ·exact .inr ⟨id, moved_mem h1, h2⟩
 ·exact (show VRep (.sl K) [.slice (some ⟨w.heap.size, 0, none⟩) n n] (.slice (some ⟨w.heap.size, 0, none⟩) n n) from ⟨rfl, rfl⟩)
theorem ok_buildSlice_ro {t n : Nat} {ps : Array (Nat × Operand)} {vs : List View} {pl : List (Nat × Part)} {K : Kd} {xs : List K.T} (hc : CtxOk c) (ho : o.op = .buildSlice t n ps) (ht : look c.ty t = some (.sl K)) (hp : partsOf ps.toList vs = some pl)
  (hg0 : ((moved pl).isEmpty && nodup (pl.map (·.1)) && keysIn pl n && Nat.ble (n * K.size) 16777216) = true) (hb : blds K .ro 0 pl n = some xs)
  (hk : put1 nt o.dst (.v (.sl K) xs) k = some out) : Step1 c B nt o vs fr k out := by
 simp only [Bool.and_eq_true] at hg0
 have hm0 : moved pl = [] := List.isEmpty_iff.1 hg0.1.1.1
 refine stepOk_put1 hk fun e0 he a w g hg => ?_
 have hv := views_build (t := t) he.1 (ps := ps) (by rw [ho]; rfl)
 obtain ⟨R, t', r0, r1, r2⟩ := run_buildSlice (m := .ro) hc.ty hg ht hv hp (by rw [hm0]; rfl) hg0.1.1.2 hg0.1.2 (Nat.le_of_ble_eq_true hg0.2) hb
 have hx := Ext.alloc w (.cells R.toArray t') (fun _ _ => False)
 refine ⟨.slice (some ⟨w.heap.size, 0, none⟩) n n, _, _, ?_, hg.grow hx, [.slice (some ⟨w.heap.size, 0, none⟩) n n], ?_, rfl, rfl⟩
 ·simp only [execOp, ho, Sem.run_bind, r1, Result.andThen_ok, Sem.run_pure]
 ·refine Own.toRO (fun b hb => .inl hb) (fun b hb => ?_) r2
  rcases hb with rfl | ⟨i, id, ob, h1, _⟩
  ·exact .inr ⟨Nat.le_refl _, by rw [World.size_alloc]; omega⟩
  ·have := moved_mem h1
   rw [hm0] at this
   cases this
end
end Go.Abs
namespace Go.Abs
def SrcOwn (P : Program) (S : Nat → Prop) (w : World) (e : Kd) (m : Md) (tx : Nat) (x : Value) (zs : List e.T) (F3 : Nat → Prop) : Prop :=
 ∃ news, Src P e.size tx x zs.length news w ∧ ∃ G : Nat → Nat → Prop, (∀ i b, G i b → F3 b) ∧ (∀ i j b, i ≠ j → G i b → ¬ G j b) ∧ ∀ i (h : i < zs.length), Own S w e m zs[i] (elemAt news e.size i) (G i)
theorem rows_one {S : Nat → Prop} {w : World} {e : Kd} {m : Md} {xs : List e.T} {L : List Value} {G : Nat → Nat → Prop} (hl : L.length = xs.length * e.size) (h : ∀ i (h : i < xs.length), Own S w e m xs[i] (elemAt L e.size i) (G i)) : ∀ u ∈ L, u.oneCell' = true := by
 intro u hu
 obtain ⟨j, hj, rfl⟩ := List.mem_iff_getElem.1 hu
 have hpos := e.size_pos
 have hi : j / e.size < xs.length := by rw [Nat.div_lt_iff_lt_mul hpos]; omega
 have hm := Nat.mod_lt j hpos
 have hd := Nat.div_add_mod j e.size
 rw [Nat.mul_comm] at hd
 refine (h (j / e.size) hi).one _ ?_
 have e1 : (elemAt L e.size (j / e.size))[j % e.size]? = some L[j] := by
  simp only [elemAt]
  rw [List.getElem?_take, if_pos hm, List.getElem?_drop]
  rw [List.getElem?_eq_getElem (by omega)]
  congr 2
 exact List.mem_of_getElem? e1
theorem SrcOwn.ro {P : Program} {S : Nat → Prop} {w : World} {e : Kd} {tx e' : Nat} {zs : List e.T} {x : Value} {cs : List Value} (hk : P.underlying tx = some (.slice e')) (h : RO S w (.sl e) zs cs) (hx : VRep (.sl e) cs x) (F3 : Nat → Prop) : SrcOwn P S w e .ro tx x zs F3 := by
 obtain ⟨A, cap, L, rfl, h1, h2, h3, h4, h5⟩ := ro_row h
 have hx1 : x = .slice A zs.length cap := hx.1
 refine ⟨L, ?_, fun _ _ => False, fun _ _ h => h.elim, fun _ _ _ _ h => h.elim, fun i hi => Own.ro.2 (h5 i hi)⟩
 rw [hx1]
 by_cases h0 : 0 < zs.length
 ·obtain ⟨b, o, rfl, _⟩ := h4 h0
  refine Src.ofSlice w hk ⟨b, o, none⟩ zs.length cap L h2 (fun j u hj => ?_) (rows_one h2 (m := .ro) (G := fun _ _ => False) (fun i hi => Own.ro.2 (h5 i hi)))
  have hlt : j < L.length := (List.getElem?_eq_some_iff.1 hj).1
  have := h3 b o rfl j hlt
  rw [List.getElem?_eq_getElem hlt] at hj
  cases hj
  simpa [Addr.add_lit] using this
 ·have hz : zs.length = 0 := by omega
  have hL : L = [] := List.length_eq_zero_iff.1 (by rw [h2, hz, Nat.zero_mul])
  subst hL
  rw [hz]
  cases A with
  | none => exact Src.ofNil w hk cap
  | some a => exact Src.ofSlice w hk a 0 cap [] (by simp) (fun j u hj => by simp at hj) (fun u hu => by cases hu)
theorem SrcOwn.nil {P : Program} {S : Nat → Prop} {w : World} {e : Kd} {m : Md} {tx e' : Nat} (hk : P.underlying tx = some (.slice e')) (F3 : Nat → Prop) : SrcOwn P S w e m tx (.slice none 0 0) ([] : List e.T) F3 :=
 ⟨[], Src.ofNil w hk 0, fun _ _ => False, fun _ _ h => h.elim, fun _ _ _ _ h => h.elim, fun i hi => absurd hi (Nat.not_lt_zero i)⟩
theorem SrcOwn.own {P : Program} {S : Nat → Prop} {w : World} {e : Kd} {m : Md} {tx e' : Nat} {zs : List e.T} {x : Value} {cs : List Value} {F3 : Nat → Prop} (hk : P.underlying tx = some (.slice e')) (h : Own S w (.sl e) (.own m) zs cs F3) (hx : VRep (.sl e) cs x) : SrcOwn P S w e m tx x zs F3 := by
 obtain ⟨A, cap, L, rfl, h1, h2, h3, h4, h5, G, g1, g2, g3, g4⟩ := own_row h
 have hx1 : x = .slice A zs.length cap := hx.1
 refine ⟨L, ?_, G, g1, g3, g4⟩
 rw [hx1]
 cases A with
 | none =>
  have hc := h2 rfl
  have hz : zs.length = 0 := by omega
  have hL : L = [] := List.length_eq_zero_iff.1 (by rw [h4, hz, Nat.zero_mul])
  subst hL
  rw [hz]
  exact Src.ofNil w hk cap
 | some a =>
  obtain ⟨b, o, sp⟩ := a
  have hsp : sp = none := (h3 _ rfl).1
  subst hsp
  refine Src.ofSlice w hk ⟨b, o, none⟩ zs.length cap L h4 (fun j u hj => ?_) (rows_one h4 g4)
  have hlt : j < L.length := (List.getElem?_eq_some_iff.1 hj).1
  have := h5 b o rfl j hlt
  rw [List.getElem?_eq_getElem hlt] at hj
  cases hj
  simpa [Addr.add_lit] using this
theorem append_run {P : Program} {ty : List (Nat × Kd)} (hty : TysOk P ty) {t tx ty' : Nat} {e : Kd} {m : Md} {S : Nat → Prop} {w : World} {xs zs : List e.T} {x v : Value} {cs : List Value} {F F3 : Nat → Prop}
  (ht : TyOk P ty t (.sl e)) (ho : Own S w (.sl e) (.own m) xs cs F) (hv : VRep (.sl e) cs v) (hs : SrcOwn P S w e m tx x zs F3) (hlen : xs.length + zs.length ≤ lim)
  (hFS : ∀ b, F b → ¬ S b) (hF3 : ∀ b, F3 b → ¬ F b) (hSz : ∀ b, S b → b < w.heap.size) (hFz : ∀ b, F b → b < w.heap.size) (hF3z : ∀ b, F3 b → b < w.heap.size) :
  ∃ v' w' cs', (Builtin.append_ #[t, tx] ty' #[v, x]).run P w = .ok v' w' ∧ Ext w w' (fun b _ => F b) ∧ VRep (.sl e) cs' v' ∧
   Own S w' (.sl e) (.own m) (xs ++ zs) cs' (fun b => F b ∨ F3 b ∨ (w.heap.size ≤ b ∧ b < w'.heap.size)) := by
 obtain ⟨et, hu, hl⟩ := ht.sl e rfl
 obtain ⟨i, z, i1, i2, i3, i4, i5, i6⟩ := (hty.get hl).info
 obtain ⟨A, cap, L, rfl, h1, h2, h3, h4, h5, G, g1, g2, g3, g4⟩ := own_row ho
 obtain ⟨news, s1, G3, s2, s3, s4⟩ := hs
 have hv1 : v = .slice A xs.length cap := hv.1
 subst hv1
 have hpos := e.size_pos
 rw [← i2] at s1
 have hzl : z.cells.size = e.size := by rw [i5]; simp [zc_length]
 have hnl := s1.newsLen
 rw [i2] at hnl
 by_cases hn0 : zs.length = 0
 ·-- nothing is appended
  have hz : zs = [] := List.length_eq_zero_iff.1 hn0
  subst hz
  have hne : news = [] := List.length_eq_zero_iff.1 (by rw [hnl]; simp)
  subst hne
  refine ⟨_, w, _, run_append_nothing w t tx ty' et i hu i1 A xs.length cap h1 x s1, Ext.refl _ _, hv, ?_⟩
  rw [List.append_nil]
  exact ho.mono (fun _ h => h) (fun _ _ _ _ h => h) (fun _ h => .inl h) (fun _ _ _ => ⟨rfl, rfl⟩)
 ·have hG : ∀ k (L2 : List Value), L2 = L → k < xs.length → elemAt (L2 ++ news) e.size k = elemAt L e.size k := fun k L2 e1 hk => by subst e1; exact elemAt_left h4 hk
  have hG2 : ∀ k, elemAt (L ++ news) e.size (xs.length + k) = elemAt news e.size k := fun k => elemAt_right h4
  have elems : ∀ (w' : World), (∀ b o, b < w.heap.size → (∀ ad, A = some ad → b ≠ ad.block) → w'.pk b o = w.pk b o ∧ w'.frozen? ⟨b, o, none⟩ = w.frozen? ⟨b, o, none⟩) →
    ∀ k (h : k < (xs ++ zs).length), Own S w' e m (xs ++ zs)[k] (elemAt (L ++ news) e.size k) (fun b => (k < xs.length ∧ G k b) ∨ (xs.length ≤ k ∧ G3 (k - xs.length) b)) := by
   intro w' hw' k hk
   have hSw : ∀ b o v, S b → w.pk b o = some v → w'.pk b o = some v := fun b o v hb hv => by
    rw [(hw' b o (hSz b hb) (fun ad had e1 => hFS b (e1 ▸ (h3 ad had).2.1) hb)).1]; exact hv
   by_cases hkx : k < xs.length
   ·rw [hG k L rfl hkx, List.getElem_append_left hkx]
    exact (g4 k hkx).mono (fun _ h => h) hSw (fun b hb => .inl ⟨hkx, hb⟩) (fun b o hb => hw' b o (hFz b (g1 k b hb)) (fun ad had e1 => g2 k ad had (e1 ▸ hb)))
   ·have hk2 : k - xs.length < zs.length := by rw [List.length_append] at hk; omega
    have e1 : k = xs.length + (k - xs.length) := by omega
    have e2 : elemAt (L ++ news) e.size k = elemAt news e.size (k - xs.length) := by
     conv => lhs; rw [e1]
     exact hG2 _
    rw [e2, List.getElem_append_right (by omega)]
    exact (s4 (k - xs.length) hk2).mono (fun _ h => h) hSw (fun b hb => .inr ⟨by omega, hb⟩) (fun b o hb => hw' b o (hF3z b (s2 _ b hb)) (fun ad had e1 => hF3 b (s2 _ b hb) (e1 ▸ (h3 ad had).2.1)))
  have Gdis : ∀ k j b, k ≠ j → ((k < xs.length ∧ G k b) ∨ (xs.length ≤ k ∧ G3 (k - xs.length) b)) → ¬ ((j < xs.length ∧ G j b) ∨ (xs.length ≤ j ∧ G3 (j - xs.length) b)) := by
   rintro k j b hne (⟨_, a1⟩ | ⟨a0, a1⟩) (⟨_, b1⟩ | ⟨b0, b1⟩)
   ·exact g3 k j b hne a1 b1
   ·exact hF3 b (s2 _ b b1) (g1 _ b a1)
   ·exact hF3 b (s2 _ b a1) (g1 _ b b1)
   ·exact s3 _ _ b (by omega) a1 b1
  by_cases hroom : xs.length + zs.length ≤ cap
  ·-- there is room
   cases A with
   | none => have := h2 rfl; omega
   | some ad =>
    obtain ⟨b, off, sp⟩ := ad
    have hsp : sp = none := (h3 _ rfl).1
    subst hsp
    obtain ⟨_, hFb, hr⟩ := h3 _ rfl
    have hmul : (xs.length + zs.length) * e.size ≤ cap * e.size := Nat.mul_le_mul_right _ hroom
    rw [Nat.add_mul] at hmul
    have cin : ∀ j, j < news.length → (∃ u, w.cell? ⟨b, off + xs.length * e.size + j, none⟩ = some u) ∧ w.frozen? ⟨b, off + xs.length * e.size + j, none⟩ = false := fun j hj => by
     have := hr (xs.length * e.size + j)
     rw [← Nat.add_assoc] at this
     exact ⟨this.1 (by omega), this.2⟩
    have hrun := run_append_room_src w t tx ty' et i hu i1 b off xs.length cap x zs.length news s1 hroom (fun j hj => by rw [i2]; obtain ⟨⟨u, hu⟩, _⟩ := cin j hj; rw [hu]; rfl) (fun j hj => by rw [i2]; exact (cin j hj).2)
    rw [i2] at hrun
    have hx := Ext.setCells w b (off + xs.length * e.size) news
    refine ⟨_, _, [.slice (some ⟨b, off, none⟩) (xs.length + zs.length) cap], hrun, hx.mono (fun b' o' _ hh => by rw [hh.1]; exact hFb), ⟨rfl, rfl⟩, ?_⟩
    have key := own_mk (S := S) (w := w.setCells b (off + xs.length * e.size) news) (e := e) (m := m) (xs := xs ++ zs) (L := L ++ news) (b := b) (o := off) (cap := cap)
     (F := fun b' => F b' ∨ F3 b' ∨ (w.heap.size ≤ b' ∧ b' < (w.setCells b (off + xs.length * e.size) news).heap.size)) ?_ (by rw [List.length_append]; exact hroom) ?_ (.inl hFb)
     (fun k b => (k < xs.length ∧ G k b) ∨ (xs.length ≤ k ∧ G3 (k - xs.length) b)) ?_ ?_ Gdis (elems _ ?_)
    ·rw [List.length_append] at key; exact key
    ·intro j hj
     by_cases hjl : j < L.length
     ·rw [List.getElem_append_left hjl, cell_pk (hx.cell b (off + j) (hFz b hFb) (fun hh => by omega)).1]
      exact h5 b off rfl j hjl
     ·have hj2 : j - L.length < news.length := by rw [List.length_append] at hj; omega
      rw [List.getElem_append_right (by omega)]
      have := World.cell?_setCells_in b news (off + xs.length * e.size) w (fun j hj => by obtain ⟨⟨u, hu⟩, _⟩ := cin j hj; rw [hu]; rfl) (j - L.length) hj2
      have e1 : off + xs.length * e.size + (j - L.length) = off + j := by omega
      rw [e1] at this
      exact this
    ·intro j
     obtain ⟨hu0, hf⟩ := hr j
     refine ⟨fun hj => ?_, by rw [World.frozen?_setCells]; exact hf⟩
     obtain ⟨u, hu⟩ := hu0 hj
     by_cases hin : off + xs.length * e.size ≤ off + j ∧ off + j < off + xs.length * e.size + news.length
     ·have := World.cell?_setCells_in b news (off + xs.length * e.size) w (fun j hj => by obtain ⟨⟨u, hu⟩, _⟩ := cin j hj; rw [hu]; rfl) (j - xs.length * e.size) (by omega)
      have e1 : off + xs.length * e.size + (j - xs.length * e.size) = off + j := by omega
      rw [e1] at this
      exact ⟨_, this⟩
     ·exact ⟨u, by rw [cell_pk (hx.cell b (off + j) (hFz b hFb) (fun hh => hin ⟨hh.2.1, hh.2.2⟩)).1]; exact hu⟩
    ·rintro k b' (⟨_, a1⟩ | ⟨_, a1⟩)
     ·exact .inl (g1 k b' a1)
     ·exact .inr (.inl (s2 _ b' a1))
    ·rintro k (⟨_, a1⟩ | ⟨_, a1⟩)
     ·exact g2 k _ rfl a1
     ·exact hF3 b (s2 _ b a1) hFb
    ·intro b' o' hb' hne
     exact hx.cell b' o' hb' (fun hh => hne _ rfl hh.1)
  ·-- a new row
   have hb63 : ((xs.length + zs.length : Nat) : Int) ≤ 9223372036854775807 := by simp only [lim] at hlen; omega
   have hfit : Builtin.nextslicecap (xs.length + zs.length) cap * i.bytes ≤ 281474976710656 := by
    refine growslice_fits_wide (by omega) ?_
    have : (xs.length + zs.length + (xs.length + zs.length) / 4 + 192) * i.bytes ≤ 5368709312 * 4096 := Nat.mul_le_mul (by simp only [lim] at hlen; omega) i3
    omega
   have hold : (Builtin.firstCells i.size xs.length (.slice A xs.length cap)).run P w.drew = .ok L.toArray w.drew := by
    cases A with
    | none =>
     have := h2 rfl
     have hL : L = [] := List.length_eq_zero_iff.1 (by rw [h4, show xs.length = 0 by omega, Nat.zero_mul])
     subst hL
     exact run_firstCells_none w.drew _ _ _ _
    | some ad =>
     obtain ⟨b, off, sp⟩ := ad
     have hsp : sp = none := (h3 _ rfl).1
     subst hsp
     refine run_firstCells_some w.drew i.size xs.length ⟨b, off, none⟩ xs.length cap L (by rw [i2]; exact h4) (fun j u hj => ?_)
     have hlt : j < L.length := (List.getElem?_eq_some_iff.1 hj).1
     have := h5 b off rfl j hlt
     rw [List.getElem?_eq_getElem hlt] at hj
     cases hj
     simpa [Addr.add_lit] using this
   have hrun := run_append_grow_src w t tx ty' et i z hu i1 i4 A xs.length cap L hold x zs.length news s1 (by omega) hb63 hfit
   have hge := grownCap_ge w (xs.length + zs.length) cap et
   generalize grownCap w (xs.length + zs.length) cap et = C at hrun hge
   have hx : Ext w (w.drew.alloc (.cells ((L ++ news).toArray ++ Builtin.zeroCells z.cells (C - (xs.length + zs.length))) et)) (fun b _ => F b) :=
    (Ext.drew w _).trans (Ext.alloc _ _ _)
   obtain ⟨n1, n2⟩ := new_cells w.drew ((L ++ news).toArray ++ Builtin.zeroCells z.cells (C - (xs.length + zs.length))) et
   have hsz : ((L ++ news).toArray ++ Builtin.zeroCells z.cells (C - (xs.length + zs.length))).size = C * e.size := by
    simp only [Array.size_append, List.size_toArray, size_zeroCells, hzl, List.length_append, h4, hnl, ← Nat.add_mul]
    congr 1
    omega
   rw [hsz] at n2
   have hnew : w.drew.heap.size = w.heap.size := rfl
   refine ⟨_, _, [.slice (some ⟨w.heap.size, 0, none⟩) (xs.length + zs.length) C], hrun, hx, ⟨rfl, rfl⟩, ?_⟩
   generalize hw' : w.drew.alloc (.cells ((L ++ news).toArray ++ Builtin.zeroCells z.cells (C - (xs.length + zs.length))) et) = w' at hx n1 n2
   have hws : w.heap.size < w'.heap.size := by rw [← hw', World.size_alloc]; exact Nat.lt_succ_self _
   have key := own_mk (S := S) (w := w') (e := e) (m := m) (xs := xs ++ zs) (L := L ++ news) (b := w.heap.size) (o := 0) (cap := C)
    (F := fun b' => F b' ∨ F3 b' ∨ (w.heap.size ≤ b' ∧ b' < w'.heap.size)) ?_ (by rw [List.length_append]; exact hge) n2 (.inr (.inr ⟨Nat.le_refl _, hws⟩))
    (fun k b => (k < xs.length ∧ G k b) ∨ (xs.length ≤ k ∧ G3 (k - xs.length) b)) ?_ ?_ Gdis (elems _ ?_)
   ·rw [List.length_append] at key; exact key
   ·intro j hj
    have := n1 j (by simp only [Array.toList_append, List.length_append] at hj ⊢; omega)
    simp only [Array.toList_append] at this
    rw [List.getElem_append_left (by simpa using hj)] at this
    simpa using this
   ·rintro k b' (⟨_, a1⟩ | ⟨_, a1⟩)
    ·exact .inl (g1 k b' a1)
    ·exact .inr (.inl (s2 _ b' a1))
   ·rintro k (⟨_, a1⟩ | ⟨_, a1⟩)
    ·have := hFz _ (g1 k _ a1); omega
    ·have := hF3z _ (s2 _ _ a1); omega
   ·intro b' o' hb' hne
    have hxn : Ext w w' (fun _ _ => False) := by rw [← hw']; exact (Ext.drew w _).trans (Ext.alloc _ _ _)
    exact hxn.cell b' o' hb' (fun h => h)
end Go.Abs
namespace Go.Abs
def Gh.take (g : Gh) (d : Nat) (rs : List (Nat × Option Obj)) (C : Nat → Nat → Prop) (Fd : Nat → Prop) (pl : Place) (cs : List Value) : Gh where
 S := g.S
 F := fun i b => if i = d then Fd b else g.F i b ∧ ¬ C i b
 pl := fun i => if i = d then pl else match look rs i with | some none => none | _ => g.pl i
 cs := fun i => if i = d then cs else g.cs i
variable {B : Base}
theorem InvG.take {P : Program} {nt : Nat} {e : Env} {a : Act} {w w' : World} {g : Gh} (h : InvG P B nt e a w g) {d : Nat} (hd : e.obj d = none) (rs : List (Nat × Option Obj)) (C : Nat → Nat → Prop)
  (hC : ∀ i b, C i b → (∃ r, look rs i = some r) ∧ g.F i b) (hx : Ext w w' (fun b _ => ∃ i, C i b))
  (hrs : ∀ i r, look rs i = some r → ∃ o, e.obj i = some (some o)) (hgone : ∀ i b, look rs i = some none → g.F i b → C i b)
  (ob : Obj) (Fd : Nat → Prop) (pl : Place) (cs : List Value)
  (hFd : ∀ b, Fd b → (w.heap.size ≤ b ∧ b < w'.heap.size) ∨ ∃ i, C i b)
  (hpl : ∀ b off, pl = some (b, off) → w.heap.size ≤ b ∧ b < w'.heap.size ∧ ¬ Fd b)
  (hok : Own g.S w' ob.K ob.m ob.x cs Fd ∧ PlOk w' pl cs) (hbox : ob.box = pl.isSome) (hhl : ob.hl = none) (hpar : ob.par = false)
  (hre : ∀ i o', look rs i = some (some o') → ObjOk (g.take d rs C Fd pl cs) w' B i o' ∧
   (∀ n p v, SlotRep0 P g w e.obj (.al i n p) v → SlotRep0 P (g.take d rs C Fd pl cs) w' (Env.mk e.slots ((d, some ob) :: rs ++ e.objs)).obj (.al i n p) v) ∧
   (∀ n p v, SlotRep0 P g w e.obj (.pt i n p) v → SlotRep0 P (g.take d rs C Fd pl cs) w' (Env.mk e.slots ((d, some ob) :: rs ++ e.objs)).obj (.pt i n p) v)) :
  InvG P B nt ⟨e.slots, (d, some ob) :: rs ++ e.objs⟩ a w' (g.take d rs C Fd pl cs) := by
 have hdm : look rs d = none := by
  cases hl : look rs d with
  | none => rfl
  | some r => obtain ⟨o, ho⟩ := hrs d r hl; rw [hd] at ho; cases ho
 have hobj : ∀ i, (Env.mk e.slots ((d, some ob) :: rs ++ e.objs)).obj i = if i = d then some (some ob) else match look rs i with | some r => some r | none => e.obj i := by
  intro i
  show look ((d, some ob) :: (rs ++ e.objs)) i = _
  by_cases hi : i = d
  ·subst hi; rw [look_cons_self, if_pos rfl]
  ·rw [look_cons_ne (fun e => hi e.symm), if_neg hi, look_app]
   cases look rs i <;> rfl
 have hFlt : ∀ i b, g.F i b → b < w.heap.size := h.Fsz
 have Fnew : ∀ i b, (g.take d rs C Fd pl cs).F i b → (i = d ∧ Fd b) ∨ (i ≠ d ∧ g.F i b ∧ ¬ C i b) := by
  intro i b hF
  simp only [Gh.take] at hF
  split at hF
  ·exact .inl ⟨by assumption, hF⟩
  ·exact .inr ⟨by assumption, hF.1, hF.2⟩
 have plnew : ∀ i b off, (g.take d rs C Fd pl cs).pl i = some (b, off) → (i = d ∧ pl = some (b, off)) ∨ (i ≠ d ∧ g.pl i = some (b, off)) := by
  intro i b off hF
  simp only [Gh.take] at hF
  split at hF
  ·exact .inl ⟨by assumption, hF⟩
  ·split at hF
   ·cases hF
   ·exact .inr ⟨by assumption, hF⟩
 have base_le : B.w0.heap.size ≤ w.heap.size := h.ext.size
 have CF : ∀ i b, C i b → g.F i b := fun i b hc => (hC i b hc).2
 have Sok : ∀ b, g.S b → ¬ ∃ i, C i b := fun b hb ⟨i, hc⟩ => h.FS i b (CF i b hc) hb
 refine h.change (fun i => i = d ∨ ∃ r, look rs i = some r) rfl ?_ (fun _ h => h) (fun b o v hb hv => hx.same (Sok b hb) hv)
  (fun b hb => Nat.lt_of_lt_of_le (h.Ssz b hb) hx.size) ?_ h.Sb ?_ ?_ ?_ ?_ ?_ ?_ ?_ ?_ ?_
 ·refine h.ext.step hx ?_
  rintro b o hb ⟨i, hc⟩
  rcases h.Fb i b (CF i b hc) with hf | hf
  ·exact .inl hf
  ·omega
 ·intro i b hF
  rcases Fnew i b hF with ⟨_, hF⟩ | ⟨_, hF, _⟩
  ·rcases hFd b hF with ⟨_, h2⟩ | ⟨j, h2⟩
   ·exact h2
   ·exact Nat.lt_of_lt_of_le (hFlt j b (CF j b h2)) hx.size
  ·exact Nat.lt_of_lt_of_le (hFlt i b hF) hx.size
 ·intro i b hF
  rcases Fnew i b hF with ⟨_, hF⟩ | ⟨_, hF, _⟩
  ·rcases hFd b hF with ⟨h1, _⟩ | ⟨j, h2⟩
   ·exact .inr (by omega)
   ·exact h.Fb j b (CF j b h2)
  ·exact h.Fb i b hF
 ·intro i b hF hS
  have hS' : g.S b := hS
  rcases Fnew i b hF with ⟨_, hF⟩ | ⟨_, hF, _⟩
  ·rcases hFd b hF with ⟨h1, _⟩ | ⟨j, h2⟩
   ·have := h.Ssz b hS'; omega
   ·exact h.FS j b (CF j b h2) hS'
  ·exact h.FS i b hF hS'
 ·intro i j b hne hF hF'
  rcases Fnew i b hF with ⟨h1, hF⟩ | ⟨h1, hF, hnC⟩ <;> rcases Fnew j b hF' with ⟨h3, hF'⟩ | ⟨h3, hF', hnC'⟩
  ·exact hne (h1.trans h3.symm)
  ·rcases hFd b hF with ⟨h5, _⟩ | ⟨l, h6⟩
   ·have := hFlt j b hF'; omega
   ·exact h.FF l j b (fun e => hnC' (e ▸ h6)) (CF l b h6) hF'
  ·rcases hFd b hF' with ⟨h5, _⟩ | ⟨l, h6⟩
   ·have := hFlt i b hF; omega
   ·exact h.FF l i b (fun e => hnC (e ▸ h6)) (CF l b h6) hF
  ·exact h.FF i j b hne hF hF'
 ·intro i b off hp
  rcases plnew i b off hp with ⟨h1, hp⟩ | ⟨h1, hp⟩
  ·obtain ⟨h3, h4, h5⟩ := hpl b off hp
   refine ⟨h4, fun hS => by have := h.Ssz b hS; omega, fun j hF => ?_, fun j off' hp' => ?_⟩
   ·rcases Fnew j b hF with ⟨_, hF⟩ | ⟨_, hF, _⟩
    ·exact h5 hF
    ·have := hFlt j b hF; omega
   ·rcases plnew j b off' hp' with ⟨h6, _⟩ | ⟨_, h6⟩
    ·exact h1.trans h6.symm
    ·have := (h.plz j b off' h6).1; omega
  ·obtain ⟨h3, h4, h5, h6⟩ := h.plz i b off hp
   refine ⟨Nat.lt_of_lt_of_le h3 hx.size, h4, fun j hF => ?_, fun j off' hp' => ?_⟩
   ·rcases Fnew j b hF with ⟨_, hF⟩ | ⟨_, hF, _⟩
    ·rcases hFd b hF with ⟨h7, _⟩ | ⟨l, h7⟩
     ·omega
     ·exact h5 l (CF l b h7)
    ·exact h5 j hF
   ·rcases plnew j b off' hp' with ⟨_, h7⟩ | ⟨_, h7⟩
    ·have := (hpl b off' h7).1; omega
    ·exact h6 j off' h7
 ·intro i hi
  have hi1 : i ≠ d := fun e => hi (.inl e)
  have hi2 : look rs i = none := by
   cases hl : look rs i with
   | none => rfl
   | some r => exact absurd (.inr ⟨r, hl⟩) hi
  have hnC : ∀ b, ¬ C i b := fun b hc => by obtain ⟨⟨r, hr⟩, _⟩ := hC i b hc; rw [hi2] at hr; cases hr
  refine ⟨by rw [hobj, if_neg hi1, hi2], ?_, ?_, ?_, fun b o hF => hx.cell b o (hFlt i b hF) (fun ⟨j, hc⟩ => ?_), fun b off hp o => hx.cell b o (h.plz i b off hp).1 (fun ⟨j, hc⟩ => (h.plz i b off hp).2.2.1 j (CF j b hc))⟩
  ·funext b; simp [Gh.take, hi1, hnC]
  ·simp [Gh.take, hi1, hi2]
  ·simp [Gh.take, hi1]
  ·by_cases hij : j = i
   ·subst hij; exact hnC b hc
   ·exact h.FF j i b hij (CF j b hc) hF
 ·intro i hi hno
  rcases hi with rfl | ⟨r, hr⟩
  ·exact absurd (by rw [hobj, if_pos rfl]) (hno ob)
  ·have hne : i ≠ d := fun e => by subst e; rw [hdm] at hr; cases hr
   cases r with
   | some o' => exact absurd (by rw [hobj, if_neg hne, hr]) (hno o')
   | none => exact ⟨fun b hF => by simp [Gh.take, hne] at hF; exact hF.2 (hgone i b hr hF.1), by simp [Gh.take, hne, hr]⟩
 ·intro i o' hi ho'
  rw [hobj] at ho'
  rcases hi with rfl | ⟨r, hr⟩
  ·rw [if_pos rfl] at ho'
   cases ho'
   refine ⟨fun _ => ?_, (fun p hp => by rw [hhl] at hp; cases hp), ?_, (fun hp => by rw [hpar] at hp; cases hp), (fun b off hp => ?_), fun q off hq => no_que hhl hq⟩
   ·simp only [Gh.take, if_pos]
    exact hok
   ·simp [Gh.take, hbox]
   ·simp only [Gh.take, if_pos] at hp
    have := (hpl b off hp).1
    exact .inl (by omega)
  ·have hne : i ≠ d := fun e => by subst e; rw [hdm] at hr; cases hr
   rw [if_neg hne, hr] at ho'
   simp only [Option.some.injEq] at ho'
   subst ho'
   exact (hre i o' hr).1
 ·intro i hi n p v hs
  rcases hi with rfl | ⟨r, hr⟩
  ·exact absurd hd hs.1.1
  ·have hne : i ≠ d := fun e => by subst e; rw [hdm] at hr; cases hr
   cases r with
   | some o' => exact (hre i o' hr).2.1 n p v hs
   | none =>
    have e1 : (Env.mk e.slots ((d, some ob) :: rs ++ e.objs)).obj i = some none := by rw [hobj, if_neg hne, hr]
    exact ⟨⟨by rw [e1]; simp, (fun o ho => by rw [e1] at ho; cases ho)⟩, (fun o ho => by rw [e1] at ho; cases ho)⟩
 ·intro i hi n p v hs
  rcases hi with rfl | ⟨r, hr⟩
  ·exact absurd hd hs.1.1
  ·have hne : i ≠ d := fun e => by subst e; rw [hdm] at hr; cases hr
   cases r with
   | some o' => exact (hre i o' hr).2.2 n p v hs
   | none =>
    have e1 : (Env.mk e.slots ((d, some ob) :: rs ++ e.objs)).obj i = some none := by rw [hobj, if_neg hne, hr]
    exact ⟨⟨by rw [e1]; simp, (fun o ho => by rw [e1] at ho; cases ho)⟩, (fun o ho => by rw [e1] at ho; cases ho)⟩
section
variable {c : Ctx} {nt : Nat} {o : Oper} {Ω : Type} {k : Delta → Option Ω} {out : Ω} {fr : Bool}
theorem step_take {vs : List View} {ob : Obj} {isPt : Bool} {rs : List (Nat × Option Obj)} (hk : putNew nt o.dst fr ob isPt rs k = some out) (hhl : ob.hl = none) (hpar : ob.par = false) (hlog : ob.log = [])
  (h : ∀ e : Env, e.views o = vs → ∀ d a w g, e.obj d = none → InvG c.P B nt e a w g → ∃ v w' C Fd pl cs, (execOp a.eval o).run c.P w = .ok (.value v) w' ∧
   (∀ i b, C i b → (∃ r, look rs i = some r) ∧ g.F i b) ∧ Ext w w' (fun b _ => ∃ i, C i b) ∧ (∀ i r, look rs i = some r → ∃ o, e.obj i = some (some o)) ∧ (∀ i b, look rs i = some none → g.F i b → C i b) ∧
   (∀ b, Fd b → (w.heap.size ≤ b ∧ b < w'.heap.size) ∨ ∃ i, C i b) ∧ (∀ b off, pl = some (b, off) → w.heap.size ≤ b ∧ b < w'.heap.size ∧ ¬ Fd b) ∧
   (Own g.S w' ob.K ob.m ob.x cs Fd ∧ PlOk w' pl cs) ∧ ob.box = pl.isSome ∧
   (∀ i o', look rs i = some (some o') → i ≠ d → ObjOk (g.take d rs C Fd pl cs) w' B i o' ∧
    (∀ n p v, SlotRep0 c.P g w e.obj (.al i n p) v → SlotRep0 c.P (g.take d rs C Fd pl cs) w' (Env.mk e.slots ((d, some ob) :: rs ++ e.objs)).obj (.al i n p) v) ∧
    (∀ n p v, SlotRep0 c.P g w e.obj (.pt i n p) v → SlotRep0 c.P (g.take d rs C Fd pl cs) w' (Env.mk e.slots ((d, some ob) :: rs ++ e.objs)).obj (.pt i n p) v)) ∧
   (if isPt then ∃ b off, pl = some (b, off) ∧ v = .pointer (some ⟨b, off, none⟩) else VRep ob.K cs v)) : Step1 c B nt o vs fr k out := by
 unfold putNew at hk
 split at hk
 ·cases hk
 ·rename_i d hd
  split at hk
  ·rename_i hf
   rw [Bool.and_eq_true] at hf
   have hlt : d < nt := Nat.le_of_ble_eq_true hf.1
   refine ⟨_, hk, fun e he => stepOk_value hd hlt fun a w g hg => ?_⟩
   have hfr : fresh e o.dst = true := by rw [he.2]; exact hf.2
   have hnone : e.obj d = none := by
    rw [hd] at hfr
    simp only [fresh, Bool.and_eq_true] at hfr
    simpa using hfr.1.1.1.1
   obtain ⟨v, w', C, Fd, pl, cs, r1, r2, r3, r4, r5, r6, r7, r8, r9, r10, r11⟩ := h e he.1 d a w g hnone hg
   refine ⟨v, w', _, r1, hg.take hnone rs C r2 r3 r4 r5 ob Fd pl cs r6 r7 r8 r9 hhl hpar (fun i o' hi => r10 i o' hi (fun e1 => ?_)), ?_⟩
   ·subst e1
    obtain ⟨o2, ho2⟩ := r4 i _ hi
    rw [hnone] at ho2
    cases ho2
   have e1 : (Env.mk e.slots (((d, some ob) :: rs) ++ e.objs)).obj d = some (some ob) := by
    show look ((d, some ob) :: (rs ++ e.objs)) d = _
    exact look_cons_self _ _ _
   have hok1 : ∀ p, okAl ob 0 p = true := fun p => by simp [okAl, since, hlog]
   cases isPt with
   | true =>
    obtain ⟨b, off, e2, rfl⟩ := r11
    refine ⟨⟨by rw [e1]; simp, fun _ _ => Nat.zero_le _⟩, fun o2 ho2 _ _ => ?_⟩
    rw [e1] at ho2
    cases ho2
    exact ⟨b, off, cs, ob.K, ob.m, ob.x, getP_nil _ _ _, by simp only [nav, Gh.take, if_pos, e2], rfl⟩
   | false =>
    refine ⟨⟨by rw [e1]; simp, fun _ _ => Nat.zero_le _⟩, fun o2 ho2 _ _ => ?_⟩
    rw [e1] at ho2
    cases ho2
    exact ⟨pl, cs, ob.K, ob.m, ob.x, getP_nil _ _ _, by simp only [nav, Gh.take, if_pos], r11⟩
  ·cases hk
theorem Holed.weaken {S : Nat → Prop} {w : World} {o : Obj} {p : Path} {F F' : Nat → Prop} {pl : Place} {cs : List Value} (hF : ∀ b, F b → F' b) (h : Holed S w o p F pl cs) : Holed S w o p F' pl cs := by
 obtain ⟨q, cs', K', m', x', h1, h2, h2', h3, h4, h5, h5', h6⟩ := h
 refine ⟨q, cs', K', m', x', h1, h2, fun w2 h => h2' w2 fun b o hb => h b o (hF b hb), h3, h4, fun b off e => ?_, h5', ?_⟩
 ·rcases h5 b off e with h | h
  ·exact .inl h
  ·exact .inr (hF b h)
 ·intro S2 w2 m2 mm y x2 cs2 F2 k1 k2 k3 k4 k5 k6 k7 k8 k9 k10
  obtain ⟨a1, a2⟩ := h6 S2 w2 m2 mm y x2 cs2 F2 k1 k2 k3 k4 (fun b o hb hq => k5 b o (hF b hb) hq) k6 k7 k8 (fun b h2 hb => k9 b h2 (hF b hb)) k10
  exact ⟨a1.mono (fun _ h => h) (fun _ _ _ _ h => h) (fun b hb => hb.imp (hF b) id) (fun _ _ _ => ⟨rfl, rfl⟩), a2⟩
theorem Focus.holeG {S Sn : Nat → Prop} {w w' : World} {p : Path} {ob : Obj} {cs : List Value} {F : Nat → Prop} {pl : Place} {K' : Kd} {m' : Md} {x' : K'.T} {cs' : List Value} {q : Place} {F' : Nat → Prop}
  (f : Focus S w p ob.K ob.m ob.x cs F pl K' m' x' cs' q F') (hlen : cs.length = ob.K.size) (hg : getP ob.K ob.m ob.x p = some ⟨K', m', x'⟩) (hn : nav w p ob.K pl cs = some (q, cs'))
  (hc : ∀ b o, F b → ¬ F' b → w'.pk b o = w.pk b o ∧ w'.frozen? ⟨b, o, none⟩ = w.frozen? ⟨b, o, none⟩)
  (hp : ∀ b o, InR pl ob.K.size b o → w'.pk b o = w.pk b o ∧ w'.frozen? ⟨b, o, none⟩ = w.frozen? ⟨b, o, none⟩)
  (hSn : ∀ b, S b → Sn b) (hSc : ∀ b o v, S b → w.pk b o = some v → w'.pk b o = some v) :
  Holed Sn w' { ob with hl := some p } p (fun b => F b ∧ ¬ F' b) pl cs := by
 have hcl : cs'.length = K'.size := f.own.length
 refine ⟨q, cs', K', m', x', hg, f.nv w' (fun b o hF hn => (hc b o hF hn).1), fun w2 h2 => f.nv w2 (fun b o hF hn => (h2 b o ⟨hF, hn⟩).trans (hc b o hF hn).1), ?_, hcl, ?_, hlen, ?_⟩
 ·refine f.ok.of_same fun b off hR => ?_
  obtain ⟨o0, e0, r1, r2⟩ := hR
  obtain ⟨a1, a2⟩ := f.at_ b o0 e0
  rcases a2 with ⟨o1, e1, r3, r4⟩ | hF
  ·exact hp b off ⟨o1, e1, by omega, by omega⟩
  ·exact hc b off hF a1
 ·intro b off e1
  obtain ⟨a1, a2⟩ := f.at_ b off e1
  rcases a2 with h | h
  ·exact .inl h
  ·exact .inr ⟨h, a1⟩
 ·intro S2 w2 m2 mm y x2 cs2 F2 k1 k2 k3 k4 k5 k6 k7 k8 k9 k10
  have key := f.set S2 w2 m2 mm y x2 cs2 F2 k1 k2 (fun b hb => k3 b (hSn b hb)) (fun b o v hb hv => k4 b o v (hSn b hb) (hSc b o v hb hv))
   (fun b o hF hn hq => ⟨(k5 b o ⟨hF, hn⟩ hq).1.trans (hc b o hF hn).1, (k5 b o ⟨hF, hn⟩ hq).2.trans (hc b o hF hn).2⟩)
   (fun b o hR hq => ⟨(k6 b o hR hq).1.trans (hp b o hR).1, (k6 b o hR hq).2.trans (hp b o hR).2⟩) k7 k8 (fun b h2 hF => Classical.byContradiction fun hn => k9 b h2 ⟨hF, hn⟩) k10 ?_
  ·exact ⟨key.1, key.2.1⟩
  ·intro b o e1 h2
   obtain ⟨a1, a2⟩ := f.at_ b o e1
   rcases a2 with ⟨o1, e2, _⟩ | hF
   ·exact k10 b o1 e2 h2
   ·exact k9 b h2 ⟨hF, a1⟩
theorem Focus.hole {S : Nat → Prop} {w w' : World} {p : Path} {ob : Obj} {cs : List Value} {F : Nat → Prop} {pl : Place} {K' : Kd} {m' : Md} {x' : K'.T} {cs' : List Value} {q : Place} {F' : Nat → Prop}
  (f : Focus S w p ob.K ob.m ob.x cs F pl K' m' x' cs' q F') (hlen : cs.length = ob.K.size) (hg : getP ob.K ob.m ob.x p = some ⟨K', m', x'⟩) (hn : nav w p ob.K pl cs = some (q, cs'))
  (hx : Ext w w' (fun b _ => F' b)) (hFz : ∀ b, F b → b < w.heap.size) (hSz : ∀ b, S b → b < w.heap.size) (hSF : ∀ b, F b → ¬ S b) (hpz : ∀ b o, pl = some (b, o) → b < w.heap.size ∧ ¬ F b) :
  Holed S w' { ob with hl := some p } p (fun b => F b ∧ ¬ F' b) pl cs :=
 f.holeG hlen hg hn (fun b o hb hn => hx.cell b o (hFz b hb) hn) (fun b o ⟨o0, e0, _, _⟩ => hx.cell b o (hpz b o0 e0).1 (fun hF => (hpz b o0 e0).2 (f.sub b hF)))
  (fun _ h => h) (fun b o v hb hv => hx.same (fun hF => hSF b (f.sub b hF) hb) hv)
end
end Go.Abs
namespace Go.Abs
variable {B : Base}
section
variable {c : Ctx} {nt : Nat} {o : Oper} {Ω : Type} {k : Delta → Option Ω} {out : Ω} {fr : Bool}
theorem list_two {α : Type} : ∀ {l : List α}, l.length = 2 → ∃ a b, l = [a, b]
 | [a, b], _ => ⟨a, b, rfl⟩
theorem arr_two {α : Type} {as : Array α} {a b : α} (h : as.toList = [a, b]) : as = #[a, b] := by apply Array.ext'; simpa using h
theorem exec_append {P : Program} {a : Act} {w w' : World} {x y : Operand} {t tx : Nat} {v : Value} (ho : o.op = .call { callee := .builtin .append, args := #[x, y], argTypes := #[t, tx] })
  (h : (Builtin.append_ #[t, tx] o.type #[a.eval x, a.eval y]).run P w = .ok v w') : (execOp a.eval o).run P w = .ok (.value v) w' := by
 have e4 : (#[x, y] : Array Operand).map a.eval = #[a.eval x, a.eval y] := by simp
 simp only [execOp, ho, resolve, e4, Sem.run_bind, Sem.run_pure, Result.andThen_ok, invoke, builtin, h]
theorem append_core {id n : Nat} {p : Path} {o2 : Obj} {v : View} {e : Kd} {m : Md} {xs zs : List e.T} {mv : List Nat} {old : Option Obj} {t tx : Nat} {as : Array Operand} (hc : CtxOk c)
  (ho : o.op = .call { callee := .builtin .append, args := as, argTypes := #[t, tx] }) (ht : tyIs c t (.sl e) = true) (hg0 : getP o2.K o2.m o2.x p = some ⟨.sl e, .own m, xs⟩) (hh : noHole o2 = true) (hok : okAl o2 n p = true)
  (hold : (old = none ∧ o2.box = false ∧ p = [] ∧ o2.par = false) ∨ (old = some { o2 with hl := some p } ∧ isQ p = false)) (hmv : id ∉ mv) (hlen : xs.length + zs.length ≤ lim)
  (hsrc : ∀ e0 : Env, ∀ a w g, InvG c.P B nt e0 a w g → ∀ y : Operand, e0.view (e0.opd y) = v → SrcOwn c.P g.S w e m tx (a.eval y) zs (fun b => ∃ i, i ∈ mv ∧ g.F i b) ∧ ∀ i, i ∈ mv → ∃ o, e0.obj i = some (some o))
  (hk : putNew nt o.dst fr ⟨.sl e, .own m, xs ++ zs, false, false, [], none⟩ false ((id, old) :: gone mv) k = some out) : Step1 c B nt o [(.al id n p, some o2), v] fr k out := by
 refine step_take hk rfl rfl rfl fun e0 he d a w g hd hg => ?_
 have hops : o.op.operands = as := by rw [ho]; simp [Op.operands, Call.operands]
 obtain ⟨x, y, has⟩ : ∃ x y, as = #[x, y] := by
  simp only [Env.views, Oper.opds, hops] at he
  have hl : as.toList.length = 2 := by have := congrArg List.length he; simpa using this
  obtain ⟨x, y, hx⟩ := list_two hl
  exact ⟨x, y, arr_two hx⟩
 subst has
 obtain ⟨v1, v2⟩ := views_two he (x := x) (y := y) hops
 obtain ⟨q, cs', K', m', x', F', f1, f2, f3, f⟩ := al_focus hg v1 hh hok
 rw [hg0] at f1
 simp only [Option.some.injEq, Sigma.mk.injEq] at f1
 obtain ⟨rfl, f1⟩ := f1
 have f1 := eq_of_heq f1
 simp only [Prod.mk.injEq] at f1
 obtain ⟨rfl, rfl⟩ := f1
 have hobj2 := view_al v1
 have hhl := noHole_ok hh
 have O := hg.objs id o2 hobj2
 obtain ⟨Oown, Opl⟩ := O.own hhl
 obtain ⟨hs, hmvo⟩ := hsrc e0 a w g hg y v2
 have hidd : id ≠ d := fun e1 => by rw [← e1, hobj2] at hd; cases hd
 obtain ⟨hT, _⟩ := tyIs_ok hc.ty ht
 have hF'z : ∀ b, F' b → b < w.heap.size := fun b hb => hg.Fsz id b (f.sub b hb)
 obtain ⟨v', w', cs2, r1, r2, r3, r4⟩ := append_run (ty' := o.type) hc.ty hT f.own f3 hs hlen (fun b hb => hg.FS id b (f.sub b hb))
  (fun b ⟨i, hi, hb⟩ hF => hg.FF i id b (fun e1 => hmv (e1 ▸ hi)) hb (f.sub b hF)) hg.Ssz hF'z (fun b ⟨i, _, hb⟩ => hg.Fsz i b hb)
 have hlk : ∀ i r, look ((id, old) :: gone mv) i = some r → (i = id ∧ r = old) ∨ (i ≠ id ∧ i ∈ mv ∧ r = none) := by
  intro i r hi
  by_cases e1 : id = i
  ·subst e1; rw [look_cons_self] at hi; cases hi; exact .inl ⟨rfl, rfl⟩
  ·rw [look_cons_ne e1, look_gone] at hi
   split at hi
   ·cases hi; exact .inr ⟨fun h => e1 h.symm, by assumption, rfl⟩
   ·cases hi
 refine ⟨v', w', fun i b => (i = id ∧ (F' b ∨ (old = none ∧ g.F id b))) ∨ (i ∈ mv ∧ g.F i b), fun b => F' b ∨ (∃ i, i ∈ mv ∧ g.F i b) ∨ (w.heap.size ≤ b ∧ b < w'.heap.size), none, cs2, exec_append ho r1, ?_, ?_, ?_, ?_, ?_,
  (fun b off h => by cases h), ⟨r4, (fun b off h => by cases h)⟩, rfl, ?_, r3⟩
 ·rintro i b (⟨rfl, h | ⟨h1, h⟩⟩ | ⟨h1, h2⟩)
  ·exact ⟨⟨old, look_cons_self _ _ _⟩, f.sub b h⟩
  ·exact ⟨⟨old, look_cons_self _ _ _⟩, h⟩
  ·have hne : i ≠ id := fun e1 => hmv (e1 ▸ h1)
   exact ⟨⟨none, by rw [look_cons_ne (fun h => hne h.symm), look_gone, if_pos h1]⟩, h2⟩
 ·exact r2.mono fun b _ _ hb => ⟨id, .inl ⟨rfl, .inl hb⟩⟩
 ·intro i r hi
  rcases hlk i r hi with ⟨rfl, _⟩ | ⟨_, h1, _⟩
  ·exact ⟨o2, hobj2⟩
  ·exact hmvo i h1
 ·intro i b hi hF
  rcases hlk i none hi with ⟨rfl, h1⟩ | ⟨_, h1, _⟩
  ·exact .inl ⟨rfl, .inr ⟨h1.symm, hF⟩⟩
  ·exact .inr ⟨h1, hF⟩
 ·rintro b (h | ⟨i, h1, h2⟩ | h)
  ·exact .inr ⟨id, .inl ⟨rfl, .inl h⟩⟩
  ·exact .inr ⟨i, .inr ⟨h1, h2⟩⟩
  ·exact .inl h
 ·intro i o' hi _
  obtain ⟨rfl, h1⟩ : i = id ∧ some o' = old := by
   rcases hlk i _ hi with h | ⟨_, _, h1⟩
   ·exact h
   ·cases h1
  rcases hold with ⟨h2, _⟩ | ⟨h2, hnq⟩
  ·rw [h2] at h1; cases h1
  rw [h2] at h1
  cases h1
  have eobj : (Env.mk e0.slots ((d, some (⟨.sl e, .own m, xs ++ zs, false, false, [], none⟩ : Obj)) :: ((i, old) :: gone mv) ++ e0.objs)).obj i = some (some { o2 with hl := some p }) := by
   show look ((d, _) :: ((i, old) :: (gone mv ++ e0.objs))) i = _
   rw [look_cons_ne (fun e1 => hidd e1.symm), look_cons_self, h2]
  have hlki : look ((i, old) :: gone mv) i = some (some { o2 with hl := some p }) := by rw [look_cons_self, h2]
  generalize hC : (fun (j : Nat) (b : Nat) => (j = i ∧ (F' b ∨ (old = none ∧ g.F i b))) ∨ (j ∈ mv ∧ g.F j b)) = C
  generalize hFd : (fun (b : Nat) => F' b ∨ (∃ i, i ∈ mv ∧ g.F i b) ∨ (w.heap.size ≤ b ∧ b < w'.heap.size)) = Fd
  have gF : (g.take d ((i, old) :: gone mv) C Fd none cs2).F i = fun b => g.F i b ∧ ¬ F' b := by
   funext b
   simp only [Gh.take, if_neg hidd, ← hC]
   apply propext
   refine ⟨fun ⟨a1, a2⟩ => ⟨a1, fun h => a2 (.inl ⟨trivial, .inl h⟩)⟩, fun ⟨a1, a2⟩ => ⟨a1, ?_⟩⟩
   rintro (⟨_, h | ⟨h, _⟩⟩ | ⟨h, _⟩)
   ·exact a2 h
   ·rw [h2] at h; cases h
   ·exact hmv h
  have gp : (g.take d ((i, old) :: gone mv) C Fd none cs2).pl i = g.pl i := by simp only [Gh.take, if_neg hidd, hlki]
  have gc : (g.take d ((i, old) :: gone mv) C Fd none cs2).cs i = g.cs i := by simp only [Gh.take, if_neg hidd]
  have gS : (g.take d ((i, old) :: gone mv) C Fd none cs2).S = g.S := rfl
  refine ⟨⟨(fun h => by cases h), fun p' hp' _ => ?_, (by rw [gp]; exact O.box), (fun hp => by rw [gp, gc]; exact O.par hp), (fun b off hp => O.plx b off (by rw [← gp]; exact hp)), fun q off hq => by have := (queAt_ok hq).2.2 p rfl; rw [hnq] at this; cases this⟩, ?_, ?_⟩
  ·cases hp'
   rw [gF, gp, gc, gS]
   exact f.hole Oown.length hg0 f2 r2 (fun b hb => hg.Fsz i b hb) hg.Ssz (fun b hb => hg.FS i b hb) (fun b o1 hp => ⟨(hg.plz i b o1 hp).1, (hg.plz i b o1 hp).2.2.1 i⟩)
  ·intro n' p' v0 hs0
   refine ⟨⟨by rw [eobj]; simp, fun o3 ho3 => by rw [eobj] at ho3; cases ho3; exact hs0.1.2 o2 hobj2⟩, fun o3 ho3 hk3 hp3 => ?_⟩
   rw [eobj] at ho3
   cases ho3
   rcases hp3 with h | h
   ·cases h
   ·obtain ⟨q0, c0, K0, m0, x0, a1, a2, a3⟩ := hs0.2 o2 hobj2 hk3 (.inr h)
    exact ⟨q0, c0, K0, m0, x0, a1, by rw [gp, gc]; exact nav_noidx p' h a2, a3⟩
  ·intro n' p' v0 hs0
   refine ⟨⟨by rw [eobj]; simp, fun o3 ho3 => by rw [eobj] at ho3; cases ho3; exact hs0.1.2 o2 hobj2⟩, fun o3 ho3 hk3 hp3 => ?_⟩
   rw [eobj] at ho3
   cases ho3
   obtain ⟨b0, off0, c0, K0, m0, x0, a1, a2, a3⟩ := hs0.2 o2 hobj2 hk3 (.inl hhl)
   suffices hs : ∃ c2, nav w' p' o2.K (g.pl i) (g.cs i) = some (some (b0, off0), c2) by
    obtain ⟨c2, hs⟩ := hs
    exact ⟨b0, off0, c2, K0, m0, x0, a1, by rw [gp, gc]; exact hs, a3⟩
   rcases hp3 with h | h | ⟨h, _⟩
   ·cases h
   ·exact nav_idx1 p' h a2
   ·simp only [Option.some.injEq] at h
    subst h
    have hcell : ∀ b o1, g.F i b → ¬ F' b → w'.pk b o1 = w.pk b o1 := fun b o1 hb hn => (r2.cell b o1 (hg.Fsz i b hb) hn).1
    exact ⟨_, (f.nv w' hcell).trans (f2.symm.trans a2)⟩
end
end Go.Abs
namespace Go.Abs
variable {B : Base}
section
variable {c : Ctx} {nt : Nat} {o : Oper} {Ω : Type} {k : Delta → Option Ω} {out : Ω} {fr : Bool}
theorem ok_append_v {id n : Nat} {p : Path} {o2 : Obj} {q2 : Option Obj} {e : Kd} {m : Md} {xs zs : List e.T} {old : Option Obj} {t tx : Nat} {as : Array Operand} (hc : CtxOk c)
  (ho : o.op = .call { callee := .builtin .append, args := as, argTypes := #[t, tx] }) (ht : tyIs c t (.sl e) = true) (htx : tyIs c tx (.sl e) = true) (hg0 : getP o2.K o2.m o2.x p = some ⟨.sl e, .own m, xs⟩) (hh : noHole o2 = true) (hok : okAl o2 n p = true)
  (hold : (old = none ∧ o2.box = false ∧ p = [] ∧ o2.par = false) ∨ (old = some { o2 with hl := some p } ∧ isQ p = false)) (hm : m.beq .ro = true) (hlen : xs.length + zs.length ≤ lim)
  (hk : putNew nt o.dst fr ⟨.sl e, .own m, xs ++ zs, false, false, [], none⟩ false [(id, old)] k = some out) : Step1 c B nt o [(.al id n p, some o2), (.v (.sl e) zs, q2)] fr k out := by
 have := Md.eq_of_beq hm
 subst this
 obtain ⟨hT, _⟩ := tyIs_ok hc.ty htx
 obtain ⟨et, hu, _⟩ := hT.sl e rfl
 refine append_core (mv := []) hc ho ht hg0 hh hok hold (fun h => by cases h) hlen (fun e0 a w g hg y hy => ⟨?_, fun i h => by cases h⟩) hk
 obtain ⟨cs, r1, r2⟩ := view_rep hg hy
 exact SrcOwn.ro hu r1 r2 _
theorem ok_append_nils {id n : Nat} {p : Path} {o2 : Obj} {q2 : Option Obj} {e : Kd} {m : Md} {xs : List e.T} {old : Option Obj} {t tx : Nat} {as : Array Operand} (hc : CtxOk c)
  (ho : o.op = .call { callee := .builtin .append, args := as, argTypes := #[t, tx] }) (ht : tyIs c t (.sl e) = true) (htx : tyIs c tx (.sl e) = true) (hg0 : getP o2.K o2.m o2.x p = some ⟨.sl e, .own m, xs⟩) (hh : noHole o2 = true) (hok : okAl o2 n p = true)
  (hold : (old = none ∧ o2.box = false ∧ p = [] ∧ o2.par = false) ∨ (old = some { o2 with hl := some p } ∧ isQ p = false)) (hlen : xs.length ≤ lim)
  (hk : putNew nt o.dst fr ⟨.sl e, .own m, xs, false, false, [], none⟩ false [(id, old)] k = some out) : Step1 c B nt o [(.al id n p, some o2), (.nils, q2)] fr k out := by
 obtain ⟨hT, _⟩ := tyIs_ok hc.ty htx
 obtain ⟨et, hu, _⟩ := hT.sl e rfl
 refine append_core (mv := []) (zs := []) hc ho ht hg0 hh hok hold (fun h => by cases h) (by simpa using hlen) (fun e0 a w g hg y hy => ⟨?_, fun i h => by cases h⟩) (by rw [List.append_nil]; exact hk)
 have hr : a.eval y = .slice none 0 0 := view_rep hg hy
 rw [hr]
 exact SrcOwn.nil hu _
theorem ok_append_al {id n id3 n3 : Nat} {p : Path} {o2 o3 : Obj} {e : Kd} {m : Md} {xs zs : List e.T} {old : Option Obj} {t tx : Nat} {as : Array Operand} (hc : CtxOk c)
  (ho : o.op = .call { callee := .builtin .append, args := as, argTypes := #[t, tx] }) (ht : tyIs c t (.sl e) = true) (htx : tyIs c tx (.sl e) = true) (hg0 : getP o2.K o2.m o2.x p = some ⟨.sl e, .own m, xs⟩) (hh : noHole o2 = true) (hok : okAl o2 n p = true)
  (hold : (old = none ∧ o2.box = false ∧ p = [] ∧ o2.par = false) ∨ (old = some { o2 with hl := some p } ∧ isQ p = false)) (hlen : xs.length + zs.length ≤ lim)
  (h3 : (o3.m.beq (.own m) && noHole o3 && okAl o3 n3 [] && !o3.par && !(Nat.beq id id3)) = true) (hz : getP o3.K o3.m o3.x [] = some ⟨.sl e, .own m, zs⟩)
  (hk : putNew nt o.dst fr ⟨.sl e, .own m, xs ++ zs, false, false, [], none⟩ false [(id, old), (id3, none)] k = some out) : Step1 c B nt o [(.al id n p, some o2), (.al id3 n3 [], some o3)] fr k out := by
 simp only [Bool.and_eq_true] at h3
 obtain ⟨hT, _⟩ := tyIs_ok hc.ty htx
 obtain ⟨et, hu, _⟩ := hT.sl e rfl
 have hne : id ≠ id3 := fun e1 => by subst e1; simp at h3
 refine append_core (mv := [id3]) hc ho ht hg0 hh hok hold (by simpa using hne) hlen (fun e0 a w g hg y hy => ?_) hk
 obtain ⟨r1, r2, r3⟩ := al_root hg hy h3.1.1.1.2 h3.1.1.2
 refine ⟨?_, fun i hi => by simp at hi; subst hi; exact ⟨o3, r1⟩⟩
 rw [getP_nil] at hz
 have e1 : o3.K = .sl e := by simp only [Option.some.injEq, Sigma.mk.injEq] at hz; exact hz.1
 cases o3 with
 | mk K3 m3 x3 b3 p3 l3 h3 =>
  simp only at e1 hz r2 r3
  subst e1
  simp only [Option.some.injEq, Sigma.mk.injEq, heq_eq_eq, Prod.mk.injEq, true_and] at hz
  obtain ⟨rfl, rfl⟩ := hz
  exact SrcOwn.own hu (r3.mono (fun _ h => h) (fun _ _ _ _ h => h) (fun b hb => ⟨id3, by simp, hb⟩) (fun _ _ _ => ⟨rfl, rfl⟩)) r2
end
theorem run_storeAt {P : Program} {ty : List (Nat × Kd)} {t : Nat} {K : Kd} (h : TyOk P ty t K) {w : World} {b o : Nat} {v : Value} (hl : v.cells.size = K.size)
  (hc : ∀ j, j < K.size → (w.cell? ⟨b, o + j, none⟩).isSome = true ∧ w.frozen? ⟨b, o + j, none⟩ = false) (h1 : ∀ u ∈ v.cells.toList, u.oneCell' = true) :
  (Instr.storeAt t (.pointer (some ⟨b, o, none⟩)) v).run P w = .ok () (w.setCells b o v.cells.toList) := by
 have := run_storeCells_cells (P := P) b o v.cells.toList 0 w (fun j hj => by rw [Nat.add_zero]; exact (hc j (by simp at hj; omega)).1) (fun j hj => by rw [Nat.add_zero]; exact (hc j (by simp at hj; omega)).2) h1
 rw [Nat.add_zero] at this
 have hnb : ¬ (v.cells.size ≠ K.size) := fun h => h hl
 simp only [Instr.storeAt, Instr.sureAddr, storeVar, Sem.run_bind, Sem.run_pure, Result.andThen_ok, h.size, if_neg hnb, this]
theorem mkPr_fst : ∀ a b : Md, (mkPr a b).fst = a
 | .ro, .ro => rfl
 | .ro, .own _ => rfl
 | .ro, .pr _ _ => rfl
 | .own _, _ => rfl
 | .pr _ _, _ => rfl
theorem mkPr_snd : ∀ a b : Md, (mkPr a b).snd = b
 | .ro, .ro => rfl
 | .ro, .own _ => rfl
 | .ro, .pr _ _ => rfl
 | .own _, _ => rfl
 | .pr _ _, _ => rfl
theorem getP_fields : ∀ (p : Path) {K : Kd} {m m2 : Md} {x y : K.T} {K2 : Kd} {m3 : Md} {z : K2.T}, hasIdx p = false → getP K m x p = some ⟨K2, m3, z⟩ → ∃ m4 z4, getP K m2 y p = some ⟨K2, m4, z4⟩
 | [], K, m, m2, x, y, K2, m3, z, _, h => by
  rw [getP_nil] at h
  cases h
  exact ⟨m2, y, getP_nil _ _ _⟩
 | .inn :: p, .st k, m, m2, x, y, K2, m3, z, hi, h => by
  obtain ⟨m4, z4, h4⟩ := getP_fields p (K := k) (m2 := m2) (y := y) (by simpa [hasIdx] using hi) (by simpa only [getP] using h)
  exact ⟨m4, z4, by simpa only [getP] using h4⟩
 | .fst :: p, .pair a b, m, m2, x, y, K2, m3, z, hi, h => by
  obtain ⟨m4, z4, h4⟩ := getP_fields p (K := a) (m2 := m2.fst) (y := y.1) (by simpa [hasIdx] using hi) (by simpa only [getP] using h)
  exact ⟨m4, z4, by simpa only [getP] using h4⟩
 | .snd :: p, .pair a b, m, m2, x, y, K2, m3, z, hi, h => by
  obtain ⟨m4, z4, h4⟩ := getP_fields p (K := b) (m2 := m2.snd) (y := y.2) (by simpa [hasIdx] using hi) (by simpa only [getP] using h)
  exact ⟨m4, z4, by simpa only [getP] using h4⟩
 | .idx i :: p, K, _, _, _, _, _, _, _, hi, _ => by simp [hasIdx] at hi
 | .inn :: p, .int _, _, _, _, _, _, _, _, _, h | .inn :: p, .bool, _, _, _, _, _, _, _, _, h | .inn :: p, .str, _, _, _, _, _, _, _, _, h | .inn :: p, .err, _, _, _, _, _, _, _, _, h | .inn :: p, .mp _ _, _, _, _, _, _, _, _, _, h | .inn :: p, .fcell _ _ _, _, _, _, _, _, _, _, _, h | .inn :: p, .raw _, _, _, _, _, _, _, _, _, h | .inn :: p, .sl _, _, _, _, _, _, _, _, _, h | .inn :: p, .pair _ _, _, _, _, _, _, _, _, _, h => by simp [getP] at h
 | .fst :: p, .int _, _, _, _, _, _, _, _, _, h | .fst :: p, .bool, _, _, _, _, _, _, _, _, h | .fst :: p, .str, _, _, _, _, _, _, _, _, h | .fst :: p, .err, _, _, _, _, _, _, _, _, h | .fst :: p, .mp _ _, _, _, _, _, _, _, _, _, h | .fst :: p, .fcell _ _ _, _, _, _, _, _, _, _, _, h | .fst :: p, .raw _, _, _, _, _, _, _, _, _, h | .fst :: p, .sl _, _, _, _, _, _, _, _, _, h | .fst :: p, .st _, _, _, _, _, _, _, _, _, h => by simp [getP] at h
 | .snd :: p, .int _, _, _, _, _, _, _, _, _, h | .snd :: p, .bool, _, _, _, _, _, _, _, _, h | .snd :: p, .str, _, _, _, _, _, _, _, _, h | .snd :: p, .err, _, _, _, _, _, _, _, _, h | .snd :: p, .mp _ _, _, _, _, _, _, _, _, _, h | .snd :: p, .fcell _ _ _, _, _, _, _, _, _, _, _, h | .snd :: p, .raw _, _, _, _, _, _, _, _, _, h | .snd :: p, .sl _, _, _, _, _, _, _, _, _, h | .snd :: p, .st _, _, _, _, _, _, _, _, _, h => by simp [getP] at h
theorem getP_gen : ∀ (p p2 : Path) {K : Kd} {m mm md : Md} {x x2 : K.T} {K' : Kd} {y : K'.T} {K2 : Kd} {m2 : Md} {z : K2.T}, setP K x p K' y = some x2 → setM m p md = some mm →
  getP K m x p2 = some ⟨K2, m2, z⟩ → (preP p p2 = true → ∀ (m' : Md) (x' : K'.T), getP K' m' x' (p2.drop p.length) = some ⟨K2, m2, z⟩ → ∃ m3 x3, getP K' md y (p2.drop p.length) = some ⟨K2, m3, x3⟩) → ∃ m3 x3, getP K mm x2 p2 = some ⟨K2, m3, x3⟩
 | [], p2, K, m, mm, md, x, x2, K', y, K2, m2, z, hs, hm, hg, hi => by
  simp only [setP] at hs
  split at hs
  ·rename_i hb
   have := Kd.eq_of_beq hb
   subst this
   cases hs
   simp only [setM, Option.some.injEq] at hm
   subst hm
   have := hi (by simp [preP]) m x (by simpa using hg)
   simpa using this
  ·cases hs
 | s :: p, [], K, m, mm, md, x, x2, K', y, K2, m2, z, _, _, hg, _ => by
  rw [getP_nil] at hg
  cases hg
  exact ⟨mm, x2, getP_nil _ _ _⟩
 | .inn :: p, .inn :: p2, .st k, m, mm, md, x, x2, K', y, K2, m2, z, hs, hm, hg, hi => by
  simp only [setP] at hs
  simp only [setM] at hm
  simp only [getP] at hg ⊢
  exact getP_gen p p2 (K := k) hs hm hg (fun h => by simpa using hi (by simpa [preP] using h))
 | .fst :: p, .fst :: p2, .pair a b, m, mm, md, x, x2, K', y, K2, m2, z, hs, hm, hg, hi => by
  simp only [setP] at hs
  simp only [getP] at hg ⊢
  split at hs
  ·rename_i z1 hs1
   cases hs
   simp only [setM] at hm
   split at hm
   ·cases hm
   ·split at hm
    ·rename_i m1 hm1
     cases hm
     rw [mkPr_fst]
     exact getP_gen p p2 (K := a) hs1 hm1 hg (fun h => by simpa using hi (by simpa [preP] using h))
    ·cases hm
  ·cases hs
 | .snd :: p, .snd :: p2, .pair a b, m, mm, md, x, x2, K', y, K2, m2, z, hs, hm, hg, hi => by
  simp only [setP] at hs
  simp only [getP] at hg ⊢
  split at hs
  ·rename_i z1 hs1
   cases hs
   simp only [setM] at hm
   split at hm
   ·cases hm
   ·split at hm
    ·rename_i m1 hm1
     cases hm
     rw [mkPr_snd]
     exact getP_gen p p2 (K := b) hs1 hm1 hg (fun h => by simpa using hi (by simpa [preP] using h))
    ·cases hm
  ·cases hs
 | .fst :: p, .snd :: p2, .pair a b, m, mm, md, x, x2, K', y, K2, m2, z, hs, hm, hg, hi => by
  simp only [setP] at hs
  simp only [getP] at hg ⊢
  split at hs
  ·cases hs
   simp only [setM] at hm
   split at hm
   ·cases hm
   ·split at hm
    ·cases hm
     rw [mkPr_snd]
     exact ⟨m2, z, hg⟩
    ·cases hm
  ·cases hs
 | .snd :: p, .fst :: p2, .pair a b, m, mm, md, x, x2, K', y, K2, m2, z, hs, hm, hg, hi => by
  simp only [setP] at hs
  simp only [getP] at hg ⊢
  split at hs
  ·cases hs
   simp only [setM] at hm
   split at hm
   ·cases hm
   ·split at hm
    ·cases hm
     rw [mkPr_fst]
     exact ⟨m2, z, hg⟩
    ·cases hm
  ·cases hs
 | .idx i :: p, .idx j :: p2, .sl e, .own m, mm, md, xs, x2, K', y, K2, m2, z, hs, hm, hg, hi => by
  simp only [setP] at hs
  simp only [getP] at hg
  split at hs
  ·rename_i z1 hs1
   cases hs
   simp only [setM] at hm
   split at hm
   ·rename_i m1 hm1
    split at hm
    ·rename_i hb
     cases hm
     have := Md.eq_of_beq hb
     subst this
     simp only [getP]
     by_cases hij : i.toNat = j.toNat ∧ i.toNat < List.length xs
     ·have e1 : List.getD (List.set xs i.toNat z1) j.toNat e.zero = z1 := by
       rw [← hij.1]; simp [List.getD, hij.2]
      rw [e1]
      rw [← hij.1] at hg
      exact getP_gen p p2 (K := e) hs1 hm1 hg (fun h => by simpa using hi (by simpa [preP] using h))
     ·have e1 : List.getD (List.set xs i.toNat z1) j.toNat e.zero = List.getD xs j.toNat e.zero := by
       by_cases h1 : i.toNat = j.toNat
       ·have : ¬ i.toNat < List.length xs := fun h => hij ⟨h1, h⟩
        rw [List.set_eq_of_length_le (by omega)]
       ·simp [List.getD, List.getElem?_set_ne h1]
      rw [e1]
      exact ⟨m2, z, hg⟩
    ·cases hm
   ·cases hm
  ·cases hs
 | .idx i :: p, .idx j :: p2, .sl e, .ro, mm, md, xs, x2, K', y, K2, m2, z, hs, hm, hg, hi => by simp [getP] at hg
 | .idx i :: p, .idx j :: p2, .sl e, .pr _ _, mm, md, xs, x2, K', y, K2, m2, z, hs, hm, hg, hi => by simp [getP] at hg
 | .inn :: _, .fst :: _, K, _, _, _, _, _, _, _, _, _, _, hs, _, hg, _ | .inn :: _, .snd :: _, K, _, _, _, _, _, _, _, _, _, _, hs, _, hg, _ | .inn :: _, .idx _ :: _, K, _, _, _, _, _, _, _, _, _, _, hs, _, hg, _
 | .fst :: _, .inn :: _, K, _, _, _, _, _, _, _, _, _, _, hs, _, hg, _ | .fst :: _, .idx _ :: _, K, _, _, _, _, _, _, _, _, _, _, hs, _, hg, _
 | .snd :: _, .inn :: _, K, _, _, _, _, _, _, _, _, _, _, hs, _, hg, _ | .snd :: _, .idx _ :: _, K, _, _, _, _, _, _, _, _, _, _, hs, _, hg, _
 | .idx _ :: _, .inn :: _, K, _, _, _, _, _, _, _, _, _, _, hs, _, hg, _ | .idx _ :: _, .fst :: _, K, _, _, _, _, _, _, _, _, _, _, hs, _, hg, _ | .idx _ :: _, .snd :: _, K, _, _, _, _, _, _, _, _, _, _, hs, _, hg, _ => by
  cases K <;> simp [setP, getP] at hs hg
 | .inn :: _, .inn :: _, .int _, _, _, _, _, _, _, _, _, _, _, hs, _, _, _ | .inn :: _, .inn :: _, .bool, _, _, _, _, _, _, _, _, _, _, hs, _, _, _ | .inn :: _, .inn :: _, .str, _, _, _, _, _, _, _, _, _, _, hs, _, _, _ | .inn :: _, .inn :: _, .err, _, _, _, _, _, _, _, _, _, _, hs, _, _, _ | .inn :: _, .inn :: _, .raw _, _, _, _, _, _, _, _, _, _, _, hs, _, _, _
 | .inn :: _, .inn :: _, .sl _, _, _, _, _, _, _, _, _, _, _, hs, _, _, _ | .inn :: _, .inn :: _, .pair _ _, _, _, _, _, _, _, _, _, _, _, hs, _, _, _ => by simp [setP] at hs
 | .fst :: _, .fst :: _, .int _, _, _, _, _, _, _, _, _, _, _, hs, _, _, _ | .fst :: _, .fst :: _, .bool, _, _, _, _, _, _, _, _, _, _, hs, _, _, _ | .fst :: _, .fst :: _, .str, _, _, _, _, _, _, _, _, _, _, hs, _, _, _ | .fst :: _, .fst :: _, .err, _, _, _, _, _, _, _, _, _, _, hs, _, _, _ | .fst :: _, .fst :: _, .raw _, _, _, _, _, _, _, _, _, _, _, hs, _, _, _
 | .fst :: _, .fst :: _, .sl _, _, _, _, _, _, _, _, _, _, _, hs, _, _, _ | .fst :: _, .fst :: _, .st _, _, _, _, _, _, _, _, _, _, _, hs, _, _, _ => by simp [setP] at hs
 | .snd :: _, .snd :: _, .int _, _, _, _, _, _, _, _, _, _, _, hs, _, _, _ | .snd :: _, .snd :: _, .bool, _, _, _, _, _, _, _, _, _, _, hs, _, _, _ | .snd :: _, .snd :: _, .str, _, _, _, _, _, _, _, _, _, _, hs, _, _, _ | .snd :: _, .snd :: _, .err, _, _, _, _, _, _, _, _, _, _, hs, _, _, _ | .snd :: _, .snd :: _, .raw _, _, _, _, _, _, _, _, _, _, _, hs, _, _, _
 | .snd :: _, .snd :: _, .sl _, _, _, _, _, _, _, _, _, _, _, hs, _, _, _ | .snd :: _, .snd :: _, .st _, _, _, _, _, _, _, _, _, _, _, hs, _, _, _ => by simp [setP] at hs
 | .fst :: _, .snd :: _, .int _, _, _, _, _, _, _, _, _, _, _, hs, _, _, _ | .fst :: _, .snd :: _, .bool, _, _, _, _, _, _, _, _, _, _, hs, _, _, _ | .fst :: _, .snd :: _, .str, _, _, _, _, _, _, _, _, _, _, hs, _, _, _ | .fst :: _, .snd :: _, .err, _, _, _, _, _, _, _, _, _, _, hs, _, _, _ | .fst :: _, .snd :: _, .raw _, _, _, _, _, _, _, _, _, _, _, hs, _, _, _
 | .fst :: _, .snd :: _, .sl _, _, _, _, _, _, _, _, _, _, _, hs, _, _, _ | .fst :: _, .snd :: _, .st _, _, _, _, _, _, _, _, _, _, _, hs, _, _, _ => by simp [setP] at hs
 | .snd :: _, .fst :: _, .int _, _, _, _, _, _, _, _, _, _, _, hs, _, _, _ | .snd :: _, .fst :: _, .bool, _, _, _, _, _, _, _, _, _, _, hs, _, _, _ | .snd :: _, .fst :: _, .str, _, _, _, _, _, _, _, _, _, _, hs, _, _, _ | .snd :: _, .fst :: _, .err, _, _, _, _, _, _, _, _, _, _, hs, _, _, _ | .snd :: _, .fst :: _, .raw _, _, _, _, _, _, _, _, _, _, _, hs, _, _, _
 | .snd :: _, .fst :: _, .sl _, _, _, _, _, _, _, _, _, _, _, hs, _, _, _ | .snd :: _, .fst :: _, .st _, _, _, _, _, _, _, _, _, _, _, hs, _, _, _ => by simp [setP] at hs
 | .idx _ :: _, .idx _ :: _, .int _, _, _, _, _, _, _, _, _, _, _, hs, _, _, _ | .idx _ :: _, .idx _ :: _, .bool, _, _, _, _, _, _, _, _, _, _, hs, _, _, _ | .idx _ :: _, .idx _ :: _, .str, _, _, _, _, _, _, _, _, _, _, hs, _, _, _ | .idx _ :: _, .idx _ :: _, .err, _, _, _, _, _, _, _, _, _, _, hs, _, _, _ | .idx _ :: _, .idx _ :: _, .raw _, _, _, _, _, _, _, _, _, _, _, hs, _, _, _
 | .idx _ :: _, .idx _ :: _, .pair _ _, _, _, _, _, _, _, _, _, _, _, hs, _, _, _ | .idx _ :: _, .idx _ :: _, .st _, _, _, _, _, _, _, _, _, _, _, hs, _, _, _ => by simp [setP] at hs
theorem getP_after (p p2 : Path) {K : Kd} {m mm md : Md} {x x2 : K.T} {K' : Kd} {y : K'.T} {K2 : Kd} {m2 : Md} {z : K2.T} (hs : setP K x p K' y = some x2) (hm : setM m p md = some mm)
  (hg : getP K m x p2 = some ⟨K2, m2, z⟩) (hi : preP p p2 = true → hasIdx (p2.drop p.length) = false) : ∃ m3 x3, getP K mm x2 p2 = some ⟨K2, m3, x3⟩ :=
 getP_gen p p2 hs hm hg fun hp _ _ h => getP_fields _ (hi hp) h
theorem preP_app : ∀ (p p2 : Path) (i j : Int) (r : Path), preP p p2 = true → p2.drop p.length = .idx j :: r → preP (p ++ [.idx i]) p2 = true
 | [], p2, i, j, r, _, h => by
  rw [show p2 = .idx j :: r from by simpa using h]
  rfl
 | .inn :: p, .inn :: p2, i, j, r, h1, h2 => preP_app p p2 i j r h1 (by simpa using h2)
 | .fst :: p, .fst :: p2, i, j, r, h1, h2 => preP_app p p2 i j r h1 (by simpa using h2)
 | .snd :: p, .snd :: p2, i, j, r, h1, h2 => preP_app p p2 i j r h1 (by simpa using h2)
 | .idx _ :: p, .idx _ :: p2, i, j, r, h1, h2 => preP_app p p2 i j r h1 (by simpa using h2)
 | .inn :: _, [], _, _, _, h, _ | .inn :: _, .fst :: _, _, _, _, h, _ | .inn :: _, .snd :: _, _, _, _, h, _ | .inn :: _, .idx _ :: _, _, _, _, h, _ => by simp [preP] at h
 | .fst :: _, [], _, _, _, h, _ | .fst :: _, .inn :: _, _, _, _, h, _ | .fst :: _, .snd :: _, _, _, _, h, _ | .fst :: _, .idx _ :: _, _, _, _, h, _ => by simp [preP] at h
 | .snd :: _, [], _, _, _, h, _ | .snd :: _, .inn :: _, _, _, _, h, _ | .snd :: _, .fst :: _, _, _, _, h, _ | .snd :: _, .idx _ :: _, _, _, _, h, _ => by simp [preP] at h
 | .idx _ :: _, [], _, _, _, h, _ | .idx _ :: _, .inn :: _, _, _, _, h, _ | .idx _ :: _, .fst :: _, _, _, _, h, _ | .idx _ :: _, .snd :: _, _, _, _, h, _ => by simp [preP] at h
theorem getP_after_ms (p p2 : Path) {K : Kd} {m mm md : Md} {x x2 : K.T} {e : Kd} {y : (Kd.sl e).T} {K2 : Kd} {m2 : Md} {z : K2.T} (hs : setP K x p (.sl e) y = some x2) (hm : setM m p (.own md) = some mm)
  (hg : getP K m x p2 = some ⟨K2, m2, z⟩) (hi : preP (p ++ [.idx 0]) p2 = true → hasIdx (p2.drop (p.length + 1)) = false) : ∃ m3 x3, getP K mm x2 p2 = some ⟨K2, m3, x3⟩ := by
 refine getP_gen p p2 hs hm hg fun hp m' x' h => ?_
 cases hd : p2.drop p.length with
 | nil =>
  rw [hd, getP_nil] at h
  cases h
  exact ⟨.own md, y, getP_nil _ _ _⟩
 | cons s r =>
  rw [hd] at h
  cases s with
  | inn => simp [getP] at h
  | fst => simp [getP] at h
  | snd => simp [getP] at h
  | idx i =>
   cases m' with
   | ro => simp [getP] at h
   | pr _ _ => simp [getP] at h
   | own m0 =>
    simp only [getP] at h ⊢
    have := hi (preP_app p p2 0 i r hp hd)
    rw [← List.drop_drop, hd] at this
    exact getP_fields r (by simpa using this) h
end Go.Abs
namespace Go.Abs
variable {B : Base}
def Gh.stored (g : Gh) (id : Nat) (mv : List Nat) (F1 : Nat → Prop) (cs1 : List Value) : Gh where
 S := g.S
 F := fun i b => if i = id then F1 b else if i ∈ mv then False else g.F i b
 pl := fun i => if i ∈ mv then none else g.pl i
 cs := fun i => if i = id then cs1 else g.cs i
theorem InvG.stored {P : Program} {nt : Nat} {e : Env} {a : Act} {w : World} {g : Gh} (h : InvG P B nt e a w g) {id : Nat} {o2 : Obj} (ho : e.obj id = some (some o2)) (mv : List Nat) (hid : id ∉ mv)
  (hmv : ∀ i, i ∈ mv → ∃ o, e.obj i = some (some o)) {b off : Nat} {vs : List Value} (hb : b < w.heap.size)
  (hX : (∃ o0, g.pl id = some (b, o0) ∧ o0 ≤ off ∧ off + vs.length ≤ o0 + o2.K.size) ∨ g.F id b) (F1 : Nat → Prop) (hF1 : ∀ b, F1 b → g.F id b ∨ ∃ i, i ∈ mv ∧ g.F i b) (cs1 : List Value) (o3 : Obj)
  (hre : ObjOk (g.stored id mv F1 cs1) (w.setCells b off vs) B id o3)
  (hal : ∀ n p v, SlotRep0 P g w e.obj (.al id n p) v → SlotRep0 P (g.stored id mv F1 cs1) (w.setCells b off vs) (Env.mk e.slots ((id, some o3) :: gone mv ++ e.objs)).obj (.al id n p) v)
  (hpt : ∀ n p v, SlotRep0 P g w e.obj (.pt id n p) v → SlotRep0 P (g.stored id mv F1 cs1) (w.setCells b off vs) (Env.mk e.slots ((id, some o3) :: gone mv ++ e.objs)).obj (.pt id n p) v) :
  InvG P B nt ⟨e.slots, (id, some o3) :: gone mv ++ e.objs⟩ a (w.setCells b off vs) (g.stored id mv F1 cs1) := by
 have hobj : ∀ i, (Env.mk e.slots ((id, some o3) :: gone mv ++ e.objs)).obj i = if i = id then some (some o3) else if i ∈ mv then some none else e.obj i := by
  intro i
  show look ((id, some o3) :: (gone mv ++ e.objs)) i = _
  by_cases hi : i = id
  ·subst hi; rw [look_cons_self, if_pos rfl]
  ·rw [look_cons_ne (fun e => hi e.symm), if_neg hi, look_app, look_gone]
   by_cases hm : i ∈ mv
   ·rw [if_pos hm, if_pos hm]
   ·rw [if_neg hm, if_neg hm]; rfl
 have hx := Ext.setCells w b off vs
 have hsz : (w.setCells b off vs).heap.size = w.heap.size := (setCells_heap b vs off w).2.2.2.2.1
 have nS : ¬ g.S b := by
  rcases hX with ⟨o0, e1, _⟩ | hF
  ·exact (h.plz id b o0 e1).2.1
  ·exact h.FS id b hF
 have nF : ∀ j, j ≠ id → ¬ g.F j b := by
  intro j hj
  rcases hX with ⟨o0, e1, _⟩ | hF
  ·exact (h.plz id b o0 e1).2.2.1 j
  ·exact fun hF' => h.FF j id b hj hF' hF
 have npl : ∀ j off', j ≠ id → g.pl j ≠ some (b, off') := by
  intro j off' hj e2
  rcases hX with ⟨o0, e1, _⟩ | hF
  ·exact hj ((h.plz id b o0 e1).2.2.2 j off' e2).symm
  ·exact (h.plz j b off' e2).2.2.1 id hF
 have Fnew : ∀ i b, (g.stored id mv F1 cs1).F i b → (i = id ∧ F1 b) ∨ (i ≠ id ∧ i ∉ mv ∧ g.F i b) := by
  intro i b hF
  simp only [Gh.stored] at hF
  split at hF
  ·exact .inl ⟨by assumption, hF⟩
  ·split at hF
   ·exact hF.elim
   ·exact .inr ⟨by assumption, by assumption, hF⟩
 have plnew : ∀ i b off, (g.stored id mv F1 cs1).pl i = some (b, off) → i ∉ mv ∧ g.pl i = some (b, off) := by
  intro i b off hF
  simp only [Gh.stored] at hF
  split at hF
  ·cases hF
  ·exact ⟨by assumption, hF⟩
 have old : ∀ i b, (g.stored id mv F1 cs1).F i b → ∃ j, g.F j b ∧ (j = i ∨ (i = id ∧ j ∈ mv)) := by
  intro i b hF
  rcases Fnew i b hF with ⟨h0, hF'⟩ | ⟨_, _, hF'⟩
  ·rcases hF1 b hF' with h1 | ⟨j, h1, h2⟩
   ·exact ⟨id, h1, .inl h0.symm⟩
   ·exact ⟨j, h2, .inr ⟨h0, h1⟩⟩
  ·exact ⟨i, hF', .inl rfl⟩
 refine h.change (fun i => i = id ∨ i ∈ mv) rfl (h.ext.step hx ?_) (fun _ h => h) (fun b' o' v hb' hv => hx.same (fun hh => nS (hh.1 ▸ hb')) hv)
  (fun b hb => by rw [hsz]; exact h.Ssz b hb) ?_ h.Sb ?_ ?_ ?_ ?_ ?_ ?_ ?_ ?_ ?_
 ·rintro b' o' hb' ⟨rfl, h1, h2⟩
  rcases hX with ⟨o0, e1, h3, h4⟩ | hF
  ·rcases (h.objs id o2 ho).plx b' o0 e1 with (h5 | h5) | h5
   ·exact .inl h5
   ·omega
   ·exact .inr (h5.2 o' (by omega) (by omega))
  ·rcases h.Fb id b' hF with h5 | h5
   ·exact .inl h5
   ·omega
 ·intro i b hF
  obtain ⟨j, h1, _⟩ := old i b hF
  rw [hsz]
  exact h.Fsz j b h1
 ·intro i b hF
  obtain ⟨j, h1, _⟩ := old i b hF
  exact h.Fb j b h1
 ·intro i b hF hS
  obtain ⟨j, h1, _⟩ := old i b hF
  exact h.FS j b h1 hS
 ·intro i j b hne hF hF'
  rcases Fnew i b hF with ⟨h1, hF⟩ | ⟨h1, h2, hF⟩ <;> rcases Fnew j b hF' with ⟨h3, hF'⟩ | ⟨h3, h4, hF'⟩
  ·exact hne (h1.trans h3.symm)
  ·rcases hF1 b hF with h5 | ⟨l, h5, h6⟩
   ·exact h.FF id j b (fun e => h3 e.symm) h5 hF'
   ·exact h.FF l j b (fun e => h4 (e ▸ h5)) h6 hF'
  ·rcases hF1 b hF' with h5 | ⟨l, h5, h6⟩
   ·exact h.FF id i b (fun e => h1 e.symm) h5 hF
   ·exact h.FF l i b (fun e => h2 (e ▸ h5)) h6 hF
  ·exact h.FF i j b hne hF hF'
 ·intro i b off hp
  obtain ⟨h1, hp⟩ := plnew i b off hp
  obtain ⟨h3, h4, h5, h6⟩ := h.plz i b off hp
  refine ⟨by rw [hsz]; exact h3, h4, fun j hF => ?_, fun j off' hp' => h6 j off' (plnew j b off' hp').2⟩
  obtain ⟨l, h7, _⟩ := old j b hF
  exact h5 l h7
 ·intro i hi
  have hi1 : i ≠ id := fun e => hi (.inl e)
  have hi2 : i ∉ mv := fun e => hi (.inr e)
  refine ⟨by rw [hobj, if_neg hi1, if_neg hi2], ?_, ?_, ?_, fun b' o' hF => hx.cell b' o' (h.Fsz i b' hF) (fun hh => nF i hi1 (hh.1 ▸ hF)),
   fun b' off' hp o' => hx.cell b' o' (h.plz i b' off' hp).1 (fun hh => npl i off' hi1 (hh.1 ▸ hp))⟩
  ·funext b; simp [Gh.stored, hi1, hi2]
  ·simp [Gh.stored, hi2]
  ·simp [Gh.stored, hi1]
 ·intro i hi hno
  rcases hi with rfl | hi
  ·exact absurd (by rw [hobj, if_pos rfl]) (hno o3)
  ·have : i ≠ id := fun e => hid (e ▸ hi)
   exact ⟨fun b hF => by simp [Gh.stored, this, hi] at hF, by simp [Gh.stored, hi]⟩
 ·intro i o' hi ho'
  rw [hobj] at ho'
  rcases hi with rfl | hi
  ·rw [if_pos rfl] at ho'
   cases ho'
   exact hre
  ·have : i ≠ id := fun e => hid (e ▸ hi)
   rw [if_neg this, if_pos hi] at ho'
   cases ho'
 ·intro i hi n p v hs
  rcases hi with rfl | hi
  ·exact hal n p v hs
  ·have : i ≠ id := fun e => hid (e ▸ hi)
   have e1 : (Env.mk e.slots ((id, some o3) :: gone mv ++ e.objs)).obj i = some none := by rw [hobj, if_neg this, if_pos hi]
   exact ⟨⟨by rw [e1]; simp, (fun o ho => by rw [e1] at ho; cases ho)⟩, (fun o ho => by rw [e1] at ho; cases ho)⟩
 ·intro i hi n p v hs
  rcases hi with rfl | hi
  ·exact hpt n p v hs
  ·have : i ≠ id := fun e => hid (e ▸ hi)
   have e1 : (Env.mk e.slots ((id, some o3) :: gone mv ++ e.objs)).obj i = some none := by rw [hobj, if_neg this, if_pos hi]
   exact ⟨⟨by rw [e1]; simp, (fun o ho => by rw [e1] at ho; cases ho)⟩, (fun o ho => by rw [e1] at ho; cases ho)⟩
theorem since_cons {q : Option Path} {log : List (Option Path)} {n : Nat} (h : n ≤ log.length) : since (q :: log) n = q :: since log n := by
 simp only [since, List.length_cons]
 rw [show log.length + 1 - n = (log.length - n) + 1 by omega, List.take_succ_cons]
theorem logAt_len (o : Obj) (p : Path) : o.log.length ≤ (logAt o p).length := by
 unfold logAt
 split
 ·simp
 ·simp only [List.length_cons]; omega
theorem nav_none {w : World} : ∀ (p : Path) {K : Kd} {cs : List Value} {q : Place} {c : List Value}, hasIdx p = false → nav w p K none cs = some (q, c) → q = none
 | [], K, cs, q, c, _, h => by simp only [nav, Option.some.injEq, Prod.mk.injEq] at h; exact h.1.symm
 | .inn :: p, .st k, cs, q, c, hi, h => nav_none p (K := k) (by simpa [hasIdx] using hi) (by simpa only [nav] using h)
 | .fst :: p, .pair a b, cs, q, c, hi, h => nav_none p (K := a) (by simpa [hasIdx] using hi) (by simpa only [nav] using h)
 | .snd :: p, .pair a b, cs, q, c, hi, h => nav_none p (K := b) (by simpa [hasIdx] using hi) (by simpa only [nav, Place.up, Option.map_none] using h)
 | .idx i :: p, K, cs, q, c, hi, _ => by simp [hasIdx] at hi
 | .inn :: p, .int _, _, _, _, _, h | .inn :: p, .bool, _, _, _, _, h | .inn :: p, .str, _, _, _, _, h | .inn :: p, .err, _, _, _, _, h | .inn :: p, .mp _ _, _, _, _, _, h | .inn :: p, .fcell _ _ _, _, _, _, _, h | .inn :: p, .raw _, _, _, _, _, h | .inn :: p, .sl _, _, _, _, _, h | .inn :: p, .pair _ _, _, _, _, _, h => by simp [nav] at h
 | .fst :: p, .int _, _, _, _, _, h | .fst :: p, .bool, _, _, _, _, h | .fst :: p, .str, _, _, _, _, h | .fst :: p, .err, _, _, _, _, h | .fst :: p, .mp _ _, _, _, _, _, h | .fst :: p, .fcell _ _ _, _, _, _, _, h | .fst :: p, .raw _, _, _, _, _, h | .fst :: p, .sl _, _, _, _, _, h | .fst :: p, .st _, _, _, _, _, h => by simp [nav] at h
 | .snd :: p, .int _, _, _, _, _, h | .snd :: p, .bool, _, _, _, _, h | .snd :: p, .str, _, _, _, _, h | .snd :: p, .err, _, _, _, _, h | .snd :: p, .mp _ _, _, _, _, _, h | .snd :: p, .fcell _ _ _, _, _, _, _, h | .snd :: p, .raw _, _, _, _, _, h | .snd :: p, .sl _, _, _, _, _, h | .snd :: p, .st _, _, _, _, _, h => by simp [nav] at h
section
variable {c : Ctx} {nt : Nat} {o : Oper} {Ω : Type} {k : Delta → Option Ω} {out : Ω} {fr : Bool}
theorem stepOk_skip {P : Program} {e : Env} {os : List (Nat × Option Obj)} (hd : o.dst = none)
  (h : ∀ a w g, InvG P B nt e a w g → ∃ w' g', (execOp a.eval o).run P w = .ok .skip w' ∧ InvG P B nt ⟨e.slots, os ++ e.objs⟩ a w' g') : StepOk P B nt o e (e.apply ⟨[], os⟩) := by
 intro a w ⟨g, hg⟩ next Q hn
 obtain ⟨w', g', hr, hi⟩ := h a w g hg
 unfold Oper.wp
 rw [hr, Oper.upon_skip, hd]
 exact hn _ _ ⟨g', hi⟩
theorem ok_store {x y : Operand} {t id n : Nat} {p : Path} {o2 : Obj} {v : View} {pt : Part} {K : Kd} {m md m2 : Md} {z : K.T} {yv : K.T} {x2 : o2.K.T} (hc : CtxOk c) (ho : o.op = .store t x y) (hd : o.dst = none)
  (hg0 : getP o2.K o2.m o2.x p = some ⟨K, m, z⟩) (hp : partOf v = some pt) (hk0 : (okPt o2 n p && tyIs c t K && !(o2.fx && !hasIdx p)) = true) (hcast : cast1 K md (some pt) = some yv) (hsm : setM o2.m p md = some m2) (hsp : setP o2.K o2.x p K yv = some x2)
  (hnd : nodup (id :: partIds pt) = true) (hhl : o2.hl = none ∨ (o2.hl = some p ∧ isQ p = false))
  (hk : k ⟨[], (id, some { o2 with m := m2, x := x2, log := logAt o2 p, hl := none }) :: gone (partIds pt)⟩ = some out) : Step1 c B nt o [(.pt id n p, some o2), v] fr k out := by
 rw [Bool.and_eq_true, Bool.and_eq_true] at hk0
 obtain ⟨hk0, hfx'⟩ := hk0
 have hfx : (o2.fx && !hasIdx p) = false := by
  cases hx : (o2.fx && !hasIdx p) with
  | false => rfl
  | true => rw [hx] at hfx'; cases hfx'
 refine ⟨_, hk, fun e he => stepOk_skip hd fun a w g hg => ?_⟩
 obtain ⟨v1, v2⟩ := views_two he.1 (x := x) (y := y) (by rw [ho]; rfl)
 obtain ⟨hT, _⟩ := tyIs_ok hc.ty hk0.2
 have hobj2 := view_pt v1
 have O := hg.objs id o2 hobj2
 have hpr := part_rep hg v2 hp
 obtain ⟨b, off, cs', K', m', x', h3, h4, h5⟩ := (view_rep hg v1).2 o2 hobj2 hk0.1 (hhl.elim .inl (fun h => .inr (.inr h)))
 rw [hg0] at h3
 cases h3
 have hcells : Own g.S w K md yv (a.eval y).cells.toList (fun b => ∃ id o, pt = .al id o ∧ g.F id b) := by
  rcases cast_own hcast (fun q hq => by cases hq; exact hpr) with ⟨h, _⟩ | ⟨q, hq, h⟩
  ·cases h
  ·cases hq; exact h
 generalize hvs : (a.eval y).cells.toList = vs at hcells
 have hvl : vs.length = K.size := hcells.length
 have hid : id ∉ partIds pt := (List.nodup_cons.1 (nodup_ok hnd)).1
 have F2m : ∀ b, (∃ id o, pt = .al id o ∧ g.F id b) → ∃ i, i ∈ partIds pt ∧ g.F i b := by
  rintro b ⟨i, o', rfl, h⟩
  exact ⟨i, by simp [partIds], h⟩
 have hmv : ∀ i, i ∈ partIds pt → ∃ o, e.obj i = some (some o) := by
  intro i hi
  cases pt with
  | v _ _ => cases hi
  | nils => cases hi
  | al id3 o3 =>
   simp only [partIds, List.mem_singleton] at hi
   subst hi
   exact ⟨o3, hpr.1⟩
 have F2d : ∀ b, (∃ id o, pt = .al id o ∧ g.F id b) → ¬ g.F id b := fun b h hF => by
  obtain ⟨i, h1, h2⟩ := F2m b h
  exact hg.FF i id b (fun e1 => hid (e1 ▸ h1)) h2 hF
 have F2pl : ∀ b o', g.pl id = some (b, o') → ¬ (∃ id o, pt = .al id o ∧ g.F id b) := fun b o' hp h => by
  obtain ⟨i, _, h2⟩ := F2m b h
  exact (hg.plz id b o' hp).2.2.1 i h2
 have hx := Ext.setCells w b off vs
 obtain ⟨F1, hat, hpl, hcl, hF1, hown, hplok, hal, hpt⟩ : ∃ F1 : Nat → Prop, ((∃ o0, g.pl id = some (b, o0) ∧ o0 ≤ off ∧ off + K.size ≤ o0 + o2.K.size) ∨ g.F id b) ∧ PlOk w (some (b, off)) cs' ∧ cs'.length = K.size ∧
   (∀ b, F1 b → g.F id b ∨ ∃ i, i ∈ partIds pt ∧ g.F i b) ∧ Own g.S (w.setCells b off vs) o2.K m2 x2 (splice p o2.K (g.cs id) vs) F1 ∧ PlOk (w.setCells b off vs) (g.pl id) (splice p o2.K (g.cs id) vs) ∧
   (∀ p2 gg r, getP o2.K o2.m o2.x p2 = some gg → nav w p2 o2.K (g.pl id) (g.cs id) = some r → hitAl p2 p = false → (o2.hl ≠ none → p2 = []) → nav (w.setCells b off vs) p2 o2.K (g.pl id) (splice p o2.K (g.cs id) vs) = some r) ∧
   (∀ p2 gg r c, getP o2.K o2.m o2.x p2 = some gg → nav w p2 o2.K (g.pl id) (g.cs id) = some (r, c) → hitPt p2 p = false → (o2.hl ≠ none → hasIdx p2 = false) → ∃ c3, nav (w.setCells b off vs) p2 o2.K (g.pl id) (splice p o2.K (g.cs id) vs) = some (r, c3)) := by
  have wr : ∀ q : Place, q = some (b, off) → PlOk w q cs' → cs'.length = K.size → PlOk (w.setCells b off vs) q vs := by
   rintro q rfl hq hl
   intro b' o' e1
   simp only [Option.some.injEq, Prod.mk.injEq] at e1
   obtain ⟨rfl, rfl⟩ := e1
   have h1 := hq b off rfl
   refine ⟨fun j hj => ?_, fun j hj => ?_⟩
   ·exact World.cell?_setCells_in b vs off w (fun j hj => by rw [(h1.1 j (by omega))]; rfl) j hj
   ·rw [World.frozen?_setCells]; exact h1.2 j (by omega)
  have inR : ∀ b' o', ¬ InR (some (b, off)) K.size b' o' → ¬ (b' = b ∧ off ≤ o' ∧ o' < off + vs.length) := fun b' o' h ⟨e1, h1, h2⟩ => h ⟨off, by rw [e1], h1, by omega⟩
  cases hh : o2.hl with
  | none =>
   obtain ⟨Oown, Opl⟩ := O.own hh
   obtain ⟨F', f⟩ := focus p hg0 h4 Oown Opl (fun b off e1 => (hg.plz id b off e1).2.2.1 id)
   obtain ⟨a1, a2⟩ := f.at_ b off rfl
   have hbz : b < w.heap.size := by
    rcases a2 with ⟨o0, e1, _⟩ | hF
    ·exact (hg.plz id b o0 e1).1
    ·exact hg.Fsz id b hF
   have nS : ∀ b', g.S b' → b' ≠ b := fun b' hS e1 => by
    subst e1
    rcases a2 with ⟨o0, e1, _⟩ | hF
    ·exact (hg.plz id b' o0 e1).2.1 hS
    ·exact hg.FS id b' hF hS
   have key := f.set g.S (w.setCells b off vs) md m2 yv x2 vs (fun b => ∃ id o, pt = .al id o ∧ g.F id b) hsp hsm (fun _ h => h) (fun b' o' v' hS hv => hx.same (fun hh => nS b' hS hh.1) hv)
    (fun b' o' hF _ hq => hx.cell b' o' (hg.Fsz id b' hF) (inR b' o' hq))
    (fun b' o' hR hq => hx.cell b' o' (by obtain ⟨o0, e0, _⟩ := hR; exact (hg.plz id b' o0 e0).1) (inR b' o' hq)) (wr _ rfl f.ok f.own.length)
    (hcells.mono (fun _ h => h) (fun b' o' v' hS hv => hx.same (fun hh => nS b' hS hh.1) hv) (fun _ h => h) (fun b' o' h => hx.cell b' o' (by obtain ⟨i, _, h2⟩ := F2m b' h; exact hg.Fsz i b' h2) (fun hh => by
     obtain ⟨e1, _⟩ := hh
     subst e1
     rcases a2 with ⟨o0, e1, _⟩ | hF
     ·exact F2pl b' o0 e1 h
     ·exact F2d b' h hF)))
    (fun b h hF => absurd hF (F2d b h)) F2pl (fun b' o' e1 h => by
     simp only [Option.some.injEq, Prod.mk.injEq] at e1
     obtain ⟨rfl, rfl⟩ := e1
     rcases a2 with ⟨o0, e1, _⟩ | hF
     ·exact F2pl b o0 e1 h
     ·exact F2d b h hF)
   refine ⟨_, a2, f.ok, f.own.length, ?_, key.1, key.2.1, fun p2 gg r h1 h2 h3 _ => key.2.2.al p2 gg r h1 h2 h3, fun p2 gg r c h1 h2 h3 _ => key.2.2.pt p2 gg r c h1 h2 h3⟩
   rintro b' (⟨h, _⟩ | h)
   ·exact .inl h
   ·exact .inr (F2m b' h)
  | some p0 =>
   have hnq : p0 = p ∧ isQ p = false := by
    rcases hhl with h | ⟨h, hn⟩
    ·rw [hh] at h; cases h
    ·rw [hh] at h; cases h; exact ⟨rfl, hn⟩
   obtain ⟨rfl, hnq⟩ := hnq
   obtain ⟨q, cs0, K0, m0, x0, k1, k2, _, k3, k4, k5, k5', k6⟩ := O.hole p0 hh hnq
   rw [hg0] at k1
   cases k1
   rw [h4] at k2
   cases k2
   have a2 := k5 b off rfl
   have hbz : b < w.heap.size := by
    rcases a2 with ⟨o0, e1, _⟩ | hF
    ·exact (hg.plz id b o0 e1).1
    ·exact hg.Fsz id b hF
   have nS : ∀ b', g.S b' → b' ≠ b := fun b' hS e1 => by
    subst e1
    rcases a2 with ⟨o0, e1, _⟩ | hF
    ·exact (hg.plz id b' o0 e1).2.1 hS
    ·exact hg.FS id b' hF hS
   have key := k6 g.S (w.setCells b off vs) md m2 yv x2 vs (fun b => ∃ id o, pt = .al id o ∧ g.F id b) hsp hsm (fun _ h => h) (fun b' o' v' hS hv => hx.same (fun hh => nS b' hS hh.1) hv)
    (fun b' o' hF hq => hx.cell b' o' (hg.Fsz id b' hF) (inR b' o' hq))
    (fun b' o' hR hq => hx.cell b' o' (by obtain ⟨o0, e0, _⟩ := hR; exact (hg.plz id b' o0 e0).1) (inR b' o' hq)) (wr _ rfl k3 k4)
    (hcells.mono (fun _ h => h) (fun b' o' v' hS hv => hx.same (fun hh => nS b' hS hh.1) hv) (fun _ h => h) (fun b' o' h => hx.cell b' o' (by obtain ⟨i, _, h2⟩ := F2m b' h; exact hg.Fsz i b' h2) (fun hh => by
     obtain ⟨e1, _⟩ := hh
     subst e1
     rcases a2 with ⟨o0, e1, _⟩ | hF
     ·exact F2pl b' o0 e1 h
     ·exact F2d b' h hF)))
    F2d F2pl
   refine ⟨_, a2, k3, k4, ?_, key.1, key.2, fun p2 gg r h1 h2 h3 h6 => ?_, fun p2 gg r c h1 h2 h3 h6 => nav_fields p2 (h6 (by simp)) h2⟩
   ·rintro b' (h | h)
    ·exact .inl h
    ·exact .inr (F2m b' h)
   ·have := h6 (by simp)
    subst this
    have hidx : hasIdx p0 = true := by
     cases p0 with
     | nil => simp [hitAl, preP] at h3
     | cons s p0 => simpa [hitAl, preP] using h3
    rw [splice_idx p0 hidx h4]
    simpa only [nav] using h2
 have hbz : b < w.heap.size := by
  rcases hat with ⟨o0, e1, _⟩ | hF
  ·exact (hg.plz id b o0 e1).1
  ·exact hg.Fsz id b hF
 have eobj : (Env.mk e.slots ((id, some { o2 with m := m2, x := x2, log := logAt o2 p, hl := none }) :: gone (partIds pt) ++ e.objs)).obj id = some (some { o2 with m := m2, x := x2, log := logAt o2 p, hl := none }) := look_cons_self _ _ _
 have gF : (g.stored id (partIds pt) F1 (splice p o2.K (g.cs id) vs)).F id = F1 := by funext b; simp [Gh.stored]
 have gp : (g.stored id (partIds pt) F1 (splice p o2.K (g.cs id) vs)).pl id = g.pl id := by simp [Gh.stored, hid]
 have gc : (g.stored id (partIds pt) F1 (splice p o2.K (g.cs id) vs)).cs id = splice p o2.K (g.cs id) vs := by simp [Gh.stored]
 refine ⟨_, _, ?_, hg.stored hobj2 (partIds pt) hid hmv (vs := vs) hbz (by rw [hvl]; exact hat) F1 hF1 (splice p o2.K (g.cs id) vs) { o2 with m := m2, x := x2, log := logAt o2 p, hl := none } ?_ ?_ ?_⟩
 ·have hrun := run_storeAt (P := c.P) hT (w := w) (b := b) (o := off) (v := a.eval y) (by rw [← hvl, ← hvs]; simp) ?_ (by rw [hvs]; exact hcells.one)
  ·simp only [execOp, ho, h5, Sem.run_bind, hrun, Result.andThen_ok, Sem.run_pure, hvs]
  ·intro j hj
   have h1 := hpl b off rfl
   exact ⟨by rw [h1.1 j (by omega)]; rfl, h1.2 j (by omega)⟩
 ·refine ⟨fun _ => by rw [gF, gp, gc]; exact ⟨hown, hplok⟩, (fun p' h => by cases h), (by rw [gp]; exact O.box), fun hpar => ?_, fun b' off' h => O.plx b' off' (by rw [← gp]; exact h), fun q off hq => no_que rfl hq⟩
  rw [gp, gc]
  have hpk := O.par hpar
  have hsame : hasIdx p = true → splice p o2.K (g.cs id) vs = g.cs id := fun hi => splice_idx p hi h4
  unfold ParOk at hpk ⊢
  by_cases hf : (o2.box && fxK o2.K) = true
  ·have hi : hasIdx p = true := by
    cases hi : hasIdx p with
    | true => rfl
    | false =>
     exfalso
     have : (o2.fx && !hasIdx p) = true := by
      rw [hi]
      unfold Obj.fx
      rw [show o2.par = true from hpar, Bool.true_and, hf]
      rfl
     rw [hfx] at this
     cases this
   rw [hsame hi]
   rw [if_pos hf] at hpk
   rw [if_pos (show (o2.box && fxK o2.K) = true from hf)]
   exact hpk
  ·rw [if_neg hf] at hpk
   rw [if_neg (show ¬ (o2.box && fxK o2.K) = true from hf)]
   obtain ⟨h6, h7⟩ := hpk
   refine ⟨h6, fun hbx => ?_⟩
   rw [← h7 hbx]
   have hpn : g.pl id = none := by
    have := O.box
    cases hq : g.pl id with
    | none => rfl
    | some q => rw [hq] at this; rw [show o2.box = false from hbx] at this; cases this
   refine splice_idx p ?_ h4
   cases hi : hasIdx p with
   | true => rfl
   | false =>
    rw [hpn] at h4
    have := nav_none p hi h4
    cases this
 ·intro n' p' v' hs
  refine ⟨⟨by rw [eobj]; simp, fun o3 ho3 => by rw [eobj] at ho3; cases ho3; exact Nat.le_trans (hs.1.2 o2 hobj2) (logAt_len o2 p)⟩, fun o3 ho3 hk3 _ => ?_⟩
  rw [eobj] at ho3
  cases ho3
  have hle := hs.1.2 o2 hobj2
  have hcond : hitAl p' p = false ∧ okAl o2 n' p' = true ∧ (o2.hl ≠ none → p' = []) := by
   unfold okAl at hk3
   simp only [logAt] at hk3
   cases hh : o2.hl with
   | none =>
    rw [hh] at hk3
    simp only [since_cons hle, List.all_cons, Bool.and_eq_true] at hk3
    exact ⟨by simpa using hk3.1, hk3.2, fun h => absurd rfl h⟩
   | some q =>
    rw [hh] at hk3
    rw [since_cons (by simp; omega), since_cons hle] at hk3
    simp only [List.all_cons, Bool.and_eq_true] at hk3
    refine ⟨by simpa using hk3.2.1, hk3.2.2, fun _ => ?_⟩
    have := hk3.1
    split at this
    ·rfl
    ·cases this
  obtain ⟨q, c1, K1, m1, x1, a1, a2, a3⟩ := hs.2 o2 hobj2 hcond.2.1 (by
   cases hh : o2.hl with
   | none => exact .inl rfl
   | some q => exact .inr (by rw [hcond.2.2 (by rw [hh]; simp)]; rfl))
  obtain ⟨m3, x3, a4⟩ := getP_after p p' hsp hsm a1 (fun hpre => by
   have := hcond.1
   simp [hitAl, hpre] at this)
  exact ⟨q, c1, K1, m3, x3, a4, by rw [gp, gc]; exact hal p' _ _ a1 a2 hcond.1 hcond.2.2, a3⟩
 ·intro n' p' v' hs
  refine ⟨⟨by rw [eobj]; simp, fun o3 ho3 => by rw [eobj] at ho3; cases ho3; exact Nat.le_trans (hs.1.2 o2 hobj2) (logAt_len o2 p)⟩, fun o3 ho3 hk3 _ => ?_⟩
  rw [eobj] at ho3
  cases ho3
  have hle := hs.1.2 o2 hobj2
  have hcond : hitPt p' p = false ∧ okPt o2 n' p' = true ∧ (o2.hl ≠ none → hasIdx p' = false) := by
   unfold okPt at hk3
   simp only [logAt] at hk3
   cases hh : o2.hl with
   | none =>
    rw [hh] at hk3
    simp only [since_cons hle, List.all_cons, Bool.and_eq_true] at hk3
    exact ⟨by simpa using hk3.1, hk3.2, fun h => absurd rfl h⟩
   | some q =>
    rw [hh] at hk3
    rw [since_cons (by simp; omega), since_cons hle] at hk3
    simp only [List.all_cons, Bool.and_eq_true] at hk3
    exact ⟨by simpa using hk3.2.1, hk3.2.2, fun _ => by simpa using hk3.1⟩
  obtain ⟨b1, off1, c1, K1, m1, x1, a1, a2, a3⟩ := hs.2 o2 hobj2 hcond.2.1 (by
   cases hh : o2.hl with
   | none => exact .inl rfl
   | some q => exact .inr (.inl (idx1_of (hcond.2.2 (by rw [hh]; simp)))))
  obtain ⟨m3, x3, a4⟩ := getP_after p p' hsp hsm a1 (fun hpre => by
   have := hcond.1
   simpa [hitPt, hpre] using this)
  obtain ⟨c3, a5⟩ := hpt p' _ _ _ a1 a2 hcond.1 hcond.2.2
  exact ⟨b1, off1, c3, K1, m3, x3, a4, by rw [gp, gc]; exact a5, a3⟩
end
end Go.Abs
namespace Go.Abs
variable {B : Base}
theorem own_sub {S : Nat → Prop} {w : World} {e : Kd} {m : Md} {xs : List e.T} {A : Option Addr} {cap l h : Nat} {F : Nat → Prop} (ho : Own S w (.sl e) (.own m) xs [.slice A xs.length cap] F) (hlh : l ≤ h) (hh : h ≤ xs.length) :
  Own S w (.sl e) (.own m) ((List.take h xs).drop l) [.slice (if cap = l then A else A.map (·.add (l * e.size))) (h - l) (cap - l)] F := by
 obtain ⟨A', cap', e0, hl, hn, hr, G, hG, hG1, hG2, he⟩ := ho
 simp only [List.cons.injEq, Value.slice.injEq, and_true, true_and] at e0
 obtain ⟨rfl, rfl⟩ := e0
 have len : ((List.take h xs).drop l).length = h - l := by simp; omega
 refine ⟨_, _, by rw [len], by rw [len]; omega, ?_, ?_, fun i => G (l + i), fun i b hb => hG _ b hb, ?_, fun i j b hij => hG2 _ _ b (by omega), fun i hi => ?_⟩
 ·intro hA
  by_cases hc : cap = l
  ·omega
  ·rw [if_neg hc] at hA
   have : A = none := by cases A <;> simp at hA; rfl
   have := hn this
   omega
 ·intro ad had
  by_cases hc : cap = l
  ·rw [if_pos hc] at had
   obtain ⟨h1, h2, h3⟩ := hr ad had
   refine ⟨h1, h2, ?_⟩
   rw [hc, Nat.sub_self, Nat.zero_mul]
   exact fun j => ⟨fun hj => absurd hj (Nat.not_lt_zero _), (h3 j).2⟩
  ·rw [if_neg hc] at had
   cases A with
   | none => simp at had
   | some a0 =>
    obtain ⟨b, off, sp⟩ := a0
    obtain ⟨h1, h2, h3⟩ := hr _ rfl
    have : sp = none := h1
    subst this
    simp only [Option.map_some, add_nospot, Option.some.injEq] at had
    subst had
    refine ⟨rfl, h2, fun j => ?_⟩
    have h4 := h3 (l * e.size + j)
    rw [← Nat.add_assoc] at h4
    refine ⟨fun hj => h4.1 (by
     have : (cap - l) * e.size + l * e.size = cap * e.size := by rw [← Nat.add_mul, Nat.sub_add_cancel (by omega)]
     omega), h4.2⟩
 ·intro i ad had
  by_cases hc : cap = l
  ·rw [if_pos hc] at had
   exact hG1 _ ad had
  ·rw [if_neg hc] at had
   cases A with
   | none => simp at had
   | some a0 =>
    obtain ⟨b, off, sp⟩ := a0
    have : sp = none := (hr _ rfl).1
    subst this
    simp only [Option.map_some, add_nospot, Option.some.injEq] at had
    subst had
    exact hG1 (l + i) ⟨b, off, none⟩ rfl
 ·rw [len] at hi
  have hi2 : l + i < xs.length := by omega
  obtain ⟨b, off, vs, hA, hcs, hro2⟩ := he (l + i) hi2
  have hne : cap ≠ l := by omega
  refine ⟨b, off + l * e.size, vs, ?_, ?_, ?_⟩
  ·rw [if_neg hne, hA]; simp only [Option.map_some, add_nospot]
  ·have : off + l * e.size + i * e.size = off + (l + i) * e.size := by rw [Nat.add_mul]; omega
   rw [this]; exact hcs
  ·have : ((List.take h xs).drop l)[i]'(by rw [len]; exact hi) = xs[l + i] := by simp
   rw [this]; exact hro2
section
variable {c : Ctx} {nt : Nat} {o : Oper} {Ω : Type} {k : Delta → Option Ω} {out : Ω} {fr : Bool}
theorem ok_slice_al {x : Operand} {lo hi : Option Operand} {t id n : Nat} {o2 : Obj} {e : Kd} {m : Md} {xs : List e.T} {bs : List View} {l h : Int} (hc : CtxOk c) (ho : o.op = .slice t x lo hi none) (ht : tyIs c t (.sl e) = true)
  (hg0 : getP o2.K o2.m o2.x [] = some ⟨.sl e, .own m, xs⟩) (hh : noHole o2 = true) (hok : okAl o2 n [] = true) (hpb : (!o2.par && !o2.box) = true) (hb : Bnds lo hi bs xs.length l h) (h0 : 0 ≤ l ∧ l ≤ h ∧ h ≤ (xs.length : Int))
  (hk : putNew nt o.dst fr ⟨.sl e, .own m, (List.take h.toNat xs).drop l.toNat, false, false, [], none⟩ false [(id, none)] k = some out) : Step1 c B nt o ((.al id n [], some o2) :: bs) fr k out := by
 obtain ⟨hT, _⟩ := tyIs_ok hc.ty ht
 obtain ⟨t', hu, hl'⟩ := hT.sl e rfl
 refine step_new (mv := [id]) hk rfl rfl rfl fun e0 he a w g hg => ?_
 obtain ⟨v1, v2⟩ := views_slice ho he
 obtain ⟨r1, r2, r3⟩ := al_root hg v1 hh hok
 rw [getP_nil] at hg0
 cases o2 with
 | mk K2 m2 x2 b2 p2 l2 h2 =>
  simp only [Option.some.injEq, Sigma.mk.injEq] at hg0
  obtain ⟨e1, e2⟩ := hg0
  simp only at e1 e2 r2 r3
  subst e1
  simp only [heq_eq_eq, Prod.mk.injEq] at e2
  obtain ⟨rfl, rfl⟩ := e2
  have r3' := r3
  obtain ⟨A, cap, ecs, hl, _⟩ := r3'
  rw [ecs] at r2 r3
  have e1 : a.eval x = .slice A x2.length cap := r2.1
  obtain ⟨b1, b3⟩ := hb.low hg v2
  have len : ((List.take h.toNat x2).drop l.toNat).length = h.toNat - l.toNat := by simp; omega
  refine ⟨.slice (if cap = l.toNat then A else A.map (·.add (l.toNat * e.size))) (h.toNat - l.toNat) (cap - l.toNat), w, g.F id, none, [.slice (if cap = l.toNat then A else A.map (·.add (l.toNat * e.size))) (h.toNat - l.toNat) (cap - l.toNat)], ?_,
   Ext.refl _ _, (fun i hi => by simp at hi; subst hi; exact ⟨_, r1⟩), (fun b hb => .inr ⟨id, by simp, hb⟩), (fun b off h => by cases h), ⟨own_sub r3 (by omega) (by omega), (fun b off h => by cases h)⟩, rfl, ?_⟩
  ·rw [exec_slice ho hu (by intros; simp), e1, run_slice_sl hc.ty hT b1 b3 h0 hl]
   rfl
  ·exact (show VRep (.sl e) _ _ from ⟨rfl, rfl⟩)
end
def Gh.freeze (g : Gh) (ids : List Nat) : Gh where
 S := fun b => g.S b ∨ ∃ i, i ∈ ids ∧ (g.F i b ∨ ∃ off, g.pl i = some (b, off))
 F := fun i b => if i ∈ ids then False else g.F i b
 pl := fun i => if i ∈ ids then none else g.pl i
 cs := g.cs
theorem InvG.freeze {P : Program} {nt : Nat} {e : Env} {a : Act} {w : World} {g : Gh} (h : InvG P B nt e a w g) (ids : List Nat) (hids : ∀ i, i ∈ ids → ∃ o, e.obj i = some (some o) ∧ o.par = false) :
  InvG P B nt ⟨e.slots, gone ids ++ e.objs⟩ a w (g.freeze ids) := by
 have hobj : ∀ i, (Env.mk e.slots (gone ids ++ e.objs)).obj i = if i ∈ ids then some none else e.obj i := by
  intro i
  show look (gone ids ++ e.objs) i = _
  rw [look_app, look_gone]
  by_cases hm : i ∈ ids
  ·rw [if_pos hm, if_pos hm]
  ·rw [if_neg hm, if_neg hm]; rfl
 have Fnew : ∀ i b, (g.freeze ids).F i b → i ∉ ids ∧ g.F i b := by
  intro i b hF
  simp only [Gh.freeze] at hF
  split at hF
  ·exact hF.elim
  ·exact ⟨by assumption, hF⟩
 have plnew : ∀ i b off, (g.freeze ids).pl i = some (b, off) → i ∉ ids ∧ g.pl i = some (b, off) := by
  intro i b off hF
  simp only [Gh.freeze] at hF
  split at hF
  ·cases hF
  ·exact ⟨by assumption, hF⟩
 refine h.change (fun i => i ∈ ids) rfl h.ext (fun _ h => .inl h) (fun _ _ _ _ h => h) ?_ (fun i b hF => h.Fsz i b (Fnew i b hF).2) ?_ (fun i b hF => h.Fb i b (Fnew i b hF).2) ?_ (fun i j b hne h1 h2 => h.FF i j b hne (Fnew i b h1).2 (Fnew j b h2).2) ?_ ?_ ?_ ?_ ?_ ?_
 ·rintro b (hb | ⟨i, _, hF | ⟨off, hp⟩⟩)
  ·exact h.Ssz b hb
  ·exact h.Fsz i b hF
  ·exact (h.plz i b off hp).1
 ·rintro b (hb | ⟨i, hi, hF | ⟨off, hp⟩⟩)
  ·exact h.Sb b hb
  ·rcases h.Fb i b hF with h1 | h1
   ·exact .inr (.inl h1)
   ·exact .inr (.inr h1)
  ·obtain ⟨o, ho, hpar⟩ := hids i hi
   rcases (h.objs i o ho).plx b off hp with (h1 | h1) | h1
   ·exact .inr (.inl h1)
   ·exact .inr (.inr h1)
   ·rw [hpar] at h1; cases h1.1
 ·rintro i b hF hS
  obtain ⟨h1, h2⟩ := Fnew i b hF
  rcases hS with hS | ⟨j, hj, hF' | ⟨off, hp⟩⟩
  ·exact h.FS i b h2 hS
  ·exact h.FF j i b (fun e => h1 (e ▸ hj)) hF' h2
  ·exact (h.plz j b off hp).2.2.1 i h2
 ·intro i b off hp
  obtain ⟨h1, h2⟩ := plnew i b off hp
  obtain ⟨h3, h4, h5, h6⟩ := h.plz i b off h2
  refine ⟨h3, ?_, fun j hF => h5 j (Fnew j b hF).2, fun j off' hp' => h6 j off' (plnew j b off' hp').2⟩
  rintro (hS | ⟨j, hj, hF' | ⟨off', hp'⟩⟩)
  ·exact h4 hS
  ·exact h5 j hF'
  ·exact h1 (h6 j off' hp' ▸ hj)
 ·intro i hi
  refine ⟨by rw [hobj, if_neg hi], ?_, ?_, rfl, fun _ _ _ => ⟨rfl, rfl⟩, fun _ _ _ _ => ⟨rfl, rfl⟩⟩
  ·funext b; simp [Gh.freeze, hi]
  ·simp [Gh.freeze, hi]
 ·intro i hi _
  exact ⟨fun b hF => (Fnew i b hF).1 hi, by simp [Gh.freeze, hi]⟩
 ·intro i o' hi ho'
  rw [hobj, if_pos hi] at ho'
  cases ho'
 ·intro i hi n p v hs
  have e1 : (Env.mk e.slots (gone ids ++ e.objs)).obj i = some none := by rw [hobj, if_pos hi]
  exact ⟨⟨by rw [e1]; simp, (fun o ho => by rw [e1] at ho; cases ho)⟩, (fun o ho => by rw [e1] at ho; cases ho)⟩
 ·intro i hi n p v hs
  have e1 : (Env.mk e.slots (gone ids ++ e.objs)).obj i = some none := by rw [hobj, if_pos hi]
  exact ⟨⟨by rw [e1]; simp, (fun o ho => by rw [e1] at ho; cases ho)⟩, (fun o ho => by rw [e1] at ho; cases ho)⟩
theorem freeze_ro {P : Program} {nt : Nat} {e : Env} {a : Act} {w : World} {g : Gh} (h : InvG P B nt e a w g) {ids : List Nat} {i : Nat} {ob : Obj} (hi : i ∈ ids) (ho : e.obj i = some (some ob)) (hh : ob.hl = none) :
  RO (g.freeze ids).S w ob.K ob.x (g.cs i) :=
 Own.toRO (fun b hb => .inl hb) (fun b hb => .inr ⟨i, hi, .inl hb⟩) ((h.objs i ob ho).own hh).1
theorem InvG.reslot {P : Program} {nt : Nat} {e : Env} {a : Act} {w : World} {g : Gh} (h : InvG P B nt e a w g) {t : Nat} {s : Slot} (hs : SlotRep P g w e.obj s (a.tmps.getD t undef)) : InvG P B nt ⟨(t, s) :: e.slots, e.objs⟩ a w g := by
 refine ⟨h.glob, h.tmps, h.defers, h.ext, h.Ssz, h.Fsz, h.S0, h.Sb, h.Fb, h.FS, h.FF, h.plz, h.absent, h.objs, fun i => ?_⟩
 by_cases hi : t = i
 ·subst hi
  have e1 : (Env.mk ((t, s) :: e.slots) e.objs).get t = s := by simp [Env.get, look]
  rw [e1]; exact hs
 ·have e1 : (Env.mk ((t, s) :: e.slots) e.objs).get i = e.get i := by simp [Env.get, look, hi]
  rw [e1]; exact h.slots i
theorem map_toList {α β : Type} (f : α → β) (l : Array α) : (l.toList.map f).toArray = l.map f := by apply Array.ext'; simp
section
variable {c : Ctx} {nt : Nat} {o : Oper} {Ω : Type} {k : Delta → Option Ω} {out : Ω} {fr : Bool}
theorem caps_rep {P : Program} {e : Env} {a : Act} {w : World} {g : Gh} (hg : InvG P B nt e a w g) : ∀ {os : List Operand} {vs : List View} {l : List Cap}, os.map (fun x => e.view (e.opd x)) = vs → capsOf vs = some l → CapsOk g w e.obj l (os.map a.eval)
 | [], [], l, _, hc => by
  simp only [capsOf, Option.some.injEq] at hc
  subst hc
  rfl
 | x :: os, v :: vs, l, hv, hc => by
  simp only [List.map_cons, List.cons.injEq] at hv
  unfold capsOf at hc
  split at hc
  ·cases hc
   exact ⟨_, _, rfl, view_rep hg hv.1, caps_rep hg hv.2 (by assumption)⟩
  ·cases hc
   exact ⟨_, _, rfl, view_rep hg hv.1, caps_rep hg hv.2 (by assumption)⟩
  ·cases hc
 | [], _ :: _, _, hv, _ => by cases hv
 | _ :: _, [], _, hv, _ => by cases hv
theorem fs_rep {P : Program} {e : Env} {a : Act} {w : World} {g : Gh} (hg : InvG P B nt e a w g) : ∀ {os : List Operand} {vs : List View} {l : List KV}, os.map (fun x => e.view (e.opd x)) = vs → kvs vs = some l → FsRep g.S w l (os.map a.eval)
 | [], [], l, _, hc => by
  simp only [kvs, Option.some.injEq] at hc
  subst hc
  rfl
 | x :: os, v :: vs, l, hv, hc => by
  simp only [List.map_cons, List.cons.injEq] at hv
  unfold kvs at hc
  split at hc
  ·cases hc
   exact ⟨_, _, rfl, view_rep hg hv.1, fs_rep hg hv.2 (by assumption)⟩
  ·cases hc
 | [], _ :: _, _, hv, _ => by cases hv
 | _ :: _, [], _, hv, _ => by cases hv
theorem ok_makeFunc {f : Nat} {first caps : Array Operand} {vs : List View} {fs : List KV} {l : List Cap} (ho : o.op = .makeFunc (.func f) first caps) (hfs : kvs (vs.take first.size) = some fs) (hcap : capsOf (vs.drop first.size) = some l)
  (hk : put1 nt o.dst (.fv f fs l) k = some out) : Step1 c B nt o vs fr k out := by
 refine stepOk_pure hk fun e he a w g hg => ⟨.func (.func f) (first.map a.eval) (caps.map a.eval), ?_, ?_⟩
 ·simp only [execOp, ho, Instr.makeFunc, Sem.run_bind, Sem.run_pure, Result.andThen_ok]
 ·have hvs : first.toList.map (fun x => e.view (e.opd x)) ++ caps.toList.map (fun x => e.view (e.opd x)) = vs := by
   rw [← he.1]
   simp [Env.views, Oper.opds, ho, Op.operands]
  have h1 : vs.take first.size = first.toList.map (fun x => e.view (e.opd x)) := by rw [← hvs]; exact List.take_left' (by simp)
  have h2 : vs.drop first.size = caps.toList.map (fun x => e.view (e.opd x)) := by rw [← hvs]; exact List.drop_left' (by simp)
  exact ⟨first.toList.map a.eval, caps.toList.map a.eval, by rw [map_toList, map_toList], fs_rep hg h1.symm hfs, caps_rep hg h2.symm hcap⟩
end
end Go.Abs
namespace Go.Abs
variable {B : Base}
theorem ixOf_ok : ∀ {p q : Path} {i : Int}, ixOf p = some (q, i) → p = q ++ [.idx i]
 | [], _, _, h => by cases h
 | [.idx j], q, i, h => by cases h; rfl
 | [.inn], _, _, h => by cases h
 | [.fst], _, _, h => by cases h
 | [.snd], _, _, h => by cases h
 | .inn :: s :: p, q, i, h => by
  have h' : (match ixOf (s :: p) with | some (q, i) => some (Step.inn :: q, i) | none => none) = some (q, i) := h
  split at h'
  ·rename_i q' i' hr; cases h'; rw [ixOf_ok hr]; rfl
  ·cases h'
 | .fst :: s :: p, q, i, h => by
  have h' : (match ixOf (s :: p) with | some (q, i) => some (Step.fst :: q, i) | none => none) = some (q, i) := h
  split at h'
  ·rename_i q' i' hr; cases h'; rw [ixOf_ok hr]; rfl
  ·cases h'
 | .snd :: s :: p, q, i, h => by
  have h' : (match ixOf (s :: p) with | some (q, i) => some (Step.snd :: q, i) | none => none) = some (q, i) := h
  split at h'
  ·rename_i q' i' hr; cases h'; rw [ixOf_ok hr]; rfl
  ·cases h'
 | .idx j :: s :: p, q, i, h => by
  have h' : (match ixOf (s :: p) with | some (q, i) => some (Step.idx j :: q, i) | none => none) = some (q, i) := h
  split at h'
  ·rename_i q' i' hr; cases h'; rw [ixOf_ok hr]; rfl
  ·cases h'
theorem isQ_queP {q : Path} {off : Int} (h : hasIdx q = false) : isQ (queP q off) = true := by
 unfold isQ; rw [qOf_queP q off h]
theorem OwnQ.start {S : Nat → Prop} {w : World} {e : Kd} {m : Md} {xs : List e.T} {A : Option Addr} {cap : Nat} {F : Nat → Prop} (h : Own S w (.sl e) (.own m) xs [.slice A xs.length cap] F) : OwnQ S w e m 0 xs A F := by
 obtain ⟨A', cap', e0, hl, hn, hr, G, hG, hG1, hG2, he⟩ := h
 simp only [List.cons.injEq, Value.slice.injEq, and_true, true_and] at e0
 obtain ⟨rfl, rfl⟩ := e0
 refine ⟨fun h0 => ?_, G, hG, hG1, hG2, fun i hi _ => he i hi⟩
 obtain ⟨b, o, vs, hA, _⟩ := he 0 h0
 exact ⟨b, o, hA, (hr _ hA).2.1⟩
theorem OwnQ.take {S : Nat → Prop} {w : World} {e : Kd} {m : Md} {off : Int} {xs : List e.T} {A : Option Addr} {F : Nat → Prop} (h : OwnQ S w e m off xs A F) {j : Nat} (hj : j < xs.length) (ho : off ≤ (j : Int)) :
  ∃ b o vs F1, A = some ⟨b, o, none⟩ ∧ CellsAt w b (o + j * e.size) vs ∧ Own S w e m xs[j] vs F1 ∧ (∀ b, F1 b → F b) ∧ OwnQ S w e m (j + 1) xs A (fun b => F b ∧ ¬ F1 b) := by
 obtain ⟨h1, G, h2, h3, h4, h5⟩ := h
 obtain ⟨b, o, vs, hA, hc, hv⟩ := h5 j hj ho
 refine ⟨b, o, vs, G j, hA, hc, hv, h2 j, fun h0 => ?_, fun i b => j < i ∧ G i b, fun i b hb => ⟨h2 i b hb.2, fun hj' => h4 i j b (by omega) hb.2 hj'⟩, fun i ad had hb => h3 i ad had hb.2, fun i i' b hne hb hb' => h4 i i' b hne hb.2 hb'.2, fun i hi hoi => ?_⟩
 ·obtain ⟨b', o', hA', hF'⟩ := h1 h0
  exact ⟨b', o', hA', hF', fun hb => h3 j _ hA' hb⟩
 ·obtain ⟨b', o', vs', k1, k2, k3⟩ := h5 i hi (by omega)
  exact ⟨b', o', vs', k1, k2, k3.mono (fun _ h => h) (fun _ _ _ _ h => h) (fun b hb => ⟨by omega, hb⟩) (fun _ _ _ => ⟨rfl, rfl⟩)⟩
section
variable {c : Ctx} {nt : Nat} {o : Oper} {Ω : Type} {k : Delta → Option Ω} {out : Ω} {fr : Bool}
theorem ok_load_frz {x : Operand} {t id n d : Nat} {p : Path} {ob : Obj} {mds : List (Nat × Md)} (hc : CtxOk c) (ho : o.op = .load t x) (hcond : (isQue mds o.dst && noHole ob && okPt ob n p && !ob.par && p.isEmpty && tyIs c t ob.K) = true)
  (hd : o.dst = some d) (hlt : Nat.blt d nt = true) (hk : k ⟨[(d, .v ob.K ob.x)], [(id, none)]⟩ = some out) : Step1 c B nt o [(.pt id n p, some ob)] fr k out := by
 simp only [Bool.and_eq_true, Bool.not_eq_true', List.isEmpty_iff] at hcond
 obtain ⟨⟨⟨⟨⟨_, hh⟩, hok⟩, hpar⟩, rfl⟩, ht⟩ := hcond
 obtain ⟨hT, _⟩ := tyIs_ok hc.ty ht
 refine ⟨_, hk, fun e0 he a w ⟨g, hg⟩ next Q hn => ?_⟩
 have hv := views_one he.1 (x := x) (by rw [ho]; rfl)
 have hob := view_pt hv
 have hhl := noHole_ok hh
 obtain ⟨b, off, cs', K', m', x', h1, h2, h3⟩ := (view_rep hg hv).2 ob hob hok (.inl hhl)
 rw [getP_nil] at h1
 cases h1
 simp only [nav, Option.some.injEq, Prod.mk.injEq] at h2
 obtain ⟨o1, o2⟩ := (hg.objs id ob hob).own hhl
 have hro := freeze_ro hg (ids := [id]) List.mem_cons_self hob hhl
 have hrun : (execOp a.eval o).run c.P w = .ok (.value (ob.K.val (g.cs id))) w := by
  simp only [execOp, ho, h3, Instr.loadAt, Sem.run_bind, run_sure, Result.andThen_ok, run_loadVar hT o1.length (o2 b off h2.1).1]
  rfl
 have hfz := hg.freeze [id] (fun i hi => by rw [List.mem_singleton] at hi; subst hi; exact ⟨ob, hob, hpar⟩)
 unfold Oper.wp
 rw [hrun, Oper.upon_value, hd]
 refine hn _ _ ⟨_, hfz.put (Nat.blt_eq.mp hlt) (s := .v ob.K ob.x) ⟨_, hro, hro.vrep hT.np⟩⟩
theorem mark_que {vs : List View} {id d : Nat} {s : Slot} {p : Path} {ob : Obj} {e : Kd} {m : Md} {xs : List e.T}
  (h0 : Step1 c B nt o vs fr (fun dl => if dl.objs.isEmpty then some dl else none) (⟨[(d, s)], []⟩ : Delta)) (hobj0 : ∀ e0 : Env, e0.views o = vs → e0.obj id = some (some ob))
  (hgp : getP ob.K ob.m ob.x p = some ⟨.sl e, .own m, xs⟩) (hx : hasIdx p = false) (hpar : ob.par = false) (hhl : ob.hl = none)
  (hk : k ⟨[(d, s)], [(id, some { ob with hl := some (queP p 0) })]⟩ = some out) : Step1 c B nt o vs fr k out := by
 obtain ⟨dl, hdl, hstep⟩ := h0
 have hdl' : dl = ⟨[(d, s)], []⟩ := by
  have hdl : (if dl.objs.isEmpty then some dl else none) = some (⟨[(d, s)], []⟩ : Delta) := hdl
  split at hdl
  ·cases hdl; rfl
  ·cases hdl
 subst hdl'
 refine ⟨_, hk, fun e0 he a w ⟨g, hg⟩ next Q hn => hstep e0 he a w ⟨g, hg⟩ next Q fun v w' ⟨g', hg'⟩ => hn v w' ?_⟩
 have hobj := hobj0 e0 he.1
 refine ⟨g', ?_⟩
 generalize he1 : e0.apply ⟨[(d, s)], []⟩ = e1 at hg'
 have hob1 : e1.obj id = some (some ob) := by rw [← he1]; exact hobj
 have heq : e0.apply ⟨[(d, s)], [(id, some { ob with hl := some (queP p 0) })]⟩ = ⟨e1.slots, [(id, some { ob with hl := some (queP p 0) })] ++ e1.objs⟩ := by rw [← he1]; rfl
 rw [heq]
 have O := hg'.objs id ob hob1
 obtain ⟨own1, pl1⟩ := O.own hhl
 have hobj2 : ∀ i, (Env.mk e1.slots ([(id, some { ob with hl := some (queP p 0) })] ++ e1.objs)).obj i = if i = id then some (some { ob with hl := some (queP p 0) }) else e1.obj i := by
  intro i
  show look ((id, _) :: e1.objs) i = _
  by_cases hi : i = id
  ·subst hi; rw [look_cons_self, if_pos rfl]
  ·rw [look_cons_ne (fun e => hi e.symm), if_neg hi]; rfl
 have hself := hobj2 id
 rw [if_pos rfl] at hself
 have hnav : ∃ q cs', nav w' p ob.K (g'.pl id) (g'.cs id) = some (q, cs') := by
  have : ∀ (p : Path) (K : Kd) (m : Md) (x : K.T) (pl : Place) (cs : List Value) (r : (K' : Kd) × Md × K'.T), hasIdx p = false → getP K m x p = some r → ∃ q cs', nav w' p K pl cs = some (q, cs') := by
   intro p
   induction p with
   | nil => intro K m x pl cs r _ _; exact ⟨pl, cs, by simp only [nav]⟩
   | cons s p ih =>
    intro K m x pl cs r hi hr
    cases s with
    | idx i => simp [hasIdx] at hi
    | inn => cases K <;> first | exact ih _ _ _ _ _ _ (by simpa [hasIdx] using hi) hr | (simp [getP] at hr)
    | fst => cases K <;> first | exact ih _ _ _ _ _ _ (by simpa [hasIdx] using hi) hr | (simp [getP] at hr)
    | snd => cases K <;> first | exact ih _ _ _ _ _ _ (by simpa [hasIdx] using hi) hr | (simp [getP] at hr)
  exact this p ob.K ob.m ob.x _ _ _ hx hgp
 obtain ⟨q, cs', hnav⟩ := hnav
 obtain ⟨F', f⟩ := focus p hgp hnav own1 pl1 (fun b off e1 => (hg'.plz id b off e1).2.2.1 id)
 refine hg'.change (fun i => i = id) rfl hg'.ext (fun _ h => h) (fun _ _ _ _ h => h) hg'.Ssz hg'.Fsz hg'.Sb hg'.Fb hg'.FS hg'.FF hg'.plz
  (fun i hi => ⟨by rw [hobj2, if_neg hi], rfl, rfl, rfl, fun _ _ _ => ⟨rfl, rfl⟩, fun _ _ _ _ => ⟨rfl, rfl⟩⟩) ?_ ?_ ?_ ?_
 ·rintro i rfl hno
  exact absurd hself (hno _)
 ·rintro i o2 rfl ho2
  rw [hself] at ho2
  cases ho2
  refine ⟨(fun h => by cases h), (fun p' hp' hq => by cases hp'; rw [isQ_queP hx] at hq; cases hq), O.box, (fun h => by rw [show ob.par = true from h] at hpar; cases hpar), O.plx, fun q0 off hq => ?_⟩
  obtain ⟨rfl, rfl⟩ := queAt_one hq (queAt_mk (o := { ob with hl := some (queP p 0) }) hx rfl)
  have fo := f.own
  obtain ⟨A, cap, rfl, _⟩ := f.own
  refine ⟨e, m, xs, q, A, cap, hgp, hnav, ?_⟩
  have := fo.mono (S' := g'.S) (w' := w') (F' := g'.F i) (fun _ h => h) (fun _ _ _ _ h => h) (fun b hb => f.sub b hb) (fun _ _ _ => ⟨rfl, rfl⟩)
  exact OwnQ.start this
 ·rintro i rfl n2 p2 v2 hs
  refine ⟨⟨by rw [hself]; simp, fun o2 ho2 => by rw [hself] at ho2; cases ho2; exact hs.1.2 ob hob1⟩, fun o2 ho2 hok _ => ?_⟩
  rw [hself] at ho2
  cases ho2
  exact hs.2 ob hob1 hok (.inl hhl)
 ·rintro i rfl n2 p2 v2 hs
  refine ⟨⟨by rw [hself]; simp, fun o2 ho2 => by rw [hself] at ho2; cases ho2; exact hs.1.2 ob hob1⟩, fun o2 ho2 hok _ => ?_⟩
  rw [hself] at ho2
  cases ho2
  exact hs.2 ob hob1 hok (.inl hhl)
theorem ok_len_que {ts : Array Nat} {t id n d : Nat} {p : Path} {ob : Obj} {e : Kd} {xs : List e.T} (hc : CtxOk c) (ho : ∃ as, o.op = .call { callee := .builtin .len, args := as, argTypes := ts }) (hv : rdv (.al id n p, some ob) = some ⟨.sl e, xs⟩) (hts : ts.toList = [t])
  (ht : tyIs c t (.sl e) = true) (hcond : (!hasIdx p && !ob.par && isOwn (getP ob.K ob.m ob.x p)) = true) (hd : o.dst = some d) (hlt : Nat.blt d nt = true)
  (hk : k ⟨[(d, .v (.int .i64) (List.length xs : Int))], [(id, some { ob with hl := some (queP p 0) })]⟩ = some out) : Step1 c B nt o [(.al id n p, some ob)] fr k out := by
 have h0 : Step1 c B nt o [(.al id n p, some ob)] fr (fun dl => if dl.objs.isEmpty then some dl else none) ⟨[(d, .v (.int .i64) (List.length xs : Int))], []⟩ :=
  ok_len (x := .tmp 0) hc ho hv hts (.inl ⟨_, _, rfl, ht, rfl⟩) (by rw [hd]; show (if Nat.blt d nt = true then _ else none) = _; rw [if_pos hlt]; rfl)
 simp only [Bool.and_eq_true] at hcond
 obtain ⟨⟨hx, hpar⟩, hown⟩ := hcond
 have hv : (if (noHole ob && okAl ob n p) = true then (match getP ob.K ob.m ob.x p with | some ⟨K, _, x⟩ => some (⟨K, x⟩ : KV) | none => none) else none) = some ⟨.sl e, xs⟩ := hv
 split at hv
 case isFalse => cases hv
 rename_i hcc
 rw [Bool.and_eq_true] at hcc
 obtain ⟨m, hgp⟩ : ∃ m, getP ob.K ob.m ob.x p = some ⟨.sl e, .own m, xs⟩ := by
  split at hv
  ·rename_i K m x hg0
   rw [hg0] at hown ⊢
   cases hv
   cases m with
   | own m => exact ⟨m, rfl⟩
   | _ => cases hown
  ·cases hv
 refine mark_que h0 (fun e0 hv1 => ?_) hgp (by simpa using hx) (by simpa using hpar) (noHole_ok hcc.1) hk
 obtain ⟨as, ho⟩ := ho
 have hops : o.op.operands = as := by rw [ho]; simp [Op.operands, Call.operands]
 obtain ⟨x, has⟩ : ∃ x, as = #[x] := by
  simp only [Env.views, Oper.opds, hops] at hv1
  have hl : as.toList.length = 1 := by have := congrArg List.length hv1; simpa using this
  obtain ⟨x, hx⟩ := List.length_eq_one_iff.1 hl
  exact ⟨x, by apply Array.ext'; simpa using hx⟩
 subst has
 exact view_al (views_one hv1 (x := x) hops)
theorem ok_indexAddr_que {x y : Operand} {t id n : Nat} {p : Path} {ob : Obj} {ik : IntKind} {e : Kd} {m : Md} {xs : List e.T} {i off : Int} {q2 : Option Obj} (hc : CtxOk c) (ho : o.op = .indexAddr t x y)
  (hq : queAt ob p = some off) (hok : okAl ob n p = true) (hgp : getP ob.K ob.m ob.x p = some ⟨.sl e, .own m, xs⟩) (ht : tyIs c t (.sl e) = true)
  (hi : 0 ≤ i ∧ i < (xs.length : Int)) (h : put1 nt o.dst (.pt id ob.log.length (p ++ [.idx i])) k = some out) : Step1 c B nt o [(.al id n p, some ob), (.v (.int ik) i, q2)] fr k out := by
 obtain ⟨hT, _⟩ := tyIs_ok hc.ty ht
 refine stepOk_pure h fun e0 he a w g hg => ?_
 obtain ⟨v1, v2⟩ := views_two he.1 (x := x) (y := y) (by rw [ho]; rfl)
 have e2 := rep_int (view_rep hg v2)
 have hob := view_al v1
 have hx := (queAt_ok hq).1
 obtain ⟨q, cs', K', m', x', h1, h2, h3⟩ := (view_rep hg v1).2 ob hob hok (.inr hx)
 rw [h1] at hgp
 cases hgp
 obtain ⟨e1, m1, xs1, pl', A, cap, k1, k2, k3, _⟩ := (hg.objs id ob hob).que p off hq
 rw [h1] at k1
 cases k1
 rw [h2] at k2
 simp only [Option.some.injEq, Prod.mk.injEq] at k2
 obtain ⟨rfl, rfl⟩ := k2
 obtain ⟨b, off2, rfl, hFb⟩ := k3 (by omega)
 have e1 : a.eval x = .slice (some ⟨b, off2, none⟩) xs.length cap := h3.1
 refine ⟨.pointer (some ⟨b, off2 + i.toNat * e.size, none⟩), ?_, ?_⟩
 ·simp only [execOp, ho, e1, e2, Sem.run_bind, run_indexAt_slice hc.ty hT w b off2 xs.length cap i ik hi.1 hi.2, Result.andThen_ok]
  rfl
 ·refine ⟨LogOk.now hob, fun o2 ho2 _ _ => ?_⟩
  rw [hob] at ho2
  cases ho2
  refine ⟨b, off2 + i.toNat * e.size, readCells w b (off2 + i.toNat * e.size) e.size, e, m, List.getD xs i.toNat e.zero, ?_, ?_, rfl⟩
  ·rw [getP_app p _ h1]; simp only [getP]
  ·rw [nav_app p _ h1 h2]
   simp only [nav]
   rw [if_pos hi]
theorem ok_indexAddr_mark {x y : Operand} {t id n d : Nat} {p : Path} {ob : Obj} {ik : IntKind} {e : Kd} {m : Md} {xs : List e.T} {i : Int} {q2 : Option Obj} (hc : CtxOk c) (ho : o.op = .indexAddr t x y)
  (hok : okAl ob n p = true) (hgp : getP ob.K ob.m ob.x p = some ⟨.sl e, .own m, xs⟩) (ht : tyIs c t (.sl e) = true) (hi : 0 ≤ i ∧ i < (xs.length : Int))
  (hcond : (noHole ob && !hasIdx p && !ob.par) = true) (hd : o.dst = some d) (hlt : Nat.blt d nt = true)
  (hk : k ⟨[(d, .pt id ob.log.length (p ++ [.idx i]))], [(id, some { ob with hl := some (queP p 0) })]⟩ = some out) : Step1 c B nt o [(.al id n p, some ob), (.v (.int ik) i, q2)] fr k out := by
 simp only [Bool.and_eq_true, Bool.not_eq_true'] at hcond
 refine mark_que (s := .pt id ob.log.length (p ++ [.idx i])) (ok_indexAddr_al hc ho (by rw [hcond.1.1, hok]; rfl) hgp ht hi (by rw [hd]; show (if Nat.blt d nt = true then _ else none) = _; rw [if_pos hlt]; rfl))
  (fun e0 hv1 => view_al (views_two hv1 (x := x) (y := y) (by rw [ho]; rfl)).1) hgp hcond.1.2 hcond.2 (noHole_ok hcond.1.1) hk
theorem prefP_ok {Ω : Type} : ∀ {q p : Path} {k : Option Ω} {out : Ω}, prefP q p k = some out → (∃ r, p = q ++ r) ∧ k = some out
 | [], p, k, out, h => ⟨⟨p, rfl⟩, by cases p <;> exact h⟩
 | .inn :: q, .inn :: p, k, out, h => by obtain ⟨⟨r, e⟩, h2⟩ := prefP_ok (q := q) (p := p) h; exact ⟨⟨r, by rw [e]; rfl⟩, h2⟩
 | .fst :: q, .fst :: p, k, out, h => by obtain ⟨⟨r, e⟩, h2⟩ := prefP_ok (q := q) (p := p) h; exact ⟨⟨r, by rw [e]; rfl⟩, h2⟩
 | .snd :: q, .snd :: p, k, out, h => by obtain ⟨⟨r, e⟩, h2⟩ := prefP_ok (q := q) (p := p) h; exact ⟨⟨r, by rw [e]; rfl⟩, h2⟩
 | .idx i :: q, .idx j :: p, k, out, h => by
  have h' : (if i = j then prefP q p k else none) = some out := h
  split at h'
  ·rename_i e1; subst e1; obtain ⟨⟨r, e⟩, h2⟩ := prefP_ok (q := q) (p := p) h'; exact ⟨⟨r, by rw [e]; rfl⟩, h2⟩
  ·cases h'
 | .inn :: _, [], _, _, h | .inn :: _, .fst :: _, _, _, h | .inn :: _, .snd :: _, _, _, h | .inn :: _, .idx _ :: _, _, _, h => by cases h
 | .fst :: _, [], _, _, h | .fst :: _, .inn :: _, _, _, h | .fst :: _, .snd :: _, _, _, h | .fst :: _, .idx _ :: _, _, _, h => by cases h
 | .snd :: _, [], _, _, h | .snd :: _, .inn :: _, _, _, h | .snd :: _, .fst :: _, _, _, h | .snd :: _, .idx _ :: _, _, _, h => by cases h
 | .idx _ :: _, [], _, _, h | .idx _ :: _, .inn :: _, _, _, h | .idx _ :: _, .fst :: _, _, _, h | .idx _ :: _, .snd :: _, _, _, h => by cases h
theorem ok_indexAddr_hole {x y : Operand} {t id n : Nat} {p h : Path} {ob : Obj} {ik : IntKind} {e : Kd} {m : Md} {xs : List e.T} {i : Int} {q2 : Option Obj} (hc : CtxOk c) (ho : o.op = .indexAddr t x y)
  (hh : ob.hl = some h) (hgp : getP ob.K ob.m ob.x p = some ⟨.sl e, .own m, xs⟩) (hcond : (!isQ h && !hasIdx p && okAl ob n p && tyIs c t (.sl e)) = true)
  (hk : prefP (p ++ [.idx i]) h (put1 nt o.dst (.pt id ob.log.length (p ++ [.idx i])) k) = some out) : Step1 c B nt o [(.al id n p, some ob), (.v (.int ik) i, q2)] fr k out := by
 simp only [Bool.and_eq_true, Bool.not_eq_true'] at hcond
 obtain ⟨⟨⟨hnq, hx⟩, hok⟩, ht⟩ := hcond
 obtain ⟨⟨r, rfl⟩, hk2⟩ := prefP_ok hk
 obtain ⟨hT, _⟩ := tyIs_ok hc.ty ht
 refine stepOk_pure hk2 fun e0 he a w g hg => ?_
 obtain ⟨v1, v2⟩ := views_two he.1 (x := x) (y := y) (by rw [ho]; rfl)
 have e2 := rep_int (view_rep hg v2)
 have hob := view_al v1
 obtain ⟨q, cs', K', m', x', h1, h2, h3⟩ := (view_rep hg v1).2 ob hob hok (.inr hx)
 rw [h1] at hgp
 cases hgp
 obtain ⟨q0, cs0, K0, m0, x0, k1, k2, _⟩ := (hg.objs id ob hob).hole _ hh hnq
 rw [List.append_assoc, nav_app p _ h1 h2] at k2
 obtain ⟨b, off, n2, cap, rfl, i1, i2, i3⟩ := nav_idx k2
 have e1 : a.eval x = .slice (some ⟨b, off, none⟩) n2 cap := h3.1
 refine ⟨.pointer (some ⟨b, off + i.toNat * e.size, none⟩), ?_, ?_⟩
 ·simp only [execOp, ho, e1, e2, Sem.run_bind, run_indexAt_slice hc.ty hT w b off n2 cap i ik i1 i2, Result.andThen_ok]
  rfl
 ·refine ⟨LogOk.now hob, fun o2 ho2 _ _ => ?_⟩
  rw [hob] at ho2
  cases ho2
  refine ⟨b, off + i.toNat * e.size, readCells w b (off + i.toNat * e.size) e.size, e, m, List.getD xs i.toNat e.zero, ?_, ?_, rfl⟩
  ·rw [getP_app p _ h1]; simp only [getP]
  ·rw [nav_app p _ h1 h2]
   simp only [nav]
   rw [if_pos ⟨i1, i2⟩]
theorem ok_load_take {x : Operand} {t id n : Nat} {p q : Path} {ob : Obj} {e : Kd} {m : Md} {xs : List e.T} {i off : Int} (hc : CtxOk c) (ho : o.op = .load t x) (hix : ixOf p = some (q, i)) (hq : queAt ob q = some off)
  (hgp : getP ob.K ob.m ob.x q = some ⟨.sl e, .own m, xs⟩) (hcond : (okPt ob n p && tyIs c t e) = true) (hoi : off ≤ i)
  (hk : putNew nt o.dst fr ⟨e, m, List.getD xs i.toNat e.zero, false, false, [], none⟩ false [(id, some { ob with hl := some (queP q (i + 1)) })] k = some out) : Step1 c B nt o [(.pt id n p, some ob)] fr k out := by
 rw [Bool.and_eq_true] at hcond
 have hp := ixOf_ok hix
 subst hp
 obtain ⟨hT, _⟩ := tyIs_ok hc.ty hcond.2
 have hx := (queAt_ok hq).1
 refine step_take hk rfl rfl rfl fun e0 he d a w g hd hg => ?_
 have hv := views_one he (x := x) (by rw [ho]; rfl)
 have hob := view_pt hv
 obtain ⟨b1, off1, cs1, K1, m1, x1, h1, h2, h3⟩ := (view_rep hg hv).2 ob hob hcond.1 (.inr (.inl (app_idx1 hx)))
 obtain ⟨e', m', xs', pl', A, cap, k1, k2, k3⟩ := (hg.objs id ob hob).que q off hq
 rw [hgp] at k1
 cases k1
 rw [nav_app q _ hgp k2] at h2
 obtain ⟨b2, o2, n2, cap2, e1, i1, i2, i3⟩ := nav_idx h2
 simp only [List.cons.injEq, Value.slice.injEq, and_true] at e1
 obtain ⟨rfl, rfl, rfl⟩ := e1
 have hlt : i.toNat < xs.length := by omega
 obtain ⟨b3, o3, vs, F1, e2, c1, c2, c3, c4⟩ := k3.take hlt (by omega)
 simp only [Option.some.injEq, Addr.mk.injEq, and_true] at e2
 obtain ⟨rfl, rfl⟩ := e2
 rw [readCells_of c1 c2.length] at i3
 simp only [nav, Option.some.injEq, Prod.mk.injEq] at i3
 obtain ⟨⟨rfl, rfl⟩, rfl⟩ := i3
 have hne : id ≠ d := fun e => by subst e; rw [hd] at hob; cases hob
 have hlk : ∀ j r, look [(id, some { ob with hl := some (queP q (i + 1)) })] j = some r → j = id ∧ r = some { ob with hl := some (queP q (i + 1)) } := by
  intro j r hj
  by_cases hji : id = j
  ·subst hji; rw [look_cons_self] at hj; exact ⟨rfl, (Option.some.inj hj).symm⟩
  ·rw [look_cons_ne hji] at hj; simp [look] at hj
 have O := hg.objs id ob hob
 have hval : List.getD xs i.toNat e.zero = xs[i.toNat] := by simp [List.getD, hlt]
 refine ⟨e.val vs, w, fun j b => j = id ∧ F1 b, F1, none, vs, ?_, ?_, Ext.refl _ _, ?_, ?_, fun b hb => .inr ⟨id, rfl, hb⟩, (fun b off h => by cases h), ⟨by rw [hval]; exact c2, (fun b off h => by cases h)⟩, rfl, ?_, c2.vrep hT.np⟩
 ·simp only [execOp, ho, h3, Instr.loadAt, Sem.run_bind, run_sure, Result.andThen_ok, run_loadVar hT c2.length c1]
  rfl
 ·rintro j b ⟨rfl, hb⟩
  exact ⟨⟨_, look_cons_self _ _ _⟩, (by
   obtain ⟨b', o', hA, _⟩ := k3.1 (by omega)
   exact c3 b hb)⟩
 ·intro j r hj
  obtain ⟨rfl, _⟩ := hlk j r hj
  exact ⟨ob, hob⟩
 ·intro j b hj _
  obtain ⟨_, h⟩ := hlk j _ hj
  cases h
 ·intro j o' hj _
  obtain ⟨rfl, h⟩ := hlk j _ hj
  cases h
  generalize hC : (fun (k : Nat) (b : Nat) => k = j ∧ F1 b) = C
  have hlks : look [(j, some { ob with hl := some (queP q (i + 1)) })] j = some (some { ob with hl := some (queP q (i + 1)) }) := look_cons_self _ _ _
  have gF : (g.take d [(j, some { ob with hl := some (queP q (i + 1)) })] C F1 none vs).F j = fun b => g.F j b ∧ ¬ F1 b := by
   funext b
   simp only [Gh.take, if_neg hne, ← hC]
   apply propext
   exact ⟨fun ⟨a1, a2⟩ => ⟨a1, fun h => a2 ⟨trivial, h⟩⟩, fun ⟨a1, a2⟩ => ⟨a1, fun h => a2 h.2⟩⟩
  have gp : (g.take d [(j, some { ob with hl := some (queP q (i + 1)) })] C F1 none vs).pl j = g.pl j := by simp only [Gh.take, if_neg hne, hlks]
  have gc : (g.take d [(j, some { ob with hl := some (queP q (i + 1)) })] C F1 none vs).cs j = g.cs j := by simp only [Gh.take, if_neg hne]
  have eobj : (Env.mk e0.slots ((d, some (⟨e, m, List.getD xs i.toNat e.zero, false, false, [], none⟩ : Obj)) :: [(j, some { ob with hl := some (queP q (i + 1)) })] ++ e0.objs)).obj j = some (some { ob with hl := some (queP q (i + 1)) }) := by
   show look ((d, _) :: ((j, _) :: e0.objs)) j = _
   rw [look_cons_ne (fun e1 => hne e1.symm), look_cons_self]
  refine ⟨⟨(fun h => by cases h), (fun p' hp' hq' => by cases hp'; rw [isQ_queP hx] at hq'; cases hq'), by rw [gp]; exact O.box, (fun h => by rw [gp, gc]; exact O.par h), (fun b off h => O.plx b off (by rw [← gp]; exact h)), fun q0 off' hq' => ?_⟩, ?_, ?_⟩
  ·obtain ⟨rfl, rfl⟩ := queAt_one hq' (queAt_mk (o := { ob with hl := some (queP q (i + 1)) }) hx rfl)
   rw [gF, gp, gc]
   refine ⟨e, m, xs, pl', _, _, hgp, k2, ?_⟩
   have : i + 1 = ((i.toNat : Int) + 1) := by omega
   rw [this]
   exact c4
  ·intro n' p' v' hs
   refine ⟨⟨by rw [eobj]; simp, fun o2 ho2 => by rw [eobj] at ho2; cases ho2; exact hs.1.2 ob hob⟩, fun o2 ho2 hk2 hh2 => ?_⟩
   rw [eobj] at ho2
   cases ho2
   have hp2 : hasIdx p' = false := hh2.elim (fun h => by cases h) (fun h => h)
   obtain ⟨q1, c1', K1, m1, x1, a1, a2, a3⟩ := hs.2 ob hob hk2 (.inr hp2)
   exact ⟨q1, c1', K1, m1, x1, a1, by rw [gp, gc]; exact a2, a3⟩
  ·intro n' p' v' hs
   refine ⟨⟨by rw [eobj]; simp, fun o2 ho2 => by rw [eobj] at ho2; cases ho2; exact hs.1.2 ob hob⟩, fun o2 ho2 hk2 hh2 => ?_⟩
   rw [eobj] at ho2
   cases ho2
   have hh3 : ob.hl = none ∨ idx1 p' = true ∨ (ob.hl = some p' ∧ isQ p' = false) := by
    rcases hh2 with h | h | ⟨h, h'⟩
    ·cases h
    ·exact .inr (.inl h)
    ·cases h; rw [isQ_queP hx] at h'; cases h'
   obtain ⟨b1, off1, c1', K1, m1, x1, a1, a2, a3⟩ := hs.2 ob hob hk2 hh3
   exact ⟨b1, off1, c1', K1, m1, x1, a1, by rw [gp, gc]; exact a2, a3⟩
end
end Go.Abs
namespace Go.Abs
variable {B : Base}
theorem zero_at (z : List Value) (n : Nat) : ∀ j, j < n * z.length → (Builtin.zeroCells z.toArray n).toList[j]? = some (z.getD (j % z.length) undef) := by
 intro j hj
 have hz : 0 < z.length := by
  cases z with
  | nil => simp at hj
  | cons _ _ => simp
 have hm : j % z.length < z.length := Nat.mod_lt _ hz
 simp only [Builtin.zeroCells, Array.toList_map, Array.toList_range, List.size_toArray, List.getElem?_map]
 rw [List.getElem?_range hj]
 simp only [Option.map_some, Option.some.injEq]
 simp only [List.getD, List.getElem?_eq_getElem hm, Option.getD_some]
 simp [hm]
theorem zero_len (z : List Value) (n : Nat) : (Builtin.zeroCells z.toArray n).toList.length = n * z.length := by
 simp [Builtin.zeroCells]
theorem own_clear {S : Nat → Prop} {w : World} {e : Kd} {m : Md} {xs : List e.T} {b o cap : Nat} {F : Nat → Prop} {l h : Nat} (ho : Own S w (.sl e) (.own m) xs [.slice (some ⟨b, o, none⟩) xs.length cap] F) (hm : Md.fits e m = true) (hlh : l ≤ h) (hh : h ≤ xs.length) (hS : ¬ S b) :
  Own S (w.setCells b (o + l * e.size) (Builtin.zeroCells e.zc.toArray (h - l)).toList) (.sl e) (.own m) (xs.take l ++ (List.replicate (h - l) e.zero ++ xs.drop h)) [.slice (some ⟨b, o, none⟩) xs.length cap] F := by
 obtain ⟨A', cap', e0, hl, hn, hr, G, hG, hG1, hG2, he⟩ := ho
 simp only [List.cons.injEq, Value.slice.injEq, and_true, true_and] at e0
 obtain ⟨rfl, rfl⟩ := e0
 have hz := zc_length e
 have hx := Ext.setCells w b (o + l * e.size) (Builtin.zeroCells e.zc.toArray (h - l)).toList
 rw [zero_len, hz] at hx
 have hlen : (xs.take l ++ (List.replicate (h - l) e.zero ++ xs.drop h)).length = xs.length := by simp; omega
 obtain ⟨_, hFb, hroom⟩ := hr _ rfl
 have inb : ∀ i, i < xs.length → i * e.size + e.size ≤ cap * e.size := fun i hi => by
  have : (i + 1) * e.size ≤ cap * e.size := Nat.mul_le_mul_right _ (by omega)
  rwa [Nat.add_mul, Nat.one_mul] at this
 have hex : ∀ j, j < (h - l) * e.size → ∃ v, w.cell? ⟨b, o + l * e.size + j, none⟩ = some v := fun j hj => by
  have h1 : l * e.size + (h - l) * e.size ≤ cap * e.size := by
   rw [← Nat.add_mul]; exact Nat.mul_le_mul_right _ (by omega)
  have := (hroom (l * e.size + j)).1 (by omega)
  rwa [← Nat.add_assoc] at this
 have hblt : xs.length = 0 ∨ b < w.heap.size := by
  rcases Nat.eq_zero_or_pos xs.length with h0 | h0
  ·exact .inl h0
  ·obtain ⟨v, hv⟩ := (hroom 0).1 (by have := inb 0 h0; have := e.size_pos; omega)
   exact .inr (lt_of_cell hv)
 refine ⟨some ⟨b, o, none⟩, cap, by rw [hlen], by rw [hlen]; exact hl, (fun h => by cases h), fun ad had => ?_, fun i c => ¬ (l ≤ i ∧ i < h) ∧ G i c, fun i c hc => hG i c hc.2, fun i ad had hc => hG1 i ad had hc.2, fun i j c hij hc hc' => hG2 i j c hij hc.2 hc'.2, fun i hi => ?_⟩
 ·cases had
  refine ⟨rfl, hFb, fun j => ?_⟩
  obtain ⟨hv0, hz2⟩ := hroom j
  refine ⟨fun hj => ?_, by rw [World.frozen?_setCells]; exact hz2⟩
  obtain ⟨v, hv⟩ := hv0 hj
  by_cases hin : o + l * e.size ≤ o + j ∧ o + j < o + l * e.size + (h - l) * e.size
  ·have h4 := World.cell?_setCells_in b (Builtin.zeroCells e.zc.toArray (h - l)).toList (o + l * e.size) w (fun k hk => by rw [zero_len, hz] at hk; obtain ⟨v, hv⟩ := hex k hk; rw [hv]; rfl) (o + j - (o + l * e.size)) (by rw [zero_len, hz]; omega)
   rw [show o + l * e.size + (o + j - (o + l * e.size)) = o + j by omega] at h4
   exact ⟨_, h4⟩
  ·exact ⟨v, by rw [World.cell?_setCells_out b _ _ _ _ (fun _ _ => by dsimp only; rw [zero_len, hz]; omega)]; exact hv⟩
 ·rw [hlen] at hi
  have hb : b < w.heap.size := by
   rcases hblt with h | h
   ·omega
   ·exact h
  by_cases hin : l ≤ i ∧ i < h
  ·refine ⟨b, o, e.zc, rfl, fun j hj => ?_, ?_⟩
   ·rw [hz] at hj
    have hk : (i - l) * e.size + j < (h - l) * e.size := by
     have : (i - l + 1) * e.size ≤ (h - l) * e.size := Nat.mul_le_mul_right _ (by omega)
     rw [Nat.add_mul, Nat.one_mul] at this
     omega
    have h4 := World.cell?_setCells_in b (Builtin.zeroCells e.zc.toArray (h - l)).toList (o + l * e.size) w (fun k hk => by rw [zero_len, hz] at hk; obtain ⟨v, hv⟩ := hex k hk; rw [hv]; rfl) ((i - l) * e.size + j) (by rw [zero_len, hz]; exact hk)
    have e1 : o + l * e.size + ((i - l) * e.size + j) = o + i * e.size + j := by
     have : l * e.size + (i - l) * e.size = i * e.size := by rw [← Nat.add_mul]; congr 1; omega
     omega
    rw [e1] at h4
    rw [h4]
    have h5 := zero_at e.zc (h - l) ((i - l) * e.size + j) (by rw [hz]; exact hk)
    rw [List.getElem?_eq_getElem (by rw [zero_len, hz]; exact hk)] at h5
    simp only [Option.some.injEq] at h5
    rw [h5, hz]
    have : ((i - l) * e.size + j) % e.size = j := by rw [Nat.add_comm, Nat.add_mul_mod_self_right, Nat.mod_eq_of_lt hj]
    rw [this]
    simp [List.getD, hz, hj]
   ·have e1 : (xs.take l ++ (List.replicate (h - l) e.zero ++ xs.drop h))[i]'(by rw [hlen]; exact hi) = e.zero := by
     rw [List.getElem_append_right (by simp; omega), List.getElem_append_left (by simp; omega), List.getElem_replicate]
    rw [e1]
    exact Md.fits_zero _ hm
  ·obtain ⟨b', o', vs, hA, hcs, hov⟩ := he i hi
   cases hA
   have hrow : ∀ j, j < e.size → ¬ (o + l * e.size ≤ o + i * e.size + j ∧ o + i * e.size + j < o + l * e.size + (h - l) * e.size) := by
    intro j hj hc
    rcases Nat.lt_or_ge i l with h1 | h1
    ·have : (i + 1) * e.size ≤ l * e.size := Nat.mul_le_mul_right _ (by omega)
     rw [Nat.add_mul, Nat.one_mul] at this
     omega
    ·have h2 : h ≤ i := by omega
     have : h * e.size ≤ i * e.size := Nat.mul_le_mul_right _ h2
     have : l * e.size + (h - l) * e.size = h * e.size := by rw [← Nat.add_mul]; congr 1; omega
     omega
   refine ⟨b, o, vs, rfl, fun j hj => ?_, ?_⟩
   ·rw [hov.length] at hj
    rw [World.cell?_setCells_out b _ _ _ _ (fun _ _ => by have := hrow j hj; dsimp only; rw [zero_len, hz]; omega)]
    exact hcs j (by rw [hov.length]; exact hj)
   ·have e1 : (xs.take l ++ (List.replicate (h - l) e.zero ++ xs.drop h))[i]'(by rw [hlen]; exact hi) = xs[i] := by
     rcases Nat.lt_or_ge i l with h1 | h1
     ·rw [List.getElem_append_left (by simp; omega), List.getElem_take]
     ·have h2 : h ≤ i := by omega
      rw [List.getElem_append_right (by simp; omega), List.getElem_append_right (by simp; omega), List.getElem_drop]
      congr 1
      simp
      omega
    rw [e1]
    have hGb : ¬ G i b := hG1 i _ rfl
    refine hov.mono (fun _ h => h) (fun c o' v hc hv => ?_) (fun c hc => ⟨hin, hc⟩) (fun c o' hc => ?_)
    ·rw [pk_setCells_out b _ _ _ _ _ (fun e1 => absurd e1 (fun e1 => hS (e1 ▸ hc)))]; exact hv
    ·have hcb : c ≠ b := fun e1 => hGb (e1 ▸ hc)
     exact ⟨pk_setCells_out b _ _ _ _ _ (fun e1 => absurd e1 hcb), World.frozen?_setCells _ _ _ _ _⟩
section
variable {c : Ctx} {nt : Nat} {o : Oper} {Ω : Type} {k : Delta → Option Ω} {out : Ω} {fr : Bool}
theorem stepOk_drop {P : Program} {e : Env} {os : List (Nat × Option Obj)} (hd : o.dst = none)
  (h : ∀ a w g, InvG P B nt e a w g → ∃ v w' g', (execOp a.eval o).run P w = .ok (.value v) w' ∧ InvG P B nt ⟨e.slots, os ++ e.objs⟩ a w' g') : StepOk P B nt o e (e.apply ⟨[], os⟩) := by
 intro a w ⟨g, hg⟩ next Q hn
 obtain ⟨v, w', g', hr, hi⟩ := h a w g hg
 unfold Oper.wp
 rw [hr, Oper.upon_value, hd]
 exact hn _ _ ⟨g', hi⟩
theorem ok_slice_sub {x : Operand} {lo hi : Option Operand} {t id n : Nat} {o2 : Obj} {e : Kd} {m : Md} {xs : List e.T} {bs : List View} {l h : Int} (hc : CtxOk c) (ho : o.op = .slice t x lo hi none) (ht : tyIs c t (.sl e) = true)
  (hg0 : getP o2.K o2.m o2.x [] = some ⟨.sl e, .own m, xs⟩) (hh : noHole o2 = true) (hok : okAl o2 n [] = true) (hb : Bnds lo hi bs xs.length l h) (h0 : 0 ≤ l ∧ l ≤ h ∧ h ≤ (xs.length : Int))
  (hk : put1 nt o.dst (.sub e id o2.log.length l h) k = some out) : Step1 c B nt o ((.al id n [], some o2) :: bs) fr k out := by
 obtain ⟨hT, _⟩ := tyIs_ok hc.ty ht
 obtain ⟨t', hu, hl'⟩ := hT.sl e rfl
 refine stepOk_pure hk fun e0 he a w g hg => ?_
 obtain ⟨v1, v2⟩ := views_slice ho he.1
 have hobj := view_al v1
 obtain ⟨q, cs', K', m', x', F', h1, h2, h3, f⟩ := al_focus hg v1 hh hok
 rw [h1] at hg0
 cases hg0
 obtain ⟨A, cap, rfl, hl, _⟩ := f.own
 have e1 : a.eval x = .slice A xs.length cap := h3.1
 obtain ⟨b1, b3⟩ := hb.low hg v2
 refine ⟨.slice (if cap = l.toNat then A else A.map (·.add (l.toNat * e.size))) (h.toNat - l.toNat) (cap - l.toNat), ?_, A, xs.length, cap, ?_, h0.1, h0.2.1, h0.2.2, hl, rfl⟩
 ·rw [exec_slice ho hu (by intros; simp), e1, run_slice_sl hc.ty hT b1 b3 h0 hl]
  rfl
 ·refine ⟨LogOk.now hobj, fun o3 ho3 _ _ => ?_⟩
  rw [hobj] at ho3
  cases ho3
  exact ⟨q, _, _, _, xs, h1, h2, h3.1 ▸ h3⟩
theorem SrcOwn.sub {P : Program} {S : Nat → Prop} {w : World} {e : Kd} {tx e' : Nat} {xs : List e.T} {F : Nat → Prop} {A : Option Addr} {cap l h : Nat} (hk : P.underlying tx = some (.slice e'))
  (ho : Own S w (.sl e) (.own .ro) xs [.slice A xs.length cap] F) (h1 : l ≤ h) (h2 : h ≤ xs.length) (F3 : Nat → Prop) :
  SrcOwn P S w e .ro tx (.slice (if cap = l then A else A.map (·.add (l * e.size))) (h - l) (cap - l)) ((xs.take h).drop l) F3 := by
 obtain ⟨A', cap', L, e0, c1, c2, c3, c4, c5, G, g1, g2, g3, g4⟩ := own_row ho
 simp only [List.cons.injEq, Value.slice.injEq, and_true, true_and] at e0
 obtain ⟨rfl, rfl⟩ := e0
 have hzl : ((xs.take h).drop l).length = h - l := by simp; omega
 have hh : h * e.size ≤ xs.length * e.size := Nat.mul_le_mul_right _ h2
 have hL : ((L.take (h * e.size)).drop (l * e.size)).length = (h - l) * e.size := by
  rw [List.length_drop, List.length_take, c4, Nat.sub_mul]
  omega
 have hel : ∀ i, i < h - l → elemAt ((L.take (h * e.size)).drop (l * e.size)) e.size i = elemAt L e.size (l + i) := by
  intro i hi
  have h3 : (l + i + 1) * e.size ≤ h * e.size := Nat.mul_le_mul_right _ (by omega)
  rw [Nat.add_mul, Nat.add_mul, Nat.one_mul] at h3
  unfold elemAt
  rw [List.drop_drop, List.drop_take, List.take_take, Nat.add_mul]
  congr 1
  omega
 have own : ∀ i (hi : i < ((xs.take h).drop l).length), Own S w e .ro ((xs.take h).drop l)[i] (elemAt ((L.take (h * e.size)).drop (l * e.size)) e.size i) (fun _ => False) := by
  intro i hi
  rw [hzl] at hi
  rw [hel i hi]
  have := g4 (l + i) (by omega)
  have e1 : ((xs.take h).drop l)[i] = xs[l + i] := by simp
  rw [e1]
  exact Own.ro.2 (Own.ro.1 this)
 refine ⟨(L.take (h * e.size)).drop (l * e.size), ?_, fun _ _ => False, fun _ _ h => h.elim, fun _ _ _ _ h => h.elim, own⟩
 rw [hzl]
 by_cases h0 : h - l = 0
 ·have hn : (L.take (h * e.size)).drop (l * e.size) = [] := List.length_eq_zero_iff.1 (by rw [hL, h0, Nat.zero_mul])
  rw [hn, h0]
  generalize (if cap = l then A else A.map (·.add (l * e.size))) = A2
  cases A2 with
  | none => exact Src.ofNil w hk _
  | some a => exact Src.ofSlice w hk a 0 _ [] (by simp) (fun j u hj => by simp at hj) (fun u hu => by cases hu)
 ·rw [if_neg (by omega)]
  cases A with
  | none => have := c2 rfl; omega
  | some ad =>
   obtain ⟨b, o, sp⟩ := ad
   have hsp : sp = none := (c3 _ rfl).1
   subst hsp
   refine Src.ofSlice w hk _ (h - l) (cap - l) _ hL (fun j u hj => ?_) (rows_one (by rw [hzl]; exact hL) own)
   have hlt : j < (h - l) * e.size := by rw [← hL]; exact (List.getElem?_eq_some_iff.1 hj).1
   rw [Nat.sub_mul] at hlt
   have h3 := c5 b o rfl (l * e.size + j) (by omega)
   rw [List.getElem?_drop, List.getElem?_take, if_pos (by omega), List.getElem?_eq_getElem (by omega)] at hj
   cases hj
   simpa [Addr.add_lit, Nat.add_assoc] using h3
theorem ok_append_sub {id n id3 n3 : Nat} {p : Path} {o2 o3 : Obj} {e : Kd} {m : Md} {xs ys : List e.T} {l h : Int} {old : Option Obj} {t tx : Nat} {as : Array Operand} (hc : CtxOk c)
  (ho : o.op = .call { callee := .builtin .append, args := as, argTypes := #[t, tx] }) (ht : tyIs c t (.sl e) = true) (htx : tyIs c tx (.sl e) = true) (hg0 : getP o2.K o2.m o2.x p = some ⟨.sl e, .own m, xs⟩) (hh : noHole o2 = true) (hok : okAl o2 n p = true)
  (hold : (old = none ∧ o2.box = false ∧ p = [] ∧ o2.par = false) ∨ (old = some { o2 with hl := some p } ∧ isQ p = false)) (hm : m.beq .ro = true) (hlen : xs.length + ((ys.take h.toNat).drop l.toNat).length ≤ lim)
  (h3 : (noHole o3 && okAl o3 n3 []) = true) (hz : getP o3.K o3.m o3.x [] = some ⟨.sl e, .own .ro, ys⟩)
  (hk : putNew nt o.dst fr ⟨.sl e, .own m, xs ++ (ys.take h.toNat).drop l.toNat, false, false, [], none⟩ false [(id, old)] k = some out) : Step1 c B nt o [(.al id n p, some o2), (.sub e id3 n3 l h, some o3)] fr k out := by
 have := Md.eq_of_beq hm
 subst this
 rw [Bool.and_eq_true] at h3
 obtain ⟨hT, _⟩ := tyIs_ok hc.ty htx
 obtain ⟨et, hu, _⟩ := hT.sl e rfl
 refine append_core (mv := []) hc ho ht hg0 hh hok hold (fun h => by cases h) hlen (fun e0 a w g hg y hy => ⟨?_, fun i h => by cases h⟩) hk
 have hobj : e0.obj id3 = some (some o3) := by
  have h1 : e0.opd y = .sub e id3 n3 l h := by
   have h2 := congrArg Prod.fst hy
   cases hs : e0.opd y <;> rw [hs] at h2 <;> first | exact h2 | cases h2
  rw [h1] at hy
  simp only [Env.view, Prod.mk.injEq, true_and] at hy
  cases ho : e0.obj id3 with
  | none => rw [ho] at hy; cases hy
  | some q => rw [ho] at hy; simp at hy; rw [hy]
 have hhl := noHole_ok h3.1
 obtain ⟨own1, _⟩ := (hg.objs id3 o3 hobj).own hhl
 obtain ⟨A, len, cap, hal, l0, l1, l2, l3, hval⟩ : SubRep g w e0.obj e id3 n3 l h (a.eval y) := view_rep hg hy
 obtain ⟨q, cs', K', m', x', g1, g2, g3⟩ := hal.2 o3 hobj h3.2 (.inl hhl)
 rw [hz] at g1
 cases g1
 simp only [nav, Option.some.injEq, Prod.mk.injEq] at g2
 rw [getP_nil] at hz
 obtain ⟨K3, m3, x3, b3, p3, lg, hl3⟩ := o3
 simp only [Option.some.injEq, Sigma.mk.injEq] at hz
 obtain ⟨rfl, hz⟩ := hz
 have hz := eq_of_heq hz
 simp only [Prod.mk.injEq] at hz
 obtain ⟨rfl, rfl⟩ := hz
 obtain ⟨A2, cap2, ecs, _⟩ := own1
 have hhead := g3.1
 rw [← g2.2, show g.cs id3 = _ from ecs] at hhead
 simp only [Kd.val, Kd.agg, Bool.false_eq_true, if_false, List.headD_cons, Value.slice.injEq] at hhead
 obtain ⟨rfl, rfl, rfl⟩ := hhead
 have own2 : Own g.S w (.sl e) (.own .ro) x3 [.slice A x3.length cap] (g.F id3) := by rw [← ecs]; exact ((hg.objs id3 _ hobj).own hhl).1
 rw [hval]
 exact SrcOwn.sub hu own2 (by omega) (by omega) _
theorem ok_clear {ts : Array Nat} {t id n : Nat} {o2 : Obj} {e : Kd} {m : Md} {xs : List e.T} {l h : Int} {x2 : o2.K.T} (hc : CtxOk c) (ho : ∃ as, o.op = .call { callee := .builtin .clear, args := as, argTypes := ts }) (hts : ts.toList = [t])
  (hd : o.dst = none) (hg0 : getP o2.K o2.m o2.x [] = some ⟨.sl e, .own m, xs⟩) (hcond : (tyIs c t (.sl e) && Md.fits e m && noHole o2 && okAl o2 n [] && !o2.box) = true)
  (hsp : setP o2.K o2.x [] (.sl e) (xs.take l.toNat ++ (List.replicate (h.toNat - l.toNat) e.zero ++ xs.drop h.toNat)) = some x2)
  (hk : k ⟨[], [(id, some { o2 with x := x2, log := some [.idx 0] :: o2.log })]⟩ = some out) : Step1 c B nt o [(.sub e id n l h, some o2)] fr k out := by
 obtain ⟨as, ho⟩ := ho
 simp only [Bool.and_eq_true] at hcond
 obtain ⟨⟨⟨⟨ht, hfit⟩, hh⟩, hok⟩, hbox⟩ := hcond
 obtain ⟨hT, _⟩ := tyIs_ok hc.ty ht
 obtain ⟨t', hu, hl'⟩ := hT.sl e rfl
 have hbox : o2.box = false := by simpa using hbox
 refine ⟨_, hk, fun e0 he => stepOk_drop hd fun a w g hg => ?_⟩
 have hvs := he.1
 have hops : o.op.operands = as := by rw [ho]; simp [Op.operands, Call.operands]
 obtain ⟨x, has⟩ : ∃ x, as = #[x] := by
  simp only [Env.views, Oper.opds, hops] at hvs
  have hl : as.toList.length = 1 := by have := congrArg List.length hvs; simpa using this
  obtain ⟨x, hx⟩ := List.length_eq_one_iff.1 hl
  exact ⟨x, by apply Array.ext'; simpa using hx⟩
 subst has
 have v1 := views_one hvs (x := x) hops
 have hobj : e0.obj id = some (some o2) := by
  have h1 : e0.opd x = .sub e id n l h := by
   have h2 := congrArg Prod.fst v1
   cases hs : e0.opd x <;> rw [hs] at h2 <;> first | exact h2 | cases h2
  rw [h1] at v1
  simp only [Env.view, Prod.mk.injEq, true_and] at v1
  cases ho : e0.obj id with
  | none => rw [ho] at v1; cases v1
  | some q => rw [ho] at v1; simp at v1; rw [v1]
 have hhl := noHole_ok hh
 have O := hg.objs id o2 hobj
 obtain ⟨own1, pl1⟩ := O.own hhl
 obtain ⟨A, len, cap, hal, l0, l1, l2, l3, hval⟩ : SubRep g w e0.obj e id n l h (a.eval x) := view_rep hg v1
 obtain ⟨q, cs', K', m', x', h1, h2, h3⟩ := hal.2 o2 hobj hok (.inl hhl)
 obtain ⟨K2, m2, z2, bx, pr, lg, hl2⟩ := o2
 simp only [getP, Option.some.injEq, Sigma.mk.injEq] at hg0 h1
 obtain ⟨rfl, hg1⟩ := hg0
 simp only [heq_eq_eq, Prod.mk.injEq] at hg1
 obtain ⟨rfl, rfl⟩ := hg1
 simp only [nav, Option.some.injEq, Prod.mk.injEq] at h2
 have hx2 : x2 = z2.take l.toNat ++ (List.replicate (h.toNat - l.toNat) e.zero ++ z2.drop h.toNat) := by
  unfold setP at hsp
  split at hsp
  ·simp only [Option.some.injEq] at hsp
   exact hsp.symm
  ·cases hsp
 obtain ⟨A2, cap2, ecs, hlc, hnil, hroom, _⟩ := own1
 have hK' : K' = .sl e := by
  obtain ⟨h4, _⟩ := h1
  exact h4.symm
 subst hK'
 have hhead : A2 = A ∧ z2.length = len ∧ cap2 = cap := by
  have := h3.1
  rw [← h2.2, show g.cs id = _ from ecs] at this
  simp only [Kd.val, Kd.agg, Bool.false_eq_true, if_false, List.headD_cons, Value.slice.injEq] at this
  exact ⟨this.1.symm, this.2.1.symm, this.2.2.symm⟩
 obtain ⟨rfl, rfl, rfl⟩ := hhead
 have hpl : g.pl id = none := by
  have hb9 : bx = (g.pl id).isSome := O.box
  cases hq : g.pl id with
  | none => rfl
  | some q => rw [hq] at hb9; rw [show bx = false from hbox] at hb9; cases hb9
 have hts' : ts = #[t] := by apply Array.ext'; simpa using hts
 obtain ⟨zi, zz, hz1, hz2, hz3, hz4, hz5, hz6⟩ := (hc.ty.get hl').info
 have e4 : (#[x] : Array Operand).map a.eval = #[a.eval x] := by simp
 have ecs' : g.cs id = [.slice A2 z2.length cap2] := ecs
 have own2 : Own g.S w (.sl e) (.own m) z2 [.slice A2 z2.length cap2] (g.F id) := by rw [← ecs']; exact (O.own hhl).1
 generalize ho3 : (⟨.sl e, .own m, x2, bx, pr, some [.idx 0] :: lg, hl2⟩ : Obj) = o3
 have al_ok : ∀ (g' : Gh) (w' : World) (ob' : Nat → Option (Option Obj)), ob' id = some (some o3) → g'.pl id = g.pl id → g'.cs id = g.cs id → ∀ n p v, AlRep g w e0.obj id n p v → AlRep g' w' ob' id n p v := by
  intro g' w' ob' hob' hp' hc' n2 p2 v2 hs
  refine ⟨⟨by rw [hob']; simp, fun o9 ho9 => by rw [hob'] at ho9; cases ho9; subst ho3; exact Nat.le_succ_of_le (hs.1.2 _ hobj)⟩, fun o9 ho9 hk9 _ => ?_⟩
  rw [hob'] at ho9
  cases ho9
  have hle := hs.1.2 _ hobj
  subst ho3
  unfold okAl at hk9
  simp only [since_cons hle, List.all_cons, Bool.and_eq_true] at hk9
  obtain ⟨q9, c9, K9, m9, x9, a1, a2, a3⟩ := hs.2 _ hobj hk9.2 (.inl hhl)
  cases p2 with
  | nil =>
   simp only [getP, Option.some.injEq] at a1
   cases a1
   refine ⟨q9, c9, .sl e, .own m, x2, rfl, ?_, a3⟩
   rw [hp', hc']
   simpa only [nav] using a2
  | cons s p2 =>
   exfalso
   cases s with
   | idx i => simp [hitAl, preP] at hk9
   | _ => simp [getP] at a1
 have pt_ok : ∀ (g' : Gh) (w' : World) (ob' : Nat → Option (Option Obj)), ob' id = some (some o3) → g'.pl id = g.pl id → g'.cs id = g.cs id → ∀ n p v, PtRep g w e0.obj id n p v → PtRep g' w' ob' id n p v := by
  intro g' w' ob' hob' hp' hc' n2 p2 v2 hs
  refine ⟨⟨by rw [hob']; simp, fun o9 ho9 => by rw [hob'] at ho9; cases ho9; subst ho3; exact Nat.le_succ_of_le (hs.1.2 _ hobj)⟩, fun o9 ho9 hk9 _ => ?_⟩
  rw [hob'] at ho9
  cases ho9
  have hle := hs.1.2 _ hobj
  subst ho3
  unfold okPt at hk9
  simp only [since_cons hle, List.all_cons, Bool.and_eq_true] at hk9
  obtain ⟨b9, off9, c9, K9, m9, x9, a1, a2, a3⟩ := hs.2 _ hobj hk9.2 (.inl hhl)
  cases p2 with
  | nil =>
   exfalso
   simp only [nav, Option.some.injEq, Prod.mk.injEq] at a2
   rw [hpl] at a2
   cases a2.1
  | cons s p2 =>
   cases s with
   | idx i =>
    have hi : hasIdx p2 = false := by simpa [hitPt, preP] using hk9.1
    obtain ⟨c3, a4⟩ := nav_idx1 (w2 := w') (.idx i :: p2) (by show (!hasIdx p2) = true; rw [hi]; rfl) a2
    have a1' : getP e m (List.getD z2 i.toNat e.zero) p2 = some ⟨K9, m9, x9⟩ := a1
    obtain ⟨m8, x8, a5⟩ := getP_fields p2 (m2 := m) (y := List.getD x2 i.toNat e.zero) hi a1'
    exact ⟨b9, off9, c3, K9, m8, x8, a5, by rw [hp', hc']; exact a4, a3⟩
   | _ => simp [getP] at a1
 have obj_ok : ∀ (g' : Gh) (w' : World), g'.pl id = g.pl id → g'.cs id = g.cs id → Own g'.S w' (.sl e) (.own m) x2 [.slice A2 z2.length cap2] (g'.F id) → ObjOk g' w' B id o3 := by
  intro g' w' hp' hc' hown
  subst ho3
  refine ⟨fun _ => ⟨by rw [hc', ecs']; exact hown, fun b off h => by rw [hp', hpl] at h; cases h⟩, (fun p hp => by rw [show hl2 = none from hhl] at hp; cases hp), by rw [hp']; exact O.box, (fun hp => by rw [hp', hc']; exact O.par hp), (fun b off h => by rw [hp', hpl] at h; cases h), fun q off hq => no_que hhl hq⟩
 have hself : ∀ sl, (Env.mk sl ([(id, some o3)] ++ e0.objs)).obj id = some (some o3) := fun sl => look_cons_self _ _ _
 by_cases hlh : h.toNat = l.toNat
 ·-- nothing is cleared
  have hrun : (execOp a.eval o).run c.P w = .ok (.value (.tuple #[])) w := by
   have key : (Builtin.clear_ ts o.type #[a.eval x]).run c.P w = .ok (.tuple #[]) w := by
    rw [hts', hval, hlh, Nat.sub_self]
    generalize (if cap2 = l.toNat then A2 else A2.map (·.add (l.toNat * e.size))) = A3
    cases A3 <;> simp [Builtin.clear_, run_underlying hu]
   simp only [execOp, ho, resolve, e4, Sem.run_bind, Sem.run_pure, Result.andThen_ok, invoke, builtin, key]
  have hx3 : x2 = z2 := by rw [hx2, hlh, Nat.sub_self, List.replicate_zero, List.nil_append, List.take_append_drop]
  have hobj2 : ∀ i, (Env.mk e0.slots ([(id, some o3)] ++ e0.objs)).obj i = if i = id then some (some o3) else e0.obj i := by
   intro i
   show look ((id, some o3) :: e0.objs) i = _
   by_cases hi : i = id
   ·subst hi; rw [look_cons_self, if_pos rfl]
   ·rw [look_cons_ne (fun e => hi e.symm), if_neg hi]; rfl
  refine ⟨_, _, g, hrun, hg.change (e' := ⟨e0.slots, [(id, some o3)] ++ e0.objs⟩) (fun i => i = id) rfl hg.ext (fun _ h => h) (fun _ _ _ _ h => h) hg.Ssz hg.Fsz hg.Sb hg.Fb hg.FS hg.FF hg.plz
   (fun i hi => ⟨by rw [hobj2, if_neg hi], rfl, rfl, rfl, fun _ _ _ => ⟨rfl, rfl⟩, fun _ _ _ _ => ⟨rfl, rfl⟩⟩) (fun i hi hno => absurd (by rw [hi]; exact hself _) (hno o3)) (fun i o9 hi ho9 => ?_) (fun i hi n p v hs => ?_) (fun i hi n p v hs => ?_)⟩
  ·subst hi
   rw [hself] at ho9
   cases ho9
   exact obj_ok g w rfl rfl (by rw [hx3]; exact own2)
  ·subst hi; exact al_ok g w _ (hself _) rfl rfl n p v hs
  ·subst hi; exact pt_ok g w _ (hself _) rfl rfl n p v hs
 ·have hlt : l.toNat < h.toNat := by omega
  have hpos : 0 < z2.length := by omega
  obtain ⟨A', cap', e0', hl9, hn9, hr9, G, hG, hG1, hG2, he9⟩ := (show Own g.S w (.sl e) (.own m) z2 [.slice A2 z2.length cap2] (g.F id) from own2)
  simp only [List.cons.injEq, Value.slice.injEq, and_true, true_and] at e0'
  obtain ⟨rfl, rfl⟩ := e0'
  obtain ⟨b, off, _, rfl, _⟩ := he9 0 hpos
  obtain ⟨_, hFb, hroom9⟩ := hr9 _ rfl
  have hS : ¬ g.S b := hg.FS id b hFb
  have hcl := own_clear own2 hfit (l := l.toNat) (h := h.toNat) (by omega) (by omega) hS
  rw [← hx2] at hcl
  have hz := zc_length e
  have hb : b < w.heap.size := hg.Fsz id b hFb
  have hin : ∀ j, j < (h.toNat - l.toNat) * e.size → l.toNat * e.size + j < cap2 * e.size := by
   intro j hj
   have : l.toNat * e.size + (h.toNat - l.toNat) * e.size = h.toNat * e.size := by rw [← Nat.add_mul]; congr 1; omega
   have : h.toNat * e.size ≤ cap2 * e.size := Nat.mul_le_mul_right _ (by omega)
   omega
  have hrun : (execOp a.eval o).run c.P w = .ok (.value (.tuple #[])) (w.setCells b (off + l.toNat * e.size) (Builtin.zeroCells e.zc.toArray (h.toNat - l.toNat)).toList) := by
   have key : (Builtin.clear_ ts o.type #[a.eval x]).run c.P w = .ok (.tuple #[]) (w.setCells b (off + l.toNat * e.size) (Builtin.zeroCells e.zc.toArray (h.toNat - l.toNat)).toList) := by
    rw [hts', hval, if_neg (by omega)]
    obtain ⟨n9, hn9⟩ : ∃ n9, h.toNat - l.toNat = n9 + 1 := ⟨h.toNat - l.toNat - 1, by omega⟩
    have hst := run_storeCells_cells (P := c.P) b (off + l.toNat * e.size) (Builtin.zeroCells e.zc.toArray (h.toNat - l.toNat)).toList 0 w
     (fun j hj => by
      rw [zero_len, hz] at hj
      obtain ⟨v, hv⟩ := (hroom9 (l.toNat * e.size + j)).1 (hin j hj)
      rw [show off + l.toNat * e.size + 0 + j = off + (l.toNat * e.size + j) by omega]
      rw [show (w.cell? ⟨b, off + (l.toNat * e.size + j), none⟩) = some v from hv]; rfl)
     (fun j hj => by
      rw [zero_len, hz] at hj
      rw [show off + l.toNat * e.size + 0 + j = off + (l.toNat * e.size + j) by omega]
      exact (hroom9 (l.toNat * e.size + j)).2)
     (fun v hv => by
      obtain ⟨j, hj, rfl⟩ := List.mem_iff_getElem.1 hv
      have h5 := zero_at e.zc (h.toNat - l.toNat) j (by rw [zero_len] at hj; exact hj)
      rw [List.getElem?_eq_getElem hj] at h5
      simp only [Option.some.injEq] at h5
      rw [h5]
      have hm9 : j % e.zc.length < e.zc.length := Nat.mod_lt _ (by rw [hz]; exact e.size_pos)
      rw [List.getD_eq_getElem?_getD, List.getElem?_eq_getElem hm9, Option.getD_some]
      exact e.zc_one _ (List.getElem_mem hm9))
    rw [hn9] at hst ⊢
    simp only [Option.map_some, add_nospot] at *
    simp only [Builtin.clear_, List.getElem?_toArray, List.getElem?_cons_zero, Sem.run_bind, run_underlying hu, Result.andThen_ok]
    have hzv : (zeroValue t').run c.P w = .ok zz w := by
     simp only [zeroValue, typeInfo, Sem.run_bind, run_program, Result.andThen_ok, hz1, Sem.run_pure, hz4]
    rw [hzv, Result.andThen_ok, hz5, hst]
    rfl
   simp only [execOp, ho, resolve, e4, Sem.run_bind, Sem.run_pure, Result.andThen_ok, invoke, builtin, key]
  have gF : (g.stored id [] (g.F id) (g.cs id)).F id = g.F id := by funext b; simp [Gh.stored]
  have gp : (g.stored id [] (g.F id) (g.cs id)).pl id = g.pl id := by simp [Gh.stored]
  have gc : (g.stored id [] (g.F id) (g.cs id)).cs id = g.cs id := by simp [Gh.stored]
  refine ⟨_, _, _, hrun, hg.stored hobj [] (by simp) (fun i h => by cases h) (vs := (Builtin.zeroCells e.zc.toArray (h.toNat - l.toNat)).toList) hb (.inr hFb) (g.F id) (fun b h => .inl h) (g.cs id) o3
   (obj_ok _ _ gp gc (by rw [gF]; exact hcl)) (fun n p v hs => al_ok _ _ _ (hself _) gp gc n p v hs) (fun n p v hs => pt_ok _ _ _ (hself _) gp gc n p v hs)⟩
end
end Go.Abs
namespace Go.Abs
def Arg.size : Arg → Nat
 | .mp K _ _ => K.size
 | _ => 0
def ArgRep (P : Program) (S : Nat → Prop) (w : World) (F : Nat → Prop) (pl : Place) (cs : List Value) : Arg → Value → Prop
 | .ro K x, v => (∀ b, ¬ F b) ∧ pl = none ∧ ∃ cs, RO S w K x cs ∧ VRep K cs v
 | .rp K x, v => (∀ b, ¬ F b) ∧ pl = none ∧ PtrRO S w K x v
 | .mp K m x, v => ∃ b off, pl = some (b, off) ∧ v = .pointer (some ⟨b, off, none⟩) ∧ Own S w K m x cs F ∧ PlOk w pl cs
 | .ms K m x, v => pl = none ∧ Own S w K m x cs F ∧ VRep K cs v
 | .mv K m x, v => pl = none ∧ Own S w K m x cs F ∧ VRep K cs v
 | .fn Ks Kr f, v => (∀ b, ¬ F b) ∧ pl = none ∧ CloRep P S w Ks Kr f v
 | .fc f fs caps, v => (∀ b, ¬ F b) ∧ pl = none ∧ ∃ fv cv : List Value, v = .func (.func f) fv.toArray cv.toArray ∧ FsRep S w fs fv ∧ CapsRep S w caps cv
structure Entry (P : Program) (w : World) (args : List Arg) (vals : List Value) (g : Gh) : Prop where
 len : vals.length = args.length
 arg : ∀ j a v, args[j]? = some a → vals[j]? = some v → ArgRep P g.S w (g.F j) (g.pl j) (g.cs j) a v
 rest : ∀ j, args.length ≤ j → (∀ b, ¬ g.F j b) ∧ g.pl j = none
 Ssz : ∀ b, g.S b → b < w.heap.size
 Fsz : ∀ j b, g.F j b → b < w.heap.size
 FS : ∀ j b, g.F j b → ¬ g.S b
 FF : ∀ i j b, i ≠ j → g.F i b → ¬ g.F j b
 plz : ∀ i b off, g.pl i = some (b, off) → b < w.heap.size ∧ ¬ g.S b ∧ (∀ j, ¬ g.F j b) ∧ ∀ j off', g.pl j = some (b, off') → i = j
 glob : GlobOk P g.S w
def Wr (args : List Arg) (g : Gh) (b o : Nat) : Prop := (∃ j, g.F j b) ∨ ∃ j a off, args[j]? = some a ∧ g.pl j = some (b, off) ∧ off ≤ o ∧ o < off + a.size
def OutsRep (w2 : World) (g g2 : Gh) : Nat → List Arg → List KV → Prop
 | j, .mp K m _ :: as, q :: l => (∃ y, q = ⟨K, y⟩ ∧ Own g2.S w2 K m y (g2.cs j) (g2.F j) ∧ PlOk w2 (g.pl j) (g2.cs j)) ∧ OutsRep w2 g g2 (j + 1) as l
 | j, .ms K m _ :: as, q :: l => (∃ y, q = ⟨K, y⟩ ∧ Own g2.S w2 K m y (g.cs j) (g2.F j)) ∧ OutsRep w2 g g2 (j + 1) as l
 | _, .mp _ _ _ :: _, [] => False
 | _, .ms _ _ _ :: _, [] => False
 | j, .ro _ _ :: as, l => OutsRep w2 g g2 (j + 1) as l
 | j, .rp _ _ :: as, l => OutsRep w2 g g2 (j + 1) as l
 | j, .mv _ _ _ :: as, l => OutsRep w2 g g2 (j + 1) as l
 | j, .fn _ _ _ :: as, l => OutsRep w2 g g2 (j + 1) as l
 | j, .fc _ _ _ :: as, l => OutsRep w2 g g2 (j + 1) as l
 | _, [], [] => True
 | _, [], _ :: _ => False
def RetRep (S : Nat → Prop) (w : World) (F : Nat → Prop) (cs : List Value) : RV → Value → Prop
 | .ro K x, v => (∀ b, ¬ F b) ∧ RO S w K x cs ∧ VRep K cs v
 | .own K m x, v => Own S w K m x cs F ∧ VRep K cs v
 | .bx K m x, v => ∃ b off, F b ∧ v = .pointer (some ⟨b, off, none⟩) ∧ Own S w K m x cs (fun b' => F b' ∧ b' ≠ b) ∧ PlOk w (some (b, off)) cs
def RetsRep (w : World) (g : Gh) (n : Nat) : List RV → Value → Prop
 | [], _ => True
 | [r], v => RetRep g.S w (g.F n) (g.cs n) r v
 | l, v => ∃ vs : Array Value, v = .tuple vs ∧ vs.size = l.length ∧ ∀ i r u, l[i]? = some r → vs[i]? = some u → RetRep g.S w (g.F (n + i)) (g.cs (n + i)) r u
structure Done (w w2 : World) (args : List Arg) (g g2 : Gh) (res : Res) (v : Value) : Prop where
 ext : Ext w w2 (Wr args g)
 S : ∀ b, g.S b → g2.S b
 Sb : ∀ b, g2.S b → g.S b ∨ (∃ j, g.F j b) ∨ w.heap.size ≤ b
 Ssz : ∀ b, g2.S b → b < w2.heap.size
 Fb : ∀ j b, g2.F j b → (∃ i, g.F i b) ∨ w.heap.size ≤ b
 Fsz : ∀ j b, g2.F j b → b < w2.heap.size
 FS : ∀ j b, g2.F j b → ¬ g2.S b
 FF : ∀ i j b, i ≠ j → g2.F i b → ¬ g2.F j b
 outs : OutsRep w2 g g2 0 args res.outs
 rets : RetsRep w2 g2 args.length res.rets v
def Ans (P : Program) (f : Nat) (args : List Arg) (res : Res) : Prop :=
 ∀ w vals g, Entry P w args vals g → Calls P f vals.toArray w fun e w2 => ∃ v g2, e = .returned v ∧ Done w w2 args g g2 res v
structure MOk (c : Ctx) : Prop where
 uni : ∀ (f : Nat) (args : List Arg) (Ω : Type) (K : Res → Option Ω), c.M f args K = (c.M f args some).bind K
 body : ∀ f ams, ams ∈ c.sg f → ∃ fn, c.P.funcs[f]? = some fn ∧ fn.name ≠ "runtime.NumGoroutine" ∧ fn.body.isNone = false
 ans : ∀ f (args : List Arg) (Ω : Type) (K : Res → Option Ω) (out : Ω), c.M f args K = some out → ∃ res, K res = some out ∧ Ans c.P f args res
def Gh.has (g : Gh) (id b : Nat) : Prop := (∃ off, g.pl id = some (b, off)) ∨ g.F id b
theorem InvG.has_one {P : Program} {B : Base} {nt : Nat} {e : Env} {a : Act} {w : World} {g : Gh} (h : InvG P B nt e a w g) {i j b : Nat} (h1 : g.has i b) (h2 : g.has j b) : i = j := by
 rcases h1 with ⟨o1, h1⟩ | h1 <;> rcases h2 with ⟨o2, h2⟩ | h2
 ·exact (h.plz i b o1 h1).2.2.2 j o2 h2
 ·exact absurd h2 ((h.plz i b o1 h1).2.2.1 j)
 ·exact absurd h1 ((h.plz j b o2 h2).2.2.1 i)
 ·exact Classical.byContradiction fun hne => h.FF i j b hne h1 h2
theorem InvG.has_lt {P : Program} {B : Base} {nt : Nat} {e : Env} {a : Act} {w : World} {g : Gh} (h : InvG P B nt e a w g) {i b : Nat} (h1 : g.has i b) : b < w.heap.size ∧ ¬ g.S b := by
 rcases h1 with ⟨o1, h1⟩ | h1
 ·exact ⟨(h.plz i b o1 h1).1, (h.plz i b o1 h1).2.1⟩
 ·exact ⟨h.Fsz i b h1, h.FS i b h1⟩
def Link (P : Program) (S : Nat → Prop) (w : World) (g : Gh) (ob : Nat → Option (Option Obj)) (F : Nat → Prop) (pl : Place) (cs : List Value) : AM → View → Arg → Value → Prop
 | .mp, (.pt id n p, some o), arg, v => ob id = some (some o) ∧ o.hl = none ∧ okPt o n p = true ∧ ∃ K m x b off, arg = .mp K m x ∧ pl = some (b, off) ∧ v = .pointer (some ⟨b, off, none⟩) ∧ getP o.K o.m o.x p = some ⟨K, m, x⟩ ∧
   nav w p o.K (g.pl id) (g.cs id) = some (pl, cs) ∧ Focus g.S w p o.K o.m o.x (g.cs id) (g.F id) (g.pl id) K m x cs pl F
 | .ms, (.al id n p, some o), arg, v => ob id = some (some o) ∧ o.hl = none ∧ okAl o n p = true ∧ pl = none ∧ ∃ K m x q, msOk K m = true ∧ arg = .ms K m x ∧ VRep K cs v ∧ getP o.K o.m o.x p = some ⟨K, m, x⟩ ∧
   nav w p o.K (g.pl id) (g.cs id) = some (q, cs) ∧ Focus g.S w p o.K o.m o.x (g.cs id) (g.F id) (g.pl id) K m x cs q F
 | .mv, (.al id n p, some o), arg, v => ob id = some (some o) ∧ o.hl = none ∧ o.par = false ∧ pl = none ∧ ∃ K m x q, arg = .mv K m x ∧ VRep K cs v ∧ getP o.K o.m o.x p = some ⟨K, m, x⟩ ∧
   nav w p o.K (g.pl id) (g.cs id) = some (q, cs) ∧ Focus g.S w p o.K o.m o.x (g.cs id) (g.F id) (g.pl id) K m x cs q F
 | .ro, _, arg, v => (∀ b, ¬ F b) ∧ pl = none ∧ ∃ K x, arg = .ro K x ∧ ∃ cs, RO S w K x cs ∧ VRep K cs v
 | .rp, _, arg, v => (∀ b, ¬ F b) ∧ pl = none ∧ ∃ K x, arg = .rp K x ∧ PtrRO S w K x v
 | .fn Ks Kr, _, arg, v => (∀ b, ¬ F b) ∧ pl = none ∧ ∃ f, arg = .fn Ks Kr f ∧ CloRep P S w Ks Kr f v
 | .fc _ _ _, _, arg, v => (∀ b, ¬ F b) ∧ pl = none ∧ ∃ f fs caps, arg = .fc f fs caps ∧ ∃ fv cv : List Value, v = .func (.func f) fv.toArray cv.toArray ∧ FsRep S w fs fv ∧ CapsRep S w caps cv
 | _, _, _, _ => False
theorem Link.rep {P : Program} {S : Nat → Prop} {w : World} {g : Gh} {ob : Nat → Option (Option Obj)} {F : Nat → Prop} {pl : Place} {cs : List Value} (hS : ∀ b, g.S b → S b) : ∀ {am : AM} {v : View} {arg : Arg} {x : Value}, Link P S w g ob F pl cs am v arg x → ArgRep P S w F pl cs arg x := by
 intro am v arg x h
 unfold Link at h
 split at h
 ·obtain ⟨_, _, _, K, m, z, b, off, rfl, rfl, rfl, _, _, f⟩ := h
  exact ⟨b, off, rfl, rfl, f.own.mono hS (fun _ _ _ _ h => h) (fun _ h => h) (fun _ _ _ => ⟨rfl, rfl⟩), f.ok⟩
 ·obtain ⟨_, _, _, rfl, e, m, z, q, _, rfl, hv, _, _, f⟩ := h
  exact ⟨rfl, f.own.mono hS (fun _ _ _ _ h => h) (fun _ h => h) (fun _ _ _ => ⟨rfl, rfl⟩), hv⟩
 ·obtain ⟨_, _, _, rfl, K, m, x, q, rfl, hv, _, _, f⟩ := h
  exact ⟨rfl, f.own.mono hS (fun _ _ _ _ h => h) (fun _ h => h) (fun _ _ _ => ⟨rfl, rfl⟩), hv⟩
 ·obtain ⟨h1, rfl, K, z, rfl, h⟩ := h
  exact ⟨h1, rfl, h⟩
 ·obtain ⟨h1, rfl, K, z, rfl, h⟩ := h
  exact ⟨h1, rfl, h⟩
 ·obtain ⟨h1, rfl, f, rfl, h⟩ := h
  exact ⟨h1, rfl, h⟩
 ·obtain ⟨h1, rfl, f, fs, caps, rfl, h⟩ := h
  exact ⟨h1, rfl, h⟩
 ·exact h.elim
def Gh.lend (g : Gh) (L : List Nat) (b : Nat) : Prop := g.S b ∨ ∃ i, i ∈ L ∧ g.has i b
variable {B : Base}
theorem lend_al {P : Program} {nt : Nat} {e : Env} {a : Act} {w : World} {g : Gh} (hg : InvG P B nt e a w g) {x : Operand} {id n : Nat} {p : Path} {o : Obj} {L : List Nat} (hL : id ∈ L) (hv : e.view (e.opd x) = (.al id n p, some o))
  (hc : (noHole o && okAl o n p) = true) {K : Kd} {m : Md} {z : K.T} (hg0 : getP o.K o.m o.x p = some ⟨K, m, z⟩) : ∃ cs, RO (g.lend L) w K z cs ∧ VRep K cs (a.eval x) := by
 rw [Bool.and_eq_true] at hc
 obtain ⟨q, cs', K', m', x', F', f1, f2, f3, f⟩ := al_focus hg hv hc.1 hc.2
 rw [hg0] at f1
 cases f1
 exact ⟨cs', Own.toRO (fun b hb => .inl hb) (fun b hb => .inr ⟨id, hL, .inr (f.sub b hb)⟩) f.own, f3⟩
theorem lend_pt {P : Program} {nt : Nat} {e : Env} {a : Act} {w : World} {g : Gh} (hg : InvG P B nt e a w g) {x : Operand} {id n : Nat} {p : Path} {o : Obj} {L : List Nat} (hL : id ∈ L) (hv : e.view (e.opd x) = (.pt id n p, some o))
  (hc : (noHole o && okPt o n p) = true) {K : Kd} {m : Md} {z : K.T} (hg0 : getP o.K o.m o.x p = some ⟨K, m, z⟩) : PtrRO (g.lend L) w K z (a.eval x) := by
 rw [Bool.and_eq_true] at hc
 obtain ⟨b, off, cs', K', m', x', F', f1, f2, f3, f⟩ := pt_focus hg hv hc.1 hc.2
 rw [hg0] at f1
 cases f1
 obtain ⟨a1, a2⟩ := f.at_ b off rfl
 refine ⟨b, off, cs', f3, .inr ⟨id, hL, ?_⟩, (f.ok b off rfl).1, Own.toRO (fun b hb => .inl hb) (fun b hb => .inr ⟨id, hL, .inr (f.sub b hb)⟩) f.own⟩
 rcases a2 with ⟨o0, e1, _⟩ | h
 ·exact .inl ⟨o0, e1⟩
 ·exact .inr h
end Go.Abs
namespace Go.Abs
variable {B : Base}
def ROArgs (P : Program) (S : Nat → Prop) (w : World) : List Arg → List Value → Prop
 | [], vs => vs = []
 | a :: as, vs => ∃ v r, vs = v :: r ∧ ((∃ K x, a = .ro K x ∧ ∃ cs, RO S w K x cs ∧ VRep K cs v) ∨ (∃ K x, a = .rp K x ∧ PtrRO S w K x v)) ∧ ROArgs P S w as r
theorem ROArgs.app {P : Program} {S : Nat → Prop} {w : World} : ∀ {a1 a2 : List Arg} {v1 v2 : List Value}, ROArgs P S w a1 v1 → ROArgs P S w a2 v2 → ROArgs P S w (a1 ++ a2) (v1 ++ v2)
 | [], _, v1, _, h1, h2 => by rw [show v1 = [] from h1]; exact h2
 | a :: as, _, _, _, ⟨v, r, e, h, h1⟩, h2 => by subst e; exact ⟨v, _, rfl, h, ROArgs.app h1 h2⟩
theorem ROArgs.ts {P : Program} {S : Nat → Prop} {w : World} : ∀ {Ks : List Kd} {a : Kd.Ts Ks} {vs : List Value}, TsRep S w Ks a vs → ROArgs P S w (tsArgs Ks a) vs
 | [], _, _, h => h
 | K :: Ks, a, _, ⟨v, r, cs, e, h1, h2, h3⟩ => ⟨v, r, e, .inl ⟨K, a.1, rfl, cs, h1, h2⟩, ROArgs.ts h3⟩
theorem ROArgs.caps {P : Program} {S : Nat → Prop} {w : World} : ∀ {l : List KV} {vs : List Value}, CapsRep S w l vs → ROArgs P S w (rpArgs l) vs
 | [], _, h => h
 | ⟨K, x⟩ :: l, _, ⟨v, r, e, h1, h2⟩ => ⟨v, r, e, .inr ⟨K, x, rfl, h1⟩, ROArgs.caps h2⟩
theorem ROArgs.fs {P : Program} {S : Nat → Prop} {w : World} : ∀ {l : List KV} {vs : List Value}, FsRep S w l vs → ROArgs P S w (roArgs l) vs
 | [], _, h => h
 | ⟨K, x⟩ :: l, _, ⟨v, r, e, h1, h2⟩ => ⟨v, r, e, .inl ⟨K, x, rfl, h1⟩, ROArgs.fs h2⟩
theorem ROArgs.at_ {P : Program} {S : Nat → Prop} {w : World} : ∀ {as : List Arg} {vs : List Value}, ROArgs P S w as vs → vs.length = as.length ∧ ∀ (j : Nat) (a : Arg) (v : Value), as[j]? = some a → vs[j]? = some v → ArgRep P S w (fun _ => False) none [] a v ∧ a.size = 0
 | [], _, h => by rw [show _ = [] from h]; exact ⟨rfl, fun j a v h => by simp at h⟩
 | a :: as, _, ⟨v, r, e, h, h1⟩ => by
  subst e
  obtain ⟨i1, i2⟩ := ROArgs.at_ h1
  refine ⟨by simp [i1], fun j a' v' ha hv => ?_⟩
  cases j with
  | zero =>
   simp only [List.getElem?_cons_zero, Option.some.injEq] at ha hv
   subst ha
   subst hv
   rcases h with ⟨K, x, rfl, h⟩ | ⟨K, x, rfl, h⟩
   ·exact ⟨⟨fun _ h => h, rfl, h⟩, rfl⟩
   ·exact ⟨⟨fun _ h => h, rfl, h⟩, rfl⟩
  | succ j => exact i2 j a' v' (by simpa using ha) (by simpa using hv)
theorem ro_entry {P : Program} {S : Nat → Prop} {w : World} {as : List Arg} {vs : List Value} (h : ROArgs P S w as vs) (hS : ∀ b, S b → b < w.heap.size) (hG : GlobOk P S w) : Entry P w as vs ⟨S, fun _ _ => False, fun _ => none, fun _ => []⟩ := by
 obtain ⟨h1, h2⟩ := h.at_
 exact ⟨h1, fun j a v ha hv => (h2 j a v ha hv).1, fun _ _ => ⟨fun _ h => h, rfl⟩, hS, fun _ _ h => h.elim, fun _ _ h => h.elim, fun _ _ _ _ h => h.elim, (fun _ _ _ h => by cases h), hG⟩
theorem clo_fv {c : Ctx} (hM : MOk c) {S : Nat → Prop} {w : World} {f : Nat} {fs caps : List KV} {Ks : List Kd} {Kr : Kd} {fv cv : List Value} {ams : List AM} (hsg : ams ∈ c.sg f) (hfs : FsRep S w fs fv) (hcap : CapsRep S w caps cv) :
  CloRep c.P S w Ks Kr (fvP c f fs caps Ks Kr) (.func (.func f) fv.toArray cv.toArray) := by
 refine ⟨f, fv, cv, rfl, hM.body f ams hsg, fun S1 w1 h1 h2 h3 hG a r vals hf ht => ?_⟩
 obtain ⟨res, hres, hans⟩ := hM.ans f _ _ _ _ hf
 have hargs : ROArgs c.P S1 w1 (roArgs fs ++ (tsArgs Ks a ++ rpArgs caps)) (fv ++ (vals ++ cv)) := ROArgs.app (ROArgs.fs (hfs.mono h1 h3)) (ROArgs.app (ROArgs.ts ht) (ROArgs.caps (hcap.mono h1 h3)))
 have := hans w1 _ _ (ro_entry hargs h2 hG)
 refine this.mono ?_
 rintro e w2 ⟨v, g2, rfl, hd⟩
 refine ⟨v, rfl, hd.ext.mono ?_, ?_⟩
 ·rintro b o _ (⟨j, h⟩ | ⟨j, a, off, _, h, _⟩)
  ·exact h
  ·cases h
 ·have hr := hd.rets
  unfold one at hres
  have hSb : ∀ b, g2.S b → S1 b ∨ w1.heap.size ≤ b := fun b hb => by
   rcases hd.Sb b hb with h | ⟨j, h⟩ | h
   ·exact .inl h
   ·exact h.elim
   ·exact .inr h
  have hFb : ∀ j b, g2.F j b → w1.heap.size ≤ b := fun j b hb => by
   rcases hd.Fb j b hb with ⟨i, h⟩ | h
   ·exact h.elim
   ·exact h
  cases res with
  | mk rets outs =>
   cases outs with
   | cons _ _ => cases rets with
    | nil => simp at hres
    | cons r0 l => cases l <;> cases r0 <;> simp at hres
   | nil =>
    cases rets with
    | nil => simp at hres
    | cons r0 l =>
     cases l with
     | cons _ _ => cases r0 <;> simp at hres
     | nil =>
      cases r0 with
      | ro K x =>
       simp only at hres
       split at hres
       ·rename_i hk
        have := Kd.eq_of_beq hk
        subst this
        cases hres
        obtain ⟨_, r1, r2⟩ := hr
        exact ⟨g2.S, hd.S, hSb, hd.Ssz, _, r1, r2⟩
       ·cases hres
      | bx K m x => simp at hres
      | own K m x =>
       simp only at hres
       split at hres
       ·rename_i hk
        have := Kd.eq_of_beq hk
        subst this
        cases hres
        obtain ⟨r1, r2⟩ := hr
        refine ⟨fun b => g2.S b ∨ g2.F _ b, fun b hb => .inl (hd.S b hb), fun b hb => ?_, fun b hb => ?_, _, Own.toRO (fun b hb => .inl hb) (fun b hb => .inr hb) r1, r2⟩
        ·rcases hb with hb | hb
         ·exact hSb b hb
         ·exact .inr (hFb _ b hb)
        ·rcases hb with hb | hb
         ·exact hd.Ssz b hb
         ·exact hd.Fsz _ b hb
       ·cases hres
theorem view_fv {P : Program} {nt : Nat} {e : Env} {a : Act} {w : World} {g : Gh} (hg : InvG P B nt e a w g) {x : Operand} {f : Nat} {fs : List KV} {l : List CapV} {q : Option Obj} (hv : e.view (e.opd x) = (.fvr f fs l, q)) :
  ∃ caps, l = caps.map e.cap ∧ FvRep g w e.obj f fs caps (a.eval x) := by
 have h2 := congrArg Prod.fst hv
 have h0 := Inv.eval hg x
 cases hs : e.opd x with
 | fv f' fs' caps =>
  rw [hs] at h2 h0
  cases h2
  exact ⟨caps, rfl, h0⟩
 | fvr => rw [hs] at h0; exact h0.elim
 | _ => rw [hs] at h2; cases h2
theorem cap_obj {e : Env} {id n : Nat} {o : Obj} (h : e.cap (.pt id n) = .pt id n (some o)) : e.obj id = some (some o) := by
 have h : CapV.pt id n (e.obj id).join = .pt id n (some o) := h
 simp only [CapV.pt.injEq, true_and] at h
 cases ho : e.obj id with
 | none => rw [ho] at h; cases h
 | some q => rw [ho] at h; simp at h; rw [h]
theorem lend_caps {P : Program} {nt : Nat} {e : Env} {a : Act} {w : World} {g : Gh} (hg : InvG P B nt e a w g) {L : List Nat} : ∀ {caps : List Cap} {cv : List Value} {cs : List KV}, CapsOk g w e.obj caps cv → capVals (caps.map e.cap) = some cs →
  (∀ i, i ∈ capIds (caps.map e.cap) → i ∈ L) → CapsRep (g.lend L) w cs cv
 | [], cv, cs, h, hc, _ => by
  simp only [List.map_nil, capVals, Option.some.injEq] at hc
  subst hc
  exact h
 | .rp K x :: caps, cv, cs, ⟨v, r, e1, h1, h2⟩, hc, hL => by
  unfold capVals at hc
  simp only [List.map_cons, Env.cap] at hc
  split at hc
  ·cases hc
   exact ⟨v, r, e1, PtrRO.mono (fun b hb => .inl hb) (fun _ _ _ _ h => h) h1, lend_caps hg h2 (by assumption) hL⟩
  ·cases hc
 | .pt id n :: caps, cv, cs, ⟨v, r, e1, h1, h2⟩, hc, hL => by
  have hL1 : id ∈ L := hL id (by simp [Env.cap, capIds])
  have hL2 : ∀ i, i ∈ capIds (caps.map e.cap) → i ∈ L := fun i hi => hL i (by simp [Env.cap, capIds]; exact .inr hi)
  unfold capVals at hc
  simp only [List.map_cons] at hc
  split at hc
  ·rename_i h0; cases h0
  ·rename_i h0; simp [Env.cap] at h0
  ·rename_i id' n' o l' h0
   simp only [List.cons.injEq] at h0
   obtain ⟨h0, rfl⟩ := h0
   have hn : id' = id ∧ n' = n := by simp only [Env.cap, CapV.pt.injEq] at h0; exact ⟨h0.1.symm, h0.2.1.symm⟩
   obtain ⟨rfl, rfl⟩ := hn
   have ho := cap_obj h0
   split at hc
   ·rename_i hcond
    rw [Bool.and_eq_true] at hcond
    split at hc
    ·cases hc
     refine ⟨v, r, e1, ?_, lend_caps hg h2 (by assumption) hL2⟩
     obtain ⟨b, off, cs', K', m', x', a1, a2, a3⟩ := h1.2 o ho hcond.2 (.inl (noHole_ok hcond.1))
     simp only [nav, Option.some.injEq, Prod.mk.injEq] at a2
     obtain ⟨o1, o2⟩ := (hg.objs id' o ho).own (noHole_ok hcond.1)
     exact ⟨b, off, g.cs id', a3, .inr ⟨id', hL1, .inl ⟨off, a2.1⟩⟩, (o2 b off a2.1).1, Own.toRO (fun b hb => .inl hb) (fun b hb => .inr ⟨id', hL1, .inr hb⟩) o1⟩
    ·cases hc
   ·cases hc
  ·rename_i h0; cases hc
def takenAt : AM → View → Option Nat
 | .mp, (.pt id _ _, _) => some id
 | .ms, (.al id _ _, _) => some id
 | .mv, (.al id _ _, _) => some id
 | _, _ => none
theorem taken_cons (am : AM) (ams : List AM) (v : View) (vs : List View) : taken (am :: ams) (v :: vs) = match takenAt am v with | some id => id :: taken ams vs | none => taken ams vs := by
 obtain ⟨s, q⟩ := v
 cases am <;> cases s <;> rfl
structure Link1 (P : Program) (L : List Nat) (w : World) (g : Gh) (ob : Nat → Option (Option Obj)) (F : Nat → Prop) (pl : Place) (cs : List Value) (am : AM) (v : View) (arg : Arg) (x : Value) : Prop where
 link : Link P (g.lend L) w g ob F pl cs am v arg x
 sub : ∀ b, F b → ∃ id, takenAt am v = some id ∧ g.F id b
 place : ∀ b off, pl = some (b, off) → (∃ id, takenAt am v = some id ∧ g.has id b) ∧ ¬ F b
theorem link_one {c : Ctx} (hM : MOk c) {nt : Nat} {e : Env} {a : Act} {w : World} {g : Gh} (hg : InvG c.P B nt e a w g) {L : List Nat} {x : Operand} {t : Nat} {am : AM} {v : View} {arg : Arg} (hv : e.view (e.opd x) = v) (ha : argOf c t am v = some arg)
  (hL : ∀ i, i ∈ lent [am] [v] → i ∈ L) : ∃ F pl cs, Link1 c.P L w g e.obj F pl cs am v arg (a.eval x) := by
 have none1 : ∀ {F : Nat → Prop}, (∀ b, ¬ F b) → ∀ b, F b → ∃ id, takenAt am v = some id ∧ g.F id b := fun h b hb => absurd hb (h b)
 have none2 : ∀ (F : Nat → Prop) b off, (none : Place) = some (b, off) → (∃ id, takenAt am v = some id ∧ g.has id b) ∧ ¬ F b := fun _ _ _ h => by cases h
 unfold argOf at ha
 split at ha
 ·cases ha
  obtain ⟨cs, h1, h2⟩ := view_rep hg hv
  exact ⟨fun _ => False, none, [], ⟨⟨fun _ h => h, rfl, _, _, rfl, cs, h1.mono (fun b hb => .inl hb) (fun _ _ _ _ h => h), h2⟩, none1 (fun _ h => h), none2 _⟩⟩
 ·split at ha
  ·rename_i el hl
   cases ha
   have hr : a.eval x = .slice none 0 0 := view_rep hg hv
   refine ⟨fun _ => False, none, [], ⟨⟨fun _ h => h, rfl, _, _, rfl, [.slice none 0 0], ⟨none, 0, rfl, Nat.le_refl _, fun i hi => absurd hi (Nat.not_lt_zero i)⟩, ?_⟩, none1 (fun _ h => h), none2 _⟩⟩
   rw [hr]
   exact ⟨rfl, rfl⟩
  ·cases ha
 ·rename_i id n p o
  split at ha
  ·rename_i hc
   split at ha
   ·rename_i K m z hg0
    cases ha
    exact ⟨fun _ => False, none, [], ⟨⟨fun _ h => h, rfl, _, _, rfl, lend_al hg (hL id (by simp [lent])) hv hc hg0⟩, none1 (fun _ h => h), none2 _⟩⟩
   ·cases ha
  ·cases ha
 ·cases ha
  have : PtrRO g.S w _ _ (a.eval x) := view_rep hg hv
  exact ⟨fun _ => False, none, [], ⟨⟨fun _ h => h, rfl, _, _, rfl, this.mono (fun b hb => .inl hb) (fun _ _ _ _ h => h)⟩, none1 (fun _ h => h), none2 _⟩⟩
 ·rename_i id n p o
  split at ha
  ·rename_i hc
   split at ha
   ·rename_i K m z hg0
    cases ha
    exact ⟨fun _ => False, none, [], ⟨⟨fun _ h => h, rfl, _, _, rfl, lend_pt hg (hL id (by simp [lent])) hv hc hg0⟩, none1 (fun _ h => h), none2 _⟩⟩
   ·cases ha
  ·cases ha
 ·rename_i id n p o
  split at ha
  ·rename_i hc
   split at ha
   ·rename_i K m z hg0
    cases ha
    rw [Bool.and_eq_true] at hc
    obtain ⟨b, off, cs', K', m', x', F', f1, f2, f3, f⟩ := pt_focus hg hv hc.1 hc.2
    rw [hg0] at f1
    cases f1
    refine ⟨F', some (b, off), cs', ⟨⟨view_pt hv, noHole_ok hc.1, hc.2, K, m, z, b, off, rfl, rfl, f3, hg0, f2, f⟩, fun b hb => ⟨id, rfl, f.sub b hb⟩, fun b' off' e1 => ?_⟩⟩
    obtain ⟨a1, a2⟩ := f.at_ b' off' e1
    refine ⟨⟨id, rfl, ?_⟩, a1⟩
    rcases a2 with ⟨o0, e2, _⟩ | h
    ·exact .inl ⟨o0, e2⟩
    ·exact .inr h
   ·cases ha
  ·cases ha
 ·rename_i id n p o
  split at ha
  ·rename_i hc
   split at ha
   ·rename_i el m z hg0
    split at ha
    ·rename_i hms
     cases ha
     rw [Bool.and_eq_true] at hc
     obtain ⟨q, cs', K', m', x', F', f1, f2, f3, f⟩ := al_focus hg hv hc.1 hc.2
     rw [hg0] at f1
     cases f1
     exact ⟨F', none, cs', ⟨⟨view_al hv, noHole_ok hc.1, hc.2, rfl, el, m, z, q, hms, rfl, f3, hg0, f2, f⟩, fun b hb => ⟨id, rfl, f.sub b hb⟩, none2 _⟩⟩
    ·cases ha
   ·cases ha
  ·cases ha
 ·rename_i id n p o
  split at ha
  ·rename_i hc
   simp only [Bool.and_eq_true] at hc
   split at ha
   ·rename_i K m z hg0
    cases ha
    obtain ⟨q, cs', K', m', x', F', f1, f2, f3, f⟩ := al_focus hg hv hc.1.1 hc.1.2
    rw [hg0] at f1
    cases f1
    exact ⟨F', none, cs', ⟨⟨view_al hv, noHole_ok hc.1.1, by simpa using hc.2, rfl, K, m, z, q, rfl, f3, hg0, f2, f⟩, fun b hb => ⟨id, rfl, f.sub b hb⟩, none2 _⟩⟩
   ·cases ha
  ·cases ha
 ·split at ha
  ·rename_i hc
   rw [Bool.and_eq_true] at hc
   cases ha
   have e1 := Kd.eq_of_beqs hc.1
   have e2 := Kd.eq_of_beq hc.2
   subst e1
   subst e2
   have : CloRep c.P g.S w _ _ _ (a.eval x) := view_rep hg hv
   exact ⟨fun _ => False, none, [], ⟨⟨fun _ h => h, rfl, _, rfl, this.mono (fun b hb => .inl hb) (fun _ _ _ _ h => h)⟩, none1 (fun _ h => h), none2 _⟩⟩
  ·cases ha
 ·split at ha
  ·rename_i cs ams _ hcs hsg
   cases ha
   obtain ⟨caps, rfl, fv, cv, e1, h1, h2⟩ := view_fv hg hv
   refine ⟨fun _ => False, none, [], ⟨⟨fun _ h => h, rfl, _, rfl, ?_⟩, none1 (fun _ h => h), none2 _⟩⟩
   rw [e1]
   exact clo_fv hM (ams := ams) (by rw [hsg]; exact List.mem_cons_self) (h1.mono (fun b hb => .inl hb) (fun _ _ _ _ h => h)) (lend_caps hg h2 hcs (fun i hi => hL i (by simpa [lent] using hi)))
  ·cases ha
 ·split at ha
  ·rename_i cs hcs
   split at ha
   ·cases ha
    obtain ⟨caps, rfl, fv, cv, e1, h1, h2⟩ := view_fv hg hv
    exact ⟨fun _ => False, none, [], ⟨⟨fun _ h => h, rfl, _, _, _, rfl, fv, cv, e1, h1.mono (fun b hb => .inl hb) (fun _ _ _ _ h => h), lend_caps hg h2 hcs (fun i hi => hL i (by simpa [lent] using hi))⟩, none1 (fun _ h => h), none2 _⟩⟩
   ·cases ha
  ·cases ha
 ·cases ha
def fcons {α : Type} (x : α) (f : Nat → α) : Nat → α
 | 0 => x
 | n + 1 => f n
theorem links {c : Ctx} (hM : MOk c) {nt : Nat} {e : Env} {a : Act} {w : World} {g : Gh} (hg : InvG c.P B nt e a w g) {L : List Nat} : ∀ (ts : List Nat) (ams : List AM) (xs : List Operand) (vs : List View) (args : List Arg),
  xs.map (fun x => e.view (e.opd x)) = vs → argsOf c ts ams vs = some args → (∀ i, i ∈ lent ams vs → i ∈ L) →
  args.length = xs.length ∧ ams.length = xs.length ∧ ∃ (F : Nat → Nat → Prop) (pl : Nat → Place) (cs : Nat → List Value), (∀ j, args.length ≤ j → (∀ b, ¬ F j b) ∧ pl j = none) ∧
   ∀ (j : Nat) (am : AM) (v : View) (arg : Arg) (x : Operand), ams[j]? = some am → vs[j]? = some v → args[j]? = some arg → xs[j]? = some x → Link1 c.P L w g e.obj (F j) (pl j) (cs j) am v arg (a.eval x)
 | [], [], [], _, args, hv, ha, _ => by
  rw [List.map_nil] at hv
  subst hv
  simp only [argsOf, Option.some.injEq] at ha
  subst ha
  exact ⟨rfl, rfl, fun _ _ => False, fun _ => none, fun _ => [], fun _ _ => ⟨fun _ h => h, rfl⟩, fun j am v arg x h => by simp at h⟩
 | t :: ts, am :: ams, x :: xs, v :: vs, args, hv, ha, hL => by
  simp only [List.map_cons, List.cons.injEq] at hv
  unfold argsOf at ha
  split at ha
  ·rename_i arg l h1 h2
   cases ha
   have hlent : lent (am :: ams) (v :: vs) = lent [am] [v] ++ lent ams vs := by
    obtain ⟨s, q⟩ := v
    cases am <;> cases s <;> simp [lent]
   obtain ⟨F0, pl0, cs0, k0⟩ := link_one hM hg hv.1 h1 (fun i hi => hL i (by rw [hlent]; exact List.mem_append_left _ hi))
   obtain ⟨i1, i2, F, pl, cs, i3, i4⟩ := links hM hg ts ams xs vs l hv.2 h2 (fun i hi => hL i (by rw [hlent]; exact List.mem_append_right _ hi))
   refine ⟨by simp [i1], by simp [i2], fcons F0 F, fcons pl0 pl, fcons cs0 cs, fun j hj => ?_, fun j am' v' arg' x' ha' hv' hg' hx' => ?_⟩
   ·cases j with
    | zero => simp at hj
    | succ j => exact i3 j (by simpa using hj)
   ·cases j with
    | zero =>
     simp only [List.getElem?_cons_zero, Option.some.injEq] at ha' hv' hg' hx'
     subst ha'; subst hv'; subst hg'; subst hx'
     exact k0
    | succ j => exact i4 j am' v' arg' x' (by simpa using ha') (by simpa using hv') (by simpa using hg') (by simpa using hx')
  ·cases ha
 | [], _ :: _, _, _, _, _, ha, _ => by simp [argsOf] at ha
 | [], [], _ :: _, _, _, hv, ha, _ => by subst hv; simp [argsOf] at ha
 | _ :: _, [], _, _, _, _, ha, _ => by simp [argsOf] at ha
 | _ :: _, _ :: _, [], _, _, hv, ha, _ => by subst hv; simp [argsOf] at ha
 | _ :: _, _ :: _, _ :: _, [], _, hv, _, _ => by cases hv
end Go.Abs
namespace Go.Abs
variable {B : Base}
inductive OutAt (w2 : World) (gc g2 : Gh) (j : Nat) (id : Nat) : AM → View → Arg → Option Obj → Prop where
 | mp {n : Nat} {p : Path} {o : Obj} {K : Kd} {m : Md} {z y : K.T} {m2 : Md} {x2 : o.K.T} (hg : getP o.K o.m o.x p = some ⟨K, m, z⟩) (hm : setM o.m p m = some m2) (hs : setP o.K o.x p K y = some x2)
   (ho : Own g2.S w2 K m y (g2.cs j) (g2.F j)) (hp : PlOk w2 (gc.pl j) (g2.cs j)) (hfx : ¬ (o.fx && !hasIdx p) = true) : OutAt w2 gc g2 j id .mp (.pt id n p, some o) (.mp K m z) (some { o with m := m2, x := x2, log := some p :: o.log })
 | ms {n : Nat} {p : Path} {o : Obj} {K : Kd} {m : Md} {z y : K.T} {m2 : Md} {x2 : o.K.T} (hg : getP o.K o.m o.x p = some ⟨K, m, z⟩) (hm : setM o.m p m = some m2) (hs : setP o.K o.x p K y = some x2)
   (ho : Own g2.S w2 K m y (gc.cs j) (g2.F j)) : OutAt w2 gc g2 j id .ms (.al id n p, some o) (.ms K m z) (some { o with m := m2, x := x2, log := msLog K p :: o.log })
 | mv {n : Nat} {p : Path} {o : Obj} {arg : Arg} {r : Option Obj} (hr : mvOld o p = r) : OutAt w2 gc g2 j id .mv (.al id n p, some o) arg r
theorem outs_at {P : Program} {S : Nat → Prop} {w w2 : World} {g gc g2 : Gh} {ob : Nat → Option (Option Obj)} : ∀ (ams : List AM) (vs : List View) (args : List Arg) (vals : List Value) (l : List KV) (outs : List (Nat × Option Obj)) (n : Nat),
  outsOf ams vs l = some outs → OutsRep w2 gc g2 n args l → args.length = ams.length → vals.length = ams.length →
  (∀ (j : Nat) (am : AM) (v : View) (arg : Arg) (x : Value), ams[j]? = some am → vs[j]? = some v → args[j]? = some arg → vals[j]? = some x → Link P S w g ob (gc.F (n + j)) (gc.pl (n + j)) (gc.cs (n + j)) am v arg x) →
  outs.map (·.1) = taken ams vs ∧ ∀ id r, (id, r) ∈ outs → ∃ (j : Nat) (am : AM) (v : View) (arg : Arg), ams[j]? = some am ∧ vs[j]? = some v ∧ args[j]? = some arg ∧ OutAt w2 gc g2 (n + j) id am v arg r
 | [], vs, args, vals, l, outs, n, ho, hr, ha, hv, hl => by
  cases vs with
  | nil =>
   cases l with
   | nil =>
    simp only [outsOf, Option.some.injEq] at ho
    subst ho
    exact ⟨rfl, fun id r h => by cases h⟩
   | cons q l => simp [outsOf] at ho
  | cons v vs => simp [outsOf] at ho
 | am :: ams, [], args, vals, l, outs, n, ho, hr, ha, hv, hl => by cases am <;> simp [outsOf] at ho
 | am :: ams, v :: vs, [], vals, l, outs, n, ho, hr, ha, hv, hl => by simp at ha
 | am :: ams, v :: vs, arg :: args, [], l, outs, n, ho, hr, ha, hv, hl => by simp at hv
 | am :: ams, v :: vs, arg :: args, x :: vals, l, outs, n, ho, hr, ha, hv, hl => by
  have h0 := hl 0 am v arg x rfl rfl rfl rfl
  rw [Nat.add_zero] at h0
  have rec_ : ∀ (l' : List KV) (outs' : List (Nat × Option Obj)), outsOf ams vs l' = some outs' → OutsRep w2 gc g2 (n + 1) args l' → outs'.map (·.1) = taken ams vs ∧ ∀ id r, (id, r) ∈ outs' →
    ∃ (j : Nat) (am' : AM) (v' : View) (arg' : Arg), (am :: ams)[j]? = some am' ∧ (v :: vs)[j]? = some v' ∧ (arg :: args)[j]? = some arg' ∧ OutAt w2 gc g2 (n + j) id am' v' arg' r := by
   intro l' outs' h1 h2
   obtain ⟨i1, i2⟩ := outs_at ams vs args vals l' outs' (n + 1) h1 h2 (by simpa using ha) (by simpa using hv) (fun j am' v' arg' x' a1 a2 a3 a4 => by
    have := hl (j + 1) am' v' arg' x' (by simpa using a1) (by simpa using a2) (by simpa using a3) (by simpa using a4)
    rwa [show n + (j + 1) = n + 1 + j by omega] at this)
   refine ⟨i1, fun id r h => ?_⟩
   obtain ⟨j, am', v', arg', a1, a2, a3, a4⟩ := i2 id r h
   exact ⟨j + 1, am', v', arg', by simpa using a1, by simpa using a2, by simpa using a3, by rwa [show n + (j + 1) = n + 1 + j by omega]⟩
  unfold Link at h0
  split at h0
  ·-- mp
   rename_i id n' p o
   obtain ⟨_, _, _, K, m, z, b, off, rfl, hpl, _, hgp, _, _⟩ := h0
   cases l with
   | nil => exact hr.elim
   | cons q l =>
    obtain ⟨⟨y, rfl, r1, r2⟩, r3⟩ := hr
    simp only [outsOf, hgp] at ho
    split at ho
    ·cases ho
    ·rename_i hfx
     split at ho
     ·rename_i m2 x2 r hm hs hrest
      cases ho
      obtain ⟨i1, i2⟩ := rec_ l r hrest r3
      refine ⟨by simp [i1, taken], fun id' r' h => ?_⟩
      rcases List.mem_cons.1 h with h | h
      ·cases h
       exact ⟨0, _, _, _, rfl, rfl, rfl, .mp hgp hm hs r1 r2 hfx⟩
      ·exact i2 id' r' h
     ·cases ho
  ·-- ms
   rename_i id n' p o
   obtain ⟨_, _, _, hpl, e, m, z, q, _, rfl, _, hgp, _, _⟩ := h0
   cases l with
   | nil => exact hr.elim
   | cons q l =>
    obtain ⟨⟨y, rfl, r1⟩, r3⟩ := hr
    simp only [outsOf, hgp] at ho
    split at ho
    ·rename_i m2 x2 r hm hs hrest
     cases ho
     obtain ⟨i1, i2⟩ := rec_ l r hrest r3
     refine ⟨by simp [i1, taken], fun id' r' h => ?_⟩
     rcases List.mem_cons.1 h with h | h
     ·cases h
      exact ⟨0, _, _, _, rfl, rfl, rfl, .ms hgp hm hs r1⟩
     ·exact i2 id' r' h
    ·cases ho
  ·-- mv
   rename_i id n' p' o
   obtain ⟨_, _, _, _, K, m, y, _, rfl, _⟩ := h0
   have hr' : OutsRep w2 gc g2 (n + 1) args l := by cases l <;> exact hr
   simp only [outsOf] at ho
   split at ho
   ·rename_i r hrest
    cases ho
    obtain ⟨i1, i2⟩ := rec_ l r hrest hr'
    refine ⟨by simp [i1, taken], fun id' r' h => ?_⟩
    rcases List.mem_cons.1 h with h | h
    ·cases h
     exact ⟨0, _, _, _, rfl, rfl, rfl, .mv rfl⟩
    ·exact i2 id' r' h
   ·cases ho
  ·obtain ⟨_, _, K, z, rfl, _⟩ := h0
   have hr' : OutsRep w2 gc g2 (n + 1) args l := by cases l <;> exact hr
   have ho' : outsOf ams vs l = some outs := by simpa only [outsOf] using ho
   have ht : taken (.ro :: ams) (v :: vs) = taken ams vs := by obtain ⟨s, q⟩ := v; cases s <;> rfl
   rw [ht]
   exact rec_ l outs ho' hr'
  ·obtain ⟨_, _, K, z, rfl, _⟩ := h0
   have hr' : OutsRep w2 gc g2 (n + 1) args l := by cases l <;> exact hr
   have ho' : outsOf ams vs l = some outs := by simpa only [outsOf] using ho
   have ht : taken (.rp :: ams) (v :: vs) = taken ams vs := by obtain ⟨s, q⟩ := v; cases s <;> rfl
   rw [ht]
   exact rec_ l outs ho' hr'
  ·rename_i Ks Kr
   obtain ⟨_, _, f, rfl, _⟩ := h0
   have hr' : OutsRep w2 gc g2 (n + 1) args l := by cases l <;> exact hr
   have ho' : outsOf ams vs l = some outs := by simpa only [outsOf] using ho
   have ht : taken (.fn Ks Kr :: ams) (v :: vs) = taken ams vs := by obtain ⟨s, q⟩ := v; cases s <;> rfl
   rw [ht]
   exact rec_ l outs ho' hr'
  ·rename_i f0 Fs Ks
   obtain ⟨_, _, f, fs, caps, rfl, _⟩ := h0
   have hr' : OutsRep w2 gc g2 (n + 1) args l := by cases l <;> exact hr
   have ho' : outsOf ams vs l = some outs := by simpa only [outsOf] using ho
   have ht : taken (.fc f0 Fs Ks :: ams) (v :: vs) = taken ams vs := by obtain ⟨s, q⟩ := v; cases s <;> rfl
   rw [ht]
   exact rec_ l outs ho' hr'
  ·exact h0.elim
theorem taken_at : ∀ {ams : List AM} {vs : List View} {j : Nat} {am : AM} {v : View} {id : Nat}, ams[j]? = some am → vs[j]? = some v → takenAt am v = some id → id ∈ taken ams vs
 | [], _, _, _, _, _, h, _, _ => by simp at h
 | _ :: _, [], _, _, _, _, _, h, _ => by simp at h
 | am0 :: ams, v0 :: vs, 0, am, v, id, h1, h2, h3 => by
  simp only [List.getElem?_cons_zero, Option.some.injEq] at h1 h2
  subst h1; subst h2
  rw [taken_cons, h3]
  exact List.mem_cons_self
 | am0 :: ams, v0 :: vs, j + 1, am, v, id, h1, h2, h3 => by
  have := taken_at (ams := ams) (vs := vs) (j := j) (by simpa using h1) (by simpa using h2) h3
  rw [taken_cons]
  split
  ·exact List.mem_cons_of_mem _ this
  ·exact this
theorem taken_ne : ∀ {ams : List AM} {vs : List View} {i j : Nat} {am am' : AM} {v v' : View} {id : Nat}, (taken ams vs).Nodup → ams[i]? = some am → vs[i]? = some v → takenAt am v = some id → ams[j]? = some am' → vs[j]? = some v' → takenAt am' v' = some id → i = j
 | [], _, _, _, _, _, _, _, _, _, h, _, _, _, _, _ => by simp at h
 | _ :: _, [], _, _, _, _, _, _, _, _, _, h, _, _, _, _ => by simp at h
 | am0 :: ams, v0 :: vs, i, j, am, am', v, v', id, hn, h1, h2, h3, h4, h5, h6 => by
  rw [taken_cons] at hn
  have hn' : (taken ams vs).Nodup := by
   split at hn
   ·exact (List.nodup_cons.1 hn).2
   ·exact hn
  cases i with
  | zero =>
   simp only [List.getElem?_cons_zero, Option.some.injEq] at h1 h2
   subst h1; subst h2
   rw [h3] at hn
   cases j with
   | zero => rfl
   | succ j => exact absurd (taken_at (by simpa using h4) (by simpa using h5) h6) (List.nodup_cons.1 hn).1
  | succ i =>
   cases j with
   | zero =>
    simp only [List.getElem?_cons_zero, Option.some.injEq] at h4 h5
    subst h4; subst h5
    rw [h6] at hn
    exact absurd (taken_at (by simpa using h1) (by simpa using h2) h3) (List.nodup_cons.1 hn).1
   | succ j =>
    have := taken_ne (i := i) (j := j) hn' (by simpa using h1) (by simpa using h2) h3 (by simpa using h4) (by simpa using h5) h6
    omega
end Go.Abs
