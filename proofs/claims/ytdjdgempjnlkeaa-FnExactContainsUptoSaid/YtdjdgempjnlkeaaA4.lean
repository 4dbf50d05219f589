/- The abstract interpreter of the elaborated code, and that what it answers is what the machine does: part 4. Conditions: none. -/
import Derived.Below
import Derived.Sort.Grow
import Derived.Deep.Draws
import Derived.Test.YtdjdgempjnlkeaaA3
set_option linter.unusedVariables false
set_option linter.unusedSimpArgs false
namespace Go.Abs
def resRun (tmps : Array Value) : ResultVar → Sem Value
 | .tmp t => pure (tmps.getD t undef)
 | .cell a t => do loadVar t (← asAddr (tmps.getD a undef))
structure RetsOk (c : Ctx) (w : World) (g : Gh) (FZ : List Nat) (a : Act) (l : List (ResultVar × Kd × Md)) (rs : List RV) (ow : List Nat) (vals : List Value) (csr : Nat → List Value) (owI : Nat → List Nat) : Prop where
 len : vals.length = l.length ∧ rs.length = l.length
 run : ∀ (i : Nat) (q : ResultVar × Kd × Md) (v : Value), l[i]? = some q → vals[i]? = some v → (resRun a.tmps q.1).run c.P w = .ok v w
 rep : ∀ (i : Nat) (r : RV) (v : Value), rs[i]? = some r → vals[i]? = some v → RetRep (g.freeze FZ).S w (fun b => ∃ id, id ∈ owI i ∧ g.has id b) (csr i) r v
 sub : ∀ i id, id ∈ owI i → id ∈ ow
 one : ow.Nodup → ∀ i k id, id ∈ owI i → id ∈ owI k → i = k
 rest : ∀ i, l.length ≤ i → owI i = []
theorem retsAt_ok {c : Ctx} (hc : CtxOk c) {B : Base} {nt : Nat} {e : Env} {a : Act} {w : World} {g : Gh} (hg : InvG c.P B nt e a w g) (FZ : List Nat) : ∀ (l : List (ResultVar × Kd × Md)) (rs : List RV) (fz ow : List Nat), retsAt c e l = some (rs, fz, ow) → (∀ i, i ∈ fz → i ∈ FZ) →
  (∀ i, i ∈ fz ++ ow → ∃ o, e.obj i = some (some o) ∧ o.par = false) ∧ ∃ vals csr owI, RetsOk c w g FZ a l rs ow vals csr owI
 | [], rs, fz, ow, h, _ => by
  simp only [retsAt, Option.some.injEq, Prod.mk.injEq] at h
  obtain ⟨rfl, rfl, rfl⟩ := h
  exact ⟨(fun i hi => by cases hi), [], fun _ => [], fun _ => [], ⟨⟨rfl, rfl⟩, (fun i q v h => by simp at h), (fun i r v h => by simp at h), (fun i id h => by cases h), (fun _ i k id h => by cases h), fun _ _ => rfl⟩⟩
 | q :: l, rs, fz, ow, h, hF => by
  unfold retsAt at h
  split at h
  ·rename_i r a1 a2 rs' b1 b2 h1 h2
   cases h
   obtain ⟨v, cs, k1, k2, k3⟩ := retOne_ok hc hg h1 FZ (fun i hi => hF i (List.mem_append_left _ hi))
   obtain ⟨m1, vals, csr, owI, m2⟩ := retsAt_ok hc hg FZ l rs' b1 b2 h2 (fun i hi => hF i (List.mem_append_right _ hi))
   have k1' : (resRun a.tmps q.1).run c.P w = .ok v w := by
    obtain ⟨rv, K, m⟩ := q
    cases rv <;> exact k1
   refine ⟨fun i hi => ?_, v :: vals, fcons cs csr, fcons a2 owI, ⟨⟨by simp [m2.len.1], by simp [m2.len.2]⟩, fun i q' v' hq hv => ?_, fun i r' v' hr hv => ?_, fun i id hi => ?_, fun hn i k id hi hk => ?_, fun i hi => ?_⟩⟩
   ·rcases List.mem_append.1 hi with hi | hi <;> rcases List.mem_append.1 hi with hi | hi
    ·exact k3 i (List.mem_append_left _ hi)
    ·exact m1 i (List.mem_append_left _ hi)
    ·exact k3 i (List.mem_append_right _ hi)
    ·exact m1 i (List.mem_append_right _ hi)
   ·cases i with
    | zero =>
     simp only [List.getElem?_cons_zero, Option.some.injEq] at hq hv
     subst hq; subst hv
     exact k1'
    | succ i => exact m2.run i q' v' (by simpa using hq) (by simpa using hv)
   ·cases i with
    | zero =>
     simp only [List.getElem?_cons_zero, Option.some.injEq] at hr hv
     subst hr; subst hv
     exact k2
    | succ i => exact m2.rep i r' v' (by simpa using hr) (by simpa using hv)
   ·cases i with
    | zero => exact List.mem_append_left _ hi
    | succ i => exact List.mem_append_right _ (m2.sub i id hi)
   ·have hn' := List.nodup_append.1 hn
    cases i with
    | zero =>
     cases k with
     | zero => rfl
     | succ k => exact absurd rfl (hn'.2.2 id hi id (m2.sub k id hk))
    | succ i =>
     cases k with
     | zero => exact absurd rfl (hn'.2.2 id hk id (m2.sub i id hi))
     | succ k => rw [m2.one hn'.2.1 i k id hi hk]
   ·cases i with
    | zero => simp at hi
    | succ i => exact m2.rest i (by simpa using hi)
  ·cases h
theorem outsAt_ok {P : Program} {B : Base} {nt : Nat} {e : Env} {a : Act} {w2 : World} {gc g1 g2 : Gh} (hg : InvG P B nt e a w2 g1) (hhd : ∀ j, B.hd j = (gc.pl j, gc.cs j)) (hS : ∀ b, g1.S b → g2.S b) : ∀ (args : List Arg) (j : Nat) (outs : List KV), outsAt e j args = some outs → (∀ k K m x, args[k]? = some (.ms K m x) → gc.pl (j + k) = none) →
  (∀ k, k < args.length → ∀ o, e.obj (j + k) = some (some o) → o.par = true → g2.F (j + k) = g1.F (j + k) ∧ g2.cs (j + k) = g1.cs (j + k)) → OutsRep w2 gc g2 j args outs
 | [], j, outs, h, _, _ => by
  simp only [outsAt, Option.some.injEq] at h
  subst h
  trivial
 | arg :: args, j, outs, h, hms, hk => by
  have tail : ∀ outs', outsAt e (j + 1) args = some outs' → OutsRep w2 gc g2 (j + 1) args outs' := fun outs' h' => outsAt_ok hg hhd hS args (j + 1) outs' h' (fun k K m x hkx => by
   have := hms (k + 1) K m x (by simpa using hkx)
   rwa [show j + (k + 1) = j + 1 + k by omega] at this) (fun k hlt o ho hp => by
   have := hk (k + 1) (by simp; omega) o (by rwa [show j + (k + 1) = j + 1 + k by omega]) hp
   rwa [show j + (k + 1) = j + 1 + k by omega] at this)
  cases arg with
  | ro K x => have h' : outsAt e (j + 1) args = some outs := h; cases outs <;> exact tail _ h'
  | rp K x => have h' : outsAt e (j + 1) args = some outs := h; cases outs <;> exact tail _ h'
  | mv K m x => have h' : outsAt e (j + 1) args = some outs := h; cases outs <;> exact tail _ h'
  | fn Ks Kr f => have h' : outsAt e (j + 1) args = some outs := h; cases outs <;> exact tail _ h'
  | fc f fs caps => have h' : outsAt e (j + 1) args = some outs := h; cases outs <;> exact tail _ h'
  | mp K m x =>
   simp only [outsAt] at h
   split at h
   ·rename_i o ho
    split at h
    ·rename_i hcond
     simp only [Bool.and_eq_true] at hcond
     split at h
     ·rename_i r hr
      cases h
      have O := hg.objs j o ho
      obtain ⟨o1, o2⟩ := O.own (noHole_ok hcond.1.1.1.1)
      have p0 := O.par hcond.1.1.1.2
      obtain ⟨f1, f2⟩ := hk 0 (by simp) o (by simpa using ho) hcond.1.1.1.2
      rw [Nat.add_zero] at f1 f2
      have e1 := Kd.eq_of_beq hcond.1.2
      have e2 := Md.eq_of_beq hcond.2
      have p1 : g1.pl j = gc.pl j ∨ gc.pl j = none := by
       unfold ParOk at p0
       rw [hhd] at p0
       split at p0
       ·cases hq : gc.pl j with
        | none => exact .inr rfl
        | some q => exact .inl ((p0.1 (by simp [hq])).trans hq)
       ·exact .inl p0.1
      refine ⟨?_, tail _ hr⟩
      obtain ⟨K', m', x', b', p', l', h'⟩ := o
      simp only at e1 e2 o1 o2
      subst e1
      subst e2
      refine ⟨x', rfl, ?_, ?_⟩
      ·rw [f1, f2]
       exact o1.mono hS (fun _ _ _ _ h => h) (fun _ h => h) (fun _ _ _ => ⟨rfl, rfl⟩)
      ·rw [f2]
       rcases p1 with p1 | p1
       ·rw [← p1]
        exact o2
       ·rw [p1]
        exact fun b off hq => by cases hq
     ·cases h
    ·cases h
   ·cases h
  | ms K m x =>
   simp only [outsAt] at h
   split at h
   ·rename_i o ho
    split at h
    ·rename_i hcond
     simp only [Bool.and_eq_true] at hcond
     split at h
     ·rename_i r hr
      cases h
      have O := hg.objs j o ho
      obtain ⟨o1, o2⟩ := O.own (noHole_ok hcond.1.1.1.1)
      have p0 := O.par hcond.1.1.1.2
      obtain ⟨f1, f2⟩ := hk 0 (by simp) o (by simpa using ho) hcond.1.1.1.2
      rw [Nat.add_zero] at f1 f2
      have e1 := Kd.eq_of_beq hcond.1.2
      have e2 := Md.eq_of_beq hcond.2
      have hbx : o.box = false := by simpa using hcond.1.1.2
      unfold ParOk at p0
      rw [hbx, Bool.false_and, if_neg (by simp)] at p0
      have p3 := p0.2 rfl
      rw [hhd] at p3
      refine ⟨?_, tail _ hr⟩
      obtain ⟨K', m', x', b', p', l', h'⟩ := o
      simp only at e1 e2 o1 o2
      subst e1
      subst e2
      refine ⟨x', rfl, ?_⟩
      rw [f1]
      rw [show g1.cs j = gc.cs j from p3] at o1
      exact o1.mono hS (fun _ _ _ _ h => h) (fun _ h => h) (fun _ _ _ => ⟨rfl, rfl⟩)
     ·cases h
    ·split at h
     ·rename_i hKK
      split at h
      ·rename_i hcond
       simp only [Bool.and_eq_true] at hcond
       split at h
       ·rename_i r hr
        cases h
        have O := hg.objs j o ho
        obtain ⟨o1, o2⟩ := O.own (noHole_ok hcond.1.1.1.1)
        have p0 := O.par hcond.1.1.1.2
        obtain ⟨f1, f2⟩ := hk 0 (by simp) o (by simpa using ho) hcond.1.1.1.2
        rw [Nat.add_zero] at f1 f2
        have e2 := Md.eq_of_beq hcond.2
        unfold ParOk at p0
        rw [if_pos (by rw [hcond.1.1.2, hcond.1.2]; rfl), hhd] at p0
        have p3 := p0.2 (by have := hms 0 K m x rfl; simpa using this)
        refine ⟨?_, tail _ hr⟩
        have e1 := Kd.eq_of_beq hKK
        obtain ⟨K', m', x', b', p', l', h'⟩ := o
        simp only at e1 e2 o1 o2
        subst e1
        subst e2
        refine ⟨x', rfl, ?_⟩
        rw [f1]
        rw [show g1.cs j = gc.cs j from p3] at o1
        exact (Own.st.1 o1).mono hS (fun _ _ _ _ h => h) (fun _ h => h) (fun _ _ _ => ⟨rfl, rfl⟩)
       ·cases h
      ·cases h
     ·cases h
   ·cases h
theorem run_mapM_ex {α β : Type} {P : Program} {w : World} (f : α → Sem β) : ∀ (l : List α) (vs : List β), vs.length = l.length → (∀ (i : Nat) (x : α) (v : β), l[i]? = some x → vs[i]? = some v → (f x).run P w = .ok v w) → (l.mapM f).run P w = .ok vs w
 | [], vs, hl, _ => by
  have : vs = [] := List.length_eq_zero_iff.1 hl
  subst this
  rfl
 | x :: l, vs, hl, h => by
  cases vs with
  | nil => simp at hl
  | cons v vs =>
   rw [List.mapM_cons]
   simp only [Sem.run_bind, h 0 x v rfl rfl, Result.andThen_ok, run_mapM_ex f l vs (by simpa using hl) (fun i x v h1 h2 => h (i + 1) x v (by simpa using h1) (by simpa using h2)), Sem.run_pure]
theorem end_ok {c : Ctx} (hc : CtxOk c) {nt : Nat} {d : FnD} {args : List Arg} {w w2 : World} {gc : Gh} {vals : List Value} (hE : Entry c.P w args vals gc) {e : Env} {a : Act} {res : Res} (h : endK c d args some e = some res) {fn : Func} (hres : fn.results.toList = d.res.map (·.1))
  (hi : Inv c.P (baseOf w args gc) nt e a w2) : a.defers = [] ∧ ∃ v g2, (results fn a.tmps).run c.P w2 = .ok v w2 ∧ Done w w2 args gc g2 res v := by
 obtain ⟨g1, hg⟩ := hi
 refine ⟨hg.defers, ?_⟩
 unfold endK at h
 split at h
 case h_2 => cases h
 rename_i rs fz ow outs hr ho
 split at h
 case isFalse => cases h
 rename_i hnd
 cases h
 have hnd := nodup_ok hnd
 obtain ⟨hobj, rv, csr, owI, R⟩ := retsAt_ok hc hg fz d.res rs fz ow hr (fun i h => h)
 have hnd' := List.nodup_append.1 hnd
 have hfz := hg.freeze fz (fun i hi => hobj i (List.mem_append_left _ hi))
 let isOut : Nat → Prop := fun j => ∃ o, e.obj j = some (some o) ∧ o.par = true
 have outNot : ∀ j, isOut j → ∀ id, id ∈ fz ++ ow → j ≠ id := by
  rintro j ⟨o, h1, h2⟩ id hid e1
  subst e1
  obtain ⟨o', h3, h4⟩ := hobj j hid
  rw [h1] at h3
  cases h3
  rw [h2] at h4
  cases h4
 let g2 : Gh := { S := (g1.freeze fz).S, F := fun j b => if j < args.length then isOut j ∧ g1.F j b else ∃ id, id ∈ owI (j - args.length) ∧ g1.has id b, pl := fun _ => none, cs := fun j => if j < args.length then g1.cs j else csr (j - args.length) }
 have F2 : ∀ {j b : Nat}, g2.F j b → ∃ id, g1.has id b ∧ id ∉ fz ∧ (g1.F id b ∨ ∃ o, e.obj id = some (some o) ∧ o.par = false) ∧ ((j < args.length ∧ id = j ∧ isOut j) ∨ (args.length ≤ j ∧ id ∈ owI (j - args.length))) := by
  intro j b hF
  have hF : (if j < args.length then isOut j ∧ g1.F j b else ∃ id, id ∈ owI (j - args.length) ∧ g1.has id b) := hF
  split at hF
  ·rename_i hj
   exact ⟨j, .inr hF.2, fun hm => outNot j hF.1 j (List.mem_append_left _ hm) rfl, .inl hF.2, .inl ⟨hj, rfl, hF.1⟩⟩
  ·rename_i hj
   obtain ⟨id, h1, h2⟩ := hF
   exact ⟨id, h2, fun hm => hnd'.2.2 id hm id (R.sub _ id h1) rfl, .inr (hobj id (List.mem_append_right _ (R.sub _ id h1))), .inr ⟨by omega, h1⟩⟩
 have fzF : ∀ {id b : Nat}, g1.has id b → id ∉ fz → (g1.freeze fz).has id b := by
  intro id b h1 h2
  rcases h1 with ⟨off, h1⟩ | h1
  ·exact .inl ⟨off, by show (if id ∈ fz then none else g1.pl id) = _; rw [if_neg h2]; exact h1⟩
  ·exact .inr (by show (if id ∈ fz then False else g1.F id b); rw [if_neg h2]; exact h1)
 have hasB : ∀ {id b : Nat}, g1.has id b → (g1.F id b ∨ ∃ o, e.obj id = some (some o) ∧ o.par = false) → (∃ i, gc.F i b) ∨ w.heap.size ≤ b := by
  rintro id b h1 (h2 | ⟨o, h2, h3⟩)
  ·exact hg.Fb id b h2
  ·rcases h1 with ⟨off, h1⟩ | h1
   ·rcases (hg.objs id o h2).plx b off h1 with h4 | h4
    ·exact h4
    ·rw [h3] at h4; cases h4.1
   ·exact hg.Fb id b h1
 have hrun : (fn.results.mapM (resRun a.tmps)).run c.P w2 = .ok rv.toArray w2 := by
  rw [Array.mapM_eq_mapM_toList, Sem.run_map, run_mapM_ex (resRun a.tmps) fn.results.toList rv (by rw [hres, List.length_map]; exact R.len.1) (fun i x v h1 h2 => by
   rw [hres, List.getElem?_map, Option.map_eq_some_iff] at h1
   obtain ⟨q, h3, rfl⟩ := h1
   exact R.run i q v h3 h2)]
  rfl
 have hresults : (results fn a.tmps).run c.P w2 = .ok (if h : rv.toArray.size = 1 then rv.toArray[0] else .tuple rv.toArray) w2 := by
  have e1 : results fn a.tmps = (do let vs ← fn.results.mapM (resRun a.tmps); pure (if h : vs.size = 1 then vs[0] else .tuple vs)) := by
   unfold results
   congr 1
  rw [e1, Sem.run_bind, hrun, Result.andThen_ok, Sem.run_pure]
 refine ⟨_, g2, hresults, ?_⟩
 have repAt : ∀ (i : Nat) (r : RV) (v : Value), rs[i]? = some r → rv[i]? = some v → RetRep g2.S w2 (g2.F (args.length + i)) (g2.cs (args.length + i)) r v := by
  intro i r v h1 h2
  have h3 := R.rep i r v h1 h2
  have eF : g2.F (args.length + i) = fun b => ∃ id, id ∈ owI i ∧ g1.has id b := by
   funext b
   show (if args.length + i < args.length then _ else ∃ id, id ∈ owI (args.length + i - args.length) ∧ g1.has id b) = _
   rw [if_neg (by omega), Nat.add_sub_cancel_left]
  have eC : g2.cs (args.length + i) = csr i := by
   show (if args.length + i < args.length then _ else csr (args.length + i - args.length)) = _
   rw [if_neg (by omega), Nat.add_sub_cancel_left]
  rw [eF, eC]
  exact h3
 refine ⟨hg.ext, fun b hb => hfz.S0 b hb, fun b hb => hfz.Sb b hb, hfz.Ssz, fun j b hF => ?_, fun j b hF => ?_, fun j b hF hS => ?_, fun i j b hne h1 h2 => ?_, ?_, ?_⟩
 ·obtain ⟨id, h1, _, h2, _⟩ := F2 hF
  exact hasB h1 h2
 ·obtain ⟨id, h1, _⟩ := F2 hF
  exact (hg.has_lt h1).1
 ·obtain ⟨id, h1, h2, _⟩ := F2 hF
  exact (hfz.has_lt (fzF h1 h2)).2 hS
 ·obtain ⟨id, k1, _, _, k3⟩ := F2 h1
  obtain ⟨id', k4, _, _, k6⟩ := F2 h2
  have hid : id = id' := hg.has_one k1 k4
  subst hid
  rcases k3 with ⟨_, e1, o1⟩ | ⟨e0, e1⟩ <;> rcases k6 with ⟨_, e2, o2⟩ | ⟨e3, e2⟩
  ·exact hne (e1.symm.trans e2)
  ·exact outNot i o1 id (List.mem_append_right _ (R.sub _ id e2)) e1.symm
  ·exact outNot j o2 id (List.mem_append_right _ (R.sub _ id e1)) e2.symm
  ·have := R.one hnd'.2.1 _ _ id e1 e2
   omega
 ·refine outsAt_ok (g2 := g2) hg (fun j => rfl) (fun b hb => Or.inl hb) args 0 outs ho (fun k K m x hkx => by
   have hlt : k < vals.length := by have := (List.getElem?_eq_some_iff.1 hkx).1; have := hE.len; omega
   have := hE.arg k _ vals[k] hkx (by simp)
   rw [Nat.zero_add]
   exact this.1) (fun k hk o hko hp => ?_)
  rw [Nat.zero_add] at hko ⊢
  refine ⟨?_, ?_⟩
  ·funext b
   show (if k < args.length then isOut k ∧ g1.F k b else _) = _
   rw [if_pos hk]
   exact propext ⟨fun h => h.2, fun h => ⟨⟨o, hko, hp⟩, h⟩⟩
  ·show (if k < args.length then g1.cs k else _) = _
   rw [if_pos hk]
 ·have hl1 : rv.length = rs.length := by rw [R.len.1, R.len.2]
  match rs, hl1, repAt with
  | [], _, _ => trivial
  | [r], hl, hrep =>
   obtain ⟨v, hv⟩ : ∃ v, rv = [v] := List.length_eq_one_iff.1 hl
   subst hv
   exact hrep 0 r v rfl rfl
  | r :: r2 :: rs', hl, hrep =>
   have h2 : ¬ rv.toArray.size = 1 := by simp at hl ⊢; omega
   rw [dif_neg h2]
   exact ⟨rv.toArray, rfl, by simpa using hl, fun i r' u h1 h3 => hrep i r' u h1 (by simpa using h3)⟩
end Go.Abs
namespace Go.Abs
inductive An where
 | nil
 | reg (mds : List (Nat × Md))
 | seq (a b : An)
 | cond (a b : An)
 | block (live : Option (List Nat)) (a : An)
 | cut (j : Nat) (live : List Nat)
def An.l : An → An
 | .seq a _ => a
 | .cond a _ => a
 | .block _ a => a
 | _ => .nil
def An.r : An → An
 | .seq _ b => b
 | .cond _ b => b
 | _ => .nil
def An.live : An → Option (List Nat)
 | .block l _ => l
 | _ => none
def An.mds : An → List (Nat × Md)
 | .reg l => l
 | _ => []
abbrev Lv : Type := List (Nat × List Nat)
def Lv.add (lv : Lv) (id : Nat) : Option (List Nat) → Lv
 | none => lv
 | some l => (id, l) :: lv
abbrev Tab (Ω : Type) : Type := Nat → Env → (Env → Option Ω) → (Nat → Env → Option Ω) → Option Ω
def aopsG {Ω : Type} (c : Ctx) (nt : Nat) (mds : List (Nat × Md)) (ops : List Oper) : List Oper → Env → List Rec → (List Rec → Env → Option Ω) → Option Ω
 | [], e, tr, k => k tr e
 | o :: rest, e, tr, k => match o.guard with
  | none => aopE c nt mds o e fun d => aopsG c nt mds ops rest (e.apply d) (recOf [] o ((Oper.opds o).map fun x => e.view (e.opd x)) d :: tr) k
  | some (j, want) => match dstAt ops j with
   | none => none
   | some t => match e.get t with
    | .v .bool b =>
     if b = want then (let e1 := e.put t (.v .bool want); aopE c nt mds o e1 fun d => aopsG c nt mds ops rest (e1.apply d) (recOf [t] o ((Oper.opds o).map fun x => e1.view (e1.opd x)) d :: tr) k)
     else if skipOk nt o.dst = true then aopsG c nt mds ops rest ((e.put t (.v .bool (!want))).apply (skipD o.dst)) (⟨[t], [], o.dst.toList, []⟩ :: tr) k else none
    | .un => if skipOk nt o.dst = true then aopsG c nt mds ops rest (e.apply (skipD o.dst)) (⟨[t], [], o.dst.toList, []⟩ :: tr) k else none
    | _ => none
def Eqv (e e' : Env) : Prop := (∀ i, look e'.slots i = look e.slots i) ∧ (∀ i, look e'.objs i = look e.objs i)
theorem Eqv.get {e e' : Env} (h : Eqv e e') (i : Nat) : e'.get i = e.get i := by unfold Env.get; rw [h.1]
theorem Eqv.obj {e e' : Env} (h : Eqv e e') (i : Nat) : e'.obj i = e.obj i := h.2 i
theorem Eqv.opd {e e' : Env} (h : Eqv e e') (x : Operand) : e'.opd x = e.opd x := by
 unfold Env.opd
 split <;> first | rfl | exact h.get _
theorem Eqv.cap {e e' : Env} (h : Eqv e e') : e'.cap = e.cap := by
 funext c
 cases c with
 | rp K x => rfl
 | pt id n => show CapV.pt id n (e'.obj id).join = CapV.pt id n (e.obj id).join; rw [h.obj]
theorem Eqv.view {e e' : Env} (h : Eqv e e') (s : Slot) : e'.view s = e.view s := by
 unfold Env.view
 split <;> first | rfl | rw [h.obj] | rw [h.cap]
theorem Eqv.views {e e' : Env} (h : Eqv e e') (o : Oper) : ((Oper.opds o).map fun x => e'.view (e'.opd x)) = (Oper.opds o).map fun x => e.view (e.opd x) :=
 List.map_congr_left fun x _ => by rw [h.opd, h.view]
theorem Eqv.fresh {e e' : Env} (h : Eqv e e') (d : Option Nat) : fresh e' d = fresh e d := by
 cases d with
 | none => rfl
 | some d => unfold Abs.fresh; simp only [h.obj]
theorem Eqv.apply {e e' : Env} (h : Eqv e e') (d : Delta) : Eqv (e.apply d) (e'.apply d) := by
 refine ⟨fun i => ?_, fun i => ?_⟩
 ·show look (d.slots ++ e'.slots) i = look (d.slots ++ e.slots) i
  rw [look_app, look_app, h.1]
 ·show look (d.objs ++ e'.objs) i = look (d.objs ++ e.objs) i
  rw [look_app, look_app, h.2]
theorem Eqv.put {e e' : Env} (h : Eqv e e') {t : Nat} {b : Bool} (hb : e'.get t = .v .bool b) : Eqv e (e'.put t (.v .bool b)) := by
 refine ⟨fun i => ?_, h.2⟩
 show look ((t, .v .bool b) :: e'.slots) i = _
 by_cases hi : t = i
 ·subst hi
  rw [look_cons_self, ← h.1]
  unfold Env.get at hb
  split at hb
  ·rename_i s hs
   rw [hs, hb]
  ·cases hb
 ·rw [look_cons_ne hi]
  exact h.1 i
theorem aopsG_ok {c : Ctx} (hM : MOk c) {Ω : Type} {nt : Nat} {mds : List (Nat × Md)} {ops : List Oper} {k : List Rec → Env → Option Ω} {out : Ω} : ∀ (rest : List Oper) (e e' : Env) (tr : List Rec), Eqv e e' → aopsG c nt mds ops rest e' tr k = some out →
  ∃ tr0 e0 e0', Eqv e0 e0' ∧ k tr0 e0' = some out ∧ ∀ (Ω0 : Type) (k0 : List Rec → Env → Option Ω0) (out0 : Ω0), k0 tr0 e0 = some out0 → aopsD c nt mds ops rest e tr k0 = some out0
 | [], e, e', tr, hq, h => ⟨tr, e, e', hq, h, fun _ _ _ h => h⟩
 | o :: rest, e, e', tr, hq, h => by
  have one : ∀ (e1 : Env) (g : List Nat), Eqv e e1 → aopE c nt mds o e1 (fun d => aopsG c nt mds ops rest (e1.apply d) (recOf g o ((Oper.opds o).map fun x => e1.view (e1.opd x)) d :: tr) k) = some out →
    ∃ tr0 e0 e0', Eqv e0 e0' ∧ k tr0 e0' = some out ∧ ∀ (Ω0 : Type) (k0 : List Rec → Env → Option Ω0) (out0 : Ω0), k0 tr0 e0 = some out0 →
     aopE c nt mds o e (fun d => aopsD c nt mds ops rest (e.apply d) (recOf g o ((Oper.opds o).map fun x => e.view (e.opd x)) d :: tr) k0) = some out0 := by
   intro e1 g hq1 h1
   unfold aopE at h1
   rw [hq1.views, hq1.fresh, aop_uni hM.uni] at h1
   cases hd : aop c nt mds o ((Oper.opds o).map fun x => e.view (e.opd x)) (Abs.fresh e o.dst) some with
   | none => rw [hd] at h1; cases h1
   | some d =>
    rw [hd] at h1
    obtain ⟨tr0, e0, e0', a1, a2, a3⟩ := aopsG_ok hM rest (e.apply d) (e1.apply d) _ (hq1.apply d) h1
    refine ⟨tr0, e0, e0', a1, a2, fun Ω0 k0 out0 hk => ?_⟩
    unfold aopE
    rw [aop_uni hM.uni, hd]
    exact a3 Ω0 k0 out0 hk
  unfold aopsG at h
  unfold aopsD
  split at h
  ·rename_i hg
   simp only [hg]
   exact one e' [] hq h
  ·rename_i j want hg
   simp only [hg]
   split at h
   ·cases h
   ·rename_i t ht
    simp only [ht]
    split at h
    ·rename_i b hb
     have hb' : e.get t = .v .bool b := by rw [← hq.get]; exact hb
     simp only [hb']
     split at h
     ·rename_i hw
      subst hw
      simp only [if_true]
      exact one (e'.put t (.v .bool b)) [t] (hq.put hb) h
     ·rename_i hw
      simp only [hw, if_false]
      split at h
      ·rename_i hs
       simp only [hs, if_true]
       have hbw : b = !want := by cases b <;> cases want <;> first | rfl | exact absurd rfl hw
       exact aopsG_ok hM rest _ _ _ ((hq.put (by rw [hb, hbw])).apply _) h
      ·cases h
    ·rename_i hb
     have hb' : e.get t = .un := by rw [← hq.get]; exact hb
     simp only [hb']
     split at h
     ·rename_i hs
      simp only [hs, if_true]
      exact aopsG_ok hM rest _ _ _ (hq.apply _) h
     ·cases h
    ·cases h
def aevT {Ω : Type} (c : Ctx) (nt : Nat) (T : Tab Ω) (kr : Env → Option Ω) : Code → An → Lv → (Env → Option Ω) → (Nat → Env → Option Ω) → Env → Option Ω
 | _, .cut j live, _, kn, kx => fun e => T j (forget e live) kn kx
 | .skip, _, _, kn, _ => kn
 | .region _ ops false, a, _, kn, _ => fun e => aops c nt a.mds ops.toList ops.toList e kn
 | .region _ ops true, a, _, kn, _ => fun e => aopsG c nt a.mds ops.toList ops.toList e [] fun tr e' => if indep ops.toList tr = true then kn e' else none
 | .seq x y, a, lv, kn, kx => aevT c nt T kr x a.l lv (aevT c nt T kr y a.r lv kn kx) kx
 | .cond o x y, a, lv, kn, kx => fun e => match e.opd o with
  | .v .bool b => if b = true then aevT c nt T kr x a.l lv kn kx e else aevT c nt T kr y a.r lv kn kx e
  | _ => none
 | .block id x, a, lv, kn, kx => aevT c nt T kr x a.l (Lv.add lv id a.live) (meet a.live kn) (fun j => if Nat.beq j id = true then kn else kx j)
 | .exit j, _, lv, _, kx => meet (look lv j) (kx j)
 | .ret, _, _, _, _ => kr
 | _, _, _, _, _ => fun _ => none
def units : Code → An → List (Nat × Code)
 | x, .cut j _ => [(j, x)]
 | .seq x y, a => units x a.l ++ units y a.r
 | .cond _ x y, a => units x a.l ++ units y a.r
 | .block _ x, a => units x a.l
 | _, _ => []
def UnitOk {Ω : Type} (c : Ctx) (nt : Nat) (T : Tab Ω) (kr : Env → Option Ω) (j : Nat) (x : Code) : Prop :=
 ∀ (B : Base) (out : Ω) (kn : Env → Option Ω) (kx : Nat → Env → Option Ω) (Q : Exit → Act → World → Prop),
  Fine c.P B nt kn out (Q .normal) → (∀ i, Fine c.P B nt (kx i) out (Q (.exit i))) → Fine c.P B nt kr out (Q .ret) →
  Fine c.P B nt (fun e => T j e kn kx) out (fun a w => x.wp c.P Q a w)
section
variable {B : Base} {c : Ctx} {nt : Nat} {Ω : Type} {out : Ω} {T : Tab Ω} {kr : Env → Option Ω}
theorem aevT_ok (hc : CtxOk c) (hM : MOk c) (hmix : c.P.follows .mixedOrders = true) (code : Code) : ∀ (ann : An) (lv : Lv) (kn : Env → Option Ω) (kx : Nat → Env → Option Ω) (Q : Exit → Act → World → Prop),
  (∀ q, q ∈ units code ann → UnitOk c nt T kr q.1 q.2) →
  Fine c.P B nt kn out (Q .normal) → (∀ j, Fine c.P B nt (kx j) out (Q (.exit j))) → Fine c.P B nt kr out (Q .ret) → Fine c.P B nt (aevT c nt T kr code ann lv kn kx) out (fun a w => code.wp c.P Q a w) := by
 have cutCase : ∀ (x : Code) (j : Nat) (live : List Nat) (kn : Env → Option Ω) (kx : Nat → Env → Option Ω) (Q : Exit → Act → World → Prop), UnitOk c nt T kr j x → Fine c.P B nt kn out (Q .normal) → (∀ j, Fine c.P B nt (kx j) out (Q (.exit j))) → Fine c.P B nt kr out (Q .ret) →
   Fine c.P B nt (fun e => T j (forget e live) kn kx) out (fun a w => x.wp c.P Q a w) := by
  intro x j live kn kx Q hU hn hx hr e h a w hi
  exact hU B out kn kx Q hn hx hr (forget e live) h a w (inv_forget hi live)
 induction code with
 | skip =>
  intro ann lv kn kx Q hU hn hx hr
  cases ann with
  | cut j live => exact cutCase _ j live kn kx Q (hU (j, _) (List.mem_singleton.2 rfl)) hn hx hr
  | _ => exact fun e h a w hi => wp_skip (hn e h a w hi)
 | region id ops draw =>
  intro ann lv kn kx Q hU hn hx hr
  have key : ∀ mds, Fine c.P B nt (match draw with
    | false => fun e => aops c nt mds ops.toList ops.toList e kn
    | true => fun e => aopsG c nt mds ops.toList ops.toList e [] fun tr e' => if indep ops.toList tr = true then kn e' else none) out (fun a w => (Code.region id ops draw).wp c.P Q a w) := by
   intro mds e h a w hi
   cases draw with
   | false =>
    obtain ⟨e', h1, h2⟩ := aops_ok (B := B) hc hM (List.range ops.size) ops.toList e kn range_map h
    exact wp_region (h2 a w hi Q fun a' w' hi' => hn e' h1 a' w' hi')
   | true =>
    obtain ⟨tr0, e0, e1, hq, hk, hD⟩ := aopsG_ok hM ops.toList e e [] ⟨fun _ => rfl, fun _ => rfl⟩ h
    split at hk
    case isFalse => cases hk
    rename_i hind
    obtain ⟨e', h1, h2⟩ := drawn_ok (B := B) (k := some) hc hM (hD Env (fun tr e' => if indep ops.toList tr = true then some e' else none) e0 (by rw [if_pos hind]))
    cases h1
    refine wp_region_any hmix (h2 a _ ?_ Q fun a' w' hi' => hn e1 hk a' w' (hi'.congr hq.1 hq.2))
    obtain ⟨g, hg⟩ := hi
    exact ⟨_, hg.grow (Ext.drew w _)⟩
  cases ann with
  | cut j live => exact cutCase _ j live kn kx Q (hU (j, _) (List.mem_singleton.2 rfl)) hn hx hr
  | reg mds => cases draw <;> exact key mds
  | _ => cases draw <;> exact key []
 | seq x y ihx ihy =>
  intro ann lv kn kx Q hU hn hx hr
  have key : ∀ (a b : An), (∀ q, q ∈ units x a ++ units y b → UnitOk c nt T kr q.1 q.2) → Fine c.P B nt (aevT c nt T kr x a lv (aevT c nt T kr y b lv kn kx) kx) out (fun a w => (Code.seq x y).wp c.P Q a w) := by
   intro a1 b1 hU e h a w hi
   have hy := ihy b1 lv kn kx Q (fun q hq => hU q (List.mem_append_right _ hq)) hn hx hr
   exact wp_seq (ihx a1 lv _ kx (Exit.then (y.wp c.P Q) Q) (fun q hq => hU q (List.mem_append_left _ hq)) hy hx hr e h a w hi)
  cases ann with
  | cut j live => exact cutCase _ j live kn kx Q (hU (j, _) (List.mem_singleton.2 rfl)) hn hx hr
  | _ => exact key _ _ hU
 | cond o x y ihx ihy =>
  intro ann lv kn kx Q hU hn hx hr
  have key : ∀ (a1 b1 : An), (∀ q, q ∈ units x a1 ++ units y b1 → UnitOk c nt T kr q.1 q.2) → Fine c.P B nt (fun e => match e.opd o with
    | .v .bool b => if b = true then aevT c nt T kr x a1 lv kn kx e else aevT c nt T kr y b1 lv kn kx e
    | _ => none) out (fun a w => (Code.cond o x y).wp c.P Q a w) := by
   intro a1 b1 hU e h a w hi
   dsimp only at h
   split at h
   ·rename_i b hb
    have hv : a.eval o = .bool b := by
     obtain ⟨g, hg⟩ := hi
     have hr := Inv.eval hg o
     rw [hb] at hr
     obtain ⟨cs, h2, h3⟩ := hr
     rw [show cs = [.bool b] from h2] at h3
     exact h3.1
    split at h
    ·rename_i hbt
     subst hbt
     exact wp_cond_true hv (ihx a1 lv kn kx Q (fun q hq => hU q (List.mem_append_left _ hq)) hn hx hr e h a w hi)
    ·rename_i hbt
     have : b = false := by simpa using hbt
     subst this
     exact wp_cond_false hv (ihy b1 lv kn kx Q (fun q hq => hU q (List.mem_append_right _ hq)) hn hx hr e h a w hi)
   ·cases h
  cases ann with
  | cut j live => exact cutCase _ j live kn kx Q (hU (j, _) (List.mem_singleton.2 rfl)) hn hx hr
  | _ => exact key _ _ hU
 | block id x ih =>
  intro ann lv kn kx Q hU hn hx hr
  have key : ∀ (a1 : An) (live : Option (List Nat)), (∀ q, q ∈ units x a1 → UnitOk c nt T kr q.1 q.2) →
    Fine c.P B nt (aevT c nt T kr x a1 (Lv.add lv id live) (meet live kn) (fun j => if Nat.beq j id = true then kn else kx j)) out (fun a w => (Code.block id x).wp c.P Q a w) := by
   intro a1 live hU e h a w hi
   refine wp_block (ih a1 (Lv.add lv id live) _ _ (Exit.inBlock id Q) hU (hn.meet _) (fun j => ?_) hr e h a w hi)
   intro e1 h1 a1 w1 hi1
   show if j = id then Q .normal a1 w1 else Q (.exit j) a1 w1
   by_cases hj : j = id
   ·subst hj
    rw [if_pos rfl]
    have h1 : (if Nat.beq j j = true then kn else kx j) e1 = some out := h1
    rw [if_pos (Nat.beq_refl j)] at h1
    exact hn e1 h1 a1 w1 hi1
   ·rw [if_neg hj]
    have h1 : (if Nat.beq j id = true then kn else kx j) e1 = some out := h1
    rw [if_neg (fun hb => hj (Nat.eq_of_beq_eq_true hb))] at h1
    exact hx j e1 h1 a1 w1 hi1
  cases ann with
  | cut j live => exact cutCase _ j live kn kx Q (hU (j, _) (List.mem_singleton.2 rfl)) hn hx hr
  | _ => exact key _ _ hU
 | exit i =>
  intro ann lv kn kx Q hU hn hx hr
  cases ann with
  | cut j live => exact cutCase _ j live kn kx Q (hU (j, _) (List.mem_singleton.2 rfl)) hn hx hr
  | _ => exact fun e h a w hi => wp_exit ((hx i).meet (look lv i) e h a w hi)
 | ret =>
  intro ann lv kn kx Q hU hn hx hr
  cases ann with
  | cut j live => exact cutCase _ j live kn kx Q (hU (j, _) (List.mem_singleton.2 rfl)) hn hx hr
  | _ => exact fun e h a w hi => wp_ret (hr e h a w hi)
 | _ =>
  intro ann lv kn kx Q hU hn hx hr
  cases ann with
  | cut j live => exact cutCase _ j live kn kx Q (hU (j, _) (List.mem_singleton.2 rfl)) hn hx hr
  | _ => exact fun e h => by cases h
theorem loop_unit (hc : CtxOk c) (hM : MOk c) (hmix : c.P.follows .mixedOrders = true) {j n : Nat} {x : Code} (a : An) (lv : Lv) (live : List Nat)
  (L : Nat → Env → (Env → Option Ω) → (Nat → Env → Option Ω) → Option Ω) (hT : ∀ e kn kx, T j e kn kx = L n e kn kx) (h0 : ∀ e kn kx out, L 0 e kn kx = some out → False)
  (hs : ∀ m e kn kx out, L (m + 1) e kn kx = some out → aevT c nt T kr x a lv (meet (some live) fun e => L m e kn kx) kx e = some out)
  (hU : ∀ q, q ∈ units x a → UnitOk c nt T kr q.1 q.2) : UnitOk c nt T kr j (.loop x) := by
 intro B out kn kx Q hn hx hr
 have hl : ∀ m, Fine c.P B nt (fun e => L m e kn kx) out (fun a w => Code.rounds c.P x Q m a w) := by
  intro m
  induction m with
  | zero => intro e h; exact (h0 _ _ _ _ h).elim
  | succ m ih =>
   intro e h a w hi
   rw [rounds_succ]
   exact aevT_ok hc hM hmix x _ lv _ kx (Exit.then (Code.rounds c.P x Q m) Q) hU (ih.meet (some live)) hx hr e (hs m e kn kx out h) a w hi
 intro e h a w hi
 have h : T j e kn kx = some out := h
 rw [hT] at h
 exact wp_loop_rounds n (hl n e h a w hi)
theorem join_unit (hc : CtxOk c) (hM : MOk c) (hmix : c.P.follows .mixedOrders = true) {j : Nat} {x : Code} (a : An) (lv : Lv) (live : Option (List Nat))
  (hs : ∀ e kn kx out, T j e kn kx = some out → aevT c nt T kr x a lv (meet live kn) kx e = some out)
  (hU : ∀ q, q ∈ units x a → UnitOk c nt T kr q.1 q.2) : UnitOk c nt T kr j x := by
 intro B out kn kx Q hn hx hr e h a w hi
 exact aevT_ok hc hM hmix x _ lv _ kx Q hU (hn.meet live) hx hr e (hs e kn kx out h) a w hi
end
def fnEvT {Ω : Type} (c : Ctx) (d : FnD) (an : An) (T : Tab Ω) (args : List Arg) (K : Res → Option Ω) : Option Ω :=
 if Nat.ble args.length d.nt = true then aevT c d.nt T (endK c d args K) d.code an [] (endK c d args K) (fun _ _ => none) (start args) else none
theorem fn_okT {c : Ctx} (hc : CtxOk c) (hM : MOk c) (hmix : c.P.follows .mixedOrders = true) {f : Nat} {d : FnD} {an : An} {fn : Func} (hf : c.P.funcs[f]? = some fn) (hb : fn.body = some d.code) (hnt : fn.ntmps = d.nt) (hres : fn.results.toList = d.res.map (·.1))
  {args : List Arg} {Ω : Type} {K : Res → Option Ω} {out : Ω} {res : Res} {T : Tab Ω} (hU : ∀ q, q ∈ units d.code an → UnitOk c d.nt T (endK c d args K) q.1 q.2) (hK : ∀ r, K r = some out → r = res)
  (h : fnEvT c d an T args K = some out) : Ans c.P f args res := by
 intro w vals gc hE
 unfold fnEvT at h
 split at h
 ·rename_i hle
  refine calls_of_wp hf hb ?_
  rw [hnt]
  have hend : Fine c.P (baseOf w args gc) d.nt (endK c d args K) out (fun a w2 => a.defers = [] ∧ ∃ v, (results fn a.tmps).run c.P w2 = .ok v w2 ∧ ∃ v' g2, (Ending.returned v) = .returned v' ∧ Done w w2 args gc g2 res v') := by
   intro e he a w2 hi
   rw [endK_uni] at he
   cases h1 : endK c d args some e with
   | none => rw [h1] at he; cases he
   | some r =>
    rw [h1] at he
    have := hK r he
    subst this
    obtain ⟨h1, v, g2, h2, h3⟩ := end_ok hc hE h1 hres hi
    exact ⟨h1, v, h2, v, g2, rfl, h3⟩
  exact aevT_ok (B := baseOf w args gc) hc hM hmix d.code an [] _ _ (bodyPost c.P fn fun e w2 => ∃ v g2, e = .returned v ∧ Done w w2 args gc g2 res v) hU hend (fun j e he => by cases he) hend (start args) h _ w (start_inv hE (Nat.le_of_ble_eq_true hle))
 ·cases h
end Go.Abs
namespace Go.Abs
def castK {K K' : Kd} (h : K'.beq K = true) (x : K'.T) : K.T := Kd.eq_of_beq h ▸ x
theorem castK_self {K K' : Kd} (h : K'.beq K = true) (x : K'.T) : (⟨K', x⟩ : KV) = ⟨K, castK h x⟩ := by
 have e := Kd.eq_of_beq h
 subst e
 rfl
inductive PS where
 | inn
 | fst
 | snd
 | idx
@[reducible] def PS.Is : List PS → Type
 | [] => Unit
 | .idx :: l => Int × PS.Is l
 | _ :: l => PS.Is l
def PS.enc : (l : List PS) → PS.Is l → Path
 | [], _ => []
 | .idx :: l, i => .idx i.1 :: PS.enc l i.2
 | .inn :: l, i => .inn :: PS.enc l i
 | .fst :: l, i => .fst :: PS.enc l i
 | .snd :: l, i => .snd :: PS.enc l i
def PS.dec : (l : List PS) → Path → Option (PS.Is l)
 | [], [] => some ()
 | .idx :: l, .idx i :: p => match PS.dec l p with | some r => some ((i, r) : Int × PS.Is l) | none => none
 | .inn :: l, .inn :: p => PS.dec l p
 | .fst :: l, .fst :: p => PS.dec l p
 | .snd :: l, .snd :: p => PS.dec l p
 | _, _ => none
theorem PS.dec_enc : ∀ (l : List PS) (p : Path) {i : PS.Is l}, PS.dec l p = some i → p = PS.enc l i
 | [], [], _, _ => rfl
 | .idx :: l, .idx j :: p, i, h => by
  have h' : (match PS.dec l p with | some r => some ((j, r) : Int × PS.Is l) | none => none) = some i := h
  split at h'
  ·rename_i r hr
   cases h'
   show _ = Step.idx j :: PS.enc l r
   rw [← PS.dec_enc l p hr]
  ·cases h'
 | .inn :: l, .inn :: p, i, h => by show _ = Step.inn :: PS.enc l i; rw [← PS.dec_enc l p (show PS.dec l p = some i from h)]
 | .fst :: l, .fst :: p, i, h => by show _ = Step.fst :: PS.enc l i; rw [← PS.dec_enc l p (show PS.dec l p = some i from h)]
 | .snd :: l, .snd :: p, i, h => by show _ = Step.snd :: PS.enc l i; rw [← PS.dec_enc l p (show PS.dec l p = some i from h)]
 | [], _ :: _, _, h => by cases h
 | .idx :: _, [], _, h | .idx :: _, .inn :: _, _, h | .idx :: _, .fst :: _, _, h | .idx :: _, .snd :: _, _, h => by cases h
 | .inn :: _, [], _, h | .inn :: _, .idx _ :: _, _, h | .inn :: _, .fst :: _, _, h | .inn :: _, .snd :: _, _, h => by cases h
 | .fst :: _, [], _, h | .fst :: _, .idx _ :: _, _, h | .fst :: _, .inn :: _, _, h | .fst :: _, .snd :: _, _, h => by cases h
 | .snd :: _, [], _, h | .snd :: _, .idx _ :: _, _, h | .snd :: _, .inn :: _, _, h | .snd :: _, .fst :: _, _, h => by cases h
inductive CSh where
 | rp (K : Kd)
 | pt (id : Nat)
@[reducible] def CVs : List CSh → Type
 | [] => Unit
 | .rp K :: l => K.T × CVs l
 | .pt _ :: l => CVs l
def cvEnc : (l : List CSh) → CVs l → List Cap
 | [], _ => []
 | .rp K :: l, x => .rp K x.1 :: cvEnc l x.2
 | .pt id :: l, x => .pt id 0 :: cvEnc l x
def cvDec : (l : List CSh) → List Cap → Option (CVs l)
 | [], [] => some ()
 | .rp K :: l, .rp K' x :: r => if h : K'.beq K = true then (match cvDec l r with | some y => some ((castK h x, y) : K.T × CVs l) | none => none) else none
 | .pt id :: l, .pt id' n :: r => if (Nat.beq id' id && Nat.beq n 0) = true then cvDec l r else none
 | _, _ => none
theorem cv_dec : ∀ (l : List CSh) (r : List Cap) {x : CVs l}, cvDec l r = some x → r = cvEnc l x
 | [], [], _, _ => rfl
 | .rp K :: l, .rp K' y :: r, x, h => by
  have h' : (if h : K'.beq K = true then (match cvDec l r with | some z => some ((castK h y, z) : K.T × CVs l) | none => none) else none) = some x := h
  split at h'
  ·rename_i hk
   split at h'
   ·rename_i z hz
    cases h'
    show _ = Cap.rp K (castK hk y) :: cvEnc l z
    rw [← cv_dec l r hz]
    have e := Kd.eq_of_beq hk
    subst e
    rfl
   ·cases h'
  ·cases h'
 | .pt id :: l, .pt id' n :: r, x, h => by
  have h' : (if (Nat.beq id' id && Nat.beq n 0) = true then cvDec l r else none) = some x := h
  split at h'
  ·rename_i hb
   rw [Bool.and_eq_true] at hb
   show _ = Cap.pt id 0 :: cvEnc l x
   rw [← cv_dec l r h', Nat.eq_of_beq_eq_true hb.1, Nat.eq_of_beq_eq_true hb.2]
  ·cases h'
 | [], _ :: _, _, h => by cases h
 | .rp _ :: _, [], _, h => by cases h
 | .rp _ :: _, .pt _ _ :: _, _, h => by cases h
 | .pt _ :: _, [], _, h => by cases h
 | .pt _ :: _, .rp _ _ :: _, _, h => by cases h
inductive Sh where
 | un
 | nils
 | v (K : Kd)
 | rp (K : Kd)
 | al (id : Nat) (p : List PS)
 | pt (id : Nat) (p : List PS)
 | fv (f : Nat) (Fs : List Kd) (cs : List CSh)
 | clo (Ks : List Kd) (Kr : Kd)
@[reducible] def Sh.V : Sh → Type
 | .un => Unit
 | .nils => Unit
 | .v K => K.T
 | .rp K => K.T
 | .al _ p => PS.Is p
 | .pt _ p => PS.Is p
 | .fv _ Fs cs => Kd.Ts Fs × CVs cs
 | .clo Ks Kr => Kd.Ts Ks → Option Kr.T
def kvsOf : (Ks : List Kd) → Kd.Ts Ks → List KV
 | [], _ => []
 | K :: Ks, x => ⟨K, x.1⟩ :: kvsOf Ks x.2
def kvsDec : (Ks : List Kd) → List KV → Option (Kd.Ts Ks)
 | [], [] => some ()
 | K :: Ks, ⟨K', x⟩ :: l => if h : K'.beq K = true then (match kvsDec Ks l with | some r => some ((castK h x, r) : K.T × Kd.Ts Ks) | none => none) else none
 | _, _ => none
theorem kvs_dec : ∀ (Ks : List Kd) (l : List KV) {x : Kd.Ts Ks}, kvsDec Ks l = some x → l = kvsOf Ks x
 | [], [], _, _ => rfl
 | K :: Ks, ⟨K', y⟩ :: l, x, h => by
  have h' : (if h : K'.beq K = true then (match kvsDec Ks l with | some r => some ((castK h y, r) : K.T × Kd.Ts Ks) | none => none) else none) = some x := h
  split at h'
  ·split at h'
   ·rename_i hk _ r hr
    cases h'
    show _ = (⟨K, castK hk y⟩ : KV) :: kvsOf Ks r
    rw [← kvs_dec Ks l hr, castK_self hk y]
   ·cases h'
  ·cases h'
 | [], _ :: _, _, h => by cases h
 | _ :: _, [], _, h => by cases h
def Sh.enc : (s : Sh) → s.V → Slot
 | .un, _ => .un
 | .nils, _ => .nils
 | .v K, x => .v K x
 | .rp K, x => .rp K x
 | .al id p, i => .al id 0 (PS.enc p i)
 | .pt id p, i => .pt id 0 (PS.enc p i)
 | .fv f Fs cs, x => .fv f (kvsOf Fs x.1) (cvEnc cs x.2)
 | .clo Ks Kr, f => .clo Ks Kr f
def castC {Ks Ls : List Kd} {Kr Lr : Kd} (h : (Kd.beqs Ls Ks && Lr.beq Kr) = true) (f : Kd.Ts Ls → Option Lr.T) : Kd.Ts Ks → Option Kr.T := by
 rw [Bool.and_eq_true] at h
 rw [← Kd.eq_of_beqs h.1, ← Kd.eq_of_beq h.2]
 exact f
theorem castC_self {Ks Ls : List Kd} {Kr Lr : Kd} (h : (Kd.beqs Ls Ks && Lr.beq Kr) = true) (f : Kd.Ts Ls → Option Lr.T) : Slot.clo Ls Lr f = Slot.clo Ks Kr (castC h f) := by
 have h' := h
 rw [Bool.and_eq_true] at h'
 have e1 := Kd.eq_of_beqs h'.1
 have e2 := Kd.eq_of_beq h'.2
 subst e1
 subst e2
 rfl
theorem castC_arg {Ks Ls : List Kd} {Kr Lr : Kd} (h : (Kd.beqs Ls Ks && Lr.beq Kr) = true) (f : Kd.Ts Ls → Option Lr.T) : Arg.fn Ls Lr f = Arg.fn Ks Kr (castC h f) := by
 have h' := h
 rw [Bool.and_eq_true] at h'
 have e1 := Kd.eq_of_beqs h'.1
 have e2 := Kd.eq_of_beq h'.2
 subst e1
 subst e2
 rfl
def Sh.dec : (s : Sh) → Slot → Option s.V
 | .un, .un => some ()
 | .nils, .nils => some ()
 | .v K, .v K' x => if h : K'.beq K = true then some (castK h x) else none
 | .rp K, .rp K' x => if h : K'.beq K = true then some (castK h x) else none
 | .al id p, .al id' n q => if (Nat.beq id' id && Nat.beq n 0) = true then PS.dec p q else none
 | .pt id p, .pt id' n q => if (Nat.beq id' id && Nat.beq n 0) = true then PS.dec p q else none
 | .fv f Fs cs, .fv f' l r => if Nat.beq f' f = true then (match kvsDec Fs l, cvDec cs r with | some x, some y => some ((x, y) : Kd.Ts Fs × CVs cs) | _, _ => none) else none
 | .clo Ks Kr, .clo Ls Lr f => if h : (Kd.beqs Ls Ks && Lr.beq Kr) = true then some (castC h f) else none
 | _, _ => none
theorem Sh.dec_enc {s : Sh} {t : Slot} {x : s.V} (h : s.dec t = some x) : t = s.enc x := by
 have two : ∀ {id id' n : Nat} {p : List PS} {q : Path} {x : PS.Is p}, (if (Nat.beq id' id && Nat.beq n 0) = true then PS.dec p q else none) = some x → id' = id ∧ n = 0 ∧ q = PS.enc p x := by
  intro id id' n p q x h
  split at h
  ·rename_i hb
   rw [Bool.and_eq_true] at hb
   exact ⟨Nat.eq_of_beq_eq_true hb.1, Nat.eq_of_beq_eq_true hb.2, PS.dec_enc _ _ h⟩
  ·cases h
 unfold Sh.dec at h
 split at h
 ·rfl
 ·rfl
 ·split at h
  ·rename_i K K' y hk
   cases h
   have := castK_self hk y
   have e := Kd.eq_of_beq hk
   subst e
   rfl
  ·cases h
 ·split at h
  ·rename_i K K' y hk
   cases h
   have e := Kd.eq_of_beq hk
   subst e
   rfl
  ·cases h
 ·obtain ⟨h1, h2, h3⟩ := two h
  subst h1 h2 h3
  rfl
 ·obtain ⟨h1, h2, h3⟩ := two h
  subst h1 h2 h3
  rfl
 ·split at h
  ·rename_i hb
   split at h
   ·rename_i y z hy hz
    cases h
    rw [Nat.eq_of_beq_eq_true hb, kvs_dec _ _ hy, cv_dec _ _ hz]
    rfl
   ·cases h
  ·cases h
 ·split at h
  ·rename_i hb
   cases h
   exact castC_self hb _
  ·cases h
 ·cases h
@[reducible] def SVs : List (Nat × Sh) → Type
 | [] => Unit
 |(_, s) :: l => s.V × SVs l
def svEnc : (l : List (Nat × Sh)) → SVs l → List (Nat × Slot)
 | [], _ => []
 |(t, s) :: l, x => (t, s.enc x.1) :: svEnc l x.2
def svDec : (l : List (Nat × Sh)) → List (Nat × Slot) → Option (SVs l)
 | [], [] => some ()
 |(t, s) :: l, (u, z) :: r => if Nat.beq u t = true then (match s.dec z, svDec l r with | some x, some y => some ((x, y) : s.V × SVs l) | _, _ => none) else none
 | _, _ => none
theorem sv_dec : ∀ (l : List (Nat × Sh)) (r : List (Nat × Slot)) {x : SVs l}, svDec l r = some x → r = svEnc l x
 | [], [], _, _ => rfl
 |(t, s) :: l, (u, z) :: r, x, h => by
  have h' : (if Nat.beq u t = true then (match s.dec z, svDec l r with | some x, some y => some ((x, y) : s.V × SVs l) | _, _ => none) else none) = some x := h
  split at h'
  ·rename_i hb
   split at h'
   ·rename_i a b ha hb2
    cases h'
    show _ = (t, s.enc a) :: svEnc l b
    rw [← sv_dec l r hb2, ← Sh.dec_enc ha, Nat.eq_of_beq_eq_true hb]
   ·cases h'
  ·cases h'
 | [], _ :: _, _, h => by cases h
 |(_, _) :: _, [], _, h => by cases h
structure OS where
 id : Nat
 K : Kd
 m : Md
 box : Bool
 par : Bool
 qu : Option (List PS)
@[reducible] def OS.V (o : OS) : Type := match o.qu with
 | none => o.K.T
 | some _ => o.K.T × Int
@[reducible] def OVs : List OS → Type
 | [] => Unit
 | o :: l => o.V × OVs l
def qEnc : List PS → Path
 | [] => []
 | .idx :: l => .idx 0 :: qEnc l
 | .inn :: l => .inn :: qEnc l
 | .fst :: l => .fst :: qEnc l
 | .snd :: l => .snd :: qEnc l
def OS.enc : (o : OS) → o.V → Obj
 | ⟨_, K, m, box, par, none⟩, x => ⟨K, m, x, box, par, [], none⟩
 | ⟨_, K, m, box, par, some q⟩, x => ⟨K, m, x.1, box, par, [], some (queP (qEnc q) x.2)⟩
def noLog (l : List (Option Path)) : Bool := match l with | [] => true | _ => false
def noHl (l : Option Path) : Bool := match l with | none => true | _ => false
def offOf (b : Obj) (q : List PS) : Option Int := match b.hl with
 | some h => (match qOf h with | some (q', off) => if eqF q' (qEnc q) = true then some off else none | none => none)
 | none => none
def OS.dec : (o : OS) → Obj → Option o.V
 | ⟨_, K, m, box, par, none⟩, b => if h : b.K.beq K = true then (if (b.m.beq m && (b.box == box) && (b.par == par) && noLog b.log && noHl b.hl) = true then some (castK h b.x) else none) else none
 | ⟨_, K, m, box, par, some q⟩, b => if h : b.K.beq K = true then (if (b.m.beq m && (b.box == box) && (b.par == par) && noLog b.log) = true then (match offOf b q with | some off => some ((castK h b.x, off) : K.T × Int) | none => none) else none) else none
theorem qOf_inv : ∀ {h q : Path} {off : Int}, qOf h = some (q, off) → h = queP q off
 | [], _, _, h => by cases h
 | [.idx i, .fst], q, off, h => by cases h; rfl
 | [.idx i], _, _, h => by cases h
 | [.inn], _, _, h => by cases h
 | [.fst], _, _, h => by cases h
 | [.snd], _, _, h => by cases h
 | .inn :: s :: p, q, off, h => by
  have h' : (match qOf (s :: p) with | some (q, i) => some (Step.inn :: q, i) | none => none) = some (q, off) := h
  split at h'
  ·rename_i q' i' hr; cases h'; rw [qOf_inv hr]; rfl
  ·cases h'
 | .fst :: s :: p, q, off, h => by
  have h' : (match qOf (s :: p) with | some (q, i) => some (Step.fst :: q, i) | none => none) = some (q, off) := h
  split at h'
  ·rename_i q' i' hr; cases h'; rw [qOf_inv hr]; rfl
  ·cases h'
 | .snd :: s :: p, q, off, h => by
  have h' : (match qOf (s :: p) with | some (q, i) => some (Step.snd :: q, i) | none => none) = some (q, off) := h
  split at h'
  ·rename_i q' i' hr; cases h'; rw [qOf_inv hr]; rfl
  ·cases h'
 | .idx j :: s :: s2 :: p, q, off, h => by
  have h' : (match qOf (s :: s2 :: p) with | some (q, i) => some (Step.idx j :: q, i) | none => none) = some (q, off) := by
   cases s <;> exact h
  split at h'
  ·rename_i q' i' hr; cases h'; rw [qOf_inv hr]; rfl
  ·cases h'
 | [.idx j, .inn], q, off, h => by cases h
 | [.idx j, .snd], q, off, h => by cases h
 | [.idx j, .idx _], q, off, h => by cases h
theorem OS.dec_enc : ∀ {o : OS} {b : Obj} {x : o.V}, o.dec b = some x → b = o.enc x
 | ⟨id, oK, om, obox, opar, none⟩, b, x, h => by
  have h' : (if h : b.K.beq oK = true then (if (b.m.beq om && (b.box == obox) && (b.par == opar) && noLog b.log && noHl b.hl) = true then some (castK h b.x) else none) else none) = some x := h
  split at h'
  ·rename_i hk
   split at h'
   ·rename_i hb
    cases h'
    simp only [Bool.and_eq_true] at hb
    obtain ⟨⟨⟨⟨h2, h3⟩, h4⟩, h5⟩, h6⟩ := hb
    obtain ⟨K, m, z, box, par, log, hl⟩ := b
    have e := Kd.eq_of_beq hk
    have e2 := Md.eq_of_beq h2
    have e3 := eq_of_beq h3
    have e4 := eq_of_beq h4
    dsimp only at e e2 e3 e4
    subst e e2 e3 e4
    cases log with
    | cons _ _ => cases h5
    | nil =>
     cases hl with
     | some _ => cases h6
     | none => rfl
   ·cases h'
  ·cases h'
 | ⟨id, oK, om, obox, opar, some q⟩, b, x, h => by
  have h' : (if h : b.K.beq oK = true then (if (b.m.beq om && (b.box == obox) && (b.par == opar) && noLog b.log) = true then (match offOf b q with | some off => some ((castK h b.x, off) : oK.T × Int) | none => none) else none) else none) = some x := h
  split at h'
  ·rename_i hk
   split at h'
   ·rename_i hb
    split at h'
    ·rename_i off ho
     cases h'
     simp only [Bool.and_eq_true] at hb
     obtain ⟨⟨⟨h2, h3⟩, h4⟩, h5⟩ := hb
     obtain ⟨K, m, z, box, par, log, hl⟩ := b
     have e := Kd.eq_of_beq hk
     have e2 := Md.eq_of_beq h2
     have e3 := eq_of_beq h3
     have e4 := eq_of_beq h4
     dsimp only at e e2 e3 e4
     subst e e2 e3 e4
     cases log with
     | cons _ _ => cases h5
     | nil =>
      cases hl with
      | none => cases ho
      | some hh =>
       have ho' : (match qOf hh with | some (q', off) => if eqF q' (qEnc q) = true then some off else none | none => none) = some off := ho
       split at ho'
       ·rename_i q' off' hq
        split at ho'
        ·rename_i he
         cases ho'
         rw [qOf_inv hq, (eqF_ok he).1]
         rfl
        ·cases ho'
       ·cases ho'
    ·cases h'
   ·cases h'
  ·cases h'
def ovEnc : (l : List OS) → OVs l → List (Nat × Option Obj)
 | [], _ => []
 | o :: l, x => (o.id, some (o.enc x.1)) :: ovEnc l x.2
def ovDec : (l : List OS) → List (Nat × Option Obj) → Option (OVs l)
 | [], [] => some ()
 | o :: l, (u, some b) :: r => if Nat.beq u o.id = true then (match o.dec b, ovDec l r with | some x, some y => some ((x, y) : o.V × OVs l) | _, _ => none) else none
 | _, _ => none
theorem ov_dec : ∀ (l : List OS) (r : List (Nat × Option Obj)) {x : OVs l}, ovDec l r = some x → r = ovEnc l x
 | [], [], _, _ => rfl
 | o :: l, (u, some b) :: r, x, h => by
  have h' : (if Nat.beq u o.id = true then (match o.dec b, ovDec l r with | some x, some y => some ((x, y) : o.V × OVs l) | _, _ => none) else none) = some x := h
  split at h'
  ·rename_i hb
   split at h'
   ·rename_i z y hz hy
    cases h'
    show _ = (o.id, some (o.enc z)) :: ovEnc l y
    rw [← ov_dec l r hy, ← OS.dec_enc hz, Nat.eq_of_beq_eq_true hb]
   ·cases h'
  ·cases h'
 | [], _ :: _, _, h => by cases h
 | _ :: _, [], _, h => by cases h
 | _ :: _, (_, none) :: _, _, h => by cases h
structure ES where
 s : List (Nat × Sh)
 o : List OS
@[reducible] def ES.V (S : ES) : Type := SVs S.s × OVs S.o
def ES.enc (S : ES) (x : S.V) : Env := ⟨svEnc S.s x.1, ovEnc S.o x.2⟩
def ES.dec (S : ES) (e : Env) : Option S.V := match svDec S.s e.slots, ovDec S.o e.objs with | some a, some b => some (a, b) | _, _ => none
theorem ES.dec_enc {S : ES} {e : Env} {x : S.V} (h : S.dec e = some x) : e = S.enc x := by
 unfold ES.dec at h
 split at h
 ·rename_i a b ha hb
  cases h
  obtain ⟨es, eo⟩ := e
  show _ = (⟨svEnc S.s a, ovEnc S.o b⟩ : Env)
  rw [← sv_dec _ _ ha, ← ov_dec _ _ hb]
 ·cases h
def ES.on {α : Type} (S : ES) (e : Env) (k : S.V → Option α) : Option α := match S.dec e with | some x => k x | none => none
theorem ES.on_inv {α : Type} {S : ES} {e : Env} {k : S.V → Option α} {out : α} (h : S.on e k = some out) : ∃ x, e = S.enc x ∧ k x = some out := by
 unfold ES.on at h
 split at h
 ·rename_i x hx
  exact ⟨x, ES.dec_enc hx, h⟩
 ·cases h
inductive ASh where
 | ro (K : Kd)
 | rp (K : Kd)
 | mp (K : Kd) (m : Md)
 | ms (K : Kd) (m : Md)
 | mv (K : Kd) (m : Md)
 | fn (Ks : List Kd) (Kr : Kd)
 | fc (f : Nat) (Fs Ks : List Kd)
def ASh.am : ASh → AM
 | .ro _ => .ro
 | .rp _ => .rp
 | .mp _ _ => .mp
 | .ms _ _ => .ms
 | .mv _ _ => .mv
 | .fn Ks Kr => .fn Ks Kr
 | .fc f Fs Ks => .fc f Fs Ks
@[reducible] def ASh.V : ASh → Type
 | .ro K => K.T
 | .rp K => K.T
 | .mp K _ => K.T
 | .ms K _ => K.T
 | .mv K _ => K.T
 | .fn Ks Kr => Kd.Ts Ks → Option Kr.T
 | .fc _ Fs Ks => Kd.Ts Fs × Kd.Ts Ks
def ASh.enc : (s : ASh) → s.V → Arg
 | .ro K, x => .ro K x
 | .rp K, x => .rp K x
 | .mp K m, x => .mp K m x
 | .ms K m, x => .ms K m x
 | .mv K m, x => .mv K m x
 | .fn Ks Kr, x => .fn Ks Kr x
 | .fc f Fs Ks, x => .fc f (kvsOf Fs x.1) (kvsOf Ks x.2)
def ASh.dec : (s : ASh) → Arg → Option s.V
 | .ro K, .ro K' x => if h : K'.beq K = true then some (castK h x) else none
 | .rp K, .rp K' x => if h : K'.beq K = true then some (castK h x) else none
 | .mp K m, .mp K' m' x => if h : K'.beq K = true then (if m'.beq m = true then some (castK h x) else none) else none
 | .ms K m, .ms K' m' x => if h : K'.beq K = true then (if m'.beq m = true then some (castK h x) else none) else none
 | .mv K m, .mv K' m' x => if h : K'.beq K = true then (if m'.beq m = true then some (castK h x) else none) else none
 | .fn Ks Kr, .fn Ls Lr f => if h : (Kd.beqs Ls Ks && Lr.beq Kr) = true then some (castC h f) else none
 | .fc f Fs Ks, .fc g l r => if Nat.beq g f = true then (match kvsDec Fs l, kvsDec Ks r with | some x, some y => some ((x, y) : Kd.Ts Fs × Kd.Ts Ks) | _, _ => none) else none
 | _, _ => none
theorem ASh.dec_enc {s : ASh} {a : Arg} {x : s.V} (h : s.dec a = some x) : a = s.enc x := by
 unfold ASh.dec at h
 split at h
 ·split at h
  ·rename_i K K' y hk
   cases h
   have e := Kd.eq_of_beq hk
   subst e
   rfl
  ·cases h
 ·split at h
  ·rename_i K K' y hk
   cases h
   have e := Kd.eq_of_beq hk
   subst e
   rfl
  ·cases h
 ·split at h
  ·rename_i K m K' m' y hk
   split at h
   ·rename_i hm
    cases h
    have e := Kd.eq_of_beq hk
    have e2 := Md.eq_of_beq hm
    subst e e2
    rfl
   ·cases h
  ·cases h
 ·split at h
  ·rename_i K m K' m' y hk
   split at h
   ·rename_i hm
    cases h
    have e := Kd.eq_of_beq hk
    have e2 := Md.eq_of_beq hm
    subst e e2
    rfl
   ·cases h
  ·cases h
 ·split at h
  ·rename_i K m K' m' y hk
   split at h
   ·rename_i hm
    cases h
    have e := Kd.eq_of_beq hk
    have e2 := Md.eq_of_beq hm
    subst e e2
    rfl
   ·cases h
  ·cases h
 ·split at h
  ·rename_i hb
   cases h
   exact castC_arg hb _
  ·cases h
 ·split at h
  ·rename_i hb
   split at h
   ·rename_i y z hy hz
    cases h
    rw [Nat.eq_of_beq_eq_true hb, kvs_dec _ _ hy, kvs_dec _ _ hz]
    rfl
   ·cases h
  ·cases h
 ·cases h
@[reducible] def AVs : List ASh → Type
 | [] => Unit
 | s :: l => s.V × AVs l
def avEnc : (l : List ASh) → AVs l → List Arg
 | [], _ => []
 | s :: l, x => s.enc x.1 :: avEnc l x.2
def avDec : (l : List ASh) → List Arg → Option (AVs l)
 | [], [] => some ()
 | s :: l, a :: r => match s.dec a, avDec l r with | some x, some y => some ((x, y) : s.V × AVs l) | _, _ => none
 | _, _ => none
theorem av_dec : ∀ (l : List ASh) (r : List Arg) {x : AVs l}, avDec l r = some x → r = avEnc l x
 | [], [], _, _ => rfl
 | s :: l, a :: r, x, h => by
  have h' : (match s.dec a, avDec l r with | some x, some y => some ((x, y) : s.V × AVs l) | _, _ => none) = some x := h
  split at h'
  ·rename_i y z hy hz
   cases h'
   show _ = s.enc y :: avEnc l z
   rw [← av_dec l r hz, ← ASh.dec_enc hy]
  ·cases h'
 | [], _ :: _, _, h => by cases h
 | _ :: _, [], _, h => by cases h
inductive RSh where
 | ro (K : Kd)
 | own (K : Kd) (m : Md)
 | out (K : Kd)
 | bx (K : Kd) (m : Md)
@[reducible] def RSh.K : RSh → Kd
 | .ro K => K
 | .own K _ => K
 | .out K => K
 | .bx K _ => K
@[reducible] def RVs : List RSh → Type
 | [] => Unit
 | [s] => s.K.T
 | s :: s2 :: l => s.K.T × RVs (s2 :: l)
def addR (s : RSh) (x : s.K.T) (r : Res) : Res := match s, x with
 | .ro K, x => ⟨.ro K x :: r.rets, r.outs⟩
 | .own K m, x => ⟨.own K m x :: r.rets, r.outs⟩
 | .out K, x => ⟨r.rets, ⟨K, x⟩ :: r.outs⟩
 | .bx K m, x => ⟨.bx K m x :: r.rets, r.outs⟩
def rvEnc : (l : List RSh) → RVs l → Res
 | [], _ => ⟨[], []⟩
 | [s], x => addR s x ⟨[], []⟩
 | s :: s2 :: l, x => addR s x.1 (rvEnc (s2 :: l) x.2)
def offR {α : Type} (s : RSh) (r : Res) (k : s.K.T → Res → Option α) : Option α := match s, k with
 | .ro K, k => match r with
  | ⟨.ro K' x :: l, o⟩ => if h : K'.beq K = true then k (castK h x) ⟨l, o⟩ else none
  | _ => none
 | .own K m, k => match r with
  | ⟨.own K' m' x :: l, o⟩ => if h : K'.beq K = true then (if m'.beq m = true then k (castK h x) ⟨l, o⟩ else none) else none
  | _ => none
 | .out K, k => match r with
  | ⟨l, ⟨K', x⟩ :: o⟩ => if h : K'.beq K = true then (if l.isEmpty = true then k (castK h x) ⟨l, o⟩ else none) else none
  | _ => none
 | .bx K m, k => match r with
  | ⟨.bx K' m' x :: l, o⟩ => if h : K'.beq K = true then (if m'.beq m = true then k (castK h x) ⟨l, o⟩ else none) else none
  | _ => none
theorem offR_inv {α : Type} {s : RSh} {r : Res} {k : s.K.T → Res → Option α} {out : α} (h : offR s r k = some out) : ∃ x r2, r = addR s x r2 ∧ k x r2 = some out := by
 unfold offR at h
 split at h
 ·split at h
  ·split at h
   ·rename_i K k0 K' x l o hk
    refine ⟨_, _, ?_, h⟩
    have e := Kd.eq_of_beq hk
    subst e
    rfl
   ·cases h
  ·cases h
 ·split at h
  ·split at h
   ·rename_i K m k0 K' m' x l o hk
    split at h
    ·rename_i hm
     refine ⟨_, _, ?_, h⟩
     have e := Kd.eq_of_beq hk
     have e2 := Md.eq_of_beq hm
     subst e e2
     rfl
    ·cases h
   ·cases h
  ·cases h
 ·split at h
  ·split at h
   ·rename_i K k0 l K' x o hk
    split at h
    ·refine ⟨_, _, ?_, h⟩
     have e := Kd.eq_of_beq hk
     subst e
     rfl
    ·cases h
   ·cases h
  ·cases h
 ·split at h
  ·split at h
   ·rename_i K m k0 K' m' x l o hk
    split at h
    ·rename_i hm
     refine ⟨_, _, ?_, h⟩
     have e := Kd.eq_of_beq hk
     have e2 := Md.eq_of_beq hm
     subst e e2
     rfl
    ·cases h
   ·cases h
  ·cases h
def emptyR {α : Type} (r : Res) (x : α) : Option α := match r with | ⟨[], []⟩ => some x | _ => none
def rvDec : (l : List RSh) → Res → Option (RVs l)
 | [], r => emptyR r ()
 | [s], r => offR s r fun x r => emptyR r x
 | s :: s2 :: l, r => offR s r fun x r => match rvDec (s2 :: l) r with | some y => some ((x, y) : s.K.T × RVs (s2 :: l)) | none => none
theorem emptyR_inv {α : Type} {r : Res} {x y : α} (h : emptyR r x = some y) : r = ⟨[], []⟩ ∧ x = y := by
 unfold emptyR at h
 split at h
 ·cases h; exact ⟨rfl, rfl⟩
 ·cases h
theorem rv_dec : ∀ (l : List RSh) (r : Res) {x : RVs l}, rvDec l r = some x → r = rvEnc l x
 | [], r, x, h => (emptyR_inv (show emptyR r () = some x from h)).1
 | [s], r, x, h => by
  obtain ⟨y, r2, h1, h2⟩ := offR_inv (show offR s r (fun x r => emptyR r x) = some x from h)
  obtain ⟨h3, h4⟩ := emptyR_inv h2
  rw [h1, h3, h4]
  rfl
 | s :: s2 :: l, r, x, h => by
  obtain ⟨y, r2, h1, h2⟩ := offR_inv (show offR s r (fun x r => match rvDec (s2 :: l) r with | some y => some ((x, y) : s.K.T × RVs (s2 :: l)) | none => none) = some x from h)
  split at h2
  ·rename_i z hz
   cases h2
   rw [h1, rv_dec (s2 :: l) r2 hz]
   rfl
  ·cases h2
structure FEnt where
 a : List ASh
 r : List RSh
 F : AVs a → Option (RVs r)
def allE : List (Nat × FEnt) → Nat → List FEnt
 | [], _ => []
 |(i, x) :: l, n => if Nat.beq i n = true then x :: allE l n else allE l n
theorem allE_mem : ∀ {l : List (Nat × FEnt)} {n : Nat} {e : FEnt}, e ∈ allE l n → (n, e) ∈ l
 |(i, x) :: l, n, e, h => by
  have h' : e ∈ (if Nat.beq i n = true then x :: allE l n else allE l n) := h
  split at h'
  ·rename_i hb
   rcases List.mem_cons.1 h' with rfl | h'
   ·rw [Nat.eq_of_beq_eq_true hb]
    exact List.mem_cons_self
   ·exact List.mem_cons_of_mem _ (allE_mem h')
  ·exact List.mem_cons_of_mem _ (allE_mem h')
 | [], n, e, h => by cases h
def entE {Ω : Type} : List FEnt → List Arg → (Res → Option Ω) → Option Ω
 | [], _, _ => none
 | e :: l, args, K => match avDec e.a args with
  | some v => (e.F v).bind fun r => K (rvEnc e.r r)
  | none => entE l args K
def mkM (tb : List (Nat × FEnt)) : Meaning := fun f args {_} K => entE (allE tb f) args K
def mkCtx (P : Program) (ty : List (Nat × Kd)) (tb : List (Nat × FEnt)) : Ctx := ⟨P, ty, fun f => (allE tb f).map fun e => e.a.map ASh.am, mkM tb⟩
structure EntOk (P : Program) (f : Nat) (e : FEnt) : Prop where
 body : ∃ fn, P.funcs[f]? = some fn ∧ fn.name ≠ "runtime.NumGoroutine" ∧ fn.body.isNone = false
 ans : ∀ v r, e.F v = some r → Ans P f (avEnc e.a v) (rvEnc e.r r)
theorem entE_uni {Ω : Type} : ∀ (l : List FEnt) (args : List Arg) (K : Res → Option Ω), entE l args K = (entE l args some).bind K
 | [], _, _ => rfl
 | e :: l, args, K => by
  unfold entE
  cases avDec e.a args with
  | none => exact entE_uni l args K
  | some v =>
   dsimp only
   cases e.F v <;> rfl
theorem entE_ok {P : Program} {f : Nat} {Ω : Type} : ∀ {l : List FEnt} {args : List Arg} {K : Res → Option Ω} {out : Ω}, (∀ e, e ∈ l → EntOk P f e) → entE l args K = some out → ∃ res, K res = some out ∧ Ans P f args res
 | [], _, _, _, _, h => by cases h
 | e :: l, args, K, out, hl, h => by
  unfold entE at h
  split at h
  ·rename_i v hv
   cases hr : e.F v with
   | none => rw [hr] at h; cases h
   | some r =>
    rw [hr] at h
    refine ⟨rvEnc e.r r, h, ?_⟩
    rw [av_dec _ _ hv]
    exact (hl e List.mem_cons_self).ans v r hr
  ·exact entE_ok (fun e he => hl e (List.mem_cons_of_mem _ he)) h
theorem mkCtx_ok {P : Program} {ty : List (Nat × Kd)} {tb : List (Nat × FEnt)} (h : ∀ q, q ∈ tb → EntOk P q.1 q.2) : MOk (mkCtx P ty tb) where
 uni := fun f args Ω K => entE_uni _ _ _
 body := by
  intro f ams hs
  obtain ⟨e, he, _⟩ := List.mem_map.1 hs
  exact (h _ (allE_mem he)).body
 ans := fun f args Ω K out hm => entE_ok (fun e he => h _ (allE_mem he)) hm
theorem ent_ok {c : Ctx} (hc : CtxOk c) (hM : MOk c) (hmix : c.P.follows .mixedOrders = true) {f : Nat} {e : FEnt} {d : FnD} {an : An} {fn : Func} (hf : c.P.funcs[f]? = some fn) (hb : fn.body = some d.code) (hn : (fn.name == "runtime.NumGoroutine") = false)
  (hnt : fn.ntmps = d.nt) (hres : fn.results.toList = d.res.map (·.1)) (T : (v : AVs e.a) → Tab (RVs e.r))
  (hU : ∀ v q, q ∈ units d.code an → UnitOk c d.nt (T v) (endK c d (avEnc e.a v) (rvDec e.r)) q.1 q.2)
  (h : ∀ v, fnEvT c d an (T v) (avEnc e.a v) (rvDec e.r) = e.F v) : EntOk c.P f e where
 body := ⟨fn, hf, (by intro h1; rw [h1] at hn; exact absurd hn (by simp)), by rw [hb]; rfl⟩
 ans := by
  intro v r hr
  rw [← h v] at hr
  exact fn_okT hc hM hmix hf hb hnt hres (hU v) (fun q hq => rv_dec _ _ hq) hr
end Go.Abs
namespace Go.Abs
def Code.l : Code → Code
 | .seq a _ => a
 | .block _ a => a
 | .loop a => a
 | .cond _ a _ => a
 | c => c
def Code.r : Code → Code
 | .seq _ b => b
 | .cond _ _ b => b
 | c => c
universe u
theorem mem_nil {α : Type u} {p : α → Prop} : ∀ q, q ∈ ([] : List α) → p q := fun _ h => by cases h
theorem mem_cons {α : Type u} {p : α → Prop} {a : α} {l : List α} (h : p a) (h2 : ∀ q, q ∈ l → p q) : ∀ q, q ∈ a :: l → p q := fun q hq => by
 cases hq with
 | head => exact h
 | tail _ hq => exact h2 q hq
theorem units_of {p : Nat × Code → Prop} {x : Code} {a : An} {l : List (Nat × Code)} (h : units x a = l) (h2 : ∀ q, q ∈ l → p q) : ∀ q, q ∈ units x a → p q := by rw [h]; exact h2
theorem mkCtx_cok {P : Program} {ty : List (Nat × Kd)} {tb : List (Nat × FEnt)} (h : TysOk P ty) : CtxOk (mkCtx P ty tb) := ⟨h⟩
theorem ent_none {P : Program} {f : Nat} {e : FEnt} (fn : Func) (hf : P.funcs[f]? = some fn) (hb : fn.body.isNone = false) (hn : (fn.name == "runtime.NumGoroutine") = false) (h : ∀ v, e.F v = none) : EntOk P f e where
 body := ⟨fn, hf, (by intro h1; rw [h1] at hn; exact absurd hn (by simp)), hb⟩
 ans := by intro v r hr; rw [h v] at hr; cases hr
end Go.Abs
namespace Go.Abs
def Kd.pv : (K : Kd) → K.T → Value
 | .int k, n => .int k n
 | .bool, b => .bool b
 | .str, s => .string s
 | _, _ => undef
def Kd.plain : Kd → Bool
 | .int _ => true
 | .bool => true
 | .str => true
 | _ => false
theorem RO.pv {S : Nat → Prop} {w : World} {K : Kd} {x : K.T} {cs : List Value} {v : Value} (hK : K.plain = true) (h : RO S w K x cs) (hv : VRep K cs v) : v = K.pv x := by
 cases K with
 | int k => rw [show cs = [.int k x] from h] at hv; exact hv.1
 | bool => rw [show cs = [.bool x] from h] at hv; exact hv.1
 | str => rw [show cs = [.string x] from h] at hv; exact hv.1
 | _ => cases hK
@[reducible] def roA (Ks : List Kd) : List ASh := Ks.map ASh.ro
@[reducible] def roR (Ks : List Kd) : List RSh := Ks.map RSh.ro
theorem outs_ro {w2 : World} {g g2 : Gh} : ∀ (Ks : List Kd) (v : AVs (roA Ks)) (j : Nat), OutsRep w2 g g2 j (avEnc (roA Ks) v) []
 | [], _, _ => trivial
 | _ :: Ks, v, j => outs_ro Ks v.2 (j + 1)
def Rep0 (K : Kd) (x : K.T) (v : Value) : Prop := ∃ cs, (∀ (S : Nat → Prop) (w : World), RO S w K x cs) ∧ VRep K cs v
theorem Rep0.int {k : IntKind} {n : Int} : Rep0 (.int k) n (.int k n) := ⟨_, fun _ _ => rfl, rfl, rfl⟩
theorem Rep0.bool {b : Bool} : Rep0 .bool b (.bool b) := ⟨_, fun _ _ => rfl, rfl, rfl⟩
theorem Rep0.str {s : ByteArray} : Rep0 .str s (.string s) := ⟨_, fun _ _ => rfl, rfl, rfl⟩
def Rets0 : (Rs : List Kd) → RVs (roR Rs) → Value → Prop
 | [K], x, v => Rep0 K x v
 | [K, L], x, v => ∃ a b, v = .tuple #[a, b] ∧ Rep0 K x.1 a ∧ Rep0 L x.2 b
 | [K, L, M], x, v => ∃ a b c, v = .tuple #[a, b, c] ∧ Rep0 K x.1 a ∧ Rep0 L x.2.1 b ∧ Rep0 M x.2.2 c
 | _, _, _ => False
theorem rets0 {w2 : World} {g : Gh} {n : Nat} : ∀ (Rs : List Kd) (r : RVs (roR Rs)) (v : Value), Rets0 Rs r v → (∀ i b, ¬ g.F (n + i) b) → ∃ cs, RetsRep w2 { g with cs := cs } n (rvEnc (roR Rs) r).rets v
 | [], _, _, h, _ => h.elim
 | [K], x, v, h, hrest => by
  obtain ⟨cs, h1, h2⟩ := h
  exact ⟨fun _ => cs, hrest 0, h1 _ _, h2⟩
 | [K, L], x, v, h, hrest => by
  obtain ⟨a, b, rfl, ⟨c1, p1, p2⟩, c2, q1, q2⟩ := h
  refine ⟨fun i => if i = n then c1 else c2, _, rfl, rfl, fun i rr u hi hu => ?_⟩
  match i, hi, hu with
  | 0, hi, hu =>
   cases hi; cases hu
   refine ⟨hrest 0, ?_, ?_⟩
   ·simp only [Nat.add_zero, if_true]; exact p1 _ _
   ·simp only [Nat.add_zero, if_true]; exact p2
  | 1, hi, hu =>
   cases hi; cases hu
   refine ⟨hrest 1, ?_, ?_⟩
   ·dsimp only; rw [if_neg (by omega)]; exact q1 _ _
   ·dsimp only; rw [if_neg (by omega)]; exact q2
  | i + 2, hi, hu => cases hi
 | [K, L, M], x, v, h, hrest => by
  obtain ⟨a, b, c, rfl, ⟨c1, p1, p2⟩, ⟨c2, q1, q2⟩, c3, s1, s2⟩ := h
  refine ⟨fun i => if i = n then c1 else if i = n + 1 then c2 else c3, _, rfl, rfl, fun i rr u hi hu => ?_⟩
  match i, hi, hu with
  | 0, hi, hu =>
   cases hi
   obtain rfl : a = u := by simpa using hu
   refine ⟨hrest 0, ?_, ?_⟩
   ·dsimp only; rw [if_pos (by omega)]; exact p1 _ _
   ·dsimp only; rw [if_pos (by omega)]; exact p2
  | 1, hi, hu =>
   cases hi
   obtain rfl : b = u := by simpa using hu
   refine ⟨hrest 1, ?_, ?_⟩
   ·dsimp only; rw [if_neg (by omega), if_pos (by omega)]; exact q1 _ _
   ·dsimp only; rw [if_neg (by omega), if_pos (by omega)]; exact q2
  | 2, hi, hu =>
   cases hi
   obtain rfl : c = u := by simpa using hu
   refine ⟨hrest 2, ?_, ?_⟩
   ·dsimp only; rw [if_neg (by omega), if_neg (by omega)]; exact s1 _ _
   ·dsimp only; rw [if_neg (by omega), if_neg (by omega)]; exact s2
  | i + 3, hi, hu => cases hi
 | _ :: _ :: _ :: _ :: _, _, _, h, _ => h.elim
def ArgsRO (S : Nat → Prop) (w : World) : (Ks : List Kd) → AVs (roA Ks) → List Value → Prop
 | [], _, vs => vs = []
 | K :: Ks, x, vs => ∃ v r cs, vs = v :: r ∧ RO S w K x.1 cs ∧ VRep K cs v ∧ ArgsRO S w Ks x.2 r
theorem entry_args {P : Program} {w : World} {S : Nat → Prop} : ∀ (Ks : List Kd) (v : AVs (roA Ks)) (vals : List Value), vals.length = (avEnc (roA Ks) v).length →
  (∀ (j : Nat) a x, (avEnc (roA Ks) v)[j]? = some a → vals[j]? = some x → ∃ F pl cs, ArgRep P S w F pl cs a x) → ArgsRO S w Ks v vals
 | [], _, [], _, _ => rfl
 | [], _, _ :: _, h, _ => by cases h
 | K :: Ks, v, [], h, _ => by cases h
 | K :: Ks, v, x :: vals, hl, h => by
  obtain ⟨F, pl, cs, _, _, cs', h1, h2⟩ := h 0 (.ro K v.1) x rfl rfl
  exact ⟨x, vals, cs', rfl, h1, h2, entry_args Ks v.2 vals (Nat.succ.inj hl) (fun j a y ha hy => h (j + 1) a y ha (by simpa using hy))⟩
theorem ent_gen {P : Program} {f : Nat} {Ks Rs : List Kd} {F : AVs (roA Ks) → Option (RVs (roR Rs))} (fn : Func) (hf : P.funcs[f]? = some fn) (hb : fn.body.isNone = false) (hn : (fn.name == "runtime.NumGoroutine") = false)
  (h : ∀ v r, F v = some r → ∀ (S : Nat → Prop) (w : World) (vals : List Value), (∀ b, S b → b < w.heap.size) → GlobOk P S w → ArgsRO S w Ks v vals →
   Calls P f vals.toArray w fun e w' => (∃ ret, e = .returned ret ∧ Rets0 Rs r ret) ∧ Ext w w' (fun _ _ => False)) :
  EntOk P f ⟨roA Ks, roR Rs, F⟩ where
 body := ⟨fn, hf, (by intro h1; rw [h1] at hn; exact absurd hn (by simp)), hb⟩
 ans := by
  intro v r hr w vals g hE
  refine (h v r hr g.S w vals hE.Ssz hE.glob (entry_args (P := P) Ks v vals hE.len (fun j a x ha hx => ⟨_, _, _, hE.arg j a x ha hx⟩))).mono fun e w2 ⟨⟨ret, he, hret⟩, hx⟩ => ?_
  have hrest : ∀ i, (∀ b, ¬ g.F ((avEnc (roA Ks) v).length + i) b) := fun i => (hE.rest _ (Nat.le_add_right _ _)).1
  obtain ⟨cs, hcs⟩ := rets0 (w2 := w2) Rs r ret hret hrest
  refine ⟨ret, { g with cs := cs }, he, ⟨hx.mono (fun _ _ _ h => h.elim), fun _ h => h, fun _ h => .inl h, fun b hb => Nat.lt_of_lt_of_le (hE.Ssz b hb) hx.size,
   fun j b hF => .inl ⟨j, hF⟩, fun j b hF => Nat.lt_of_lt_of_le (hE.Fsz j b hF) hx.size, hE.FS, hE.FF, ?_, hcs⟩⟩
  have : ∀ (Rs : List Kd) (r : RVs (roR Rs)), (rvEnc (roR Rs) r).outs = [] := by
   intro Rs
   induction Rs with
   | nil => intro r; rfl
   | cons K Rs ih =>
    intro r
    cases Rs with
    | nil => rfl
    | cons L Rs => exact ih r.2
  rw [this]
  exact outs_ro Ks v 0
theorem Ext.below {w w' : World} {X : Nat → Nat → Prop} (h : RowKit.Below w.heap.size w w') : Ext w w' X :=
 ⟨h.os, h.tape, h.output, h.size, fun b hb _ => h.block b hb, fun b o hb _ => ⟨pk_same (h.block b hb), by unfold World.frozen?; rw [h.block b hb]⟩⟩
theorem Ext.grow (w : World) (k : Nat) (os : Array Go.Obj) (X : Nat → Nat → Prop) : Ext w (Go.Sort.grow (w.drewN k) os) X := by
 have hb : ∀ b, b < w.heap.size → (w.heap ++ os)[b]? = w.heap[b]? := fun b hb => by rw [Array.getElem?_append, if_pos hb]
 have hs : w.heap.size ≤ (w.heap ++ os).size := by rw [Array.size_append]; omega
 exact Ext.below ⟨rfl, rfl, rfl, hs, hb⟩
theorem Ext.of_heap {w w' : World} {X : Nat → Nat → Prop} (h1 : w'.heap = w.heap) (h2 : w'.os = w.os) (h3 : w'.tape = w.tape) (h4 : w'.output = w.output) : Ext w w' X :=
 ⟨h2, h3, h4, by rw [h1]; exact Nat.le_refl _, fun b _ _ => by rw [h1], fun b o _ _ => ⟨pk_same (by rw [h1]), by unfold World.frozen?; rw [h1]⟩⟩
end Go.Abs
namespace Go.Abs
theorem VRep.raw {k : Kd} {cs : List Value} {v : Value} (h : VRep (.raw (.st k)) cs v) : VRep (.st k) cs v := h
open Classical in
abbrev KN (r : List RSh) : Type := Env → Option (RVs r)
abbrev KX (r : List RSh) : Type := Nat → Env → Option (RVs r)
theorem loop_u {c : Ctx} {nt : Nat} {Ω : Type} {T : Tab Ω} {kr : Env → Option Ω} (hc : CtxOk c) (hM : MOk c) (hmix : c.P.follows .mixedOrders = true) {j n : Nat} {x : Code} (a : An) (lv : Lv) (live : List Nat) (S : ES)
  (G : Nat → S.V → (Env → Option Ω) → (Nat → Env → Option Ω) → Option Ω) (hT : ∀ e kn kx, T j e kn kx = ES.on S e fun x => G n x kn kx) (h0 : ∀ x kn kx, G 0 x kn kx = none)
  (hs : ∀ m x' kn kx, aevT c nt T kr x a lv (meet (some live) fun e => ES.on S e fun x => G m x kn kx) kx (S.enc x') = G (m + 1) x' kn kx) {l : List (Nat × Code)} (hl : units x a = l)
  (hU : ∀ q, q ∈ l → UnitOk c nt T kr q.1 q.2) : UnitOk c nt T kr j (.loop x) :=
 loop_unit (n := n) hc hM hmix a lv live (fun m e kn kx => ES.on S e fun x => G m x kn kx) hT
  (fun e kn kx out h => by obtain ⟨x, _, h2⟩ := ES.on_inv h; rw [h0] at h2; cases h2) (fun m e kn kx out h => by obtain ⟨x, e1, h2⟩ := ES.on_inv h; rw [e1]; exact (hs m x kn kx).trans h2) (units_of hl hU)
theorem join_u {c : Ctx} {nt : Nat} {Ω : Type} {T : Tab Ω} {kr : Env → Option Ω} (hc : CtxOk c) (hM : MOk c) (hmix : c.P.follows .mixedOrders = true) {j : Nat} {x : Code} (a : An) (lv : Lv) (live : List Nat) (S : ES)
  (G : S.V → (Env → Option Ω) → (Nat → Env → Option Ω) → Option Ω) (hT : ∀ e kn kx, T j e kn kx = ES.on S e fun x => G x kn kx)
  (hs : ∀ x' kn kx, aevT c nt T kr x a lv (meet (some live) kn) kx (S.enc x') = G x' kn kx) {l : List (Nat × Code)} (hl : units x a = l)
  (hU : ∀ q, q ∈ l → UnitOk c nt T kr q.1 q.2) : UnitOk c nt T kr j x :=
 join_unit hc hM hmix a lv (some live) (fun e kn kx out h => by rw [hT] at h; obtain ⟨x, e1, h2⟩ := ES.on_inv h; rw [e1]; exact (hs x kn kx).trans h2) (units_of hl hU)
def fnQ (fn : Func) : Option Code × Nat × List ResultVar × Bool := (fn.body, fn.ntmps, fn.results.toList, fn.name == "runtime.NumGoroutine")
def fnR (d : FnD) : Option Code × Nat × List ResultVar × Bool := (some d.code, d.nt, d.res.map (·.1), false)
theorem ent_okU {c : Ctx} (hc : CtxOk c) (hM : MOk c) (hmix : c.P.follows .mixedOrders = true) {f : Nat} {e : FEnt} {d : FnD} (an : An) {fn : Func} (hf : c.P.funcs[f]? = some fn) (hq : fnQ fn = fnR d) (T : Tab (RVs e.r)) {l : List (Nat × Code)} (hl : units d.code an = l)
  (hU : ∀ v q, q ∈ l → UnitOk c d.nt T (endK c d (avEnc e.a v) (rvDec e.r)) q.1 q.2) (h : ∀ v, fnEvT c d an T (avEnc e.a v) (rvDec e.r) = e.F v) : EntOk c.P f e := by
 simp only [fnQ, fnR, Prod.mk.injEq] at hq
 exact ent_ok hc hM hmix hf hq.1 hq.2.2.2 hq.2.1 hq.2.2.1 (fun _ => T) (fun v => units_of hl (hU v)) h
theorem ent_ok0 {c : Ctx} (hc : CtxOk c) (hM : MOk c) (hmix : c.P.follows .mixedOrders = true) {f : Nat} {e : FEnt} {d : FnD} (an : An) {fn : Func} (hf : c.P.funcs[f]? = some fn) (hq : fnQ fn = fnR d) (hl : units d.code an = [])
  (h : ∀ v, fnEvT c d an (fun _ _ _ _ => none) (avEnc e.a v) (rvDec e.r) = e.F v) : EntOk c.P f e :=
 ent_okU hc hM hmix an hf hq _ hl (fun _ => mem_nil) h
end Go.Abs
