/- The abstract interpreter of the elaborated code, and that what it answers is what the machine does: part 2. Conditions: none. -/
import Derived.Deep.AppendSrc
import Derived.Deep.Upon
import Derived.Deep.DeepAppendWide
import Derived.LoopN
import Derived.Test.YtahdigojpapcdaaGreatDoorA1
set_option linter.unusedVariables false
set_option linter.unusedSimpArgs false
namespace Go.Abs

theorem run_mapM {α β : Type} {P : Program} {w : World} (f : α → Sem β) (g : α → β) : ∀ (l : List α), (∀ x, x ∈ l → (f x).run P w = .ok (g x) w) → (l.mapM f).run P w = .ok (l.map g) w
  | [], _ => rfl
  | x :: l, h => by
    rw [List.mapM_cons]
    simp only [Sem.run_bind, h x List.mem_cons_self, Result.andThen_ok, run_mapM f g l (fun y hy => h y (List.mem_cons_of_mem _ hy)), Sem.run_pure, List.map_cons]

theorem run_mapM_array {α β : Type} {P : Program} {w : World} (f : α → Sem β) (g : α → β) (l : Array α) (h : ∀ x, x ∈ l.toList → (f x).run P w = .ok (g x) w) : (l.mapM f).run P w = .ok (l.map g) w := by
  rw [Array.mapM_eq_mapM_toList, Sem.run_map, run_mapM f g l.toList h, Result.andThen_ok]
  congr 1
  apply Array.ext'
  simp

theorem fld_nf {ty : List (Nat × Kd)} : ∀ (fs : List Field) (k : Kd) (off : Nat), fldsOk ty fs off k = true → fs.length = k.nf
  | [], _, _, h => by simp [fldsOk] at h
  | [fd0], k, off, h => by
    simp only [fldsOk, Bool.and_eq_true] at h
    have := Kd.np_ok h.2
    cases k with
    | pair a b => exact absurd rfl (this a b)
    | int _ => rfl
    | bool => rfl
    | str => rfl
    | err => rfl
    | sl _ => rfl
    | st _ => rfl
  | fd0 :: gd :: r, k, off, h => by
    cases k with
    | pair a b =>
      simp only [fldsOk, Bool.and_eq_true] at h
      have := fld_nf (gd :: r) b _ h.2
      simp only [Kd.nf, List.length_cons] at this ⊢
      omega
    | int _ => simp [fldsOk] at h
    | bool => simp [fldsOk] at h
    | str => simp [fldsOk] at h
    | err => simp [fldsOk] at h
    | sl _ => simp [fldsOk] at h
    | st _ => simp [fldsOk] at h

theorem keysIn_ok {pl : List (Nat × Part)} {n : Nat} (h : keysIn pl n = true) : ∀ i, i ∈ pl.map (·.1) → i < n := by
  intro i hi
  obtain ⟨q, h1, rfl⟩ := List.mem_map.1 hi
  have := List.all_eq_true.1 h q h1
  exact Nat.lt_of_lt_of_le (Nat.lt_of_succ_le (Nat.le_of_ble_eq_true this)) (Nat.le_refl _)

theorem fld_ty {ty : List (Nat × Kd)} : ∀ (fs : List Field) (k : Kd) (off : Nat), fldsOk ty fs off k = true → ∀ fd, fd ∈ fs → ∃ K, look ty fd.type = some K
  | [], _, _, h, _, _ => by simp [fldsOk] at h
  | [fd0], k, off, h, fd, hm => by
    simp only [fldsOk, Bool.and_eq_true] at h
    simp at hm
    subst hm
    exact ⟨k, tyHas_ok h.1.2⟩
  | fd0 :: gd :: r, k, off, h, fd, hm => by
    cases k with
    | pair a b =>
      simp only [fldsOk, Bool.and_eq_true] at h
      rcases List.mem_cons.1 hm with rfl | hm
      · exact ⟨a, tyHas_ok h.1.1.2⟩
      · exact fld_ty (gd :: r) b _ h.2 fd hm
    | int _ => simp [fldsOk] at h
    | bool => simp [fldsOk] at h
    | str => simp [fldsOk] at h
    | err => simp [fldsOk] at h
    | sl _ => simp [fldsOk] at h
    | st _ => simp [fldsOk] at h

/-- Two fields lie apart. -/
theorem fld_apart {ty : List (Nat × Kd)} : ∀ (fs : List Field) (k : Kd) (off : Nat), fldsOk ty fs off k = true → ∀ (i j : Nat) (fi fj : Field) (Ki Kj : Kd), i < j → fs[i]? = some fi → fs[j]? = some fj → look ty fi.type = some Ki → look ty fj.type = some Kj →
    fi.offset + Ki.size ≤ fj.offset ∧ off ≤ fj.offset
  | [], _, _, h, _, _, _, _, _, _, _, _, _, _, _ => by simp [fldsOk] at h
  | [fd0], k, off, h, i, j, fi, fj, Ki, Kj, hij, hi, hj, _, _ => by
    cases j with
    | zero => omega
    | succ j => simp at hj
  | fd0 :: gd :: r, k, off, h, i, j, fi, fj, Ki, Kj, hij, hi, hj, hKi, hKj => by
    cases k with
    | pair a b =>
      simp only [fldsOk, Bool.and_eq_true] at h
      obtain ⟨⟨⟨h1, h2⟩, h3⟩, h4⟩ := h
      have e1 := Nat.eq_of_beq_eq_true h1
      cases j with
      | zero => omega
      | succ j =>
        have low : off + a.size ≤ fj.offset := by
          have : ∀ (fs : List Field) (k : Kd) (off : Nat), fldsOk ty fs off k = true → ∀ (j : Nat) (fj : Field), fs[j]? = some fj → off ≤ fj.offset := by
            intro fs
            induction fs with
            | nil => intro k off h; simp [fldsOk] at h
            | cons f0 r ih =>
              intro k off h j fj hj
              cases r with
              | nil =>
                simp only [fldsOk, Bool.and_eq_true] at h
                have := Nat.eq_of_beq_eq_true h.1.1
                cases j with
                | zero => simp at hj; subst hj; omega
                | succ j => simp at hj
              | cons f1 r =>
                cases k with
                | pair a b =>
                  simp only [fldsOk, Bool.and_eq_true] at h
                  have := Nat.eq_of_beq_eq_true h.1.1.1
                  cases j with
                  | zero => simp at hj; subst hj; omega
                  | succ j => have := ih b (off + a.size) h.2 j fj (by simpa using hj); omega
                | int _ => simp [fldsOk] at h
                | bool => simp [fldsOk] at h
                | str => simp [fldsOk] at h
                | err => simp [fldsOk] at h
                | sl _ => simp [fldsOk] at h
                | st _ => simp [fldsOk] at h
          exact this (gd :: r) b (off + a.size) h4 j fj (by simpa using hj)
        cases i with
        | zero =>
          simp at hi
          subst hi
          rw [tyHas_ok h2] at hKi
          cases hKi
          omega
        | succ i =>
          have := fld_apart (gd :: r) b (off + a.size) h4 i j fi fj Ki Kj (by omega) (by simpa using hi) (by simpa using hj) hKi hKj
          omega
    | int _ => simp [fldsOk] at h
    | bool => simp [fldsOk] at h
    | str => simp [fldsOk] at h
    | err => simp [fldsOk] at h
    | sl _ => simp [fldsOk] at h
    | st _ => simp [fldsOk] at h

theorem look_map {α β : Type} (f : α → β) : ∀ (l : List (Nat × α)) (i : Nat), look (l.map fun q => (q.1, f q.2)) i = (look l i).map f
  | [], _ => rfl
  | (j, x) :: l, i => by
    by_cases h : j = i
    · subst h; rw [List.map_cons, look_cons_self, look_cons_self]; rfl
    · rw [List.map_cons, look_cons_ne h, look_cons_ne h, look_map f l i]

theorem mem_look {α : Type} : ∀ {l : List (Nat × α)} {i : Nat} {x : α}, (l.map (·.1)).Nodup → (i, x) ∈ l → look l i = some x
  | [], _, _, _, h => by cases h
  | (j, y) :: l, i, x, hn, h => by
    have hn' := List.nodup_cons.1 (show (j :: l.map (·.1)).Nodup from hn)
    rcases List.mem_cons.1 h with h | h
    · cases h; exact look_cons_self _ _ _
    · by_cases hj : j = i
      · subst hj; exact absurd (List.mem_map.2 ⟨(j, x), h, rfl⟩) hn'.1
      · rw [look_cons_ne hj]; exact mem_look hn'.2 h

section
variable {c : Ctx} {B : Base} {nt : Nat} {o : Oper} {Ω : Type} {k : Delta → Option Ω} {out : Ω} {fr : Bool}

/-- What 'build' of a struct comes to. -/
theorem run_build {P : Program} {nt : Nat} {ty : List (Nat × Kd)} (hty : TysOk P ty) {e : Env} {a : Act} {w : World} {g : Gh} (hg : InvG P B nt e a w g) {t : Nat} {K : Kd} {m : Md} {x : K.T} {ps : Array (Nat × Operand)} {vs : List View} {pl : List (Nat × Part)}
    (ht : look ty t = some (.st K)) (hv : ps.toList.map (fun q => e.view (e.opd q.2)) = vs) (hp : partsOf ps.toList vs = some pl) (hn : nodup (moved pl) = true) (hk : nodup (pl.map (·.1)) = true) (hin : keysIn pl K.nf = true) (hm : Md.fits K m = true) (hb : bld K m 0 pl = some x) :
    ∃ R : List Value, (Instr.build t (ps.map fun q => (q.1, a.eval q.2))).run P w = .ok (.agg R.toArray) w ∧ Own g.S w K m x R (fun b => ∃ i, Fpart g pl i b) := by
  have hT := hty.get ht
  obtain ⟨fs, hu, hfs⟩ := hT.st K rfl
  obtain ⟨z, hz, hzc, _⟩ := hT.zero w
  obtain ⟨k1, k2, k3, k4⟩ := parts_rep hg hv hp
  have hplaces : (fs.mapM fun f => do pure (f.offset, ← sizeOf f.type) : Sem (Array (Nat × Nat))).run P w = .ok (fs.map fun f => (f.offset, match look ty f.type with | some K => K.size | none => 0)) w := by
    refine run_mapM_array _ _ fs fun f hf => ?_
    obtain ⟨K', hK'⟩ := fld_ty fs.toList K 0 hfs f hf
    simp only [Sem.run_bind, (hty.get hK').size, Result.andThen_ok, Sem.run_pure, hK']
  have hkeys : ((ps.toList.map fun q => (q.1, a.eval q.2)).map (·.1)).Nodup := by
    have : (ps.toList.map fun q => (q.1, a.eval q.2)).map (·.1) = pl.map (·.1) := by rw [k1]; simp
    rw [this]; exact nodup_ok hk
  have hzl : K.zc.length = K.size := zc_length K
  have hplc : ∀ (i : Nat) (fd : Field) (K' : Kd), fs.toList[i]? = some fd → look ty fd.type = some K' → (fs.map fun f => (f.offset, match look ty f.type with | some K => K.size | none => 0))[i]? = some (fd.offset, K'.size) := by
    intro i fd K' h1 h2
    have : fs[i]? = some fd := by simpa using h1
    simp [this, h2]
  have hplc' : ∀ (i : Nat) (q : Nat × Nat), (fs.map fun f => (f.offset, match look ty f.type with | some K => K.size | none => 0))[i]? = some q → ∃ (fd : Field) (K' : Kd), fs.toList[i]? = some fd ∧ look ty fd.type = some K' ∧ q = (fd.offset, K'.size) := by
    intro i q h
    simp only [Array.getElem?_map, Option.map_eq_some_iff] at h
    obtain ⟨fd, h1, h2⟩ := h
    have hmem : fd ∈ fs.toList := by have := Array.mem_of_getElem? h1; simpa using this
    obtain ⟨K', hK'⟩ := fld_ty fs.toList K 0 hfs fd hmem
    rw [hK'] at h2
    exact ⟨fd, K', by simpa using h1, hK', h2.symm⟩
  have hcast := bld_cast (pl := pl) fs.toList K m 0 0 x hfs hb
  have vals : ∀ i v, look (ps.toList.map fun q => (q.1, a.eval q.2)) i = some v → ∃ p, look pl i = some p ∧ PartRep e g w p v := by
    intro i v hlv
    cases hl : look pl i with
    | none => rw [k3 i hl] at hlv; cases hlv
    | some p =>
      obtain ⟨v', h1, h2⟩ := k2 i p hl
      rw [h1] at hlv
      cases hlv
      exact ⟨p, rfl, h2⟩
  have hsz : fs.size = K.nf := by have := fld_nf fs.toList K 0 hfs; simpa using this
  have hin : ∀ i v, (i, v) ∈ (ps.toList.map fun q => (q.1, a.eval q.2)) → i < fs.size := by
    intro i v h
    have : (ps.toList.map fun q => (q.1, a.eval q.2)).map (·.1) = pl.map (·.1) := by rw [k1]; simp
    have h2 : i ∈ pl.map (·.1) := this ▸ List.mem_map.2 ⟨_, h, rfl⟩
    have := keysIn_ok hin i h2
    omega
  obtain ⟨r, r1, r2, r3, r4⟩ := fill_ok (fun i => (fs.map fun f => (f.offset, match look ty f.type with | some K => K.size | none => 0))[i]?) (ps.toList.map fun q => (q.1, a.eval q.2)) K.zc.toArray hkeys
    (fun i v hi => by
      have hlt := hin i v hi
      obtain ⟨p, h1, h2⟩ := vals i v (mem_look hkeys hi)
      have hfd : fs.toList[i]? = some fs[i] := by simp [hlt]
      obtain ⟨K', hK'⟩ := fld_ty fs.toList K 0 hfs fs[i] (by simp)
      obtain ⟨c1, c2, c3⟩ := hcast i fs[i] K' hfd hK'
      obtain ⟨m', y, h3⟩ := c3 p (by simpa using h1)
      have hs := part_size h2 h3
      refine ⟨fs[i].offset, ?_, ?_⟩
      · rw [hplc i fs[i] K' hfd hK', hs]
      · rw [hs]; simp only [List.size_toArray, hzl]; omega)
    (fun i j oi si oj sj hij hi hj => by
      obtain ⟨fi, Ki, a1, a2, a3⟩ := hplc' i _ hi
      obtain ⟨fj, Kj, b1, b2, b3⟩ := hplc' j _ hj
      simp only [Prod.mk.injEq] at a3 b3
      rcases Nat.lt_or_gt_of_ne hij with hlt | hlt
      · have := (fld_apart fs.toList K 0 hfs i j fi fj Ki Kj hlt a1 b1 a2 b2).1; omega
      · have := (fld_apart fs.toList K 0 hfs j i fj fi Kj Ki hlt b1 a1 b2 a2).1; omega)
  refine ⟨r.toList, ?_, ?_⟩
  · have hzc2 : z.cells = K.zc.toArray := hzc
    simp only [Instr.build, Sem.run_bind, hz, Result.andThen_ok, run_underlying hu, hplaces, hzc2, Array.toList_map, r1, Sem.run_pure]
  · have hF : ∀ n n' b, n ≠ n' → Fpart g pl n b → ¬ Fpart g pl n' b := by
      rintro n n' b hne ⟨id, ob, h1, h2⟩ ⟨id', ob', h3, h4⟩
      by_cases hid : id = id'
      · subst hid
        exact hne (moved_inj (nodup_ok hn) h1 h3)
      · exact hg.FF id id' b hid h2 h4
    have := bld_own (ty := ty) (e := e) (g := g) (w := w) (pl := pl) (R := r.toList) (Z := K.zc) hF fs.toList K m 0 0 x hfs hm hb (by simp [r2, hzl]) (by simp) ?_
    · rw [List.drop_zero] at this
      exact this.mono (fun _ h => h) (fun _ _ _ _ h => h) (fun b ⟨i, _, h⟩ => ⟨i, h⟩) (fun _ _ _ => ⟨rfl, rfl⟩)
    · intro i fd K' hi hK'
      rw [Nat.zero_add]
      obtain ⟨c1, c2, c3⟩ := hcast i fd K' hi hK'
      refine ⟨fun p hpl => ?_, fun hnone => ?_⟩
      · obtain ⟨v, h1, h2⟩ := k2 i p hpl
        obtain ⟨m', y, h3⟩ := c3 p (by simpa using hpl)
        have hs := part_size h2 h3
        refine ⟨v, h2, ?_⟩
        have := r3 i v fd.offset h1 (by rw [hplc i fd K' hi hK', hs])
        rwa [hs] at this
      · apply List.ext_getElem?
        intro p
        rw [List.getElem?_take, List.getElem?_take]
        split
        · rename_i hlt
          rw [List.getElem?_drop, List.getElem?_drop]
          have := r4 (fd.offset + p) (fun j v oj hj hpj => by
            obtain ⟨fj, Kj, b1, b2, b3⟩ := hplc' j _ hpj
            simp only [Prod.mk.injEq] at b3
            have hne : i ≠ j := fun e => by subst e; rw [k3 i hnone] at hj; cases hj
            rcases Nat.lt_or_gt_of_ne hne with hlt' | hlt'
            · have := (fld_apart fs.toList K 0 hfs i j fd fj K' Kj hlt' hi b1 hK' b2).1; omega
            · have := (fld_apart fs.toList K 0 hfs j i fj fd Kj K' hlt' b1 hi b2 hK').1; omega)
          simpa using this
        · rfl

theorem views_build {e : Env} {t : Nat} {ps : Array (Nat × Operand)} {vs : List View} (h : e.views o = vs) (ho : o.op.operands = (ps.toList.map (·.2)).toArray) : ps.toList.map (fun q => e.view (e.opd q.2)) = vs := by
  rw [← h]
  simp only [Env.views, Oper.opds, ho, List.map_map]
  rfl

theorem parts_mem {e : Env} : ∀ {ps : List (Nat × Operand)} {vs : List View} {pl : List (Nat × Part)}, ps.map (fun q => e.view (e.opd q.2)) = vs → partsOf ps vs = some pl → ∀ i, i ∈ moved pl → ∃ o, e.obj i = some (some o)
  | [], [], pl, _, hp => by
    simp only [partsOf, Option.some.injEq] at hp
    subst hp
    intro i h; cases h
  | (j, x) :: ps, v :: vs, pl, hv, hp => by
    simp only [List.map_cons, List.cons.injEq] at hv
    unfold partsOf at hp
    split at hp
    · rename_i p l h1 h2
      cases hp
      have ih := parts_mem hv.2 h2
      intro i hi
      unfold partOf at h1
      split at h1
      · cases h1; exact ih i hi
      · cases h1; exact ih i hi
      · split at h1
        · cases h1
          rename_i id n ob _
          rcases List.mem_cons.1 (show i ∈ id :: moved l from hi) with rfl | hi
          · exact ⟨ob, view_al hv.1⟩
          · exact ih i hi
        · cases h1
      · cases h1
    · cases hp
  | [], _ :: _, _, hv, _ => by cases hv
  | _ :: _, [], _, hv, _ => by cases hv

theorem ok_build_own {t : Nat} {ps : Array (Nat × Operand)} {vs : List View} {pl : List (Nat × Part)} {K : Kd} {m : Md} {x : K.T} (hc : CtxOk c) (ho : o.op = .build t ps) (ht : look c.ty t = some (.st K)) (hp : partsOf ps.toList vs = some pl)
    (hg0 : (nodup (moved pl) && nodup (pl.map (·.1)) && keysIn pl K.nf && Md.fits K m) = true) (hb : bld K m 0 pl = some x)
    (hk : putNew nt o.dst fr ⟨.st K, m, x, false, false, [], none⟩ false (gone (moved pl)) k = some out) : Step1 c B nt o vs fr k out := by
  simp only [Bool.and_eq_true] at hg0
  refine step_new (mv := moved pl) hk rfl rfl rfl fun e0 he a w g hg => ?_
  have hv := views_build (t := t) he (ps := ps) (by rw [ho]; rfl)
  obtain ⟨R, r1, r2⟩ := run_build hc.ty hg ht hv hp hg0.1.1.1 hg0.1.1.2 hg0.1.2 hg0.2 hb
  refine ⟨.agg R.toArray, w, fun b => ∃ i, Fpart g pl i b, none, R, ?_, Ext.refl _ _, parts_mem hv hp, ?_, (fun b off h => by cases h), ⟨Own.st.2 r2, (fun b off h => by cases h)⟩, rfl, ?_⟩
  · simp only [execOp, ho, Sem.run_bind, r1, Result.andThen_ok, Sem.run_pure]
  · rintro b ⟨i, id, ob, h1, h2⟩
    exact .inr ⟨id, moved_mem h1, h2⟩
  · exact (show VRep (.st K) R (.agg R.toArray) from ⟨rfl, rfl⟩)

theorem ok_build_ro {t : Nat} {ps : Array (Nat × Operand)} {vs : List View} {pl : List (Nat × Part)} {K : Kd} {x : K.T} (hc : CtxOk c) (ho : o.op = .build t ps) (ht : look c.ty t = some (.st K)) (hp : partsOf ps.toList vs = some pl)
    (hg0 : ((moved pl).isEmpty && nodup (pl.map (·.1)) && keysIn pl K.nf) = true) (hb : bld K .ro 0 pl = some x)
    (hk : put1 nt o.dst (.v (.st K) x) k = some out) : Step1 c B nt o vs fr k out := by
  simp only [Bool.and_eq_true] at hg0
  have hm0 : moved pl = [] := List.isEmpty_iff.1 hg0.1.1
  refine stepOk_pure hk fun e0 he a w g hg => ?_
  have hv := views_build (t := t) he.1 (ps := ps) (by rw [ho]; rfl)
  obtain ⟨R, r1, r2⟩ := run_build (m := .ro) hc.ty hg ht hv hp (by rw [hm0]; rfl) hg0.1.2 hg0.2 (by cases K <;> rfl) hb
  refine ⟨.agg R.toArray, ?_, R, (show RO g.S w (.st K) x R from ?_), rfl, rfl⟩
  · simp only [execOp, ho, Sem.run_bind, r1, Result.andThen_ok, Sem.run_pure]
  refine Own.toRO (K := .st K) (fun b hb => hb) (fun b hb => ?_) (Own.st.2 r2)
  · obtain ⟨i, id, ob, h1, _⟩ := hb
    have := moved_mem h1
    rw [hm0] at this
    cases this

theorem blds_cast {pl : List (Nat × Part)} {K : Kd} {m : Md} : ∀ (k n : Nat) (xs : List K.T), blds K m n pl k = some xs → ∀ i, i < k → ∀ p, look pl (n + i) = some p → ∃ y, cast1 K m (some p) = some y
  | 0, _, _, _, i, hi, _, _ => absurd hi (Nat.not_lt_zero i)
  | k + 1, n, xs, h, i, hi, p, hp => by
    simp only [blds] at h
    split at h
    · rename_i x l hx hl
      cases i with
      | zero => rw [Nat.add_zero] at hp; exact ⟨x, by rw [← hp]; exact hx⟩
      | succ i => exact blds_cast k (n + 1) l hl i (by omega) p (by rw [← hp]; congr 1; omega)
    · cases h

theorem run_buildSlice {P : Program} {nt : Nat} {ty : List (Nat × Kd)} (hty : TysOk P ty) {e : Env} {a : Act} {w : World} {g : Gh} (hg : InvG P B nt e a w g) {t n : Nat} {K : Kd} {m : Md} {xs : List K.T} {ps : Array (Nat × Operand)} {vs : List View} {pl : List (Nat × Part)}
    (ht : look ty t = some (.sl K)) (hv : ps.toList.map (fun q => e.view (e.opd q.2)) = vs) (hp : partsOf ps.toList vs = some pl) (hn : nodup (moved pl) = true) (hk : nodup (pl.map (·.1)) = true) (hin : keysIn pl n = true) (hsz : n * K.size ≤ 16777216) (hb : blds K m 0 pl n = some xs) :
    ∃ (R : List Value) (t' : Nat), xs.length = n ∧ (Instr.buildSlice t n (ps.map fun q => (q.1, a.eval q.2))).run P w = .ok (.slice (some ⟨w.heap.size, 0, none⟩) n n) (w.alloc (.cells R.toArray t')) ∧
      Own g.S (w.alloc (.cells R.toArray t')) (.sl K) (.own m) xs [.slice (some ⟨w.heap.size, 0, none⟩) n n] (fun b => b = w.heap.size ∨ ∃ i, Fpart g pl i b) := by
  have hT := hty.get ht
  obtain ⟨t', hu, hl⟩ := hT.sl K rfl
  have hE := hty.get hl
  obtain ⟨z, hz, hzc, _⟩ := hE.zero w
  obtain ⟨k1, k2, k3, k4⟩ := parts_rep hg hv hp
  have hzl : K.zc.length = K.size := zc_length K
  have hpos := K.size_pos
  have hsz2 : (madeCells K.zc.toArray (n * K.size)).size = n * K.size := size_madeCells _ _
  have hkeq : (ps.toList.map fun q => (q.1, a.eval q.2)).map (·.1) = pl.map (·.1) := by rw [k1]; simp
  have hkeys : ((ps.toList.map fun q => (q.1, a.eval q.2)).map (·.1)).Nodup := by rw [hkeq]; exact nodup_ok hk
  have hin2 : ∀ i v, (i, v) ∈ (ps.toList.map fun q => (q.1, a.eval q.2)) → i < n := fun i v h => keysIn_ok hin i (hkeq ▸ List.mem_map.2 ⟨_, h, rfl⟩)
  have hcast := blds_cast (pl := pl) n 0 xs hb
  have vals : ∀ i v, look (ps.toList.map fun q => (q.1, a.eval q.2)) i = some v → ∃ p, look pl i = some p ∧ PartRep e g w p v := by
    intro i v hlv
    cases hl : look pl i with
    | none => rw [k3 i hl] at hlv; cases hlv
    | some p =>
      obtain ⟨v', h1, h2⟩ := k2 i p hl
      rw [h1] at hlv
      cases hlv
      exact ⟨p, rfl, h2⟩
  have vsz : ∀ i v, i < n → look (ps.toList.map fun q => (q.1, a.eval q.2)) i = some v → v.cells.size = K.size := by
    intro i v hi h
    obtain ⟨p, h1, h2⟩ := vals i v h
    obtain ⟨y, h3⟩ := hcast i hi p (by simpa using h1)
    exact part_size h2 h3
  obtain ⟨r, r1, r2, r3, r4⟩ := fill_ok (fun i => some (i * K.size, K.size)) (ps.toList.map fun q => (q.1, a.eval q.2)) (madeCells K.zc.toArray (n * K.size)) hkeys
    (fun i v hi => by
      have hlt := hin2 i v hi
      have hs := vsz i v hlt (mem_look hkeys hi)
      refine ⟨i * K.size, by rw [hs], ?_⟩
      rw [hs, hsz2]
      have : (i + 1) * K.size ≤ n * K.size := Nat.mul_le_mul_right _ hlt
      rw [Nat.add_mul, Nat.one_mul] at this
      exact this)
    (fun i j oi si oj sj hij hi hj => by
      simp only [Option.some.injEq, Prod.mk.injEq] at hi hj
      obtain ⟨rfl, rfl⟩ := hi
      obtain ⟨rfl, rfl⟩ := hj
      rcases Nat.lt_or_gt_of_ne hij with h | h
      · left
        have : (i + 1) * K.size ≤ j * K.size := Nat.mul_le_mul_right _ h
        rw [Nat.add_mul, Nat.one_mul] at this
        exact this
      · right
        have : (j + 1) * K.size ≤ i * K.size := Nat.mul_le_mul_right _ h
        rw [Nat.add_mul, Nat.one_mul] at this
        exact this)
  have hrl : r.toList.length = n * K.size := by simpa [hsz2] using r2
  have hF : ∀ n n' b, n ≠ n' → Fpart g pl n b → ¬ Fpart g pl n' b := by
    rintro n n' b hne ⟨id, ob, h1, h2⟩ ⟨id', ob', h3, h4⟩
    by_cases hid : id = id'
    · subst hid
      exact hne (moved_inj (nodup_ok hn) h1 h3)
    · exact hg.FF id id' b hid h2 h4
  have hFs : ∀ i b, Fpart g pl i b → b < w.heap.size := fun i b ⟨id, ob, _, h2⟩ => hg.Fsz id b h2
  obtain ⟨e1, e2⟩ := blds_own (e := e) (g := g) (w := w) (pl := pl) (R := r.toList) (Z := (madeCells K.zc.toArray (n * K.size)).toList) hrl n 0 xs hb (by omega) (fun i hi => by
      have := made_get (z := K.zc) (n := n) (i := i) (by omega) hi
      rwa [hzl] at this) (fun i hi => by
      refine ⟨fun p hpl => ?_, fun hnone => ?_⟩
      · obtain ⟨v, h1, h2⟩ := k2 i p hpl
        have hs := vsz i v hi h1
        refine ⟨v, h2, ?_⟩
        have := r3 i v (i * K.size) h1 (by rw [hs])
        rwa [hs] at this
      · apply List.ext_getElem?
        intro p
        simp only [elemAt]
        rw [List.getElem?_take, List.getElem?_take]
        split
        · rename_i hlt
          rw [List.getElem?_drop, List.getElem?_drop]
          have := r4 (i * K.size + p) (fun j v oj hj hpj => by
            simp only [Option.some.injEq, Prod.mk.injEq] at hpj
            obtain ⟨rfl, hs⟩ := hpj
            rw [← hs]
            have hne : i ≠ j := fun e => by subst e; rw [k3 i hnone] at hj; cases hj
            rcases Nat.lt_or_gt_of_ne hne with h | h
            · left
              have : (i + 1) * K.size ≤ j * K.size := Nat.mul_le_mul_right _ h
              rw [Nat.add_mul, Nat.one_mul] at this
              omega
            · right
              have : (j + 1) * K.size ≤ i * K.size := Nat.mul_le_mul_right _ h
              rw [Nat.add_mul, Nat.one_mul] at this
              omega)
          simpa using this
        · rfl)
  refine ⟨r.toList, t', e1, ?_, ?_⟩
  · have hnb : ¬ (n * K.size > 2 ^ 24) := by omega
    by_cases h0 : n * K.size = 0
    · have hn0 : n = 0 := by
        rcases Nat.mul_eq_zero.1 h0 with h | h
        · exact h
        · omega
      subst hn0
      have hps : ps.toList.map (fun q => (q.1, a.eval q.2)) = [] := by
        cases hq : ps.toList.map (fun q => (q.1, a.eval q.2)) with
        | nil => rfl
        | cons q l => exact absurd (hin2 q.1 q.2 (by rw [hq]; exact List.mem_cons_self)) (Nat.not_lt_zero _)
      have hr0 : r = #[] := by apply Array.ext'; exact List.length_eq_zero_iff.1 (by rw [hrl]; omega)
      simp only [Instr.buildSlice, Sem.run_bind, run_underlying hu, hE.size, Result.andThen_ok, hnb, ite_false, h0, ite_true, Sem.run_pure, Array.toList_map, hps, Instr.fill, newRow, run_newObj]
      subst hr0
      rw [if_neg (by omega)]
      have hm : ∀ f : Nat → Value, (Array.range 0).map f = #[] := fun f => by simp
      simp only [Sem.run_bind, Sem.run_pure, Result.andThen_ok, run_newObj, hm]
      rfl
    · have hmc : (Array.range (n * K.size)).map (fun i => K.zc.toArray[i % K.zc.toArray.size]!) = madeCells K.zc.toArray (n * K.size) := rfl
      simp only [Instr.buildSlice, Sem.run_bind, run_underlying hu, hE.size, Result.andThen_ok, hnb, ite_false, h0, Sem.run_pure, Array.toList_map, hz, hzc, hmc, r1, newRow, run_newObj]
      rfl
  · obtain ⟨n1, n2⟩ := new_cells w r.toList.toArray t'
    have hx := Ext.alloc w (.cells r.toList.toArray t') (fun _ _ => False)
    have hrs : r.toList.toArray.size = n * K.size := by simpa using hrl
    rw [hrs] at n2
    have := own_mk (S := g.S) (w := w.alloc (.cells r.toList.toArray t')) (e := K) (m := m) (xs := xs) (L := r.toList) (b := w.heap.size) (o := 0) (cap := n) (F := fun b => b = w.heap.size ∨ ∃ i, Fpart g pl i b) (by simpa using n1) (by omega)
      n2 (.inl rfl) (fun i b => Fpart g pl i b) (fun i b h => .inr ⟨i, h⟩) (fun i h => by have := hFs i _ h; omega) (fun i j b hij h1 h2 => hF i j b hij h1 h2)
      (fun i hi => by
        have := e2 i hi
        rw [Nat.zero_add] at this
        exact this.ext hx (fun b hb => hFs i b hb))
    rw [e1] at this
    exact this

theorem ok_buildSlice_own {t n : Nat} {ps : Array (Nat × Operand)} {vs : List View} {pl : List (Nat × Part)} {K : Kd} {m : Md} {xs : List K.T} (hc : CtxOk c) (ho : o.op = .buildSlice t n ps) (ht : look c.ty t = some (.sl K)) (hp : partsOf ps.toList vs = some pl)
    (hg0 : (nodup (moved pl) && nodup (pl.map (·.1)) && keysIn pl n && Nat.ble (n * K.size) 16777216 && Md.fits K m) = true) (hb : blds K m 0 pl n = some xs)
    (hk : putNew nt o.dst fr ⟨.sl K, .own m, xs, false, false, [], none⟩ false (gone (moved pl)) k = some out) : Step1 c B nt o vs fr k out := by
  simp only [Bool.and_eq_true] at hg0
  refine step_new (mv := moved pl) hk rfl rfl rfl fun e0 he a w g hg => ?_
  have hv := views_build (t := t) he (ps := ps) (by rw [ho]; rfl)
  obtain ⟨R, t', r0, r1, r2⟩ := run_buildSlice hc.ty hg ht hv hp hg0.1.1.1.1 hg0.1.1.1.2 hg0.1.1.2 (Nat.le_of_ble_eq_true hg0.1.2) hb
  refine ⟨.slice (some ⟨w.heap.size, 0, none⟩) n n, w.alloc (.cells R.toArray t'), fun b => b = w.heap.size ∨ ∃ i, Fpart g pl i b, none, _, ?_, Ext.alloc _ _ _, parts_mem hv hp, ?_, (fun b off h => by cases h), ⟨r2, (fun b off h => by cases h)⟩, rfl, ?_⟩
  · simp only [execOp, ho, Sem.run_bind, r1, Result.andThen_ok, Sem.run_pure]
  · rintro b (rfl | ⟨i, id, ob, h1, h2⟩)
    · exact .inl ⟨Nat.le_refl _, by rw [World.size_alloc]; omega⟩
    · exact .inr ⟨id, moved_mem h1, h2⟩
  · exact (show VRep (.sl K) [.slice (some ⟨w.heap.size, 0, none⟩) n n] (.slice (some ⟨w.heap.size, 0, none⟩) n n) from ⟨rfl, rfl⟩)

theorem ok_buildSlice_ro {t n : Nat} {ps : Array (Nat × Operand)} {vs : List View} {pl : List (Nat × Part)} {K : Kd} {xs : List K.T} (hc : CtxOk c) (ho : o.op = .buildSlice t n ps) (ht : look c.ty t = some (.sl K)) (hp : partsOf ps.toList vs = some pl)
    (hg0 : ((moved pl).isEmpty && nodup (pl.map (·.1)) && keysIn pl n && Nat.ble (n * K.size) 16777216) = true) (hb : blds K .ro 0 pl n = some xs)
    (hk : put1 nt o.dst (.v (.sl K) xs) k = some out) : Step1 c B nt o vs fr k out := by
  simp only [Bool.and_eq_true] at hg0
  have hm0 : moved pl = [] := List.isEmpty_iff.1 hg0.1.1.1
  refine stepOk_put1 hk fun e0 he a w g hg => ?_
  have hv := views_build (t := t) he.1 (ps := ps) (by rw [ho]; rfl)
  obtain ⟨R, t', r0, r1, r2⟩ := run_buildSlice (m := .ro) hc.ty hg ht hv hp (by rw [hm0]; rfl) hg0.1.1.2 hg0.1.2 (Nat.le_of_ble_eq_true hg0.2) hb
  have hx := Ext.alloc w (.cells R.toArray t') (fun _ _ => False)
  refine ⟨.slice (some ⟨w.heap.size, 0, none⟩) n n, _, _, ?_, hg.grow hx, [.slice (some ⟨w.heap.size, 0, none⟩) n n], ?_, rfl, rfl⟩
  · simp only [execOp, ho, Sem.run_bind, r1, Result.andThen_ok, Sem.run_pure]
  · refine Own.toRO (fun b hb => .inl hb) (fun b hb => ?_) r2
    rcases hb with rfl | ⟨i, id, ob, h1, _⟩
    · exact .inr ⟨Nat.le_refl _, by rw [World.size_alloc]; omega⟩
    · have := moved_mem h1
      rw [hm0] at this
      cases this

end
end Go.Abs

namespace Go.Abs

/-- What is appended: the cells, and the footprints of the elements. -/
def SrcOwn (P : Program) (S : Nat → Prop) (w : World) (e : Kd) (m : Md) (tx : Nat) (x : Value) (zs : List e.T) (F3 : Nat → Prop) : Prop :=
  ∃ news, Src P e.size tx x zs.length news w ∧ ∃ G : Nat → Nat → Prop, (∀ i b, G i b → F3 b) ∧ (∀ i j b, i ≠ j → G i b → ¬ G j b) ∧ ∀ i (h : i < zs.length), Own S w e m zs[i] (elemAt news e.size i) (G i)

theorem rows_one {S : Nat → Prop} {w : World} {e : Kd} {m : Md} {xs : List e.T} {L : List Value} {G : Nat → Nat → Prop} (hl : L.length = xs.length * e.size) (h : ∀ i (h : i < xs.length), Own S w e m xs[i] (elemAt L e.size i) (G i)) : ∀ u ∈ L, u.oneCell' = true := by
  intro u hu
  obtain ⟨j, hj, rfl⟩ := List.mem_iff_getElem.1 hu
  have hpos := e.size_pos
  have hi : j / e.size < xs.length := by rw [Nat.div_lt_iff_lt_mul hpos]; omega
  have hm := Nat.mod_lt j hpos
  have hd := Nat.div_add_mod j e.size
  rw [Nat.mul_comm] at hd
  refine (h (j / e.size) hi).one _ ?_
  have e1 : (elemAt L e.size (j / e.size))[j % e.size]? = some L[j] := by
    simp only [elemAt]
    rw [List.getElem?_take, if_pos hm, List.getElem?_drop]
    rw [List.getElem?_eq_getElem (by omega)]
    congr 2
  exact List.mem_of_getElem? e1

theorem SrcOwn.ro {P : Program} {S : Nat → Prop} {w : World} {e : Kd} {tx e' : Nat} {zs : List e.T} {x : Value} {cs : List Value} (hk : P.underlying tx = some (.slice e')) (h : RO S w (.sl e) zs cs) (hx : VRep (.sl e) cs x) (F3 : Nat → Prop) : SrcOwn P S w e .ro tx x zs F3 := by
  obtain ⟨A, cap, L, rfl, h1, h2, h3, h4, h5⟩ := ro_row h
  have hx1 : x = .slice A zs.length cap := hx.1
  refine ⟨L, ?_, fun _ _ => False, fun _ _ h => h.elim, fun _ _ _ _ h => h.elim, fun i hi => Own.ro.2 (h5 i hi)⟩
  rw [hx1]
  by_cases h0 : 0 < zs.length
  · obtain ⟨b, o, rfl, _⟩ := h4 h0
    refine Src.ofSlice w hk ⟨b, o, none⟩ zs.length cap L h2 (fun j u hj => ?_) (rows_one h2 (m := .ro) (G := fun _ _ => False) (fun i hi => Own.ro.2 (h5 i hi)))
    have hlt : j < L.length := (List.getElem?_eq_some_iff.1 hj).1
    have := h3 b o rfl j hlt
    rw [List.getElem?_eq_getElem hlt] at hj
    cases hj
    simpa [Addr.add_lit] using this
  · have hz : zs.length = 0 := by omega
    have hL : L = [] := List.length_eq_zero_iff.1 (by rw [h2, hz, Nat.zero_mul])
    subst hL
    rw [hz]
    cases A with
    | none => exact Src.ofNil w hk cap
    | some a => exact Src.ofSlice w hk a 0 cap [] (by simp) (fun j u hj => by simp at hj) (fun u hu => by cases hu)

theorem SrcOwn.nil {P : Program} {S : Nat → Prop} {w : World} {e : Kd} {m : Md} {tx e' : Nat} (hk : P.underlying tx = some (.slice e')) (F3 : Nat → Prop) : SrcOwn P S w e m tx (.slice none 0 0) ([] : List e.T) F3 :=
  ⟨[], Src.ofNil w hk 0, fun _ _ => False, fun _ _ h => h.elim, fun _ _ _ _ h => h.elim, fun i hi => absurd hi (Nat.not_lt_zero i)⟩

theorem SrcOwn.own {P : Program} {S : Nat → Prop} {w : World} {e : Kd} {m : Md} {tx e' : Nat} {zs : List e.T} {x : Value} {cs : List Value} {F3 : Nat → Prop} (hk : P.underlying tx = some (.slice e')) (h : Own S w (.sl e) (.own m) zs cs F3) (hx : VRep (.sl e) cs x) : SrcOwn P S w e m tx x zs F3 := by
  obtain ⟨A, cap, L, rfl, h1, h2, h3, h4, h5, G, g1, g2, g3, g4⟩ := own_row h
  have hx1 : x = .slice A zs.length cap := hx.1
  refine ⟨L, ?_, G, g1, g3, g4⟩
  rw [hx1]
  cases A with
  | none =>
    have hc := h2 rfl
    have hz : zs.length = 0 := by omega
    have hL : L = [] := List.length_eq_zero_iff.1 (by rw [h4, hz, Nat.zero_mul])
    subst hL
    rw [hz]
    exact Src.ofNil w hk cap
  | some a =>
    obtain ⟨b, o, sp⟩ := a
    have hsp : sp = none := (h3 _ rfl).1
    subst hsp
    refine Src.ofSlice w hk ⟨b, o, none⟩ zs.length cap L h4 (fun j u hj => ?_) (rows_one h4 g4)
    have hlt : j < L.length := (List.getElem?_eq_some_iff.1 hj).1
    have := h5 b o rfl j hlt
    rw [List.getElem?_eq_getElem hlt] at hj
    cases hj
    simpa [Addr.add_lit] using this

theorem append_run {P : Program} {ty : List (Nat × Kd)} (hty : TysOk P ty) {t tx ty' : Nat} {e : Kd} {m : Md} {S : Nat → Prop} {w : World} {xs zs : List e.T} {x v : Value} {cs : List Value} {F F3 : Nat → Prop}
    (ht : TyOk P ty t (.sl e)) (ho : Own S w (.sl e) (.own m) xs cs F) (hv : VRep (.sl e) cs v) (hs : SrcOwn P S w e m tx x zs F3) (hlen : xs.length + zs.length ≤ lim)
    (hFS : ∀ b, F b → ¬ S b) (hF3 : ∀ b, F3 b → ¬ F b) (hSz : ∀ b, S b → b < w.heap.size) (hFz : ∀ b, F b → b < w.heap.size) (hF3z : ∀ b, F3 b → b < w.heap.size) :
    ∃ v' w' cs', (Builtin.append_ #[t, tx] ty' #[v, x]).run P w = .ok v' w' ∧ Ext w w' (fun b _ => F b) ∧ VRep (.sl e) cs' v' ∧
      Own S w' (.sl e) (.own m) (xs ++ zs) cs' (fun b => F b ∨ F3 b ∨ (w.heap.size ≤ b ∧ b < w'.heap.size)) := by
  obtain ⟨et, hu, hl⟩ := ht.sl e rfl
  obtain ⟨i, z, i1, i2, i3, i4, i5, i6⟩ := (hty.get hl).info
  obtain ⟨A, cap, L, rfl, h1, h2, h3, h4, h5, G, g1, g2, g3, g4⟩ := own_row ho
  obtain ⟨news, s1, G3, s2, s3, s4⟩ := hs
  have hv1 : v = .slice A xs.length cap := hv.1
  subst hv1
  have hpos := e.size_pos
  rw [← i2] at s1
  have hzl : z.cells.size = e.size := by rw [i5]; simp [zc_length]
  have hnl := s1.newsLen
  rw [i2] at hnl
  by_cases hn0 : zs.length = 0
  · -- nothing is appended
    have hz : zs = [] := List.length_eq_zero_iff.1 hn0
    subst hz
    have hne : news = [] := List.length_eq_zero_iff.1 (by rw [hnl]; simp)
    subst hne
    refine ⟨_, w, _, run_append_nothing w t tx ty' et i hu i1 A xs.length cap h1 x s1, Ext.refl _ _, hv, ?_⟩
    rw [List.append_nil]
    exact ho.mono (fun _ h => h) (fun _ _ _ _ h => h) (fun _ h => .inl h) (fun _ _ _ => ⟨rfl, rfl⟩)
  · have hG : ∀ k (L2 : List Value), L2 = L → k < xs.length → elemAt (L2 ++ news) e.size k = elemAt L e.size k := fun k L2 e1 hk => by subst e1; exact elemAt_left h4 hk
    have hG2 : ∀ k, elemAt (L ++ news) e.size (xs.length + k) = elemAt news e.size k := fun k => elemAt_right h4
    -- the elements in any world that leaves the elements' blocks
    have elems : ∀ (w' : World), (∀ b o, b < w.heap.size → (∀ ad, A = some ad → b ≠ ad.block) → w'.cell? ⟨b, o, none⟩ = w.cell? ⟨b, o, none⟩ ∧ w'.frozen? ⟨b, o, none⟩ = w.frozen? ⟨b, o, none⟩) →
        ∀ k (h : k < (xs ++ zs).length), Own S w' e m (xs ++ zs)[k] (elemAt (L ++ news) e.size k) (fun b => (k < xs.length ∧ G k b) ∨ (xs.length ≤ k ∧ G3 (k - xs.length) b)) := by
      intro w' hw' k hk
      have hSw : ∀ b o v, S b → w.cell? ⟨b, o, none⟩ = some v → w'.cell? ⟨b, o, none⟩ = some v := fun b o v hb hv => by
        rw [(hw' b o (hSz b hb) (fun ad had e1 => hFS b (e1 ▸ (h3 ad had).2.1) hb)).1]; exact hv
      by_cases hkx : k < xs.length
      · rw [hG k L rfl hkx, List.getElem_append_left hkx]
        exact (g4 k hkx).mono (fun _ h => h) hSw (fun b hb => .inl ⟨hkx, hb⟩) (fun b o hb => hw' b o (hFz b (g1 k b hb)) (fun ad had e1 => g2 k ad had (e1 ▸ hb)))
      · have hk2 : k - xs.length < zs.length := by rw [List.length_append] at hk; omega
        have e1 : k = xs.length + (k - xs.length) := by omega
        have e2 : elemAt (L ++ news) e.size k = elemAt news e.size (k - xs.length) := by
          conv => lhs; rw [e1]
          exact hG2 _
        rw [e2, List.getElem_append_right (by omega)]
        exact (s4 (k - xs.length) hk2).mono (fun _ h => h) hSw (fun b hb => .inr ⟨by omega, hb⟩) (fun b o hb => hw' b o (hF3z b (s2 _ b hb)) (fun ad had e1 => hF3 b (s2 _ b hb) (e1 ▸ (h3 ad had).2.1)))
    have Gdis : ∀ k j b, k ≠ j → ((k < xs.length ∧ G k b) ∨ (xs.length ≤ k ∧ G3 (k - xs.length) b)) → ¬ ((j < xs.length ∧ G j b) ∨ (xs.length ≤ j ∧ G3 (j - xs.length) b)) := by
      rintro k j b hne (⟨_, a1⟩ | ⟨a0, a1⟩) (⟨_, b1⟩ | ⟨b0, b1⟩)
      · exact g3 k j b hne a1 b1
      · exact hF3 b (s2 _ b b1) (g1 _ b a1)
      · exact hF3 b (s2 _ b a1) (g1 _ b b1)
      · exact s3 _ _ b (by omega) a1 b1
    by_cases hroom : xs.length + zs.length ≤ cap
    · -- there is room
      cases A with
      | none => have := h2 rfl; omega
      | some ad =>
        obtain ⟨b, off, sp⟩ := ad
        have hsp : sp = none := (h3 _ rfl).1
        subst hsp
        obtain ⟨_, hFb, hr⟩ := h3 _ rfl
        have hmul : (xs.length + zs.length) * e.size ≤ cap * e.size := Nat.mul_le_mul_right _ hroom
        rw [Nat.add_mul] at hmul
        have cin : ∀ j, j < news.length → (∃ u, w.cell? ⟨b, off + xs.length * e.size + j, none⟩ = some u) ∧ w.frozen? ⟨b, off + xs.length * e.size + j, none⟩ = false := fun j hj => by
          have := hr (xs.length * e.size + j) (by omega)
          rwa [← Nat.add_assoc] at this
        have hrun := run_append_room_src w t tx ty' et i hu i1 b off xs.length cap x zs.length news s1 hroom (fun j hj => by rw [i2]; obtain ⟨⟨u, hu⟩, _⟩ := cin j hj; rw [hu]; rfl) (fun j hj => by rw [i2]; exact (cin j hj).2)
        rw [i2] at hrun
        have hx := Ext.setCells w b (off + xs.length * e.size) news
        refine ⟨_, _, [.slice (some ⟨b, off, none⟩) (xs.length + zs.length) cap], hrun, hx.mono (fun b' o' _ hh => by rw [hh.1]; exact hFb), ⟨rfl, rfl⟩, ?_⟩
        have key := own_mk (S := S) (w := w.setCells b (off + xs.length * e.size) news) (e := e) (m := m) (xs := xs ++ zs) (L := L ++ news) (b := b) (o := off) (cap := cap)
          (F := fun b' => F b' ∨ F3 b' ∨ (w.heap.size ≤ b' ∧ b' < (w.setCells b (off + xs.length * e.size) news).heap.size)) ?_ (by rw [List.length_append]; exact hroom) ?_ (.inl hFb)
          (fun k b => (k < xs.length ∧ G k b) ∨ (xs.length ≤ k ∧ G3 (k - xs.length) b)) ?_ ?_ Gdis (elems _ ?_)
        · rw [List.length_append] at key; exact key
        · intro j hj
          by_cases hjl : j < L.length
          · rw [List.getElem_append_left hjl, (hx.cell b (off + j) (hFz b hFb) (fun hh => by omega)).1]
            exact h5 b off rfl j hjl
          · have hj2 : j - L.length < news.length := by rw [List.length_append] at hj; omega
            rw [List.getElem_append_right (by omega)]
            have := World.cell?_setCells_in b news (off + xs.length * e.size) w (fun j hj => by obtain ⟨⟨u, hu⟩, _⟩ := cin j hj; rw [hu]; rfl) (j - L.length) hj2
            have e1 : off + xs.length * e.size + (j - L.length) = off + j := by omega
            rw [e1] at this
            exact this
        · intro j hj
          obtain ⟨⟨u, hu⟩, hf⟩ := hr j hj
          refine ⟨?_, by rw [World.frozen?_setCells]; exact hf⟩
          by_cases hin : off + xs.length * e.size ≤ off + j ∧ off + j < off + xs.length * e.size + news.length
          · have := World.cell?_setCells_in b news (off + xs.length * e.size) w (fun j hj => by obtain ⟨⟨u, hu⟩, _⟩ := cin j hj; rw [hu]; rfl) (j - xs.length * e.size) (by omega)
            have e1 : off + xs.length * e.size + (j - xs.length * e.size) = off + j := by omega
            rw [e1] at this
            exact ⟨_, this⟩
          · exact ⟨u, by rw [(hx.cell b (off + j) (hFz b hFb) (fun hh => hin ⟨hh.2.1, hh.2.2⟩)).1]; exact hu⟩
        · rintro k b' (⟨_, a1⟩ | ⟨_, a1⟩)
          · exact .inl (g1 k b' a1)
          · exact .inr (.inl (s2 _ b' a1))
        · rintro k (⟨_, a1⟩ | ⟨_, a1⟩)
          · exact g2 k _ rfl a1
          · exact hF3 b (s2 _ b a1) hFb
        · intro b' o' hb' hne
          exact hx.cell b' o' hb' (fun hh => hne _ rfl hh.1)
    · -- a new row
      have hb63 : ((xs.length + zs.length : Nat) : Int) ≤ 9223372036854775807 := by simp only [lim] at hlen; omega
      have hfit : Builtin.nextslicecap (xs.length + zs.length) cap * i.bytes ≤ 281474976710656 := by
        refine growslice_fits_wide (by omega) ?_
        have : (xs.length + zs.length + (xs.length + zs.length) / 4 + 192) * i.bytes ≤ 5368709312 * 4096 := Nat.mul_le_mul (by simp only [lim] at hlen; omega) i3
        omega
      have hold : (Builtin.firstCells i.size xs.length (.slice A xs.length cap)).run P w.drew = .ok L.toArray w.drew := by
        cases A with
        | none =>
          have := h2 rfl
          have hL : L = [] := List.length_eq_zero_iff.1 (by rw [h4, show xs.length = 0 by omega, Nat.zero_mul])
          subst hL
          exact run_firstCells_none w.drew _ _ _ _
        | some ad =>
          obtain ⟨b, off, sp⟩ := ad
          have hsp : sp = none := (h3 _ rfl).1
          subst hsp
          refine run_firstCells_some w.drew i.size xs.length ⟨b, off, none⟩ xs.length cap L (by rw [i2]; exact h4) (fun j u hj => ?_)
          have hlt : j < L.length := (List.getElem?_eq_some_iff.1 hj).1
          have := h5 b off rfl j hlt
          rw [List.getElem?_eq_getElem hlt] at hj
          cases hj
          simpa [Addr.add_lit] using this
      have hrun := run_append_grow_src w t tx ty' et i z hu i1 i4 A xs.length cap L hold x zs.length news s1 (by omega) hb63 hfit
      have hge := grownCap_ge w (xs.length + zs.length) cap et
      generalize grownCap w (xs.length + zs.length) cap et = C at hrun hge
      have hx : Ext w (w.drew.alloc (.cells ((L ++ news).toArray ++ Builtin.zeroCells z.cells (C - (xs.length + zs.length))) et)) (fun b _ => F b) :=
        (Ext.drew w _).trans (Ext.alloc _ _ _)
      obtain ⟨n1, n2⟩ := new_cells w.drew ((L ++ news).toArray ++ Builtin.zeroCells z.cells (C - (xs.length + zs.length))) et
      have hsz : ((L ++ news).toArray ++ Builtin.zeroCells z.cells (C - (xs.length + zs.length))).size = C * e.size := by
        simp only [Array.size_append, List.size_toArray, size_zeroCells, hzl, List.length_append, h4, hnl, ← Nat.add_mul]
        congr 1
        omega
      rw [hsz] at n2
      have hnew : w.drew.heap.size = w.heap.size := rfl
      refine ⟨_, _, [.slice (some ⟨w.heap.size, 0, none⟩) (xs.length + zs.length) C], hrun, hx, ⟨rfl, rfl⟩, ?_⟩
      generalize hw' : w.drew.alloc (.cells ((L ++ news).toArray ++ Builtin.zeroCells z.cells (C - (xs.length + zs.length))) et) = w' at hx n1 n2
      have hws : w.heap.size < w'.heap.size := by rw [← hw', World.size_alloc]; exact Nat.lt_succ_self _
      have key := own_mk (S := S) (w := w') (e := e) (m := m) (xs := xs ++ zs) (L := L ++ news) (b := w.heap.size) (o := 0) (cap := C)
        (F := fun b' => F b' ∨ F3 b' ∨ (w.heap.size ≤ b' ∧ b' < w'.heap.size)) ?_ (by rw [List.length_append]; exact hge) n2 (.inr (.inr ⟨Nat.le_refl _, hws⟩))
        (fun k b => (k < xs.length ∧ G k b) ∨ (xs.length ≤ k ∧ G3 (k - xs.length) b)) ?_ ?_ Gdis (elems _ ?_)
      · rw [List.length_append] at key; exact key
      · intro j hj
        have := n1 j (by simp only [Array.toList_append, List.length_append] at hj ⊢; omega)
        simp only [Array.toList_append] at this
        rw [List.getElem_append_left (by simpa using hj)] at this
        simpa using this
      · rintro k b' (⟨_, a1⟩ | ⟨_, a1⟩)
        · exact .inl (g1 k b' a1)
        · exact .inr (.inl (s2 _ b' a1))
      · rintro k (⟨_, a1⟩ | ⟨_, a1⟩)
        · have := hFz _ (g1 k _ a1); omega
        · have := hF3z _ (s2 _ _ a1); omega
      · intro b' o' hb' hne
        have hxn : Ext w w' (fun _ _ => False) := by rw [← hw']; exact (Ext.drew w _).trans (Ext.alloc _ _ _)
        exact hxn.cell b' o' hb' (fun h => h)

end Go.Abs

namespace Go.Abs

/-- A new object; others give up blocks: those in C. -/
def Gh.take (g : Gh) (d : Nat) (rs : List (Nat × Option Obj)) (C : Nat → Nat → Prop) (Fd : Nat → Prop) (pl : Place) (cs : List Value) : Gh where
  S := g.S
  F := fun i b => if i = d then Fd b else g.F i b ∧ ¬ C i b
  pl := fun i => if i = d then pl else match look rs i with | some none => none | _ => g.pl i
  cs := fun i => if i = d then cs else g.cs i

variable {B : Base}

theorem InvG.take {P : Program} {nt : Nat} {e : Env} {a : Act} {w w' : World} {g : Gh} (h : InvG P B nt e a w g) {d : Nat} (hd : e.obj d = none) (rs : List (Nat × Option Obj)) (C : Nat → Nat → Prop)
    (hC : ∀ i b, C i b → (∃ r, look rs i = some r) ∧ g.F i b) (hx : Ext w w' (fun b _ => ∃ i, C i b))
    (hrs : ∀ i r, look rs i = some r → ∃ o, e.obj i = some (some o)) (hgone : ∀ i b, look rs i = some none → g.F i b → C i b)
    (ob : Obj) (Fd : Nat → Prop) (pl : Place) (cs : List Value)
    (hFd : ∀ b, Fd b → (w.heap.size ≤ b ∧ b < w'.heap.size) ∨ ∃ i, C i b)
    (hpl : ∀ b off, pl = some (b, off) → w.heap.size ≤ b ∧ b < w'.heap.size ∧ ¬ Fd b)
    (hok : Own g.S w' ob.K ob.m ob.x cs Fd ∧ PlOk w' pl cs) (hbox : ob.box = pl.isSome) (hhl : ob.hl = none) (hpar : ob.par = false)
    (hre : ∀ i o', look rs i = some (some o') → ObjOk (g.take d rs C Fd pl cs) w' B i o' ∧
      (∀ n p v, SlotRep0 P g w e.obj (.al i n p) v → SlotRep0 P (g.take d rs C Fd pl cs) w' (Env.mk e.slots ((d, some ob) :: rs ++ e.objs)).obj (.al i n p) v) ∧
      (∀ n p v, SlotRep0 P g w e.obj (.pt i n p) v → SlotRep0 P (g.take d rs C Fd pl cs) w' (Env.mk e.slots ((d, some ob) :: rs ++ e.objs)).obj (.pt i n p) v)) :
    InvG P B nt ⟨e.slots, (d, some ob) :: rs ++ e.objs⟩ a w' (g.take d rs C Fd pl cs) := by
  have hdm : look rs d = none := by
    cases hl : look rs d with
    | none => rfl
    | some r => obtain ⟨o, ho⟩ := hrs d r hl; rw [hd] at ho; cases ho
  have hobj : ∀ i, (Env.mk e.slots ((d, some ob) :: rs ++ e.objs)).obj i = if i = d then some (some ob) else match look rs i with | some r => some r | none => e.obj i := by
    intro i
    show look ((d, some ob) :: (rs ++ e.objs)) i = _
    by_cases hi : i = d
    · subst hi; rw [look_cons_self, if_pos rfl]
    · rw [look_cons_ne (fun e => hi e.symm), if_neg hi, look_app]
      cases look rs i <;> rfl
  have hFlt : ∀ i b, g.F i b → b < w.heap.size := h.Fsz
  have Fnew : ∀ i b, (g.take d rs C Fd pl cs).F i b → (i = d ∧ Fd b) ∨ (i ≠ d ∧ g.F i b ∧ ¬ C i b) := by
    intro i b hF
    simp only [Gh.take] at hF
    split at hF
    · exact .inl ⟨by assumption, hF⟩
    · exact .inr ⟨by assumption, hF.1, hF.2⟩
  have plnew : ∀ i b off, (g.take d rs C Fd pl cs).pl i = some (b, off) → (i = d ∧ pl = some (b, off)) ∨ (i ≠ d ∧ g.pl i = some (b, off)) := by
    intro i b off hF
    simp only [Gh.take] at hF
    split at hF
    · exact .inl ⟨by assumption, hF⟩
    · split at hF
      · cases hF
      · exact .inr ⟨by assumption, hF⟩
  have base_le : B.w0.heap.size ≤ w.heap.size := h.ext.size
  have CF : ∀ i b, C i b → g.F i b := fun i b hc => (hC i b hc).2
  have Sok : ∀ b, g.S b → ¬ ∃ i, C i b := fun b hb ⟨i, hc⟩ => h.FS i b (CF i b hc) hb
  refine h.change (fun i => i = d ∨ ∃ r, look rs i = some r) rfl ?_ (fun _ h => h) (fun b o v hb hv => hx.same (Sok b hb) hv)
    (fun b hb => Nat.lt_of_lt_of_le (h.Ssz b hb) hx.size) ?_ h.Sb ?_ ?_ ?_ ?_ ?_ ?_ ?_ ?_ ?_
  · refine h.ext.step hx ?_
    rintro b o hb ⟨i, hc⟩
    rcases h.Fb i b (CF i b hc) with hf | hf
    · exact .inl hf
    · omega
  · intro i b hF
    rcases Fnew i b hF with ⟨_, hF⟩ | ⟨_, hF, _⟩
    · rcases hFd b hF with ⟨_, h2⟩ | ⟨j, h2⟩
      · exact h2
      · exact Nat.lt_of_lt_of_le (hFlt j b (CF j b h2)) hx.size
    · exact Nat.lt_of_lt_of_le (hFlt i b hF) hx.size
  · intro i b hF
    rcases Fnew i b hF with ⟨_, hF⟩ | ⟨_, hF, _⟩
    · rcases hFd b hF with ⟨h1, _⟩ | ⟨j, h2⟩
      · exact .inr (by omega)
      · exact h.Fb j b (CF j b h2)
    · exact h.Fb i b hF
  · intro i b hF hS
    have hS' : g.S b := hS
    rcases Fnew i b hF with ⟨_, hF⟩ | ⟨_, hF, _⟩
    · rcases hFd b hF with ⟨h1, _⟩ | ⟨j, h2⟩
      · have := h.Ssz b hS'; omega
      · exact h.FS j b (CF j b h2) hS'
    · exact h.FS i b hF hS'
  · intro i j b hne hF hF'
    rcases Fnew i b hF with ⟨h1, hF⟩ | ⟨h1, hF, hnC⟩ <;> rcases Fnew j b hF' with ⟨h3, hF'⟩ | ⟨h3, hF', hnC'⟩
    · exact hne (h1.trans h3.symm)
    · rcases hFd b hF with ⟨h5, _⟩ | ⟨l, h6⟩
      · have := hFlt j b hF'; omega
      · exact h.FF l j b (fun e => hnC' (e ▸ h6)) (CF l b h6) hF'
    · rcases hFd b hF' with ⟨h5, _⟩ | ⟨l, h6⟩
      · have := hFlt i b hF; omega
      · exact h.FF l i b (fun e => hnC (e ▸ h6)) (CF l b h6) hF
    · exact h.FF i j b hne hF hF'
  · intro i b off hp
    rcases plnew i b off hp with ⟨h1, hp⟩ | ⟨h1, hp⟩
    · obtain ⟨h3, h4, h5⟩ := hpl b off hp
      refine ⟨h4, fun hS => by have := h.Ssz b hS; omega, fun j hF => ?_, fun j off' hp' => ?_⟩
      · rcases Fnew j b hF with ⟨_, hF⟩ | ⟨_, hF, _⟩
        · exact h5 hF
        · have := hFlt j b hF; omega
      · rcases plnew j b off' hp' with ⟨h6, _⟩ | ⟨_, h6⟩
        · exact h1.trans h6.symm
        · have := (h.plz j b off' h6).1; omega
    · obtain ⟨h3, h4, h5, h6⟩ := h.plz i b off hp
      refine ⟨Nat.lt_of_lt_of_le h3 hx.size, h4, fun j hF => ?_, fun j off' hp' => ?_⟩
      · rcases Fnew j b hF with ⟨_, hF⟩ | ⟨_, hF, _⟩
        · rcases hFd b hF with ⟨h7, _⟩ | ⟨l, h7⟩
          · omega
          · exact h5 l (CF l b h7)
        · exact h5 j hF
      · rcases plnew j b off' hp' with ⟨_, h7⟩ | ⟨_, h7⟩
        · have := (hpl b off' h7).1; omega
        · exact h6 j off' h7
  · intro i hi
    have hi1 : i ≠ d := fun e => hi (.inl e)
    have hi2 : look rs i = none := by
      cases hl : look rs i with
      | none => rfl
      | some r => exact absurd (.inr ⟨r, hl⟩) hi
    have hnC : ∀ b, ¬ C i b := fun b hc => by obtain ⟨⟨r, hr⟩, _⟩ := hC i b hc; rw [hi2] at hr; cases hr
    refine ⟨by rw [hobj, if_neg hi1, hi2], ?_, ?_, ?_, fun b o hF => hx.cell b o (hFlt i b hF) (fun ⟨j, hc⟩ => ?_), fun b off hp o => hx.cell b o (h.plz i b off hp).1 (fun ⟨j, hc⟩ => (h.plz i b off hp).2.2.1 j (CF j b hc))⟩
    · funext b; simp [Gh.take, hi1, hnC]
    · simp [Gh.take, hi1, hi2]
    · simp [Gh.take, hi1]
    · by_cases hij : j = i
      · subst hij; exact hnC b hc
      · exact h.FF j i b hij (CF j b hc) hF
  · intro i hi hno
    rcases hi with rfl | ⟨r, hr⟩
    · exact absurd (by rw [hobj, if_pos rfl]) (hno ob)
    · have hne : i ≠ d := fun e => by subst e; rw [hdm] at hr; cases hr
      cases r with
      | some o' => exact absurd (by rw [hobj, if_neg hne, hr]) (hno o')
      | none => exact ⟨fun b hF => by simp [Gh.take, hne] at hF; exact hF.2 (hgone i b hr hF.1), by simp [Gh.take, hne, hr]⟩
  · intro i o' hi ho'
    rw [hobj] at ho'
    rcases hi with rfl | ⟨r, hr⟩
    · rw [if_pos rfl] at ho'
      cases ho'
      refine ⟨fun _ => ?_, (fun p hp => by rw [hhl] at hp; cases hp), ?_, (fun hp => by rw [hpar] at hp; cases hp), fun b off hp => ?_⟩
      · simp only [Gh.take, if_pos]
        exact hok
      · simp [Gh.take, hbox]
      · simp only [Gh.take, if_pos] at hp
        have := (hpl b off hp).1
        exact .inl (by omega)
    · have hne : i ≠ d := fun e => by subst e; rw [hdm] at hr; cases hr
      rw [if_neg hne, hr] at ho'
      simp only [Option.some.injEq] at ho'
      subst ho'
      exact (hre i o' hr).1
  · intro i hi n p v hs
    rcases hi with rfl | ⟨r, hr⟩
    · exact absurd hd hs.1.1
    · have hne : i ≠ d := fun e => by subst e; rw [hdm] at hr; cases hr
      cases r with
      | some o' => exact (hre i o' hr).2.1 n p v hs
      | none =>
        have e1 : (Env.mk e.slots ((d, some ob) :: rs ++ e.objs)).obj i = some none := by rw [hobj, if_neg hne, hr]
        exact ⟨⟨by rw [e1]; simp, (fun o ho => by rw [e1] at ho; cases ho)⟩, (fun o ho => by rw [e1] at ho; cases ho)⟩
  · intro i hi n p v hs
    rcases hi with rfl | ⟨r, hr⟩
    · exact absurd hd hs.1.1
    · have hne : i ≠ d := fun e => by subst e; rw [hdm] at hr; cases hr
      cases r with
      | some o' => exact (hre i o' hr).2.2 n p v hs
      | none =>
        have e1 : (Env.mk e.slots ((d, some ob) :: rs ++ e.objs)).obj i = some none := by rw [hobj, if_neg hne, hr]
        exact ⟨⟨by rw [e1]; simp, (fun o ho => by rw [e1] at ho; cases ho)⟩, (fun o ho => by rw [e1] at ho; cases ho)⟩

section
variable {c : Ctx} {nt : Nat} {o : Oper} {Ω : Type} {k : Delta → Option Ω} {out : Ω} {fr : Bool}

/-- A step that makes an object out of parts of others. -/
theorem step_take {vs : List View} {ob : Obj} {isPt : Bool} {rs : List (Nat × Option Obj)} (hk : putNew nt o.dst fr ob isPt rs k = some out) (hhl : ob.hl = none) (hpar : ob.par = false) (hlog : ob.log = [])
    (h : ∀ e : Env, e.views o = vs → ∀ d a w g, e.obj d = none → InvG c.P B nt e a w g → ∃ v w' C Fd pl cs, (execOp a.eval o).run c.P w = .ok (.value v) w' ∧
      (∀ i b, C i b → (∃ r, look rs i = some r) ∧ g.F i b) ∧ Ext w w' (fun b _ => ∃ i, C i b) ∧ (∀ i r, look rs i = some r → ∃ o, e.obj i = some (some o)) ∧ (∀ i b, look rs i = some none → g.F i b → C i b) ∧
      (∀ b, Fd b → (w.heap.size ≤ b ∧ b < w'.heap.size) ∨ ∃ i, C i b) ∧ (∀ b off, pl = some (b, off) → w.heap.size ≤ b ∧ b < w'.heap.size ∧ ¬ Fd b) ∧
      (Own g.S w' ob.K ob.m ob.x cs Fd ∧ PlOk w' pl cs) ∧ ob.box = pl.isSome ∧
      (∀ i o', look rs i = some (some o') → i ≠ d → ObjOk (g.take d rs C Fd pl cs) w' B i o' ∧
        (∀ n p v, SlotRep0 c.P g w e.obj (.al i n p) v → SlotRep0 c.P (g.take d rs C Fd pl cs) w' (Env.mk e.slots ((d, some ob) :: rs ++ e.objs)).obj (.al i n p) v) ∧
        (∀ n p v, SlotRep0 c.P g w e.obj (.pt i n p) v → SlotRep0 c.P (g.take d rs C Fd pl cs) w' (Env.mk e.slots ((d, some ob) :: rs ++ e.objs)).obj (.pt i n p) v)) ∧
      (if isPt then ∃ b off, pl = some (b, off) ∧ v = .pointer (some ⟨b, off, none⟩) else VRep ob.K cs v)) : Step1 c B nt o vs fr k out := by
  unfold putNew at hk
  split at hk
  · cases hk
  · rename_i d hd
    split at hk
    · rename_i hf
      rw [Bool.and_eq_true] at hf
      have hlt : d < nt := Nat.le_of_ble_eq_true hf.1
      refine ⟨_, hk, fun e he => stepOk_value hd hlt fun a w g hg => ?_⟩
      have hfr : fresh e o.dst = true := by rw [he.2]; exact hf.2
      have hnone : e.obj d = none := by
        rw [hd] at hfr
        simp only [fresh, Bool.and_eq_true] at hfr
        simpa using hfr.1.1.1.1
      obtain ⟨v, w', C, Fd, pl, cs, r1, r2, r3, r4, r5, r6, r7, r8, r9, r10, r11⟩ := h e he.1 d a w g hnone hg
      refine ⟨v, w', _, r1, hg.take hnone rs C r2 r3 r4 r5 ob Fd pl cs r6 r7 r8 r9 hhl hpar (fun i o' hi => r10 i o' hi (fun e1 => ?_)), ?_⟩
      · subst e1
        obtain ⟨o2, ho2⟩ := r4 i _ hi
        rw [hnone] at ho2
        cases ho2
      have e1 : (Env.mk e.slots (((d, some ob) :: rs) ++ e.objs)).obj d = some (some ob) := by
        show look ((d, some ob) :: (rs ++ e.objs)) d = _
        exact look_cons_self _ _ _
      have hok1 : ∀ p, okAl ob 0 p = true := fun p => by simp [okAl, since, hlog]
      cases isPt with
      | true =>
        obtain ⟨b, off, e2, rfl⟩ := r11
        refine ⟨⟨by rw [e1]; simp, fun _ _ => Nat.zero_le _⟩, fun o2 ho2 _ _ => ?_⟩
        rw [e1] at ho2
        cases ho2
        exact ⟨b, off, cs, ob.K, ob.m, ob.x, getP_nil _ _ _, by simp only [nav, Gh.take, if_pos, e2], rfl⟩
      | false =>
        refine ⟨⟨by rw [e1]; simp, fun _ _ => Nat.zero_le _⟩, fun o2 ho2 _ _ => ?_⟩
        rw [e1] at ho2
        cases ho2
        exact ⟨pl, cs, ob.K, ob.m, ob.x, getP_nil _ _ _, by simp only [nav, Gh.take, if_pos], r11⟩
    · cases hk

/-- A part is taken out: what is left. -/
theorem Focus.hole {S : Nat → Prop} {w w' : World} {p : Path} {ob : Obj} {cs : List Value} {F : Nat → Prop} {pl : Place} {K' : Kd} {m' : Md} {x' : K'.T} {cs' : List Value} {q : Place} {F' : Nat → Prop}
    (f : Focus S w p ob.K ob.m ob.x cs F pl K' m' x' cs' q F') (hlen : cs.length = ob.K.size) (hg : getP ob.K ob.m ob.x p = some ⟨K', m', x'⟩) (hn : nav w p ob.K pl cs = some (q, cs'))
    (hx : Ext w w' (fun b _ => F' b)) (hFz : ∀ b, F b → b < w.heap.size) (hSz : ∀ b, S b → b < w.heap.size) (hSF : ∀ b, F b → ¬ S b) (hpz : ∀ b o, pl = some (b, o) → b < w.heap.size ∧ ¬ F b) :
    Holed S w' { ob with hl := some p } p (fun b => F b ∧ ¬ F' b) pl cs := by
  have hc : ∀ b o, F b → ¬ F' b → w'.cell? ⟨b, o, none⟩ = w.cell? ⟨b, o, none⟩ ∧ w'.frozen? ⟨b, o, none⟩ = w.frozen? ⟨b, o, none⟩ := fun b o hb hn => hx.cell b o (hFz b hb) hn
  have hp : ∀ b o, InR pl ob.K.size b o → w'.cell? ⟨b, o, none⟩ = w.cell? ⟨b, o, none⟩ ∧ w'.frozen? ⟨b, o, none⟩ = w.frozen? ⟨b, o, none⟩ := fun b o ⟨o0, e0, _, _⟩ =>
    hx.cell b o (hpz b o0 e0).1 (fun hF => (hpz b o0 e0).2 (f.sub b hF))
  have hcl : cs'.length = K'.size := f.own.length
  refine ⟨q, cs', K', m', x', hg, f.nv w' (fun b o hF hn => (hc b o hF hn).1), fun w2 h2 => f.nv w2 (fun b o hF hn => (h2 b o ⟨hF, hn⟩).trans (hc b o hF hn).1), ?_, hcl, ?_, hlen, ?_⟩
  · refine f.ok.of_same fun b off hR => ?_
    obtain ⟨o0, e0, r1, r2⟩ := hR
    obtain ⟨a1, a2⟩ := f.at_ b o0 e0
    rcases a2 with ⟨o1, e1, r3, r4⟩ | hF
    · exact hp b off ⟨o1, e1, by omega, by omega⟩
    · exact hc b off hF a1
  · intro b off e1
    obtain ⟨a1, a2⟩ := f.at_ b off e1
    rcases a2 with h | h
    · exact .inl h
    · exact .inr ⟨h, a1⟩
  · intro S2 w2 m2 mm y x2 cs2 F2 k1 k2 k3 k4 k5 k6 k7 k8 k9 k10
    have key := f.set S2 w2 m2 mm y x2 cs2 F2 k1 k2 k3 (fun b o v hb hv => k4 b o v hb (hx.same (fun hF => hSF b (f.sub b hF) hb) hv))
      (fun b o hF hn hq => ⟨(k5 b o ⟨hF, hn⟩ hq).1.trans (hc b o hF hn).1, (k5 b o ⟨hF, hn⟩ hq).2.trans (hc b o hF hn).2⟩)
      (fun b o hR hq => ⟨(k6 b o hR hq).1.trans (hp b o hR).1, (k6 b o hR hq).2.trans (hp b o hR).2⟩) k7 k8 (fun b h2 hF => Classical.byContradiction fun hn => k9 b h2 ⟨hF, hn⟩) k10 ?_
    · exact ⟨key.1, key.2.1⟩
    · intro b o e1 h2
      obtain ⟨a1, a2⟩ := f.at_ b o e1
      rcases a2 with ⟨o1, e2, _⟩ | hF
      · exact k10 b o1 e2 h2
      · exact k9 b h2 ⟨hF, a1⟩

end
end Go.Abs

namespace Go.Abs
variable {B : Base}
section
variable {c : Ctx} {nt : Nat} {o : Oper} {Ω : Type} {k : Delta → Option Ω} {out : Ω} {fr : Bool}

theorem list_two {α : Type} : ∀ {l : List α}, l.length = 2 → ∃ a b, l = [a, b]
  | [a, b], _ => ⟨a, b, rfl⟩

theorem arr_two {α : Type} {as : Array α} {a b : α} (h : as.toList = [a, b]) : as = #[a, b] := by apply Array.ext'; simpa using h

theorem exec_append {P : Program} {a : Act} {w w' : World} {x y : Operand} {t tx : Nat} {v : Value} (ho : o.op = .call { callee := .builtin .append, args := #[x, y], argTypes := #[t, tx] })
    (h : (Builtin.append_ #[t, tx] o.type #[a.eval x, a.eval y]).run P w = .ok v w') : (execOp a.eval o).run P w = .ok (.value v) w' := by
  have e4 : (#[x, y] : Array Operand).map a.eval = #[a.eval x, a.eval y] := by simp
  simp only [execOp, ho, resolve, e4, Sem.run_bind, Sem.run_pure, Result.andThen_ok, invoke, builtin, h]

/-- The general step of 'append': the slice is a part of an object; what is appended is there, or moves. -/
theorem append_core {id n : Nat} {p : Path} {o2 : Obj} {v : View} {e : Kd} {m : Md} {xs zs : List e.T} {mv : List Nat} {old : Option Obj} {t tx : Nat} {as : Array Operand} (hc : CtxOk c)
    (ho : o.op = .call { callee := .builtin .append, args := as, argTypes := #[t, tx] }) (ht : tyIs c t (.sl e) = true) (hg0 : getP o2.K o2.m o2.x p = some ⟨.sl e, .own m, xs⟩) (hh : noHole o2 = true) (hok : okAl o2 n p = true)
    (hold : (old = none ∧ o2.box = false ∧ p = [] ∧ o2.par = false) ∨ old = some { o2 with hl := some p }) (hmv : id ∉ mv) (hlen : xs.length + zs.length ≤ lim)
    (hsrc : ∀ e0 : Env, ∀ a w g, InvG c.P B nt e0 a w g → ∀ y : Operand, e0.view (e0.opd y) = v → SrcOwn c.P g.S w e m tx (a.eval y) zs (fun b => ∃ i, i ∈ mv ∧ g.F i b) ∧ ∀ i, i ∈ mv → ∃ o, e0.obj i = some (some o))
    (hk : putNew nt o.dst fr ⟨.sl e, .own m, xs ++ zs, false, false, [], none⟩ false ((id, old) :: gone mv) k = some out) : Step1 c B nt o [(.al id n p, some o2), v] fr k out := by
  refine step_take hk rfl rfl rfl fun e0 he d a w g hd hg => ?_
  have hops : o.op.operands = as := by rw [ho]; simp [Op.operands, Call.operands]
  obtain ⟨x, y, has⟩ : ∃ x y, as = #[x, y] := by
    simp only [Env.views, Oper.opds, hops] at he
    have hl : as.toList.length = 2 := by have := congrArg List.length he; simpa using this
    obtain ⟨x, y, hx⟩ := list_two hl
    exact ⟨x, y, arr_two hx⟩
  subst has
  obtain ⟨v1, v2⟩ := views_two he (x := x) (y := y) hops
  obtain ⟨q, cs', K', m', x', F', f1, f2, f3, f⟩ := al_focus hg v1 hh hok
  rw [hg0] at f1
  simp only [Option.some.injEq, Sigma.mk.injEq] at f1
  obtain ⟨rfl, f1⟩ := f1
  have f1 := eq_of_heq f1
  simp only [Prod.mk.injEq] at f1
  obtain ⟨rfl, rfl⟩ := f1
  have hobj2 := view_al v1
  have hhl := noHole_ok hh
  have O := hg.objs id o2 hobj2
  obtain ⟨Oown, Opl⟩ := O.own hhl
  obtain ⟨hs, hmvo⟩ := hsrc e0 a w g hg y v2
  have hidd : id ≠ d := fun e1 => by rw [← e1, hobj2] at hd; cases hd
  obtain ⟨hT, _⟩ := tyIs_ok hc.ty ht
  have hF'z : ∀ b, F' b → b < w.heap.size := fun b hb => hg.Fsz id b (f.sub b hb)
  obtain ⟨v', w', cs2, r1, r2, r3, r4⟩ := append_run (ty' := o.type) hc.ty hT f.own f3 hs hlen (fun b hb => hg.FS id b (f.sub b hb))
    (fun b ⟨i, hi, hb⟩ hF => hg.FF i id b (fun e1 => hmv (e1 ▸ hi)) hb (f.sub b hF)) hg.Ssz hF'z (fun b ⟨i, _, hb⟩ => hg.Fsz i b hb)
  have hlk : ∀ i r, look ((id, old) :: gone mv) i = some r → (i = id ∧ r = old) ∨ (i ≠ id ∧ i ∈ mv ∧ r = none) := by
    intro i r hi
    by_cases e1 : id = i
    · subst e1; rw [look_cons_self] at hi; cases hi; exact .inl ⟨rfl, rfl⟩
    · rw [look_cons_ne e1, look_gone] at hi
      split at hi
      · cases hi; exact .inr ⟨fun h => e1 h.symm, by assumption, rfl⟩
      · cases hi
  refine ⟨v', w', fun i b => (i = id ∧ (F' b ∨ (old = none ∧ g.F id b))) ∨ (i ∈ mv ∧ g.F i b), fun b => F' b ∨ (∃ i, i ∈ mv ∧ g.F i b) ∨ (w.heap.size ≤ b ∧ b < w'.heap.size), none, cs2, exec_append ho r1, ?_, ?_, ?_, ?_, ?_,
    (fun b off h => by cases h), ⟨r4, (fun b off h => by cases h)⟩, rfl, ?_, r3⟩
  · rintro i b (⟨rfl, h | ⟨h1, h⟩⟩ | ⟨h1, h2⟩)
    · exact ⟨⟨old, look_cons_self _ _ _⟩, f.sub b h⟩
    · exact ⟨⟨old, look_cons_self _ _ _⟩, h⟩
    · have hne : i ≠ id := fun e1 => hmv (e1 ▸ h1)
      exact ⟨⟨none, by rw [look_cons_ne (fun h => hne h.symm), look_gone, if_pos h1]⟩, h2⟩
  · exact r2.mono fun b _ _ hb => ⟨id, .inl ⟨rfl, .inl hb⟩⟩
  · intro i r hi
    rcases hlk i r hi with ⟨rfl, _⟩ | ⟨_, h1, _⟩
    · exact ⟨o2, hobj2⟩
    · exact hmvo i h1
  · intro i b hi hF
    rcases hlk i none hi with ⟨rfl, h1⟩ | ⟨_, h1, _⟩
    · exact .inl ⟨rfl, .inr ⟨h1.symm, hF⟩⟩
    · exact .inr ⟨h1, hF⟩
  · rintro b (h | ⟨i, h1, h2⟩ | h)
    · exact .inr ⟨id, .inl ⟨rfl, .inl h⟩⟩
    · exact .inr ⟨i, .inr ⟨h1, h2⟩⟩
    · exact .inl h
  · intro i o' hi _
    obtain ⟨rfl, h1⟩ : i = id ∧ some o' = old := by
      rcases hlk i _ hi with h | ⟨_, _, h1⟩
      · exact h
      · cases h1
    rcases hold with ⟨h2, _⟩ | h2
    · rw [h2] at h1; cases h1
    rw [h2] at h1
    cases h1
    have eobj : (Env.mk e0.slots ((d, some (⟨.sl e, .own m, xs ++ zs, false, false, [], none⟩ : Obj)) :: ((i, old) :: gone mv) ++ e0.objs)).obj i = some (some { o2 with hl := some p }) := by
      show look ((d, _) :: ((i, old) :: (gone mv ++ e0.objs))) i = _
      rw [look_cons_ne (fun e1 => hidd e1.symm), look_cons_self, h2]
    have hlki : look ((i, old) :: gone mv) i = some (some { o2 with hl := some p }) := by rw [look_cons_self, h2]
    generalize hC : (fun (j : Nat) (b : Nat) => (j = i ∧ (F' b ∨ (old = none ∧ g.F i b))) ∨ (j ∈ mv ∧ g.F j b)) = C
    generalize hFd : (fun (b : Nat) => F' b ∨ (∃ i, i ∈ mv ∧ g.F i b) ∨ (w.heap.size ≤ b ∧ b < w'.heap.size)) = Fd
    have gF : (g.take d ((i, old) :: gone mv) C Fd none cs2).F i = fun b => g.F i b ∧ ¬ F' b := by
      funext b
      simp only [Gh.take, if_neg hidd, ← hC]
      apply propext
      refine ⟨fun ⟨a1, a2⟩ => ⟨a1, fun h => a2 (.inl ⟨trivial, .inl h⟩)⟩, fun ⟨a1, a2⟩ => ⟨a1, ?_⟩⟩
      rintro (⟨_, h | ⟨h, _⟩⟩ | ⟨h, _⟩)
      · exact a2 h
      · rw [h2] at h; cases h
      · exact hmv h
    have gp : (g.take d ((i, old) :: gone mv) C Fd none cs2).pl i = g.pl i := by simp only [Gh.take, if_neg hidd, hlki]
    have gc : (g.take d ((i, old) :: gone mv) C Fd none cs2).cs i = g.cs i := by simp only [Gh.take, if_neg hidd]
    have gS : (g.take d ((i, old) :: gone mv) C Fd none cs2).S = g.S := rfl
    refine ⟨⟨(fun h => by cases h), fun p' hp' => ?_, (by rw [gp]; exact O.box), (fun hp => by rw [gp, gc]; exact O.par hp), fun b off hp => O.plx b off (by rw [← gp]; exact hp)⟩, ?_, ?_⟩
    · cases hp'
      rw [gF, gp, gc, gS]
      exact f.hole Oown.length hg0 f2 r2 (fun b hb => hg.Fsz i b hb) hg.Ssz (fun b hb => hg.FS i b hb) (fun b o1 hp => ⟨(hg.plz i b o1 hp).1, (hg.plz i b o1 hp).2.2.1 i⟩)
    · intro n' p' v0 hs0
      refine ⟨⟨by rw [eobj]; simp, fun o3 ho3 => by rw [eobj] at ho3; cases ho3; exact hs0.1.2 o2 hobj2⟩, fun o3 ho3 hk3 hp3 => ?_⟩
      rw [eobj] at ho3
      cases ho3
      rcases hp3 with h | rfl
      · cases h
      · obtain ⟨q0, c0, K0, m0, x0, a1, a2, a3⟩ := hs0.2 o2 hobj2 hk3 (.inr rfl)
        exact ⟨q0, c0, K0, m0, x0, a1, by rw [gp, gc]; simpa only [nav] using a2, a3⟩
    · intro n' p' v0 hs0
      refine ⟨⟨by rw [eobj]; simp, fun o3 ho3 => by rw [eobj] at ho3; cases ho3; exact hs0.1.2 o2 hobj2⟩, fun o3 ho3 hk3 hp3 => ?_⟩
      rw [eobj] at ho3
      cases ho3
      obtain ⟨b0, off0, c0, K0, m0, x0, a1, a2, a3⟩ := hs0.2 o2 hobj2 hk3 (.inl hhl)
      refine ⟨b0, off0, c0, K0, m0, x0, a1, ?_, a3⟩
      rw [gp, gc]
      rcases hp3 with h | h | h
      · cases h
      · exact nav_noidx p' h a2
      · simp only [Option.some.injEq] at h
        subst h
        have hcell : ∀ b o1, g.F i b → ¬ F' b → w'.cell? ⟨b, o1, none⟩ = w.cell? ⟨b, o1, none⟩ := fun b o1 hb hn => (r2.cell b o1 (hg.Fsz i b hb) hn).1
        rw [f.nv w' hcell, ← f2]
        exact a2

end
end Go.Abs

namespace Go.Abs
variable {B : Base}
section
variable {c : Ctx} {nt : Nat} {o : Oper} {Ω : Type} {k : Delta → Option Ω} {out : Ω} {fr : Bool}

theorem ok_append_v {id n : Nat} {p : Path} {o2 : Obj} {q2 : Option Obj} {e : Kd} {m : Md} {xs zs : List e.T} {old : Option Obj} {t tx : Nat} {as : Array Operand} (hc : CtxOk c)
    (ho : o.op = .call { callee := .builtin .append, args := as, argTypes := #[t, tx] }) (ht : tyIs c t (.sl e) = true) (htx : tyIs c tx (.sl e) = true) (hg0 : getP o2.K o2.m o2.x p = some ⟨.sl e, .own m, xs⟩) (hh : noHole o2 = true) (hok : okAl o2 n p = true)
    (hold : (old = none ∧ o2.box = false ∧ p = [] ∧ o2.par = false) ∨ old = some { o2 with hl := some p }) (hm : m.beq .ro = true) (hlen : xs.length + zs.length ≤ lim)
    (hk : putNew nt o.dst fr ⟨.sl e, .own m, xs ++ zs, false, false, [], none⟩ false [(id, old)] k = some out) : Step1 c B nt o [(.al id n p, some o2), (.v (.sl e) zs, q2)] fr k out := by
  have := Md.eq_of_beq hm
  subst this
  obtain ⟨hT, _⟩ := tyIs_ok hc.ty htx
  obtain ⟨et, hu, _⟩ := hT.sl e rfl
  refine append_core (mv := []) hc ho ht hg0 hh hok hold (fun h => by cases h) hlen (fun e0 a w g hg y hy => ⟨?_, fun i h => by cases h⟩) hk
  obtain ⟨cs, r1, r2⟩ := view_rep hg hy
  exact SrcOwn.ro hu r1 r2 _

theorem ok_append_nils {id n : Nat} {p : Path} {o2 : Obj} {q2 : Option Obj} {e : Kd} {m : Md} {xs : List e.T} {old : Option Obj} {t tx : Nat} {as : Array Operand} (hc : CtxOk c)
    (ho : o.op = .call { callee := .builtin .append, args := as, argTypes := #[t, tx] }) (ht : tyIs c t (.sl e) = true) (htx : tyIs c tx (.sl e) = true) (hg0 : getP o2.K o2.m o2.x p = some ⟨.sl e, .own m, xs⟩) (hh : noHole o2 = true) (hok : okAl o2 n p = true)
    (hold : (old = none ∧ o2.box = false ∧ p = [] ∧ o2.par = false) ∨ old = some { o2 with hl := some p }) (hlen : xs.length ≤ lim)
    (hk : putNew nt o.dst fr ⟨.sl e, .own m, xs, false, false, [], none⟩ false [(id, old)] k = some out) : Step1 c B nt o [(.al id n p, some o2), (.nils, q2)] fr k out := by
  obtain ⟨hT, _⟩ := tyIs_ok hc.ty htx
  obtain ⟨et, hu, _⟩ := hT.sl e rfl
  refine append_core (mv := []) (zs := []) hc ho ht hg0 hh hok hold (fun h => by cases h) (by simpa using hlen) (fun e0 a w g hg y hy => ⟨?_, fun i h => by cases h⟩) (by rw [List.append_nil]; exact hk)
  have hr : a.eval y = .slice none 0 0 := view_rep hg hy
  rw [hr]
  exact SrcOwn.nil hu _

theorem ok_append_al {id n id3 n3 : Nat} {p : Path} {o2 o3 : Obj} {e : Kd} {m : Md} {xs zs : List e.T} {old : Option Obj} {t tx : Nat} {as : Array Operand} (hc : CtxOk c)
    (ho : o.op = .call { callee := .builtin .append, args := as, argTypes := #[t, tx] }) (ht : tyIs c t (.sl e) = true) (htx : tyIs c tx (.sl e) = true) (hg0 : getP o2.K o2.m o2.x p = some ⟨.sl e, .own m, xs⟩) (hh : noHole o2 = true) (hok : okAl o2 n p = true)
    (hold : (old = none ∧ o2.box = false ∧ p = [] ∧ o2.par = false) ∨ old = some { o2 with hl := some p }) (hlen : xs.length + zs.length ≤ lim)
    (h3 : (o3.m.beq (.own m) && noHole o3 && okAl o3 n3 [] && !o3.par && !(Nat.beq id id3)) = true) (hz : getP o3.K o3.m o3.x [] = some ⟨.sl e, .own m, zs⟩)
    (hk : putNew nt o.dst fr ⟨.sl e, .own m, xs ++ zs, false, false, [], none⟩ false [(id, old), (id3, none)] k = some out) : Step1 c B nt o [(.al id n p, some o2), (.al id3 n3 [], some o3)] fr k out := by
  simp only [Bool.and_eq_true] at h3
  obtain ⟨hT, _⟩ := tyIs_ok hc.ty htx
  obtain ⟨et, hu, _⟩ := hT.sl e rfl
  have hne : id ≠ id3 := fun e1 => by subst e1; simp at h3
  refine append_core (mv := [id3]) hc ho ht hg0 hh hok hold (by simpa using hne) hlen (fun e0 a w g hg y hy => ?_) hk
  obtain ⟨r1, r2, r3⟩ := al_root hg hy h3.1.1.1.2 h3.1.1.2
  refine ⟨?_, fun i hi => by simp at hi; subst hi; exact ⟨o3, r1⟩⟩
  rw [getP_nil] at hz
  have e1 : o3.K = .sl e := by simp only [Option.some.injEq, Sigma.mk.injEq] at hz; exact hz.1
  cases o3 with
  | mk K3 m3 x3 b3 p3 l3 h3 =>
    simp only at e1 hz r2 r3
    subst e1
    simp only [Option.some.injEq, Sigma.mk.injEq, heq_eq_eq, Prod.mk.injEq, true_and] at hz
    obtain ⟨rfl, rfl⟩ := hz
    exact SrcOwn.own hu (r3.mono (fun _ h => h) (fun _ _ _ _ h => h) (fun b hb => ⟨id3, by simp, hb⟩) (fun _ _ _ => ⟨rfl, rfl⟩)) r2

end

/-! ### store -/

theorem run_storeAt {P : Program} {ty : List (Nat × Kd)} {t : Nat} {K : Kd} (h : TyOk P ty t K) {w : World} {b o : Nat} {v : Value} (hl : v.cells.size = K.size)
    (hc : ∀ j, j < K.size → (w.cell? ⟨b, o + j, none⟩).isSome = true ∧ w.frozen? ⟨b, o + j, none⟩ = false) (h1 : ∀ u ∈ v.cells.toList, u.oneCell' = true) :
    (Instr.storeAt t (.pointer (some ⟨b, o, none⟩)) v).run P w = .ok () (w.setCells b o v.cells.toList) := by
  have := run_storeCells_cells (P := P) b o v.cells.toList 0 w (fun j hj => by rw [Nat.add_zero]; exact (hc j (by simp at hj; omega)).1) (fun j hj => by rw [Nat.add_zero]; exact (hc j (by simp at hj; omega)).2) h1
  rw [Nat.add_zero] at this
  have hnb : ¬ (v.cells.size ≠ K.size) := fun h => h hl
  simp only [Instr.storeAt, Instr.sureAddr, storeVar, Sem.run_bind, Sem.run_pure, Result.andThen_ok, h.size, if_neg hnb, this]

theorem mkPr_fst : ∀ a b : Md, (mkPr a b).fst = a
  | .ro, .ro => rfl
  | .ro, .own _ => rfl
  | .ro, .pr _ _ => rfl
  | .own _, _ => rfl
  | .pr _ _, _ => rfl

theorem mkPr_snd : ∀ a b : Md, (mkPr a b).snd = b
  | .ro, .ro => rfl
  | .ro, .own _ => rfl
  | .ro, .pr _ _ => rfl
  | .own _, _ => rfl
  | .pr _ _, _ => rfl

/-- Fields are there whatever the value and the mode. -/
theorem getP_fields : ∀ (p : Path) {K : Kd} {m m2 : Md} {x y : K.T} {K2 : Kd} {m3 : Md} {z : K2.T}, hasIdx p = false → getP K m x p = some ⟨K2, m3, z⟩ → ∃ m4 z4, getP K m2 y p = some ⟨K2, m4, z4⟩
  | [], K, m, m2, x, y, K2, m3, z, _, h => by
    rw [getP_nil] at h
    cases h
    exact ⟨m2, y, getP_nil _ _ _⟩
  | .inn :: p, .st k, m, m2, x, y, K2, m3, z, hi, h => by
    obtain ⟨m4, z4, h4⟩ := getP_fields p (K := k) (m2 := m2) (y := y) (by simpa [hasIdx] using hi) (by simpa only [getP] using h)
    exact ⟨m4, z4, by simpa only [getP] using h4⟩
  | .fst :: p, .pair a b, m, m2, x, y, K2, m3, z, hi, h => by
    obtain ⟨m4, z4, h4⟩ := getP_fields p (K := a) (m2 := m2.fst) (y := y.1) (by simpa [hasIdx] using hi) (by simpa only [getP] using h)
    exact ⟨m4, z4, by simpa only [getP] using h4⟩
  | .snd :: p, .pair a b, m, m2, x, y, K2, m3, z, hi, h => by
    obtain ⟨m4, z4, h4⟩ := getP_fields p (K := b) (m2 := m2.snd) (y := y.2) (by simpa [hasIdx] using hi) (by simpa only [getP] using h)
    exact ⟨m4, z4, by simpa only [getP] using h4⟩
  | .idx i :: p, K, _, _, _, _, _, _, _, hi, _ => by simp [hasIdx] at hi
  | .inn :: p, .int _, _, _, _, _, _, _, _, _, h | .inn :: p, .bool, _, _, _, _, _, _, _, _, h | .inn :: p, .str, _, _, _, _, _, _, _, _, h | .inn :: p, .err, _, _, _, _, _, _, _, _, h | .inn :: p, .sl _, _, _, _, _, _, _, _, _, h | .inn :: p, .pair _ _, _, _, _, _, _, _, _, _, h => by simp [getP] at h
  | .fst :: p, .int _, _, _, _, _, _, _, _, _, h | .fst :: p, .bool, _, _, _, _, _, _, _, _, h | .fst :: p, .str, _, _, _, _, _, _, _, _, h | .fst :: p, .err, _, _, _, _, _, _, _, _, h | .fst :: p, .sl _, _, _, _, _, _, _, _, _, h | .fst :: p, .st _, _, _, _, _, _, _, _, _, h => by simp [getP] at h
  | .snd :: p, .int _, _, _, _, _, _, _, _, _, h | .snd :: p, .bool, _, _, _, _, _, _, _, _, h | .snd :: p, .str, _, _, _, _, _, _, _, _, h | .snd :: p, .err, _, _, _, _, _, _, _, _, h | .snd :: p, .sl _, _, _, _, _, _, _, _, _, h | .snd :: p, .st _, _, _, _, _, _, _, _, _, h => by simp [getP] at h

/-- A part is of the same kind after a store at p, if it is so below p. -/
theorem getP_gen : ∀ (p p2 : Path) {K : Kd} {m mm md : Md} {x x2 : K.T} {K' : Kd} {y : K'.T} {K2 : Kd} {m2 : Md} {z : K2.T}, setP K x p K' y = some x2 → setM m p md = some mm →
    getP K m x p2 = some ⟨K2, m2, z⟩ → (preP p p2 = true → ∀ (m' : Md) (x' : K'.T), getP K' m' x' (p2.drop p.length) = some ⟨K2, m2, z⟩ → ∃ m3 x3, getP K' md y (p2.drop p.length) = some ⟨K2, m3, x3⟩) → ∃ m3 x3, getP K mm x2 p2 = some ⟨K2, m3, x3⟩
  | [], p2, K, m, mm, md, x, x2, K', y, K2, m2, z, hs, hm, hg, hi => by
    simp only [setP] at hs
    split at hs
    · rename_i hb
      have := Kd.eq_of_beq hb
      subst this
      cases hs
      simp only [setM, Option.some.injEq] at hm
      subst hm
      have := hi (by simp [preP]) m x (by simpa using hg)
      simpa using this
    · cases hs
  | s :: p, [], K, m, mm, md, x, x2, K', y, K2, m2, z, _, _, hg, _ => by
    rw [getP_nil] at hg
    cases hg
    exact ⟨mm, x2, getP_nil _ _ _⟩
  | .inn :: p, .inn :: p2, .st k, m, mm, md, x, x2, K', y, K2, m2, z, hs, hm, hg, hi => by
    simp only [setP] at hs
    simp only [setM] at hm
    simp only [getP] at hg ⊢
    exact getP_gen p p2 (K := k) hs hm hg (fun h => by simpa using hi (by simpa [preP] using h))
  | .fst :: p, .fst :: p2, .pair a b, m, mm, md, x, x2, K', y, K2, m2, z, hs, hm, hg, hi => by
    simp only [setP] at hs
    simp only [getP] at hg ⊢
    split at hs
    · rename_i z1 hs1
      cases hs
      simp only [setM] at hm
      split at hm
      · cases hm
      · split at hm
        · rename_i m1 hm1
          cases hm
          rw [mkPr_fst]
          exact getP_gen p p2 (K := a) hs1 hm1 hg (fun h => by simpa using hi (by simpa [preP] using h))
        · cases hm
    · cases hs
  | .snd :: p, .snd :: p2, .pair a b, m, mm, md, x, x2, K', y, K2, m2, z, hs, hm, hg, hi => by
    simp only [setP] at hs
    simp only [getP] at hg ⊢
    split at hs
    · rename_i z1 hs1
      cases hs
      simp only [setM] at hm
      split at hm
      · cases hm
      · split at hm
        · rename_i m1 hm1
          cases hm
          rw [mkPr_snd]
          exact getP_gen p p2 (K := b) hs1 hm1 hg (fun h => by simpa using hi (by simpa [preP] using h))
        · cases hm
    · cases hs
  | .fst :: p, .snd :: p2, .pair a b, m, mm, md, x, x2, K', y, K2, m2, z, hs, hm, hg, hi => by
    simp only [setP] at hs
    simp only [getP] at hg ⊢
    split at hs
    · cases hs
      simp only [setM] at hm
      split at hm
      · cases hm
      · split at hm
        · cases hm
          rw [mkPr_snd]
          exact ⟨m2, z, hg⟩
        · cases hm
    · cases hs
  | .snd :: p, .fst :: p2, .pair a b, m, mm, md, x, x2, K', y, K2, m2, z, hs, hm, hg, hi => by
    simp only [setP] at hs
    simp only [getP] at hg ⊢
    split at hs
    · cases hs
      simp only [setM] at hm
      split at hm
      · cases hm
      · split at hm
        · cases hm
          rw [mkPr_fst]
          exact ⟨m2, z, hg⟩
        · cases hm
    · cases hs
  | .idx i :: p, .idx j :: p2, .sl e, .own m, mm, md, xs, x2, K', y, K2, m2, z, hs, hm, hg, hi => by
    simp only [setP] at hs
    simp only [getP] at hg
    split at hs
    · rename_i z1 hs1
      cases hs
      simp only [setM] at hm
      split at hm
      · rename_i m1 hm1
        split at hm
        · rename_i hb
          cases hm
          have := Md.eq_of_beq hb
          subst this
          simp only [getP]
          by_cases hij : i.toNat = j.toNat ∧ i.toNat < List.length xs
          · have e1 : List.getD (List.set xs i.toNat z1) j.toNat e.zero = z1 := by
              rw [← hij.1]; simp [List.getD, hij.2]
            rw [e1]
            rw [← hij.1] at hg
            exact getP_gen p p2 (K := e) hs1 hm1 hg (fun h => by simpa using hi (by simpa [preP] using h))
          · have e1 : List.getD (List.set xs i.toNat z1) j.toNat e.zero = List.getD xs j.toNat e.zero := by
              by_cases h1 : i.toNat = j.toNat
              · have : ¬ i.toNat < List.length xs := fun h => hij ⟨h1, h⟩
                rw [List.set_eq_of_length_le (by omega)]
              · simp [List.getD, List.getElem?_set_ne h1]
            rw [e1]
            exact ⟨m2, z, hg⟩
        · cases hm
      · cases hm
    · cases hs
  | .idx i :: p, .idx j :: p2, .sl e, .ro, mm, md, xs, x2, K', y, K2, m2, z, hs, hm, hg, hi => by simp [getP] at hg
  | .idx i :: p, .idx j :: p2, .sl e, .pr _ _, mm, md, xs, x2, K', y, K2, m2, z, hs, hm, hg, hi => by simp [getP] at hg
  | .inn :: _, .fst :: _, K, _, _, _, _, _, _, _, _, _, _, hs, _, hg, _ | .inn :: _, .snd :: _, K, _, _, _, _, _, _, _, _, _, _, hs, _, hg, _ | .inn :: _, .idx _ :: _, K, _, _, _, _, _, _, _, _, _, _, hs, _, hg, _
  | .fst :: _, .inn :: _, K, _, _, _, _, _, _, _, _, _, _, hs, _, hg, _ | .fst :: _, .idx _ :: _, K, _, _, _, _, _, _, _, _, _, _, hs, _, hg, _
  | .snd :: _, .inn :: _, K, _, _, _, _, _, _, _, _, _, _, hs, _, hg, _ | .snd :: _, .idx _ :: _, K, _, _, _, _, _, _, _, _, _, _, hs, _, hg, _
  | .idx _ :: _, .inn :: _, K, _, _, _, _, _, _, _, _, _, _, hs, _, hg, _ | .idx _ :: _, .fst :: _, K, _, _, _, _, _, _, _, _, _, _, hs, _, hg, _ | .idx _ :: _, .snd :: _, K, _, _, _, _, _, _, _, _, _, _, hs, _, hg, _ => by
    cases K <;> simp [setP, getP] at hs hg
  | .inn :: _, .inn :: _, .int _, _, _, _, _, _, _, _, _, _, _, hs, _, _, _ | .inn :: _, .inn :: _, .bool, _, _, _, _, _, _, _, _, _, _, hs, _, _, _ | .inn :: _, .inn :: _, .str, _, _, _, _, _, _, _, _, _, _, hs, _, _, _ | .inn :: _, .inn :: _, .err, _, _, _, _, _, _, _, _, _, _, hs, _, _, _
  | .inn :: _, .inn :: _, .sl _, _, _, _, _, _, _, _, _, _, _, hs, _, _, _ | .inn :: _, .inn :: _, .pair _ _, _, _, _, _, _, _, _, _, _, _, hs, _, _, _ => by simp [setP] at hs
  | .fst :: _, .fst :: _, .int _, _, _, _, _, _, _, _, _, _, _, hs, _, _, _ | .fst :: _, .fst :: _, .bool, _, _, _, _, _, _, _, _, _, _, hs, _, _, _ | .fst :: _, .fst :: _, .str, _, _, _, _, _, _, _, _, _, _, hs, _, _, _ | .fst :: _, .fst :: _, .err, _, _, _, _, _, _, _, _, _, _, hs, _, _, _
  | .fst :: _, .fst :: _, .sl _, _, _, _, _, _, _, _, _, _, _, hs, _, _, _ | .fst :: _, .fst :: _, .st _, _, _, _, _, _, _, _, _, _, _, hs, _, _, _ => by simp [setP] at hs
  | .snd :: _, .snd :: _, .int _, _, _, _, _, _, _, _, _, _, _, hs, _, _, _ | .snd :: _, .snd :: _, .bool, _, _, _, _, _, _, _, _, _, _, hs, _, _, _ | .snd :: _, .snd :: _, .str, _, _, _, _, _, _, _, _, _, _, hs, _, _, _ | .snd :: _, .snd :: _, .err, _, _, _, _, _, _, _, _, _, _, hs, _, _, _
  | .snd :: _, .snd :: _, .sl _, _, _, _, _, _, _, _, _, _, _, hs, _, _, _ | .snd :: _, .snd :: _, .st _, _, _, _, _, _, _, _, _, _, _, hs, _, _, _ => by simp [setP] at hs
  | .fst :: _, .snd :: _, .int _, _, _, _, _, _, _, _, _, _, _, hs, _, _, _ | .fst :: _, .snd :: _, .bool, _, _, _, _, _, _, _, _, _, _, hs, _, _, _ | .fst :: _, .snd :: _, .str, _, _, _, _, _, _, _, _, _, _, hs, _, _, _ | .fst :: _, .snd :: _, .err, _, _, _, _, _, _, _, _, _, _, hs, _, _, _
  | .fst :: _, .snd :: _, .sl _, _, _, _, _, _, _, _, _, _, _, hs, _, _, _ | .fst :: _, .snd :: _, .st _, _, _, _, _, _, _, _, _, _, _, hs, _, _, _ => by simp [setP] at hs
  | .snd :: _, .fst :: _, .int _, _, _, _, _, _, _, _, _, _, _, hs, _, _, _ | .snd :: _, .fst :: _, .bool, _, _, _, _, _, _, _, _, _, _, hs, _, _, _ | .snd :: _, .fst :: _, .str, _, _, _, _, _, _, _, _, _, _, hs, _, _, _ | .snd :: _, .fst :: _, .err, _, _, _, _, _, _, _, _, _, _, hs, _, _, _
  | .snd :: _, .fst :: _, .sl _, _, _, _, _, _, _, _, _, _, _, hs, _, _, _ | .snd :: _, .fst :: _, .st _, _, _, _, _, _, _, _, _, _, _, hs, _, _, _ => by simp [setP] at hs
  | .idx _ :: _, .idx _ :: _, .int _, _, _, _, _, _, _, _, _, _, _, hs, _, _, _ | .idx _ :: _, .idx _ :: _, .bool, _, _, _, _, _, _, _, _, _, _, hs, _, _, _ | .idx _ :: _, .idx _ :: _, .str, _, _, _, _, _, _, _, _, _, _, hs, _, _, _ | .idx _ :: _, .idx _ :: _, .err, _, _, _, _, _, _, _, _, _, _, hs, _, _, _
  | .idx _ :: _, .idx _ :: _, .pair _ _, _, _, _, _, _, _, _, _, _, _, hs, _, _, _ | .idx _ :: _, .idx _ :: _, .st _, _, _, _, _, _, _, _, _, _, _, hs, _, _, _ => by simp [setP] at hs

/-- A part is of the same kind after a store at p, but below an index below p. -/
theorem getP_after (p p2 : Path) {K : Kd} {m mm md : Md} {x x2 : K.T} {K' : Kd} {y : K'.T} {K2 : Kd} {m2 : Md} {z : K2.T} (hs : setP K x p K' y = some x2) (hm : setM m p md = some mm)
    (hg : getP K m x p2 = some ⟨K2, m2, z⟩) (hi : preP p p2 = true → hasIdx (p2.drop p.length) = false) : ∃ m3 x3, getP K mm x2 p2 = some ⟨K2, m3, x3⟩ :=
  getP_gen p p2 hs hm hg fun hp _ _ h => getP_fields _ (hi hp) h

theorem preP_app : ∀ (p p2 : Path) (i j : Int) (r : Path), preP p p2 = true → p2.drop p.length = .idx j :: r → preP (p ++ [.idx i]) p2 = true
  | [], p2, i, j, r, _, h => by
    rw [show p2 = .idx j :: r from by simpa using h]
    rfl
  | .inn :: p, .inn :: p2, i, j, r, h1, h2 => preP_app p p2 i j r h1 (by simpa using h2)
  | .fst :: p, .fst :: p2, i, j, r, h1, h2 => preP_app p p2 i j r h1 (by simpa using h2)
  | .snd :: p, .snd :: p2, i, j, r, h1, h2 => preP_app p p2 i j r h1 (by simpa using h2)
  | .idx _ :: p, .idx _ :: p2, i, j, r, h1, h2 => preP_app p p2 i j r h1 (by simpa using h2)
  | .inn :: _, [], _, _, _, h, _ | .inn :: _, .fst :: _, _, _, _, h, _ | .inn :: _, .snd :: _, _, _, _, h, _ | .inn :: _, .idx _ :: _, _, _, _, h, _ => by simp [preP] at h
  | .fst :: _, [], _, _, _, h, _ | .fst :: _, .inn :: _, _, _, _, h, _ | .fst :: _, .snd :: _, _, _, _, h, _ | .fst :: _, .idx _ :: _, _, _, _, h, _ => by simp [preP] at h
  | .snd :: _, [], _, _, _, h, _ | .snd :: _, .inn :: _, _, _, _, h, _ | .snd :: _, .fst :: _, _, _, _, h, _ | .snd :: _, .idx _ :: _, _, _, _, h, _ => by simp [preP] at h
  | .idx _ :: _, [], _, _, _, h, _ | .idx _ :: _, .inn :: _, _, _, _, h, _ | .idx _ :: _, .fst :: _, _, _, _, h, _ | .idx _ :: _, .snd :: _, _, _, _, h, _ => by simp [preP] at h

/-- The same, where the elements of a slice at p turn. -/
theorem getP_after_ms (p p2 : Path) {K : Kd} {m mm md : Md} {x x2 : K.T} {e : Kd} {y : (Kd.sl e).T} {K2 : Kd} {m2 : Md} {z : K2.T} (hs : setP K x p (.sl e) y = some x2) (hm : setM m p (.own md) = some mm)
    (hg : getP K m x p2 = some ⟨K2, m2, z⟩) (hi : preP (p ++ [.idx 0]) p2 = true → hasIdx (p2.drop (p.length + 1)) = false) : ∃ m3 x3, getP K mm x2 p2 = some ⟨K2, m3, x3⟩ := by
  refine getP_gen p p2 hs hm hg fun hp m' x' h => ?_
  cases hd : p2.drop p.length with
  | nil =>
    rw [hd, getP_nil] at h
    cases h
    exact ⟨.own md, y, getP_nil _ _ _⟩
  | cons s r =>
    rw [hd] at h
    cases s with
    | inn => simp [getP] at h
    | fst => simp [getP] at h
    | snd => simp [getP] at h
    | idx i =>
      cases m' with
      | ro => simp [getP] at h
      | pr _ _ => simp [getP] at h
      | own m0 =>
        simp only [getP] at h ⊢
        have := hi (preP_app p p2 0 i r hp hd)
        rw [← List.drop_drop, hd] at this
        exact getP_fields r (by simpa using this) h

end Go.Abs

namespace Go.Abs
variable {B : Base}

/-- An object's part is written; others give it what they hold. -/
def Gh.stored (g : Gh) (id : Nat) (mv : List Nat) (F1 : Nat → Prop) (cs1 : List Value) : Gh where
  S := g.S
  F := fun i b => if i = id then F1 b else if i ∈ mv then False else g.F i b
  pl := fun i => if i ∈ mv then none else g.pl i
  cs := fun i => if i = id then cs1 else g.cs i

theorem InvG.stored {P : Program} {nt : Nat} {e : Env} {a : Act} {w : World} {g : Gh} (h : InvG P B nt e a w g) {id : Nat} {o2 : Obj} (ho : e.obj id = some (some o2)) (mv : List Nat) (hid : id ∉ mv)
    (hmv : ∀ i, i ∈ mv → ∃ o, e.obj i = some (some o)) {b off : Nat} {vs : List Value} (hb : b < w.heap.size)
    (hX : (∃ o0, g.pl id = some (b, o0) ∧ o0 ≤ off ∧ off + vs.length ≤ o0 + o2.K.size) ∨ g.F id b) (F1 : Nat → Prop) (hF1 : ∀ b, F1 b → g.F id b ∨ ∃ i, i ∈ mv ∧ g.F i b) (cs1 : List Value) (o3 : Obj)
    (hre : ObjOk (g.stored id mv F1 cs1) (w.setCells b off vs) B id o3)
    (hal : ∀ n p v, SlotRep0 P g w e.obj (.al id n p) v → SlotRep0 P (g.stored id mv F1 cs1) (w.setCells b off vs) (Env.mk e.slots ((id, some o3) :: gone mv ++ e.objs)).obj (.al id n p) v)
    (hpt : ∀ n p v, SlotRep0 P g w e.obj (.pt id n p) v → SlotRep0 P (g.stored id mv F1 cs1) (w.setCells b off vs) (Env.mk e.slots ((id, some o3) :: gone mv ++ e.objs)).obj (.pt id n p) v) :
    InvG P B nt ⟨e.slots, (id, some o3) :: gone mv ++ e.objs⟩ a (w.setCells b off vs) (g.stored id mv F1 cs1) := by
  have hobj : ∀ i, (Env.mk e.slots ((id, some o3) :: gone mv ++ e.objs)).obj i = if i = id then some (some o3) else if i ∈ mv then some none else e.obj i := by
    intro i
    show look ((id, some o3) :: (gone mv ++ e.objs)) i = _
    by_cases hi : i = id
    · subst hi; rw [look_cons_self, if_pos rfl]
    · rw [look_cons_ne (fun e => hi e.symm), if_neg hi, look_app, look_gone]
      by_cases hm : i ∈ mv
      · rw [if_pos hm, if_pos hm]
      · rw [if_neg hm, if_neg hm]; rfl
  have hx := Ext.setCells w b off vs
  have hsz : (w.setCells b off vs).heap.size = w.heap.size := (setCells_heap b vs off w).2.2.2.1
  have nS : ¬ g.S b := by
    rcases hX with ⟨o0, e1, _⟩ | hF
    · exact (h.plz id b o0 e1).2.1
    · exact h.FS id b hF
  have nF : ∀ j, j ≠ id → ¬ g.F j b := by
    intro j hj
    rcases hX with ⟨o0, e1, _⟩ | hF
    · exact (h.plz id b o0 e1).2.2.1 j
    · exact fun hF' => h.FF j id b hj hF' hF
  have npl : ∀ j off', j ≠ id → g.pl j ≠ some (b, off') := by
    intro j off' hj e2
    rcases hX with ⟨o0, e1, _⟩ | hF
    · exact hj ((h.plz id b o0 e1).2.2.2 j off' e2).symm
    · exact (h.plz j b off' e2).2.2.1 id hF
  have Fnew : ∀ i b, (g.stored id mv F1 cs1).F i b → (i = id ∧ F1 b) ∨ (i ≠ id ∧ i ∉ mv ∧ g.F i b) := by
    intro i b hF
    simp only [Gh.stored] at hF
    split at hF
    · exact .inl ⟨by assumption, hF⟩
    · split at hF
      · exact hF.elim
      · exact .inr ⟨by assumption, by assumption, hF⟩
  have plnew : ∀ i b off, (g.stored id mv F1 cs1).pl i = some (b, off) → i ∉ mv ∧ g.pl i = some (b, off) := by
    intro i b off hF
    simp only [Gh.stored] at hF
    split at hF
    · cases hF
    · exact ⟨by assumption, hF⟩
  have old : ∀ i b, (g.stored id mv F1 cs1).F i b → ∃ j, g.F j b ∧ (j = i ∨ (i = id ∧ j ∈ mv)) := by
    intro i b hF
    rcases Fnew i b hF with ⟨h0, hF'⟩ | ⟨_, _, hF'⟩
    · rcases hF1 b hF' with h1 | ⟨j, h1, h2⟩
      · exact ⟨id, h1, .inl h0.symm⟩
      · exact ⟨j, h2, .inr ⟨h0, h1⟩⟩
    · exact ⟨i, hF', .inl rfl⟩
  refine h.change (fun i => i = id ∨ i ∈ mv) rfl (h.ext.step hx ?_) (fun _ h => h) (fun b' o' v hb' hv => hx.same (fun hh => nS (hh.1 ▸ hb')) hv)
    (fun b hb => by rw [hsz]; exact h.Ssz b hb) ?_ h.Sb ?_ ?_ ?_ ?_ ?_ ?_ ?_ ?_ ?_
  · rintro b' o' hb' ⟨rfl, h1, h2⟩
    rcases hX with ⟨o0, e1, h3, h4⟩ | hF
    · rcases (h.objs id o2 ho).plx b' o0 e1 with h5 | h5
      · omega
      · exact .inr (h5.2 o' (by omega) (by omega))
    · rcases h.Fb id b' hF with h5 | h5
      · exact .inl h5
      · omega
  · intro i b hF
    obtain ⟨j, h1, _⟩ := old i b hF
    rw [hsz]
    exact h.Fsz j b h1
  · intro i b hF
    obtain ⟨j, h1, _⟩ := old i b hF
    exact h.Fb j b h1
  · intro i b hF hS
    obtain ⟨j, h1, _⟩ := old i b hF
    exact h.FS j b h1 hS
  · intro i j b hne hF hF'
    rcases Fnew i b hF with ⟨h1, hF⟩ | ⟨h1, h2, hF⟩ <;> rcases Fnew j b hF' with ⟨h3, hF'⟩ | ⟨h3, h4, hF'⟩
    · exact hne (h1.trans h3.symm)
    · rcases hF1 b hF with h5 | ⟨l, h5, h6⟩
      · exact h.FF id j b (fun e => h3 e.symm) h5 hF'
      · exact h.FF l j b (fun e => h4 (e ▸ h5)) h6 hF'
    · rcases hF1 b hF' with h5 | ⟨l, h5, h6⟩
      · exact h.FF id i b (fun e => h1 e.symm) h5 hF
      · exact h.FF l i b (fun e => h2 (e ▸ h5)) h6 hF
    · exact h.FF i j b hne hF hF'
  · intro i b off hp
    obtain ⟨h1, hp⟩ := plnew i b off hp
    obtain ⟨h3, h4, h5, h6⟩ := h.plz i b off hp
    refine ⟨by rw [hsz]; exact h3, h4, fun j hF => ?_, fun j off' hp' => h6 j off' (plnew j b off' hp').2⟩
    obtain ⟨l, h7, _⟩ := old j b hF
    exact h5 l h7
  · intro i hi
    have hi1 : i ≠ id := fun e => hi (.inl e)
    have hi2 : i ∉ mv := fun e => hi (.inr e)
    refine ⟨by rw [hobj, if_neg hi1, if_neg hi2], ?_, ?_, ?_, fun b' o' hF => hx.cell b' o' (h.Fsz i b' hF) (fun hh => nF i hi1 (hh.1 ▸ hF)),
      fun b' off' hp o' => hx.cell b' o' (h.plz i b' off' hp).1 (fun hh => npl i off' hi1 (hh.1 ▸ hp))⟩
    · funext b; simp [Gh.stored, hi1, hi2]
    · simp [Gh.stored, hi2]
    · simp [Gh.stored, hi1]
  · intro i hi hno
    rcases hi with rfl | hi
    · exact absurd (by rw [hobj, if_pos rfl]) (hno o3)
    · have : i ≠ id := fun e => hid (e ▸ hi)
      exact ⟨fun b hF => by simp [Gh.stored, this, hi] at hF, by simp [Gh.stored, hi]⟩
  · intro i o' hi ho'
    rw [hobj] at ho'
    rcases hi with rfl | hi
    · rw [if_pos rfl] at ho'
      cases ho'
      exact hre
    · have : i ≠ id := fun e => hid (e ▸ hi)
      rw [if_neg this, if_pos hi] at ho'
      cases ho'
  · intro i hi n p v hs
    rcases hi with rfl | hi
    · exact hal n p v hs
    · have : i ≠ id := fun e => hid (e ▸ hi)
      have e1 : (Env.mk e.slots ((id, some o3) :: gone mv ++ e.objs)).obj i = some none := by rw [hobj, if_neg this, if_pos hi]
      exact ⟨⟨by rw [e1]; simp, (fun o ho => by rw [e1] at ho; cases ho)⟩, (fun o ho => by rw [e1] at ho; cases ho)⟩
  · intro i hi n p v hs
    rcases hi with rfl | hi
    · exact hpt n p v hs
    · have : i ≠ id := fun e => hid (e ▸ hi)
      have e1 : (Env.mk e.slots ((id, some o3) :: gone mv ++ e.objs)).obj i = some none := by rw [hobj, if_neg this, if_pos hi]
      exact ⟨⟨by rw [e1]; simp, (fun o ho => by rw [e1] at ho; cases ho)⟩, (fun o ho => by rw [e1] at ho; cases ho)⟩

theorem since_cons {q : Option Path} {log : List (Option Path)} {n : Nat} (h : n ≤ log.length) : since (q :: log) n = q :: since log n := by
  simp only [since, List.length_cons]
  rw [show log.length + 1 - n = (log.length - n) + 1 by omega, List.take_succ_cons]

theorem logAt_len (o : Obj) (p : Path) : o.log.length ≤ (logAt o p).length := by
  unfold logAt
  split
  · simp
  · simp only [List.length_cons]; omega

theorem hasIdx_drop {p : Path} (h : hasIdx p = false) : ∀ n, hasIdx (p.drop n) = false := by
  intro n
  induction n generalizing p with
  | zero => exact h
  | succ n ih =>
    cases p with
    | nil => rfl
    | cons s p =>
      rw [List.drop_succ_cons]
      refine ih ?_
      cases s <;> simp [hasIdx] at h ⊢ <;> exact h

theorem nav_none {w : World} : ∀ (p : Path) {K : Kd} {cs : List Value} {q : Place} {c : List Value}, hasIdx p = false → nav w p K none cs = some (q, c) → q = none
  | [], K, cs, q, c, _, h => by simp only [nav, Option.some.injEq, Prod.mk.injEq] at h; exact h.1.symm
  | .inn :: p, .st k, cs, q, c, hi, h => nav_none p (K := k) (by simpa [hasIdx] using hi) (by simpa only [nav] using h)
  | .fst :: p, .pair a b, cs, q, c, hi, h => nav_none p (K := a) (by simpa [hasIdx] using hi) (by simpa only [nav] using h)
  | .snd :: p, .pair a b, cs, q, c, hi, h => nav_none p (K := b) (by simpa [hasIdx] using hi) (by simpa only [nav, Place.up, Option.map_none] using h)
  | .idx i :: p, K, cs, q, c, hi, _ => by simp [hasIdx] at hi
  | .inn :: p, .int _, _, _, _, _, h | .inn :: p, .bool, _, _, _, _, h | .inn :: p, .str, _, _, _, _, h | .inn :: p, .err, _, _, _, _, h | .inn :: p, .sl _, _, _, _, _, h | .inn :: p, .pair _ _, _, _, _, _, h => by simp [nav] at h
  | .fst :: p, .int _, _, _, _, _, h | .fst :: p, .bool, _, _, _, _, h | .fst :: p, .str, _, _, _, _, h | .fst :: p, .err, _, _, _, _, h | .fst :: p, .sl _, _, _, _, _, h | .fst :: p, .st _, _, _, _, _, h => by simp [nav] at h
  | .snd :: p, .int _, _, _, _, _, h | .snd :: p, .bool, _, _, _, _, h | .snd :: p, .str, _, _, _, _, h | .snd :: p, .err, _, _, _, _, h | .snd :: p, .sl _, _, _, _, _, h | .snd :: p, .st _, _, _, _, _, h => by simp [nav] at h

section
variable {c : Ctx} {nt : Nat} {o : Oper} {Ω : Type} {k : Delta → Option Ω} {out : Ω} {fr : Bool}

theorem stepOk_skip {P : Program} {e : Env} {os : List (Nat × Option Obj)} (hd : o.dst = none)
    (h : ∀ a w g, InvG P B nt e a w g → ∃ w' g', (execOp a.eval o).run P w = .ok .skip w' ∧ InvG P B nt ⟨e.slots, os ++ e.objs⟩ a w' g') : StepOk P B nt o e (e.apply ⟨[], os⟩) := by
  intro a w ⟨g, hg⟩ next Q hn
  obtain ⟨w', g', hr, hi⟩ := h a w g hg
  unfold Oper.wp
  rw [hr, Oper.upon_skip, hd]
  exact hn _ _ ⟨g', hi⟩

theorem ok_store {x y : Operand} {t id n : Nat} {p : Path} {o2 : Obj} {v : View} {pt : Part} {K : Kd} {m md m2 : Md} {z : K.T} {yv : K.T} {x2 : o2.K.T} (hc : CtxOk c) (ho : o.op = .store t x y) (hd : o.dst = none)
    (hg0 : getP o2.K o2.m o2.x p = some ⟨K, m, z⟩) (hp : partOf v = some pt) (hk0 : (okPt o2 n p && tyIs c t K && !(o2.fx && !hasIdx p)) = true) (hcast : cast1 K md (some pt) = some yv) (hsm : setM o2.m p md = some m2) (hsp : setP o2.K o2.x p K yv = some x2)
    (hnd : nodup (id :: partIds pt) = true) (hhl : o2.hl = none ∨ o2.hl = some p)
    (hk : k ⟨[], (id, some { o2 with m := m2, x := x2, log := logAt o2 p, hl := none }) :: gone (partIds pt)⟩ = some out) : Step1 c B nt o [(.pt id n p, some o2), v] fr k out := by
  rw [Bool.and_eq_true, Bool.and_eq_true] at hk0
  obtain ⟨hk0, hfx'⟩ := hk0
  have hfx : (o2.fx && !hasIdx p) = false := by
    cases hx : (o2.fx && !hasIdx p) with
    | false => rfl
    | true => rw [hx] at hfx'; cases hfx'
  refine ⟨_, hk, fun e he => stepOk_skip hd fun a w g hg => ?_⟩
  obtain ⟨v1, v2⟩ := views_two he.1 (x := x) (y := y) (by rw [ho]; rfl)
  obtain ⟨hT, _⟩ := tyIs_ok hc.ty hk0.2
  have hobj2 := view_pt v1
  have O := hg.objs id o2 hobj2
  have hpr := part_rep hg v2 hp
  obtain ⟨b, off, cs', K', m', x', h3, h4, h5⟩ := (view_rep hg v1).2 o2 hobj2 hk0.1 (hhl.elim .inl (fun h => .inr (.inr h)))
  rw [hg0] at h3
  cases h3
  have hcells : Own g.S w K md yv (a.eval y).cells.toList (fun b => ∃ id o, pt = .al id o ∧ g.F id b) := by
    rcases cast_own hcast (fun q hq => by cases hq; exact hpr) with ⟨h, _⟩ | ⟨q, hq, h⟩
    · cases h
    · cases hq; exact h
  generalize hvs : (a.eval y).cells.toList = vs at hcells
  have hvl : vs.length = K.size := hcells.length
  have hid : id ∉ partIds pt := (List.nodup_cons.1 (nodup_ok hnd)).1
  have F2m : ∀ b, (∃ id o, pt = .al id o ∧ g.F id b) → ∃ i, i ∈ partIds pt ∧ g.F i b := by
    rintro b ⟨i, o', rfl, h⟩
    exact ⟨i, by simp [partIds], h⟩
  have hmv : ∀ i, i ∈ partIds pt → ∃ o, e.obj i = some (some o) := by
    intro i hi
    cases pt with
    | v _ _ => cases hi
    | nils => cases hi
    | al id3 o3 =>
      simp only [partIds, List.mem_singleton] at hi
      subst hi
      exact ⟨o3, hpr.1⟩
  have F2d : ∀ b, (∃ id o, pt = .al id o ∧ g.F id b) → ¬ g.F id b := fun b h hF => by
    obtain ⟨i, h1, h2⟩ := F2m b h
    exact hg.FF i id b (fun e1 => hid (e1 ▸ h1)) h2 hF
  have F2pl : ∀ b o', g.pl id = some (b, o') → ¬ (∃ id o, pt = .al id o ∧ g.F id b) := fun b o' hp h => by
    obtain ⟨i, _, h2⟩ := F2m b h
    exact (hg.plz id b o' hp).2.2.1 i h2
  have hx := Ext.setCells w b off vs
  -- what the place, and what is written, come to
  obtain ⟨F1, hat, hpl, hcl, hF1, hown, hplok, hal, hpt⟩ : ∃ F1 : Nat → Prop, ((∃ o0, g.pl id = some (b, o0) ∧ o0 ≤ off ∧ off + K.size ≤ o0 + o2.K.size) ∨ g.F id b) ∧ PlOk w (some (b, off)) cs' ∧ cs'.length = K.size ∧
      (∀ b, F1 b → g.F id b ∨ ∃ i, i ∈ partIds pt ∧ g.F i b) ∧ Own g.S (w.setCells b off vs) o2.K m2 x2 (splice p o2.K (g.cs id) vs) F1 ∧ PlOk (w.setCells b off vs) (g.pl id) (splice p o2.K (g.cs id) vs) ∧
      (∀ p2 gg r, getP o2.K o2.m o2.x p2 = some gg → nav w p2 o2.K (g.pl id) (g.cs id) = some r → hitAl p2 p = false → (o2.hl ≠ none → p2 = []) → nav (w.setCells b off vs) p2 o2.K (g.pl id) (splice p o2.K (g.cs id) vs) = some r) ∧
      (∀ p2 gg r c, getP o2.K o2.m o2.x p2 = some gg → nav w p2 o2.K (g.pl id) (g.cs id) = some (r, c) → hitPt p2 p = false → (o2.hl ≠ none → hasIdx p2 = false) → ∃ c3, nav (w.setCells b off vs) p2 o2.K (g.pl id) (splice p o2.K (g.cs id) vs) = some (r, c3)) := by
    have wr : ∀ q : Place, q = some (b, off) → PlOk w q cs' → cs'.length = K.size → PlOk (w.setCells b off vs) q vs := by
      rintro q rfl hq hl
      intro b' o' e1
      simp only [Option.some.injEq, Prod.mk.injEq] at e1
      obtain ⟨rfl, rfl⟩ := e1
      have h1 := hq b off rfl
      refine ⟨fun j hj => ?_, fun j hj => ?_⟩
      · exact World.cell?_setCells_in b vs off w (fun j hj => by rw [(h1.1 j (by omega))]; rfl) j hj
      · rw [World.frozen?_setCells]; exact h1.2 j (by omega)
    have inR : ∀ b' o', ¬ InR (some (b, off)) K.size b' o' → ¬ (b' = b ∧ off ≤ o' ∧ o' < off + vs.length) := fun b' o' h ⟨e1, h1, h2⟩ => h ⟨off, by rw [e1], h1, by omega⟩
    cases hh : o2.hl with
    | none =>
      obtain ⟨Oown, Opl⟩ := O.own hh
      obtain ⟨F', f⟩ := focus p hg0 h4 Oown Opl (fun b off e1 => (hg.plz id b off e1).2.2.1 id)
      obtain ⟨a1, a2⟩ := f.at_ b off rfl
      have hbz : b < w.heap.size := by
        rcases a2 with ⟨o0, e1, _⟩ | hF
        · exact (hg.plz id b o0 e1).1
        · exact hg.Fsz id b hF
      have nS : ∀ b', g.S b' → b' ≠ b := fun b' hS e1 => by
        subst e1
        rcases a2 with ⟨o0, e1, _⟩ | hF
        · exact (hg.plz id b' o0 e1).2.1 hS
        · exact hg.FS id b' hF hS
      have key := f.set g.S (w.setCells b off vs) md m2 yv x2 vs (fun b => ∃ id o, pt = .al id o ∧ g.F id b) hsp hsm (fun _ h => h) (fun b' o' v' hS hv => hx.same (fun hh => nS b' hS hh.1) hv)
        (fun b' o' hF _ hq => hx.cell b' o' (hg.Fsz id b' hF) (inR b' o' hq))
        (fun b' o' hR hq => hx.cell b' o' (by obtain ⟨o0, e0, _⟩ := hR; exact (hg.plz id b' o0 e0).1) (inR b' o' hq)) (wr _ rfl f.ok f.own.length)
        (hcells.mono (fun _ h => h) (fun b' o' v' hS hv => hx.same (fun hh => nS b' hS hh.1) hv) (fun _ h => h) (fun b' o' h => hx.cell b' o' (by obtain ⟨i, _, h2⟩ := F2m b' h; exact hg.Fsz i b' h2) (fun hh => by
          obtain ⟨e1, _⟩ := hh
          subst e1
          rcases a2 with ⟨o0, e1, _⟩ | hF
          · exact F2pl b' o0 e1 h
          · exact F2d b' h hF)))
        (fun b h hF => absurd hF (F2d b h)) F2pl (fun b' o' e1 h => by
          simp only [Option.some.injEq, Prod.mk.injEq] at e1
          obtain ⟨rfl, rfl⟩ := e1
          rcases a2 with ⟨o0, e1, _⟩ | hF
          · exact F2pl b o0 e1 h
          · exact F2d b h hF)
      refine ⟨_, a2, f.ok, f.own.length, ?_, key.1, key.2.1, fun p2 gg r h1 h2 h3 _ => key.2.2.al p2 gg r h1 h2 h3, fun p2 gg r c h1 h2 h3 _ => key.2.2.pt p2 gg r c h1 h2 h3⟩
      rintro b' (⟨h, _⟩ | h)
      · exact .inl h
      · exact .inr (F2m b' h)
    | some p0 =>
      have : p0 = p := by rcases hhl with h | h <;> rw [hh] at h <;> cases h; rfl
      subst this
      obtain ⟨q, cs0, K0, m0, x0, k1, k2, _, k3, k4, k5, k5', k6⟩ := O.hole p0 hh
      rw [hg0] at k1
      cases k1
      rw [h4] at k2
      cases k2
      have a2 := k5 b off rfl
      have hbz : b < w.heap.size := by
        rcases a2 with ⟨o0, e1, _⟩ | hF
        · exact (hg.plz id b o0 e1).1
        · exact hg.Fsz id b hF
      have nS : ∀ b', g.S b' → b' ≠ b := fun b' hS e1 => by
        subst e1
        rcases a2 with ⟨o0, e1, _⟩ | hF
        · exact (hg.plz id b' o0 e1).2.1 hS
        · exact hg.FS id b' hF hS
      have key := k6 g.S (w.setCells b off vs) md m2 yv x2 vs (fun b => ∃ id o, pt = .al id o ∧ g.F id b) hsp hsm (fun _ h => h) (fun b' o' v' hS hv => hx.same (fun hh => nS b' hS hh.1) hv)
        (fun b' o' hF hq => hx.cell b' o' (hg.Fsz id b' hF) (inR b' o' hq))
        (fun b' o' hR hq => hx.cell b' o' (by obtain ⟨o0, e0, _⟩ := hR; exact (hg.plz id b' o0 e0).1) (inR b' o' hq)) (wr _ rfl k3 k4)
        (hcells.mono (fun _ h => h) (fun b' o' v' hS hv => hx.same (fun hh => nS b' hS hh.1) hv) (fun _ h => h) (fun b' o' h => hx.cell b' o' (by obtain ⟨i, _, h2⟩ := F2m b' h; exact hg.Fsz i b' h2) (fun hh => by
          obtain ⟨e1, _⟩ := hh
          subst e1
          rcases a2 with ⟨o0, e1, _⟩ | hF
          · exact F2pl b' o0 e1 h
          · exact F2d b' h hF)))
        F2d F2pl
      refine ⟨_, a2, k3, k4, ?_, key.1, key.2, fun p2 gg r h1 h2 h3 h6 => ?_, fun p2 gg r c h1 h2 h3 h6 => nav_fields p2 (h6 (by simp)) h2⟩
      · rintro b' (h | h)
        · exact .inl h
        · exact .inr (F2m b' h)
      · have := h6 (by simp)
        subst this
        have hidx : hasIdx p0 = true := by
          cases p0 with
          | nil => simp [hitAl, preP] at h3
          | cons s p0 => simpa [hitAl, preP] using h3
        rw [splice_idx p0 hidx h4]
        simpa only [nav] using h2
  have hbz : b < w.heap.size := by
    rcases hat with ⟨o0, e1, _⟩ | hF
    · exact (hg.plz id b o0 e1).1
    · exact hg.Fsz id b hF
  have eobj : (Env.mk e.slots ((id, some { o2 with m := m2, x := x2, log := logAt o2 p, hl := none }) :: gone (partIds pt) ++ e.objs)).obj id = some (some { o2 with m := m2, x := x2, log := logAt o2 p, hl := none }) := look_cons_self _ _ _
  have gF : (g.stored id (partIds pt) F1 (splice p o2.K (g.cs id) vs)).F id = F1 := by funext b; simp [Gh.stored]
  have gp : (g.stored id (partIds pt) F1 (splice p o2.K (g.cs id) vs)).pl id = g.pl id := by simp [Gh.stored, hid]
  have gc : (g.stored id (partIds pt) F1 (splice p o2.K (g.cs id) vs)).cs id = splice p o2.K (g.cs id) vs := by simp [Gh.stored]
  refine ⟨_, _, ?_, hg.stored hobj2 (partIds pt) hid hmv (vs := vs) hbz (by rw [hvl]; exact hat) F1 hF1 (splice p o2.K (g.cs id) vs) { o2 with m := m2, x := x2, log := logAt o2 p, hl := none } ?_ ?_ ?_⟩
  · have hrun := run_storeAt (P := c.P) hT (w := w) (b := b) (o := off) (v := a.eval y) (by rw [← hvl, ← hvs]; simp) ?_ (by rw [hvs]; exact hcells.one)
    · simp only [execOp, ho, h5, Sem.run_bind, hrun, Result.andThen_ok, Sem.run_pure, hvs]
    · intro j hj
      have h1 := hpl b off rfl
      exact ⟨by rw [h1.1 j (by omega)]; rfl, h1.2 j (by omega)⟩
  · refine ⟨fun _ => by rw [gF, gp, gc]; exact ⟨hown, hplok⟩, (fun p' h => by cases h), (by rw [gp]; exact O.box), fun hpar => ?_, fun b' off' h => O.plx b' off' (by rw [← gp]; exact h)⟩
    rw [gp, gc]
    have hpk := O.par hpar
    have hsame : hasIdx p = true → splice p o2.K (g.cs id) vs = g.cs id := fun hi => splice_idx p hi h4
    unfold ParOk at hpk ⊢
    by_cases hf : (o2.box && fxK o2.K) = true
    · have hi : hasIdx p = true := by
        cases hi : hasIdx p with
        | true => rfl
        | false =>
          exfalso
          have : (o2.fx && !hasIdx p) = true := by
            rw [hi]
            unfold Obj.fx
            rw [show o2.par = true from hpar, Bool.true_and, hf]
            rfl
          rw [hfx] at this
          cases this
      rw [hsame hi]
      rw [if_pos hf] at hpk
      rw [if_pos (show (o2.box && fxK o2.K) = true from hf)]
      exact hpk
    · rw [if_neg hf] at hpk
      rw [if_neg (show ¬ (o2.box && fxK o2.K) = true from hf)]
      obtain ⟨h6, h7⟩ := hpk
      refine ⟨h6, fun hbx => ?_⟩
      rw [← h7 hbx]
      have hpn : g.pl id = none := by
        have := O.box
        cases hq : g.pl id with
        | none => rfl
        | some q => rw [hq] at this; rw [show o2.box = false from hbx] at this; cases this
      refine splice_idx p ?_ h4
      cases hi : hasIdx p with
      | true => rfl
      | false =>
        rw [hpn] at h4
        have := nav_none p hi h4
        cases this
  · intro n' p' v' hs
    refine ⟨⟨by rw [eobj]; simp, fun o3 ho3 => by rw [eobj] at ho3; cases ho3; exact Nat.le_trans (hs.1.2 o2 hobj2) (logAt_len o2 p)⟩, fun o3 ho3 hk3 _ => ?_⟩
    rw [eobj] at ho3
    cases ho3
    have hle := hs.1.2 o2 hobj2
    have hcond : hitAl p' p = false ∧ okAl o2 n' p' = true ∧ (o2.hl ≠ none → p' = []) := by
      unfold okAl at hk3
      simp only [logAt] at hk3
      cases hh : o2.hl with
      | none =>
        rw [hh] at hk3
        simp only [since_cons hle, List.all_cons, Bool.and_eq_true] at hk3
        exact ⟨by simpa using hk3.1, hk3.2, fun h => absurd rfl h⟩
      | some q =>
        rw [hh] at hk3
        rw [since_cons (by simp; omega), since_cons hle] at hk3
        simp only [List.all_cons, Bool.and_eq_true] at hk3
        refine ⟨by simpa using hk3.2.1, hk3.2.2, fun _ => ?_⟩
        have := hk3.1
        split at this
        · rfl
        · cases this
    obtain ⟨q, c1, K1, m1, x1, a1, a2, a3⟩ := hs.2 o2 hobj2 hcond.2.1 (by
      cases hh : o2.hl with
      | none => exact .inl rfl
      | some q => exact .inr (hcond.2.2 (by rw [hh]; simp)))
    obtain ⟨m3, x3, a4⟩ := getP_after p p' hsp hsm a1 (fun hpre => by
      have := hcond.1
      simp [hitAl, hpre] at this)
    exact ⟨q, c1, K1, m3, x3, a4, by rw [gp, gc]; exact hal p' _ _ a1 a2 hcond.1 hcond.2.2, a3⟩
  · intro n' p' v' hs
    refine ⟨⟨by rw [eobj]; simp, fun o3 ho3 => by rw [eobj] at ho3; cases ho3; exact Nat.le_trans (hs.1.2 o2 hobj2) (logAt_len o2 p)⟩, fun o3 ho3 hk3 _ => ?_⟩
    rw [eobj] at ho3
    cases ho3
    have hle := hs.1.2 o2 hobj2
    have hcond : hitPt p' p = false ∧ okPt o2 n' p' = true ∧ (o2.hl ≠ none → hasIdx p' = false) := by
      unfold okPt at hk3
      simp only [logAt] at hk3
      cases hh : o2.hl with
      | none =>
        rw [hh] at hk3
        simp only [since_cons hle, List.all_cons, Bool.and_eq_true] at hk3
        exact ⟨by simpa using hk3.1, hk3.2, fun h => absurd rfl h⟩
      | some q =>
        rw [hh] at hk3
        rw [since_cons (by simp; omega), since_cons hle] at hk3
        simp only [List.all_cons, Bool.and_eq_true] at hk3
        exact ⟨by simpa using hk3.2.1, hk3.2.2, fun _ => by simpa using hk3.1⟩
    obtain ⟨b1, off1, c1, K1, m1, x1, a1, a2, a3⟩ := hs.2 o2 hobj2 hcond.2.1 (by
      cases hh : o2.hl with
      | none => exact .inl rfl
      | some q => exact .inr (.inl (hcond.2.2 (by rw [hh]; simp))))
    obtain ⟨m3, x3, a4⟩ := getP_after p p' hsp hsm a1 (fun hpre => by
      have := hcond.1
      simpa [hitPt, hpre] using this)
    obtain ⟨c3, a5⟩ := hpt p' _ _ _ a1 a2 hcond.1 hcond.2.2
    exact ⟨b1, off1, c3, K1, m3, x3, a4, by rw [gp, gc]; exact a5, a3⟩

end
end Go.Abs

namespace Go.Abs
variable {B : Base}

theorem own_sub {S : Nat → Prop} {w : World} {e : Kd} {m : Md} {xs : List e.T} {A : Option Addr} {cap l h : Nat} {F : Nat → Prop} (ho : Own S w (.sl e) (.own m) xs [.slice A xs.length cap] F) (hlh : l ≤ h) (hh : h ≤ xs.length) :
    Own S w (.sl e) (.own m) ((List.take h xs).drop l) [.slice (if cap = l then A else A.map (·.add (l * e.size))) (h - l) (cap - l)] F := by
  obtain ⟨A', cap', e0, hl, hn, hr, G, hG, hG1, hG2, he⟩ := ho
  simp only [List.cons.injEq, Value.slice.injEq, and_true, true_and] at e0
  obtain ⟨rfl, rfl⟩ := e0
  have len : ((List.take h xs).drop l).length = h - l := by simp; omega
  refine ⟨_, _, by rw [len], by rw [len]; omega, ?_, ?_, fun i => G (l + i), fun i b hb => hG _ b hb, ?_, fun i j b hij => hG2 _ _ b (by omega), fun i hi => ?_⟩
  · intro hA
    by_cases hc : cap = l
    · omega
    · rw [if_neg hc] at hA
      have : A = none := by cases A <;> simp at hA; rfl
      have := hn this
      omega
  · intro ad had
    by_cases hc : cap = l
    · rw [if_pos hc] at had
      obtain ⟨h1, h2, h3⟩ := hr ad had
      refine ⟨h1, h2, ?_⟩
      rw [hc, Nat.sub_self, Nat.zero_mul]
      intro j hj
      omega
    · rw [if_neg hc] at had
      cases A with
      | none => simp at had
      | some a0 =>
        obtain ⟨b, off, sp⟩ := a0
        obtain ⟨h1, h2, h3⟩ := hr _ rfl
        have : sp = none := h1
        subst this
        simp only [Option.map_some, add_nospot, Option.some.injEq] at had
        subst had
        refine ⟨rfl, h2, fun j hj => ?_⟩
        have h4 := h3 (l * e.size + j) (by
          have : (cap - l) * e.size + l * e.size = cap * e.size := by rw [← Nat.add_mul, Nat.sub_add_cancel (by omega)]
          omega)
        rwa [← Nat.add_assoc] at h4
  · intro i ad had
    by_cases hc : cap = l
    · rw [if_pos hc] at had
      exact hG1 _ ad had
    · rw [if_neg hc] at had
      cases A with
      | none => simp at had
      | some a0 =>
        obtain ⟨b, off, sp⟩ := a0
        have : sp = none := (hr _ rfl).1
        subst this
        simp only [Option.map_some, add_nospot, Option.some.injEq] at had
        subst had
        exact hG1 (l + i) ⟨b, off, none⟩ rfl
  · rw [len] at hi
    have hi2 : l + i < xs.length := by omega
    obtain ⟨b, off, vs, hA, hcs, hro2⟩ := he (l + i) hi2
    have hne : cap ≠ l := by omega
    refine ⟨b, off + l * e.size, vs, ?_, ?_, ?_⟩
    · rw [if_neg hne, hA]; simp only [Option.map_some, add_nospot]
    · have : off + l * e.size + i * e.size = off + (l + i) * e.size := by rw [Nat.add_mul]; omega
      rw [this]; exact hcs
    · have : ((List.take h xs).drop l)[i]'(by rw [len]; exact hi) = xs[l + i] := by simp
      rw [this]; exact hro2

section
variable {c : Ctx} {nt : Nat} {o : Oper} {Ω : Type} {k : Delta → Option Ω} {out : Ω} {fr : Bool}

theorem ok_slice_al {x : Operand} {lo hi : Option Operand} {t id n : Nat} {o2 : Obj} {e : Kd} {m : Md} {xs : List e.T} {bs : List View} {l h : Int} (hc : CtxOk c) (ho : o.op = .slice t x lo hi none) (ht : tyIs c t (.sl e) = true)
    (hg0 : getP o2.K o2.m o2.x [] = some ⟨.sl e, .own m, xs⟩) (hh : noHole o2 = true) (hok : okAl o2 n [] = true) (hpb : (!o2.par && !o2.box) = true) (hb : Bnds lo hi bs xs.length l h) (h0 : 0 ≤ l ∧ l ≤ h ∧ h ≤ (xs.length : Int))
    (hk : putNew nt o.dst fr ⟨.sl e, .own m, (List.take h.toNat xs).drop l.toNat, false, false, [], none⟩ false [(id, none)] k = some out) : Step1 c B nt o ((.al id n [], some o2) :: bs) fr k out := by
  obtain ⟨hT, _⟩ := tyIs_ok hc.ty ht
  obtain ⟨t', hu, hl'⟩ := hT.sl e rfl
  refine step_new (mv := [id]) hk rfl rfl rfl fun e0 he a w g hg => ?_
  obtain ⟨v1, v2⟩ := views_slice ho he
  obtain ⟨r1, r2, r3⟩ := al_root hg v1 hh hok
  rw [getP_nil] at hg0
  cases o2 with
  | mk K2 m2 x2 b2 p2 l2 h2 =>
    simp only [Option.some.injEq, Sigma.mk.injEq] at hg0
    obtain ⟨e1, e2⟩ := hg0
    simp only at e1 e2 r2 r3
    subst e1
    simp only [heq_eq_eq, Prod.mk.injEq] at e2
    obtain ⟨rfl, rfl⟩ := e2
    have r3' := r3
    obtain ⟨A, cap, ecs, hl, _⟩ := r3'
    rw [ecs] at r2 r3
    have e1 : a.eval x = .slice A x2.length cap := r2.1
    obtain ⟨b1, b3⟩ := hb.low hg v2
    have len : ((List.take h.toNat x2).drop l.toNat).length = h.toNat - l.toNat := by simp; omega
    refine ⟨.slice (if cap = l.toNat then A else A.map (·.add (l.toNat * e.size))) (h.toNat - l.toNat) (cap - l.toNat), w, g.F id, none, [.slice (if cap = l.toNat then A else A.map (·.add (l.toNat * e.size))) (h.toNat - l.toNat) (cap - l.toNat)], ?_,
      Ext.refl _ _, (fun i hi => by simp at hi; subst hi; exact ⟨_, r1⟩), (fun b hb => .inr ⟨id, by simp, hb⟩), (fun b off h => by cases h), ⟨own_sub r3 (by omega) (by omega), (fun b off h => by cases h)⟩, rfl, ?_⟩
    · rw [exec_slice ho hu (by intros; simp), e1, run_slice_sl hc.ty hT b1 b3 h0 hl]
      rfl
    · exact (show VRep (.sl e) _ _ from ⟨rfl, rfl⟩)

end

/-! ### Freezing -/

def Gh.freeze (g : Gh) (ids : List Nat) : Gh where
  S := fun b => g.S b ∨ ∃ i, i ∈ ids ∧ (g.F i b ∨ ∃ off, g.pl i = some (b, off))
  F := fun i b => if i ∈ ids then False else g.F i b
  pl := fun i => if i ∈ ids then none else g.pl i
  cs := g.cs

theorem InvG.freeze {P : Program} {nt : Nat} {e : Env} {a : Act} {w : World} {g : Gh} (h : InvG P B nt e a w g) (ids : List Nat) (hids : ∀ i, i ∈ ids → ∃ o, e.obj i = some (some o) ∧ o.par = false) :
    InvG P B nt ⟨e.slots, gone ids ++ e.objs⟩ a w (g.freeze ids) := by
  have hobj : ∀ i, (Env.mk e.slots (gone ids ++ e.objs)).obj i = if i ∈ ids then some none else e.obj i := by
    intro i
    show look (gone ids ++ e.objs) i = _
    rw [look_app, look_gone]
    by_cases hm : i ∈ ids
    · rw [if_pos hm, if_pos hm]
    · rw [if_neg hm, if_neg hm]; rfl
  have Fnew : ∀ i b, (g.freeze ids).F i b → i ∉ ids ∧ g.F i b := by
    intro i b hF
    simp only [Gh.freeze] at hF
    split at hF
    · exact hF.elim
    · exact ⟨by assumption, hF⟩
  have plnew : ∀ i b off, (g.freeze ids).pl i = some (b, off) → i ∉ ids ∧ g.pl i = some (b, off) := by
    intro i b off hF
    simp only [Gh.freeze] at hF
    split at hF
    · cases hF
    · exact ⟨by assumption, hF⟩
  refine h.change (fun i => i ∈ ids) rfl h.ext (fun _ h => .inl h) (fun _ _ _ _ h => h) ?_ (fun i b hF => h.Fsz i b (Fnew i b hF).2) ?_ (fun i b hF => h.Fb i b (Fnew i b hF).2) ?_ (fun i j b hne h1 h2 => h.FF i j b hne (Fnew i b h1).2 (Fnew j b h2).2) ?_ ?_ ?_ ?_ ?_ ?_
  · rintro b (hb | ⟨i, _, hF | ⟨off, hp⟩⟩)
    · exact h.Ssz b hb
    · exact h.Fsz i b hF
    · exact (h.plz i b off hp).1
  · rintro b (hb | ⟨i, hi, hF | ⟨off, hp⟩⟩)
    · exact h.Sb b hb
    · rcases h.Fb i b hF with h1 | h1
      · exact .inr (.inl h1)
      · exact .inr (.inr h1)
    · obtain ⟨o, ho, hpar⟩ := hids i hi
      rcases (h.objs i o ho).plx b off hp with h1 | h1
      · exact .inr (.inr h1)
      · rw [hpar] at h1; cases h1.1
  · rintro i b hF hS
    obtain ⟨h1, h2⟩ := Fnew i b hF
    rcases hS with hS | ⟨j, hj, hF' | ⟨off, hp⟩⟩
    · exact h.FS i b h2 hS
    · exact h.FF j i b (fun e => h1 (e ▸ hj)) hF' h2
    · exact (h.plz j b off hp).2.2.1 i h2
  · intro i b off hp
    obtain ⟨h1, h2⟩ := plnew i b off hp
    obtain ⟨h3, h4, h5, h6⟩ := h.plz i b off h2
    refine ⟨h3, ?_, fun j hF => h5 j (Fnew j b hF).2, fun j off' hp' => h6 j off' (plnew j b off' hp').2⟩
    rintro (hS | ⟨j, hj, hF' | ⟨off', hp'⟩⟩)
    · exact h4 hS
    · exact h5 j hF'
    · exact h1 (h6 j off' hp' ▸ hj)
  · intro i hi
    refine ⟨by rw [hobj, if_neg hi], ?_, ?_, rfl, fun _ _ _ => ⟨rfl, rfl⟩, fun _ _ _ _ => ⟨rfl, rfl⟩⟩
    · funext b; simp [Gh.freeze, hi]
    · simp [Gh.freeze, hi]
  · intro i hi _
    exact ⟨fun b hF => (Fnew i b hF).1 hi, by simp [Gh.freeze, hi]⟩
  · intro i o' hi ho'
    rw [hobj, if_pos hi] at ho'
    cases ho'
  · intro i hi n p v hs
    have e1 : (Env.mk e.slots (gone ids ++ e.objs)).obj i = some none := by rw [hobj, if_pos hi]
    exact ⟨⟨by rw [e1]; simp, (fun o ho => by rw [e1] at ho; cases ho)⟩, (fun o ho => by rw [e1] at ho; cases ho)⟩
  · intro i hi n p v hs
    have e1 : (Env.mk e.slots (gone ids ++ e.objs)).obj i = some none := by rw [hobj, if_pos hi]
    exact ⟨⟨by rw [e1]; simp, (fun o ho => by rw [e1] at ho; cases ho)⟩, (fun o ho => by rw [e1] at ho; cases ho)⟩

/-- What a frozen object holds. -/
theorem freeze_ro {P : Program} {nt : Nat} {e : Env} {a : Act} {w : World} {g : Gh} (h : InvG P B nt e a w g) {ids : List Nat} {i : Nat} {ob : Obj} (hi : i ∈ ids) (ho : e.obj i = some (some ob)) (hh : ob.hl = none) :
    RO (g.freeze ids).S w ob.K ob.x (g.cs i) :=
  Own.toRO (fun b hb => .inl hb) (fun b hb => .inr ⟨i, hi, .inl hb⟩) ((h.objs i ob ho).own hh).1

/-- A slot turns, the temporary stays. -/
theorem InvG.reslot {P : Program} {nt : Nat} {e : Env} {a : Act} {w : World} {g : Gh} (h : InvG P B nt e a w g) {t : Nat} {s : Slot} (hs : SlotRep P g w e.obj s (a.tmps.getD t undef)) : InvG P B nt ⟨(t, s) :: e.slots, e.objs⟩ a w g := by
  refine ⟨h.glob, h.tmps, h.defers, h.ext, h.Ssz, h.Fsz, h.S0, h.Sb, h.Fb, h.FS, h.FF, h.plz, h.absent, h.objs, fun i => ?_⟩
  by_cases hi : t = i
  · subst hi
    have e1 : (Env.mk ((t, s) :: e.slots) e.objs).get t = s := by simp [Env.get, look]
    rw [e1]; exact hs
  · have e1 : (Env.mk ((t, s) :: e.slots) e.objs).get i = e.get i := by simp [Env.get, look, hi]
    rw [e1]; exact h.slots i

theorem InvG.reslots {P : Program} {nt : Nat} {a : Act} {w : World} {g : Gh} : ∀ (l : List (Nat × Slot)) {e : Env}, InvG P B nt e a w g → (∀ t s, (t, s) ∈ l → SlotRep P g w e.obj s (a.tmps.getD t undef)) → InvG P B nt ⟨l ++ e.slots, e.objs⟩ a w g
  | [], e, h, _ => h
  | (t, s) :: l, e, h, hs => InvG.reslot (InvG.reslots l h (fun t s hm => hs t s (List.mem_cons_of_mem _ hm))) (hs t s List.mem_cons_self)

section
variable {c : Ctx} {nt : Nat} {o : Oper} {Ω : Type} {k : Delta → Option Ω} {out : Ω} {fr : Bool}

theorem caps_ids {e : Env} : ∀ {os : List Operand} {vs : List View} {l : List KV} {gs : List Nat}, os.map (fun x => e.view (e.opd x)) = vs → capsOf vs = some (l, gs) → ∀ i, i ∈ gs → ∃ o, e.obj i = some (some o) ∧ o.par = false
  | [], [], l, gs, _, hc => by
    simp only [capsOf, Option.some.injEq, Prod.mk.injEq] at hc
    obtain ⟨_, rfl⟩ := hc
    intro i h; cases h
  | x :: os, v :: vs, l, gs, hv, hc => by
    simp only [List.map_cons, List.cons.injEq] at hv
    unfold capsOf at hc
    split at hc
    · rename_i l' g' h1
      cases hc
      exact caps_ids hv.2 h1
    · rename_i id n ob l' g' h1
      split at hc
      · rename_i hg
        cases hc
        simp only [Bool.and_eq_true] at hg
        intro i hi
        rcases List.mem_cons.1 hi with rfl | hi
        · exact ⟨ob, view_pt hv.1, by simpa using hg.2⟩
        · exact caps_ids hv.2 h1 i hi
      · cases hc
    · cases hc
  | [], _ :: _, _, _, hv, _ => by cases hv
  | _ :: _, [], _, _, hv, _ => by cases hv

theorem caps_rep {P : Program} {e : Env} {a : Act} {w : World} {g : Gh} (hg : InvG P B nt e a w g) {ids : List Nat} : ∀ {os : List Operand} {vs : List View} {l : List KV} {gs : List Nat}, os.map (fun x => e.view (e.opd x)) = vs → capsOf vs = some (l, gs) →
    (∀ i, i ∈ gs → i ∈ ids) → CapsRep (g.freeze ids).S w l (os.map a.eval) ∧ ∀ t s, (t, s) ∈ thaw os vs → SlotRep P (g.freeze ids) w (Env.mk e.slots (gone ids ++ e.objs)).obj s (a.tmps.getD t undef)
  | [], [], l, gs, _, hc, _ => by
    simp only [capsOf, Option.some.injEq, Prod.mk.injEq] at hc
    obtain ⟨rfl, _⟩ := hc
    exact ⟨rfl, fun t s h => by cases h⟩
  | x :: os, v :: vs, l, gs, hv, hc, hi => by
    simp only [List.map_cons, List.cons.injEq] at hv
    unfold capsOf at hc
    split at hc
    · rename_i K z q l' g' h1
      cases hc
      obtain ⟨i1, i2⟩ := caps_rep hg hv.2 h1 hi
      refine ⟨⟨_, _, rfl, ?_, i1⟩, fun t s h => ?_⟩
      · have : PtrRO g.S w K z (a.eval x) := view_rep hg hv.1
        exact this.mono (fun b hb => .inl hb) (fun _ _ _ _ h => h)
      · cases x <;> exact i2 t s h
    · rename_i id n ob l' g' h1
      split at hc
      · rename_i hcond
        cases hc
        simp only [Bool.and_eq_true] at hcond
        obtain ⟨i1, i2⟩ := caps_rep hg hv.2 h1 (fun i h => hi i (List.mem_cons_of_mem _ h))
        have hobj := view_pt hv.1
        have hh := noHole_ok hcond.1.1.1
        obtain ⟨b, off, cs', K', m', x', a1, a2, a3⟩ := (view_rep hg hv.1).2 ob hobj hcond.1.1.2 (.inl hh)
        rw [getP_nil] at a1
        cases a1
        simp only [nav, Option.some.injEq, Prod.mk.injEq] at a2
        have hro := freeze_ro hg (hi id List.mem_cons_self) hobj hh
        have hp := ((hg.objs id ob hobj).own hh).2
        have hptr : PtrRO (g.freeze ids).S w ob.K ob.x (a.eval x) := ⟨b, off, g.cs id, a3, .inr ⟨id, hi id List.mem_cons_self, .inr ⟨off, a2.1⟩⟩, (hp b off a2.1).1, hro⟩
        refine ⟨⟨_, _, rfl, hptr, i1⟩, fun t s h => ?_⟩
        cases x with
        | tmp t0 =>
          rcases List.mem_cons.1 (show (t, s) ∈ (t0, Slot.rp ob.K ob.x) :: thaw os vs from h) with h | h
          · cases h
            exact hptr
          · exact i2 t s h
        | _ => exact i2 t s h
      · cases hc
    · cases hc
  | [], _ :: _, _, _, hv, _, _ => by cases hv
  | _ :: _, [], _, _, hv, _, _ => by cases hv

theorem ok_makeFunc {f d : Nat} {first caps : Array Operand} {vs : List View} {l : List KV} {gs : List Nat} (ho : o.op = .makeFunc (.func f) first caps) (hf : first.toList = []) (hcap : capsOf vs = some (l, gs)) (hd : o.dst = some d) (hlt : Nat.blt d nt = true)
    (hk : k ⟨(d, .fv f l) :: thaw caps.toList vs, gone gs⟩ = some out) : Step1 c B nt o vs fr k out := by
  have hfirst : first = #[] := by apply Array.ext'; simpa using hf
  subst hfirst
  refine ⟨_, hk, fun e he a w ⟨g, hg⟩ next Q hn => ?_⟩
  have hvs : caps.toList.map (fun x => e.view (e.opd x)) = vs := by
    rw [← he.1]
    simp [Env.views, Oper.opds, ho, Op.operands]
  obtain ⟨c1, c2⟩ := caps_rep hg (ids := gs) hvs hcap (fun _ h => h)
  have h1 := hg.freeze gs (caps_ids hvs hcap)
  have h2 := InvG.reslots (thaw caps.toList vs) h1 c2
  have hrun : (execOp a.eval o).run c.P w = .ok (.value (.func (.func f) #[] (caps.map a.eval))) w := by
    simp only [execOp, ho, Instr.makeFunc, Sem.run_bind, Sem.run_pure, Result.andThen_ok, Array.map_empty]
  unfold Oper.wp
  rw [hrun, Oper.upon_value, hd]
  refine hn _ _ ⟨_, h2.put (Nat.le_of_ble_eq_true hlt) (s := .fv f l) ?_⟩
  exact ⟨caps.map a.eval, rfl, by simpa using c1⟩

end
end Go.Abs

namespace Go.Abs

def Arg.size : Arg → Nat
  | .mp K _ _ => K.size
  | _ => 0

/-- An argument: F, pl, cs: its blocks, its place, its cells. -/
def ArgRep (P : Program) (S : Nat → Prop) (w : World) (F : Nat → Prop) (pl : Place) (cs : List Value) : Arg → Value → Prop
  | .ro K x, v => (∀ b, ¬ F b) ∧ pl = none ∧ ∃ cs, RO S w K x cs ∧ VRep K cs v
  | .rp K x, v => (∀ b, ¬ F b) ∧ pl = none ∧ PtrRO S w K x v
  | .mp K m x, v => ∃ b off, pl = some (b, off) ∧ v = .pointer (some ⟨b, off, none⟩) ∧ Own S w K m x cs F ∧ PlOk w pl cs
  | .ms K m x, v => pl = none ∧ Own S w K m x cs F ∧ VRep K cs v
  | .mv K m x, v => pl = none ∧ Own S w K m x cs F ∧ VRep K cs v
  | .fn Ks Kr f, v => (∀ b, ¬ F b) ∧ pl = none ∧ CloRep P S w Ks Kr f v

structure Entry (P : Program) (w : World) (args : List Arg) (vals : List Value) (g : Gh) : Prop where
  len : vals.length = args.length
  arg : ∀ j a v, args[j]? = some a → vals[j]? = some v → ArgRep P g.S w (g.F j) (g.pl j) (g.cs j) a v
  rest : ∀ j, args.length ≤ j → (∀ b, ¬ g.F j b) ∧ g.pl j = none
  Ssz : ∀ b, g.S b → b < w.heap.size
  Fsz : ∀ j b, g.F j b → b < w.heap.size
  FS : ∀ j b, g.F j b → ¬ g.S b
  FF : ∀ i j b, i ≠ j → g.F i b → ¬ g.F j b
  plz : ∀ i b off, g.pl i = some (b, off) → b < w.heap.size ∧ ¬ g.S b ∧ (∀ j, ¬ g.F j b) ∧ ∀ j off', g.pl j = some (b, off') → i = j
  glob : GlobOk P g.S w

/-- What a call may write. -/
def Wr (args : List Arg) (g : Gh) (b o : Nat) : Prop := (∃ j, g.F j b) ∨ ∃ j a off, args[j]? = some a ∧ g.pl j = some (b, off) ∧ off ≤ o ∧ o < off + a.size

def OutsRep (w2 : World) (g g2 : Gh) : Nat → List Arg → List KV → Prop
  | j, .mp K m _ :: as, q :: l => (∃ y, q = ⟨K, y⟩ ∧ Own g2.S w2 K m y (g2.cs j) (g2.F j) ∧ PlOk w2 (g.pl j) (g2.cs j)) ∧ OutsRep w2 g g2 (j + 1) as l
  | j, .ms K m _ :: as, q :: l => (∃ y, q = ⟨K, y⟩ ∧ Own g2.S w2 K m y (g.cs j) (g2.F j)) ∧ OutsRep w2 g g2 (j + 1) as l
  | _, .mp _ _ _ :: _, [] => False
  | _, .ms _ _ _ :: _, [] => False
  | j, .ro _ _ :: as, l => OutsRep w2 g g2 (j + 1) as l
  | j, .rp _ _ :: as, l => OutsRep w2 g g2 (j + 1) as l
  | j, .mv _ _ _ :: as, l => OutsRep w2 g g2 (j + 1) as l
  | j, .fn _ _ _ :: as, l => OutsRep w2 g g2 (j + 1) as l
  | _, [], [] => True
  | _, [], _ :: _ => False

def RetRep (S : Nat → Prop) (w : World) (F : Nat → Prop) (cs : List Value) : RV → Value → Prop
  | .ro K x, v => (∀ b, ¬ F b) ∧ RO S w K x cs ∧ VRep K cs v
  | .own K m x, v => Own S w K m x cs F ∧ VRep K cs v

def RetsRep (w : World) (g : Gh) (n : Nat) : List RV → Value → Prop
  | [], _ => True
  | [r], v => RetRep g.S w (g.F n) (g.cs n) r v
  | l, v => ∃ vs : Array Value, v = .tuple vs ∧ vs.size = l.length ∧ ∀ i r u, l[i]? = some r → vs[i]? = some u → RetRep g.S w (g.F (n + i)) (g.cs (n + i)) r u

structure Done (w w2 : World) (args : List Arg) (g g2 : Gh) (res : Res) (v : Value) : Prop where
  ext : Ext w w2 (Wr args g)
  S : ∀ b, g.S b → g2.S b
  Sb : ∀ b, g2.S b → g.S b ∨ (∃ j, g.F j b) ∨ w.heap.size ≤ b
  Ssz : ∀ b, g2.S b → b < w2.heap.size
  Fb : ∀ j b, g2.F j b → (∃ i, g.F i b) ∨ w.heap.size ≤ b
  Fsz : ∀ j b, g2.F j b → b < w2.heap.size
  FS : ∀ j b, g2.F j b → ¬ g2.S b
  FF : ∀ i j b, i ≠ j → g2.F i b → ¬ g2.F j b
  outs : OutsRep w2 g g2 0 args res.outs
  rets : RetsRep w2 g2 args.length res.rets v

/-- The contract. -/
def Ans (P : Program) (f : Nat) (args : List Arg) (res : Res) : Prop :=
  ∀ w vals g, Entry P w args vals g → Calls P f vals.toArray w fun e w2 => ∃ v g2, e = .returned v ∧ Done w w2 args g g2 res v

/-- The meanings are right. -/
structure MOk (c : Ctx) : Prop where
  uni : ∀ (f : Nat) (args : List Arg) (Ω : Type) (K : Res → Option Ω), c.M f args K = (c.M f args some).bind K
  body : ∀ f ams, c.sg f = some ams → ∃ fn, c.P.funcs[f]? = some fn ∧ fn.name ≠ "runtime.NumGoroutine" ∧ fn.body.isNone = false
  ans : ∀ f ams, c.sg f = some ams → ∀ (args : List Arg) (Ω : Type) (K : Res → Option Ω) (out : Ω), c.M f args K = some out → ∃ res, K res = some out ∧ Ans c.P f args res

/-! ### The arguments, seen from the caller -/

/-- A block of an object: of its place or of what it owns. -/
def Gh.has (g : Gh) (id b : Nat) : Prop := (∃ off, g.pl id = some (b, off)) ∨ g.F id b

theorem InvG.has_one {P : Program} {B : Base} {nt : Nat} {e : Env} {a : Act} {w : World} {g : Gh} (h : InvG P B nt e a w g) {i j b : Nat} (h1 : g.has i b) (h2 : g.has j b) : i = j := by
  rcases h1 with ⟨o1, h1⟩ | h1 <;> rcases h2 with ⟨o2, h2⟩ | h2
  · exact (h.plz i b o1 h1).2.2.2 j o2 h2
  · exact absurd h2 ((h.plz i b o1 h1).2.2.1 j)
  · exact absurd h1 ((h.plz j b o2 h2).2.2.1 i)
  · exact Classical.byContradiction fun hne => h.FF i j b hne h1 h2

theorem InvG.has_lt {P : Program} {B : Base} {nt : Nat} {e : Env} {a : Act} {w : World} {g : Gh} (h : InvG P B nt e a w g) {i b : Nat} (h1 : g.has i b) : b < w.heap.size ∧ ¬ g.S b := by
  rcases h1 with ⟨o1, h1⟩ | h1
  · exact ⟨(h.plz i b o1 h1).1, (h.plz i b o1 h1).2.1⟩
  · exact ⟨h.Fsz i b h1, h.FS i b h1⟩

/-- How an argument of the callee hangs on an object of the caller. -/
def Link (P : Program) (S : Nat → Prop) (w : World) (g : Gh) (ob : Nat → Option (Option Obj)) (F : Nat → Prop) (pl : Place) (cs : List Value) : AM → View → Arg → Value → Prop
  | .mp, (.pt id n p, some o), arg, v => ob id = some (some o) ∧ o.hl = none ∧ okPt o n p = true ∧ ∃ K m x b off, arg = .mp K m x ∧ pl = some (b, off) ∧ v = .pointer (some ⟨b, off, none⟩) ∧ getP o.K o.m o.x p = some ⟨K, m, x⟩ ∧
      nav w p o.K (g.pl id) (g.cs id) = some (pl, cs) ∧ Focus g.S w p o.K o.m o.x (g.cs id) (g.F id) (g.pl id) K m x cs pl F
  | .ms, (.al id n p, some o), arg, v => ob id = some (some o) ∧ o.hl = none ∧ okAl o n p = true ∧ pl = none ∧ ∃ K m x q, msOk K m = true ∧ arg = .ms K m x ∧ VRep K cs v ∧ getP o.K o.m o.x p = some ⟨K, m, x⟩ ∧
      nav w p o.K (g.pl id) (g.cs id) = some (q, cs) ∧ Focus g.S w p o.K o.m o.x (g.cs id) (g.F id) (g.pl id) K m x cs q F
  | .mv, (.al id n [], some o), arg, v => ob id = some (some o) ∧ o.hl = none ∧ o.par = false ∧ pl = none ∧ arg = .mv o.K o.m o.x ∧ F = g.F id ∧ cs = g.cs id ∧ VRep o.K cs v ∧ Own g.S w o.K o.m o.x cs F
  | .ro, _, arg, v => (∀ b, ¬ F b) ∧ pl = none ∧ ∃ K x, arg = .ro K x ∧ ∃ cs, RO S w K x cs ∧ VRep K cs v
  | .rp, _, arg, v => (∀ b, ¬ F b) ∧ pl = none ∧ ∃ K x, arg = .rp K x ∧ PtrRO S w K x v
  | .fn Ks Kr, _, arg, v => (∀ b, ¬ F b) ∧ pl = none ∧ ∃ f, arg = .fn Ks Kr f ∧ CloRep P S w Ks Kr f v
  | _, _, _, _ => False

theorem Link.rep {P : Program} {S : Nat → Prop} {w : World} {g : Gh} {ob : Nat → Option (Option Obj)} {F : Nat → Prop} {pl : Place} {cs : List Value} (hS : ∀ b, g.S b → S b) : ∀ {am : AM} {v : View} {arg : Arg} {x : Value}, Link P S w g ob F pl cs am v arg x → ArgRep P S w F pl cs arg x := by
  intro am v arg x h
  unfold Link at h
  split at h
  · obtain ⟨_, _, _, K, m, z, b, off, rfl, rfl, rfl, _, _, f⟩ := h
    exact ⟨b, off, rfl, rfl, f.own.mono hS (fun _ _ _ _ h => h) (fun _ h => h) (fun _ _ _ => ⟨rfl, rfl⟩), f.ok⟩
  · obtain ⟨_, _, _, rfl, e, m, z, q, _, rfl, hv, _, _, f⟩ := h
    exact ⟨rfl, f.own.mono hS (fun _ _ _ _ h => h) (fun _ h => h) (fun _ _ _ => ⟨rfl, rfl⟩), hv⟩
  · obtain ⟨_, _, _, rfl, rfl, rfl, rfl, hv, ho⟩ := h
    exact ⟨rfl, ho.mono hS (fun _ _ _ _ h => h) (fun _ h => h) (fun _ _ _ => ⟨rfl, rfl⟩), hv⟩
  · obtain ⟨h1, rfl, K, z, rfl, h⟩ := h
    exact ⟨h1, rfl, h⟩
  · obtain ⟨h1, rfl, K, z, rfl, h⟩ := h
    exact ⟨h1, rfl, h⟩
  · obtain ⟨h1, rfl, f, rfl, h⟩ := h
    exact ⟨h1, rfl, h⟩
  · exact h.elim

/-- The blocks of objects that are lent. -/
def Gh.lend (g : Gh) (L : List Nat) (b : Nat) : Prop := g.S b ∨ ∃ i, i ∈ L ∧ g.has i b

variable {B : Base}

/-- What an object's part holds, for one who may read the object's blocks. -/
theorem lend_al {P : Program} {nt : Nat} {e : Env} {a : Act} {w : World} {g : Gh} (hg : InvG P B nt e a w g) {x : Operand} {id n : Nat} {p : Path} {o : Obj} {L : List Nat} (hL : id ∈ L) (hv : e.view (e.opd x) = (.al id n p, some o))
    (hc : (noHole o && okAl o n p) = true) {K : Kd} {m : Md} {z : K.T} (hg0 : getP o.K o.m o.x p = some ⟨K, m, z⟩) : ∃ cs, RO (g.lend L) w K z cs ∧ VRep K cs (a.eval x) := by
  rw [Bool.and_eq_true] at hc
  obtain ⟨q, cs', K', m', x', F', f1, f2, f3, f⟩ := al_focus hg hv hc.1 hc.2
  rw [hg0] at f1
  cases f1
  exact ⟨cs', Own.toRO (fun b hb => .inl hb) (fun b hb => .inr ⟨id, hL, .inr (f.sub b hb)⟩) f.own, f3⟩

theorem lend_pt {P : Program} {nt : Nat} {e : Env} {a : Act} {w : World} {g : Gh} (hg : InvG P B nt e a w g) {x : Operand} {id n : Nat} {p : Path} {o : Obj} {L : List Nat} (hL : id ∈ L) (hv : e.view (e.opd x) = (.pt id n p, some o))
    (hc : (noHole o && okPt o n p) = true) {K : Kd} {m : Md} {z : K.T} (hg0 : getP o.K o.m o.x p = some ⟨K, m, z⟩) : PtrRO (g.lend L) w K z (a.eval x) := by
  rw [Bool.and_eq_true] at hc
  obtain ⟨b, off, cs', K', m', x', F', f1, f2, f3, f⟩ := pt_focus hg hv hc.1 hc.2
  rw [hg0] at f1
  cases f1
  obtain ⟨a1, a2⟩ := f.at_ b off rfl
  refine ⟨b, off, cs', f3, .inr ⟨id, hL, ?_⟩, (f.ok b off rfl).1, Own.toRO (fun b hb => .inl hb) (fun b hb => .inr ⟨id, hL, .inr (f.sub b hb)⟩) f.own⟩
  rcases a2 with ⟨o0, e1, _⟩ | h
  · exact .inl ⟨o0, e1⟩
  · exact .inr h

end Go.Abs

namespace Go.Abs
variable {B : Base}

/-! ### Function values -/

/-- Arguments that are only read. -/
def ROArgs (P : Program) (S : Nat → Prop) (w : World) : List Arg → List Value → Prop
  | [], vs => vs = []
  | a :: as, vs => ∃ v r, vs = v :: r ∧ ((∃ K x, a = .ro K x ∧ ∃ cs, RO S w K x cs ∧ VRep K cs v) ∨ (∃ K x, a = .rp K x ∧ PtrRO S w K x v)) ∧ ROArgs P S w as r

theorem ROArgs.app {P : Program} {S : Nat → Prop} {w : World} : ∀ {a1 a2 : List Arg} {v1 v2 : List Value}, ROArgs P S w a1 v1 → ROArgs P S w a2 v2 → ROArgs P S w (a1 ++ a2) (v1 ++ v2)
  | [], _, v1, _, h1, h2 => by rw [show v1 = [] from h1]; exact h2
  | a :: as, _, _, _, ⟨v, r, e, h, h1⟩, h2 => by subst e; exact ⟨v, _, rfl, h, ROArgs.app h1 h2⟩

theorem ROArgs.ts {P : Program} {S : Nat → Prop} {w : World} : ∀ {Ks : List Kd} {a : Kd.Ts Ks} {vs : List Value}, TsRep S w Ks a vs → ROArgs P S w (tsArgs Ks a) vs
  | [], _, _, h => h
  | K :: Ks, a, _, ⟨v, r, cs, e, h1, h2, h3⟩ => ⟨v, r, e, .inl ⟨K, a.1, rfl, cs, h1, h2⟩, ROArgs.ts h3⟩

theorem ROArgs.caps {P : Program} {S : Nat → Prop} {w : World} : ∀ {l : List KV} {vs : List Value}, CapsRep S w l vs → ROArgs P S w (rpArgs l) vs
  | [], _, h => h
  | ⟨K, x⟩ :: l, _, ⟨v, r, e, h1, h2⟩ => ⟨v, r, e, .inr ⟨K, x, rfl, h1⟩, ROArgs.caps h2⟩

theorem ROArgs.at_ {P : Program} {S : Nat → Prop} {w : World} : ∀ {as : List Arg} {vs : List Value}, ROArgs P S w as vs → vs.length = as.length ∧ ∀ (j : Nat) (a : Arg) (v : Value), as[j]? = some a → vs[j]? = some v → ArgRep P S w (fun _ => False) none [] a v ∧ a.size = 0
  | [], _, h => by rw [show _ = [] from h]; exact ⟨rfl, fun j a v h => by simp at h⟩
  | a :: as, _, ⟨v, r, e, h, h1⟩ => by
    subst e
    obtain ⟨i1, i2⟩ := ROArgs.at_ h1
    refine ⟨by simp [i1], fun j a' v' ha hv => ?_⟩
    cases j with
    | zero =>
      simp only [List.getElem?_cons_zero, Option.some.injEq] at ha hv
      subst ha
      subst hv
      rcases h with ⟨K, x, rfl, h⟩ | ⟨K, x, rfl, h⟩
      · exact ⟨⟨fun _ h => h, rfl, h⟩, rfl⟩
      · exact ⟨⟨fun _ h => h, rfl, h⟩, rfl⟩
    | succ j => exact i2 j a' v' (by simpa using ha) (by simpa using hv)

theorem ro_entry {P : Program} {S : Nat → Prop} {w : World} {as : List Arg} {vs : List Value} (h : ROArgs P S w as vs) (hS : ∀ b, S b → b < w.heap.size) (hG : GlobOk P S w) : Entry P w as vs ⟨S, fun _ _ => False, fun _ => none, fun _ => []⟩ := by
  obtain ⟨h1, h2⟩ := h.at_
  exact ⟨h1, fun j a v ha hv => (h2 j a v ha hv).1, fun _ _ => ⟨fun _ h => h, rfl⟩, hS, fun _ _ h => h.elim, fun _ _ h => h.elim, fun _ _ _ _ h => h.elim, (fun _ _ _ h => by cases h), hG⟩

/-- A function value over what it has captured computes what its meaning says. -/
theorem clo_fv {c : Ctx} (hM : MOk c) {S : Nat → Prop} {w : World} {f : Nat} {caps : List KV} {Ks : List Kd} {Kr : Kd} {cv : Array Value} (hs : sgFits c f Ks caps = true) (hcap : CapsRep S w caps cv.toList) :
    CloRep c.P S w Ks Kr (fvP c f caps Ks Kr) (.func (.func f) #[] cv) := by
  unfold sgFits at hs
  split at hs
  case h_2 => cases hs
  rename_i ams hsg
  refine ⟨f, cv, rfl, hM.body f ams hsg, fun S1 w1 h1 h2 h3 hG a r vals hf ht => ?_⟩
  obtain ⟨res, hres, hans⟩ := hM.ans f ams hsg _ _ _ _ hf
  have hargs : ROArgs c.P S1 w1 (tsArgs Ks a ++ rpArgs caps) (vals ++ cv.toList) := ROArgs.app (ROArgs.ts ht) (ROArgs.caps (hcap.mono h1 h3))
  have := hans w1 (vals ++ cv.toList) _ (ro_entry hargs h2 hG)
  have e1 : (vals ++ cv.toList).toArray = vals.toArray ++ cv := by apply Array.ext'; simp
  rw [e1] at this
  refine this.mono ?_
  rintro e w2 ⟨v, g2, rfl, hd⟩
  refine ⟨v, rfl, hd.ext.mono ?_, ?_⟩
  · rintro b o _ (⟨j, h⟩ | ⟨j, a, off, _, h, _⟩)
    · exact h
    · cases h
  · have hr := hd.rets
    unfold one at hres
    have hSb : ∀ b, g2.S b → S1 b ∨ w1.heap.size ≤ b := fun b hb => by
      rcases hd.Sb b hb with h | ⟨j, h⟩ | h
      · exact .inl h
      · exact h.elim
      · exact .inr h
    have hFb : ∀ j b, g2.F j b → w1.heap.size ≤ b := fun j b hb => by
      rcases hd.Fb j b hb with ⟨i, h⟩ | h
      · exact h.elim
      · exact h
    cases res with
    | mk rets outs =>
      cases outs with
      | cons _ _ => cases rets with
        | nil => simp at hres
        | cons r0 l => cases l <;> cases r0 <;> simp at hres
      | nil =>
        cases rets with
        | nil => simp at hres
        | cons r0 l =>
          cases l with
          | cons _ _ => cases r0 <;> simp at hres
          | nil =>
            cases r0 with
            | ro K x =>
              simp only at hres
              split at hres
              · rename_i hk
                have := Kd.eq_of_beq hk
                subst this
                cases hres
                obtain ⟨_, r1, r2⟩ := hr
                exact ⟨g2.S, hd.S, hSb, hd.Ssz, _, r1, r2⟩
              · cases hres
            | own K m x =>
              simp only at hres
              split at hres
              · rename_i hk
                have := Kd.eq_of_beq hk
                subst this
                cases hres
                obtain ⟨r1, r2⟩ := hr
                refine ⟨fun b => g2.S b ∨ g2.F _ b, fun b hb => .inl (hd.S b hb), fun b hb => ?_, fun b hb => ?_, _, Own.toRO (fun b hb => .inl hb) (fun b hb => .inr hb) r1, r2⟩
                · rcases hb with hb | hb
                  · exact hSb b hb
                  · exact .inr (hFb _ b hb)
                · rcases hb with hb | hb
                  · exact hd.Ssz b hb
                  · exact hd.Fsz _ b hb
              · cases hres

/-! ### All arguments -/

/-- The object that is taken by an argument. -/
def takenAt : AM → View → Option Nat
  | .mp, (.pt id _ _, _) => some id
  | .ms, (.al id _ _, _) => some id
  | .mv, (.al id _ _, _) => some id
  | _, _ => none

theorem taken_cons (am : AM) (ams : List AM) (v : View) (vs : List View) : taken (am :: ams) (v :: vs) = match takenAt am v with | some id => id :: taken ams vs | none => taken ams vs := by
  obtain ⟨s, q⟩ := v
  cases am <;> cases s <;> rfl

/-- What is known of one argument. -/
structure Link1 (P : Program) (L : List Nat) (w : World) (g : Gh) (ob : Nat → Option (Option Obj)) (F : Nat → Prop) (pl : Place) (cs : List Value) (am : AM) (v : View) (arg : Arg) (x : Value) : Prop where
  link : Link P (g.lend L) w g ob F pl cs am v arg x
  sub : ∀ b, F b → ∃ id, takenAt am v = some id ∧ g.F id b
  place : ∀ b off, pl = some (b, off) → (∃ id, takenAt am v = some id ∧ g.has id b) ∧ ¬ F b

theorem link_one {c : Ctx} (hM : MOk c) {nt : Nat} {e : Env} {a : Act} {w : World} {g : Gh} (hg : InvG c.P B nt e a w g) {L : List Nat} {x : Operand} {t : Nat} {am : AM} {v : View} {arg : Arg} (hv : e.view (e.opd x) = v) (ha : argOf c t am v = some arg)
    (hL : ∀ i, i ∈ lent [am] [v] → i ∈ L) : ∃ F pl cs, Link1 c.P L w g e.obj F pl cs am v arg (a.eval x) := by
  have none1 : ∀ {F : Nat → Prop}, (∀ b, ¬ F b) → ∀ b, F b → ∃ id, takenAt am v = some id ∧ g.F id b := fun h b hb => absurd hb (h b)
  have none2 : ∀ (F : Nat → Prop) b off, (none : Place) = some (b, off) → (∃ id, takenAt am v = some id ∧ g.has id b) ∧ ¬ F b := fun _ _ _ h => by cases h
  unfold argOf at ha
  split at ha
  · cases ha
    obtain ⟨cs, h1, h2⟩ := view_rep hg hv
    exact ⟨fun _ => False, none, [], ⟨⟨fun _ h => h, rfl, _, _, rfl, cs, h1.mono (fun b hb => .inl hb) (fun _ _ _ _ h => h), h2⟩, none1 (fun _ h => h), none2 _⟩⟩
  · split at ha
    · rename_i el hl
      cases ha
      have hr : a.eval x = .slice none 0 0 := view_rep hg hv
      refine ⟨fun _ => False, none, [], ⟨⟨fun _ h => h, rfl, _, _, rfl, [.slice none 0 0], ⟨none, 0, rfl, Nat.le_refl _, fun i hi => absurd hi (Nat.not_lt_zero i)⟩, ?_⟩, none1 (fun _ h => h), none2 _⟩⟩
      rw [hr]
      exact ⟨rfl, rfl⟩
    · cases ha
  · rename_i id n p o
    split at ha
    · rename_i hc
      split at ha
      · rename_i K m z hg0
        cases ha
        exact ⟨fun _ => False, none, [], ⟨⟨fun _ h => h, rfl, _, _, rfl, lend_al hg (hL id (by simp [lent])) hv hc hg0⟩, none1 (fun _ h => h), none2 _⟩⟩
      · cases ha
    · cases ha
  · cases ha
    have : PtrRO g.S w _ _ (a.eval x) := view_rep hg hv
    exact ⟨fun _ => False, none, [], ⟨⟨fun _ h => h, rfl, _, _, rfl, this.mono (fun b hb => .inl hb) (fun _ _ _ _ h => h)⟩, none1 (fun _ h => h), none2 _⟩⟩
  · rename_i id n p o
    split at ha
    · rename_i hc
      split at ha
      · rename_i K m z hg0
        cases ha
        exact ⟨fun _ => False, none, [], ⟨⟨fun _ h => h, rfl, _, _, rfl, lend_pt hg (hL id (by simp [lent])) hv hc hg0⟩, none1 (fun _ h => h), none2 _⟩⟩
      · cases ha
    · cases ha
  · rename_i id n p o
    split at ha
    · rename_i hc
      split at ha
      · rename_i K m z hg0
        cases ha
        rw [Bool.and_eq_true] at hc
        obtain ⟨b, off, cs', K', m', x', F', f1, f2, f3, f⟩ := pt_focus hg hv hc.1 hc.2
        rw [hg0] at f1
        cases f1
        refine ⟨F', some (b, off), cs', ⟨⟨view_pt hv, noHole_ok hc.1, hc.2, K, m, z, b, off, rfl, rfl, f3, hg0, f2, f⟩, fun b hb => ⟨id, rfl, f.sub b hb⟩, fun b' off' e1 => ?_⟩⟩
        obtain ⟨a1, a2⟩ := f.at_ b' off' e1
        refine ⟨⟨id, rfl, ?_⟩, a1⟩
        rcases a2 with ⟨o0, e2, _⟩ | h
        · exact .inl ⟨o0, e2⟩
        · exact .inr h
      · cases ha
    · cases ha
  · rename_i id n p o
    split at ha
    · rename_i hc
      split at ha
      · rename_i el m z hg0
        split at ha
        · rename_i hms
          cases ha
          rw [Bool.and_eq_true] at hc
          obtain ⟨q, cs', K', m', x', F', f1, f2, f3, f⟩ := al_focus hg hv hc.1 hc.2
          rw [hg0] at f1
          cases f1
          exact ⟨F', none, cs', ⟨⟨view_al hv, noHole_ok hc.1, hc.2, rfl, el, m, z, q, hms, rfl, f3, hg0, f2, f⟩, fun b hb => ⟨id, rfl, f.sub b hb⟩, none2 _⟩⟩
        · cases ha
      · cases ha
    · cases ha
  · rename_i id n o
    split at ha
    · rename_i hc
      cases ha
      simp only [Bool.and_eq_true] at hc
      obtain ⟨r1, r2, r3⟩ := al_root hg hv hc.1.1 hc.1.2
      exact ⟨g.F id, none, g.cs id, ⟨⟨r1, noHole_ok hc.1.1, by simpa using hc.2, rfl, rfl, rfl, rfl, r2, r3⟩, fun b hb => ⟨id, rfl, hb⟩, none2 _⟩⟩
    · cases ha
  · split at ha
    · rename_i hc
      rw [Bool.and_eq_true] at hc
      cases ha
      have e1 := Kd.eq_of_beqs hc.1
      have e2 := Kd.eq_of_beq hc.2
      subst e1
      subst e2
      have : CloRep c.P g.S w _ _ _ (a.eval x) := view_rep hg hv
      exact ⟨fun _ => False, none, [], ⟨⟨fun _ h => h, rfl, _, rfl, this.mono (fun b hb => .inl hb) (fun _ _ _ _ h => h)⟩, none1 (fun _ h => h), none2 _⟩⟩
    · cases ha
  · split at ha
    · rename_i hc
      cases ha
      obtain ⟨cv, e1, h1⟩ := view_rep hg hv
      refine ⟨fun _ => False, none, [], ⟨⟨fun _ h => h, rfl, _, rfl, ?_⟩, none1 (fun _ h => h), none2 _⟩⟩
      rw [e1]
      exact clo_fv hM hc (h1.mono (fun b hb => .inl hb) (fun _ _ _ _ h => h))
    · cases ha
  · cases ha

/-- A family with another member ahead. -/
def fcons {α : Type} (x : α) (f : Nat → α) : Nat → α
  | 0 => x
  | n + 1 => f n

theorem links {c : Ctx} (hM : MOk c) {nt : Nat} {e : Env} {a : Act} {w : World} {g : Gh} (hg : InvG c.P B nt e a w g) {L : List Nat} : ∀ (ts : List Nat) (ams : List AM) (xs : List Operand) (vs : List View) (args : List Arg),
    xs.map (fun x => e.view (e.opd x)) = vs → argsOf c ts ams vs = some args → (∀ i, i ∈ lent ams vs → i ∈ L) →
    args.length = xs.length ∧ ams.length = xs.length ∧ ∃ (F : Nat → Nat → Prop) (pl : Nat → Place) (cs : Nat → List Value), (∀ j, args.length ≤ j → (∀ b, ¬ F j b) ∧ pl j = none) ∧
      ∀ (j : Nat) (am : AM) (v : View) (arg : Arg) (x : Operand), ams[j]? = some am → vs[j]? = some v → args[j]? = some arg → xs[j]? = some x → Link1 c.P L w g e.obj (F j) (pl j) (cs j) am v arg (a.eval x)
  | [], [], [], _, args, hv, ha, _ => by
    rw [List.map_nil] at hv
    subst hv
    simp only [argsOf, Option.some.injEq] at ha
    subst ha
    exact ⟨rfl, rfl, fun _ _ => False, fun _ => none, fun _ => [], fun _ _ => ⟨fun _ h => h, rfl⟩, fun j am v arg x h => by simp at h⟩
  | t :: ts, am :: ams, x :: xs, v :: vs, args, hv, ha, hL => by
    simp only [List.map_cons, List.cons.injEq] at hv
    unfold argsOf at ha
    split at ha
    · rename_i arg l h1 h2
      cases ha
      have hlent : lent (am :: ams) (v :: vs) = lent [am] [v] ++ lent ams vs := by
        obtain ⟨s, q⟩ := v
        cases am <;> cases s <;> simp [lent]
      obtain ⟨F0, pl0, cs0, k0⟩ := link_one hM hg hv.1 h1 (fun i hi => hL i (by rw [hlent]; exact List.mem_append_left _ hi))
      obtain ⟨i1, i2, F, pl, cs, i3, i4⟩ := links hM hg ts ams xs vs l hv.2 h2 (fun i hi => hL i (by rw [hlent]; exact List.mem_append_right _ hi))
      refine ⟨by simp [i1], by simp [i2], fcons F0 F, fcons pl0 pl, fcons cs0 cs, fun j hj => ?_, fun j am' v' arg' x' ha' hv' hg' hx' => ?_⟩
      · cases j with
        | zero => simp at hj
        | succ j => exact i3 j (by simpa using hj)
      · cases j with
        | zero =>
          simp only [List.getElem?_cons_zero, Option.some.injEq] at ha' hv' hg' hx'
          subst ha'; subst hv'; subst hg'; subst hx'
          exact k0
        | succ j => exact i4 j am' v' arg' x' (by simpa using ha') (by simpa using hv') (by simpa using hg') (by simpa using hx')
    · cases ha
  | [], _ :: _, _, _, _, _, ha, _ => by simp [argsOf] at ha
  | [], [], _ :: _, _, _, hv, ha, _ => by subst hv; simp [argsOf] at ha
  | _ :: _, [], _, _, _, _, ha, _ => by simp [argsOf] at ha
  | _ :: _, _ :: _, [], _, _, hv, ha, _ => by subst hv; simp [argsOf] at ha
  | _ :: _, _ :: _, _ :: _, [], _, hv, _, _ => by cases hv

end Go.Abs

namespace Go.Abs
variable {B : Base}

theorem OutsRep.app {w2 : World} {g g2 : Gh} {caps : List KV} : ∀ {as : List Arg} {n : Nat} {l : List KV}, OutsRep w2 g g2 n (as ++ rpArgs caps) l → OutsRep w2 g g2 n as l
  | [], n, l, h => by
    have : ∀ (caps : List KV) (n : Nat), OutsRep w2 g g2 n (rpArgs caps) l → OutsRep w2 g g2 n [] l := by
      intro caps
      induction caps with
      | nil => intro n h; exact h
      | cons q caps ih =>
        intro n h
        have h' : OutsRep w2 g g2 (n + 1) (rpArgs caps) l := by cases l <;> exact h
        have := ih (n + 1) h'
        cases l <;> exact this
    exact this caps n h
  | .mp K m x :: as, n, q :: l, h => ⟨h.1, OutsRep.app h.2⟩
  | .ms K m x :: as, n, q :: l, h => ⟨h.1, OutsRep.app h.2⟩
  | .mp K m x :: as, n, [], h => h.elim
  | .ms K m x :: as, n, [], h => h.elim
  | .ro _ _ :: as, n, l, h => by cases l <;> exact OutsRep.app (as := as) h
  | .rp _ _ :: as, n, l, h => by cases l <;> exact OutsRep.app (as := as) h
  | .mv _ _ _ :: as, n, l, h => by cases l <;> exact OutsRep.app (as := as) h
  | .fn _ _ _ :: as, n, l, h => by cases l <;> exact OutsRep.app (as := as) h

/-- What became of an object that an argument took. -/
inductive OutAt (w2 : World) (gc g2 : Gh) (j : Nat) (id : Nat) : AM → View → Arg → Option Obj → Prop where
  | mp {n : Nat} {p : Path} {o : Obj} {K : Kd} {m : Md} {z y : K.T} {m2 : Md} {x2 : o.K.T} (hg : getP o.K o.m o.x p = some ⟨K, m, z⟩) (hm : setM o.m p m = some m2) (hs : setP o.K o.x p K y = some x2)
      (ho : Own g2.S w2 K m y (g2.cs j) (g2.F j)) (hp : PlOk w2 (gc.pl j) (g2.cs j)) (hfx : ¬ (o.fx && !hasIdx p) = true) : OutAt w2 gc g2 j id .mp (.pt id n p, some o) (.mp K m z) (some { o with m := m2, x := x2, log := some p :: o.log })
  | ms {n : Nat} {p : Path} {o : Obj} {K : Kd} {m : Md} {z y : K.T} {m2 : Md} {x2 : o.K.T} (hg : getP o.K o.m o.x p = some ⟨K, m, z⟩) (hm : setM o.m p m = some m2) (hs : setP o.K o.x p K y = some x2)
      (ho : Own g2.S w2 K m y (gc.cs j) (g2.F j)) : OutAt w2 gc g2 j id .ms (.al id n p, some o) (.ms K m z) (some { o with m := m2, x := x2, log := msLog K p :: o.log })
  | mv {n : Nat} {p : Path} {q : Option Obj} {arg : Arg} : OutAt w2 gc g2 j id .mv (.al id n p, q) arg none

theorem outs_at {P : Program} {S : Nat → Prop} {w w2 : World} {g gc g2 : Gh} {ob : Nat → Option (Option Obj)} : ∀ (ams : List AM) (vs : List View) (args : List Arg) (vals : List Value) (l : List KV) (outs : List (Nat × Option Obj)) (n : Nat),
    outsOf ams vs l = some outs → OutsRep w2 gc g2 n args l → args.length = ams.length → vals.length = ams.length →
    (∀ (j : Nat) (am : AM) (v : View) (arg : Arg) (x : Value), ams[j]? = some am → vs[j]? = some v → args[j]? = some arg → vals[j]? = some x → Link P S w g ob (gc.F (n + j)) (gc.pl (n + j)) (gc.cs (n + j)) am v arg x) →
    outs.map (·.1) = taken ams vs ∧ ∀ id r, (id, r) ∈ outs → ∃ (j : Nat) (am : AM) (v : View) (arg : Arg), ams[j]? = some am ∧ vs[j]? = some v ∧ args[j]? = some arg ∧ OutAt w2 gc g2 (n + j) id am v arg r
  | [], vs, args, vals, l, outs, n, ho, hr, ha, hv, hl => by
    cases vs with
    | nil =>
      cases l with
      | nil =>
        simp only [outsOf, Option.some.injEq] at ho
        subst ho
        exact ⟨rfl, fun id r h => by cases h⟩
      | cons q l => simp [outsOf] at ho
    | cons v vs => simp [outsOf] at ho
  | am :: ams, [], args, vals, l, outs, n, ho, hr, ha, hv, hl => by cases am <;> simp [outsOf] at ho
  | am :: ams, v :: vs, [], vals, l, outs, n, ho, hr, ha, hv, hl => by simp at ha
  | am :: ams, v :: vs, arg :: args, [], l, outs, n, ho, hr, ha, hv, hl => by simp at hv
  | am :: ams, v :: vs, arg :: args, x :: vals, l, outs, n, ho, hr, ha, hv, hl => by
    have h0 := hl 0 am v arg x rfl rfl rfl rfl
    rw [Nat.add_zero] at h0
    have rec_ : ∀ (l' : List KV) (outs' : List (Nat × Option Obj)), outsOf ams vs l' = some outs' → OutsRep w2 gc g2 (n + 1) args l' → outs'.map (·.1) = taken ams vs ∧ ∀ id r, (id, r) ∈ outs' →
        ∃ (j : Nat) (am' : AM) (v' : View) (arg' : Arg), (am :: ams)[j]? = some am' ∧ (v :: vs)[j]? = some v' ∧ (arg :: args)[j]? = some arg' ∧ OutAt w2 gc g2 (n + j) id am' v' arg' r := by
      intro l' outs' h1 h2
      obtain ⟨i1, i2⟩ := outs_at ams vs args vals l' outs' (n + 1) h1 h2 (by simpa using ha) (by simpa using hv) (fun j am' v' arg' x' a1 a2 a3 a4 => by
        have := hl (j + 1) am' v' arg' x' (by simpa using a1) (by simpa using a2) (by simpa using a3) (by simpa using a4)
        rwa [show n + (j + 1) = n + 1 + j by omega] at this)
      refine ⟨i1, fun id r h => ?_⟩
      obtain ⟨j, am', v', arg', a1, a2, a3, a4⟩ := i2 id r h
      exact ⟨j + 1, am', v', arg', by simpa using a1, by simpa using a2, by simpa using a3, by rwa [show n + (j + 1) = n + 1 + j by omega]⟩
    unfold Link at h0
    split at h0
    · -- mp
      rename_i id n' p o
      obtain ⟨_, _, _, K, m, z, b, off, rfl, hpl, _, hgp, _, _⟩ := h0
      cases l with
      | nil => exact hr.elim
      | cons q l =>
        obtain ⟨⟨y, rfl, r1, r2⟩, r3⟩ := hr
        simp only [outsOf, hgp] at ho
        split at ho
        · cases ho
        · rename_i hfx
          split at ho
          · rename_i m2 x2 r hm hs hrest
            cases ho
            obtain ⟨i1, i2⟩ := rec_ l r hrest r3
            refine ⟨by simp [i1, taken], fun id' r' h => ?_⟩
            rcases List.mem_cons.1 h with h | h
            · cases h
              exact ⟨0, _, _, _, rfl, rfl, rfl, .mp hgp hm hs r1 r2 hfx⟩
            · exact i2 id' r' h
          · cases ho
    · -- ms
      rename_i id n' p o
      obtain ⟨_, _, _, hpl, e, m, z, q, _, rfl, _, hgp, _, _⟩ := h0
      cases l with
      | nil => exact hr.elim
      | cons q l =>
        obtain ⟨⟨y, rfl, r1⟩, r3⟩ := hr
        simp only [outsOf, hgp] at ho
        split at ho
        · rename_i m2 x2 r hm hs hrest
          cases ho
          obtain ⟨i1, i2⟩ := rec_ l r hrest r3
          refine ⟨by simp [i1, taken], fun id' r' h => ?_⟩
          rcases List.mem_cons.1 h with h | h
          · cases h
            exact ⟨0, _, _, _, rfl, rfl, rfl, .ms hgp hm hs r1⟩
          · exact i2 id' r' h
        · cases ho
    · -- mv
      rename_i id n' o
      obtain ⟨_, _, _, _, rfl, _⟩ := h0
      have hr' : OutsRep w2 gc g2 (n + 1) args l := by cases l <;> exact hr
      simp only [outsOf] at ho
      split at ho
      · rename_i r hrest
        cases ho
        obtain ⟨i1, i2⟩ := rec_ l r hrest hr'
        refine ⟨by simp [i1, taken], fun id' r' h => ?_⟩
        rcases List.mem_cons.1 h with h | h
        · cases h
          exact ⟨0, _, _, _, rfl, rfl, rfl, .mv⟩
        · exact i2 id' r' h
      · cases ho
    · obtain ⟨_, _, K, z, rfl, _⟩ := h0
      have hr' : OutsRep w2 gc g2 (n + 1) args l := by cases l <;> exact hr
      have ho' : outsOf ams vs l = some outs := by simpa only [outsOf] using ho
      have ht : taken (.ro :: ams) (v :: vs) = taken ams vs := by obtain ⟨s, q⟩ := v; cases s <;> rfl
      rw [ht]
      exact rec_ l outs ho' hr'
    · obtain ⟨_, _, K, z, rfl, _⟩ := h0
      have hr' : OutsRep w2 gc g2 (n + 1) args l := by cases l <;> exact hr
      have ho' : outsOf ams vs l = some outs := by simpa only [outsOf] using ho
      have ht : taken (.rp :: ams) (v :: vs) = taken ams vs := by obtain ⟨s, q⟩ := v; cases s <;> rfl
      rw [ht]
      exact rec_ l outs ho' hr'
    · rename_i Ks Kr
      obtain ⟨_, _, f, rfl, _⟩ := h0
      have hr' : OutsRep w2 gc g2 (n + 1) args l := by cases l <;> exact hr
      have ho' : outsOf ams vs l = some outs := by simpa only [outsOf] using ho
      have ht : taken (.fn Ks Kr :: ams) (v :: vs) = taken ams vs := by obtain ⟨s, q⟩ := v; cases s <;> rfl
      rw [ht]
      exact rec_ l outs ho' hr'
    · exact h0.elim

theorem taken_at : ∀ {ams : List AM} {vs : List View} {j : Nat} {am : AM} {v : View} {id : Nat}, ams[j]? = some am → vs[j]? = some v → takenAt am v = some id → id ∈ taken ams vs
  | [], _, _, _, _, _, h, _, _ => by simp at h
  | _ :: _, [], _, _, _, _, _, h, _ => by simp at h
  | am0 :: ams, v0 :: vs, 0, am, v, id, h1, h2, h3 => by
    simp only [List.getElem?_cons_zero, Option.some.injEq] at h1 h2
    subst h1; subst h2
    rw [taken_cons, h3]
    exact List.mem_cons_self
  | am0 :: ams, v0 :: vs, j + 1, am, v, id, h1, h2, h3 => by
    have := taken_at (ams := ams) (vs := vs) (j := j) (by simpa using h1) (by simpa using h2) h3
    rw [taken_cons]
    split
    · exact List.mem_cons_of_mem _ this
    · exact this

theorem taken_ne : ∀ {ams : List AM} {vs : List View} {i j : Nat} {am am' : AM} {v v' : View} {id : Nat}, (taken ams vs).Nodup → ams[i]? = some am → vs[i]? = some v → takenAt am v = some id → ams[j]? = some am' → vs[j]? = some v' → takenAt am' v' = some id → i = j
  | [], _, _, _, _, _, _, _, _, _, h, _, _, _, _, _ => by simp at h
  | _ :: _, [], _, _, _, _, _, _, _, _, _, h, _, _, _, _ => by simp at h
  | am0 :: ams, v0 :: vs, i, j, am, am', v, v', id, hn, h1, h2, h3, h4, h5, h6 => by
    rw [taken_cons] at hn
    have hn' : (taken ams vs).Nodup := by
      split at hn
      · exact (List.nodup_cons.1 hn).2
      · exact hn
    cases i with
    | zero =>
      simp only [List.getElem?_cons_zero, Option.some.injEq] at h1 h2
      subst h1; subst h2
      rw [h3] at hn
      cases j with
      | zero => rfl
      | succ j => exact absurd (taken_at (by simpa using h4) (by simpa using h5) h6) (List.nodup_cons.1 hn).1
    | succ i =>
      cases j with
      | zero =>
        simp only [List.getElem?_cons_zero, Option.some.injEq] at h4 h5
        subst h4; subst h5
        rw [h6] at hn
        exact absurd (taken_at (by simpa using h1) (by simpa using h2) h3) (List.nodup_cons.1 hn).1
      | succ j =>
        have := taken_ne (i := i) (j := j) hn' (by simpa using h1) (by simpa using h2) h3 (by simpa using h4) (by simpa using h5) h6
        omega

end Go.Abs

namespace Go.Abs
variable {B : Base}

/-- An object after a call. -/
structure OutOk (w w2 : World) (g : Gh) (Sn : Nat → Prop) (id : Nat) (o o' : Obj) (Fn : Nat → Prop) (csn : List Value) : Prop where
  own : Own Sn w2 o'.K o'.m o'.x csn Fn
  plok : PlOk w2 (g.pl id) csn
  hl : o'.hl = none
  hl0 : o.hl = none
  box : o'.box = o.box
  par : o'.par = o.par
  size : o'.K.size = o.K.size
  cs : g.pl id = none → csn = g.cs id
  kx : fxK o'.K = fxK o.K
  fx : o.fx = true → csn = g.cs id
  log : o.log.length ≤ o'.log.length
  al : ∀ n p, n ≤ o.log.length → okAl o' n p = true → okAl o n p = true ∧ ∀ q cs' K' m' x', getP o.K o.m o.x p = some ⟨K', m', x'⟩ → nav w p o.K (g.pl id) (g.cs id) = some (q, cs') →
    ∃ m3 x3, getP o'.K o'.m o'.x p = some ⟨K', m3, x3⟩ ∧ nav w2 p o'.K (g.pl id) csn = some (q, cs')
  pt : ∀ n p, n ≤ o.log.length → okPt o' n p = true → okPt o n p = true ∧ ∀ q cs' K' m' x', getP o.K o.m o.x p = some ⟨K', m', x'⟩ → nav w p o.K (g.pl id) (g.cs id) = some (q, cs') →
    ∃ m3 x3 c3, getP o'.K o'.m o'.x p = some ⟨K', m3, x3⟩ ∧ nav w2 p o'.K (g.pl id) csn = some (q, c3)

theorem nav_idx_of {w : World} {p : Path} {K : Kd} {pl : Place} {cs : List Value} {b off : Nat} {c : List Value} (h : nav w p K pl cs = some (some (b, off), c)) (hp : pl = none) : hasIdx p = true := by
  cases hi : hasIdx p with
  | true => rfl
  | false => subst hp; have := nav_none p hi h; cases this

theorem getP_noidx : ∀ (p : Path) {K : Kd} {m : Md} {x : K.T} {K1 : Kd} {m1 : Md} {x1 : K1.T}, hasIdx p = false → getP K m x p = some ⟨K1, m1, x1⟩ → ∀ (m2 : Md) (x2 : K.T), ∃ m3 x3, getP K m2 x2 p = some ⟨K1, m3, x3⟩
  | [], K, m, x, K1, m1, x1, _, h, m2, x2 => by
    rw [getP_nil] at h
    cases h
    exact ⟨m2, x2, getP_nil _ _ _⟩
  | .inn :: p, .st k, m, x, K1, m1, x1, hi, h, m2, x2 => getP_noidx p (K := k) (by simpa [hasIdx] using hi) h m2 x2
  | .fst :: p, .pair a b, m, x, K1, m1, x1, hi, h, m2, x2 => getP_noidx p (K := a) (by simpa [hasIdx] using hi) h m2.fst x2.1
  | .snd :: p, .pair a b, m, x, K1, m1, x1, hi, h, m2, x2 => getP_noidx p (K := b) (by simpa [hasIdx] using hi) h m2.snd x2.2
  | .idx i :: p, _, _, _, _, _, _, hi, _, _, _ => by simp [hasIdx] at hi
  | .inn :: _, .int _, _, _, _, _, _, _, h, _, _ | .inn :: _, .bool, _, _, _, _, _, _, h, _, _ | .inn :: _, .str, _, _, _, _, _, _, h, _, _ | .inn :: _, .err, _, _, _, _, _, _, h, _, _ | .inn :: _, .sl _, _, _, _, _, _, _, h, _, _ | .inn :: _, .pair _ _, _, _, _, _, _, _, h, _, _ => by simp [getP] at h
  | .fst :: _, .int _, _, _, _, _, _, _, h, _, _ | .fst :: _, .bool, _, _, _, _, _, _, h, _, _ | .fst :: _, .str, _, _, _, _, _, _, h, _, _ | .fst :: _, .err, _, _, _, _, _, _, h, _, _ | .fst :: _, .sl _, _, _, _, _, _, _, h, _, _ | .fst :: _, .st _, _, _, _, _, _, _, h, _, _ => by simp [getP] at h
  | .snd :: _, .int _, _, _, _, _, _, _, h, _, _ | .snd :: _, .bool, _, _, _, _, _, _, h, _, _ | .snd :: _, .str, _, _, _, _, _, _, h, _, _ | .snd :: _, .err, _, _, _, _, _, _, h, _, _ | .snd :: _, .sl _, _, _, _, _, _, _, h, _, _ | .snd :: _, .st _, _, _, _, _, _, _, h, _, _ => by simp [getP] at h

theorem out_ok {P : Program} {nt : Nat} {e : Env} {a : Act} {w w2 : World} {g gc g2 : Gh} (hg : InvG P B nt e a w g) {S Sn : Nat → Prop} {j id : Nat} {am : AM} {v : View} {arg : Arg} {xv : Value} {o' : Obj}
    (hlink : Link P S w g e.obj (gc.F j) (gc.pl j) (gc.cs j) am v arg xv) (hout : OutAt w2 gc g2 j id am v arg (some o')) (hSn : ∀ b, g.S b → Sn b)
    (hSc : ∀ b o v, g.S b → w.cell? ⟨b, o, none⟩ = some v → w2.cell? ⟨b, o, none⟩ = some v)
    (hfr : ∀ b o, g.has id b → ¬ gc.F j b → ¬ InR (gc.pl j) arg.size b o → w2.cell? ⟨b, o, none⟩ = w.cell? ⟨b, o, none⟩ ∧ w2.frozen? ⟨b, o, none⟩ = w.frozen? ⟨b, o, none⟩)
    (hconv : ∀ (K : Kd) (m : Md) (y : K.T) (cs : List Value) (F : Nat → Prop), ((∃ z, arg = .mp K m z) ∨ (∃ z, arg = .ms K m z)) → Own g2.S w2 K m y cs F → Own Sn w2 K m y cs F)
    (hF2 : ∀ b, g2.F j b → g.has id b → gc.F j b) :
    ∃ o csn, e.obj id = some (some o) ∧ OutOk w w2 g Sn id o o' (fun b => (g.F id b ∧ ¬ gc.F j b) ∨ g2.F j b) csn := by
  cases hout with
  | mp hgp hm hs ho hp hfx =>
    rename_i n p o K m z y m2 x2
    obtain ⟨hob, hhl, hok, K', m', z', b, off, e1, hpl, _, hgp', hnav, f⟩ := hlink
    cases e1
    obtain ⟨a1, a2⟩ := f.at_ b off hpl
    have hhas : g.has id b := by
      rcases a2 with ⟨o0, e2, _⟩ | h
      · exact .inl ⟨o0, e2⟩
      · exact .inr h
    have key := f.set Sn w2 m m2 y x2 (g2.cs j) (g2.F j) hs hm hSn hSc (fun b' o1 hF hn hq => hfr b' o1 (.inr hF) hn hq)
      (fun b' o1 hR hq => by
        obtain ⟨o0, e2, _⟩ := hR
        exact hfr b' o1 (.inl ⟨o0, e2⟩) (fun h => (hg.plz id b' o0 e2).2.2.1 id (f.sub b' h)) hq)
      hp (hconv K m y _ _ (.inl ⟨_, rfl⟩) ho) (fun b' h2 hF => hF2 b' h2 (.inr hF)) (fun b' o1 e2 h2 => (hg.plz id b' o1 e2).2.2.1 id (f.sub b' (hF2 b' h2 (.inl ⟨o1, e2⟩))))
      (fun b' o1 e2 h2 => by
        rw [hpl] at e2
        cases e2
        exact a1 (hF2 b h2 hhas))
    refine ⟨o, splice p o.K (g.cs id) (g2.cs j), hob, key.1, key.2.1, hhl, hhl, rfl, rfl, rfl, fun hpn => ?_, rfl, fun hf => ?_, by simp, fun n' p' hle hok' => ?_, fun n' p' hle hok' => ?_⟩
    · rw [hpl] at hnav
      exact splice_idx p (nav_idx_of hnav hpn) hnav
    · refine splice_idx p ?_ hnav
      cases hi : hasIdx p with
      | true => rfl
      | false => exact absurd (by rw [hf, hi]; rfl) hfx
    · unfold okAl at hok'
      simp only [since_cons hle, List.all_cons, Bool.and_eq_true] at hok'
      have hh : hitAl p' p = false := by simpa using hok'.1
      refine ⟨hok'.2, fun q cs' K1 m1 x1 h1 h2 => ?_⟩
      obtain ⟨m3, x3, h3⟩ := getP_after p p' hs hm h1 (fun hpre => by simp [hitAl, hpre] at hh)
      exact ⟨m3, x3, h3, key.2.2.al p' _ _ h1 h2 hh⟩
    · unfold okPt at hok'
      simp only [since_cons hle, List.all_cons, Bool.and_eq_true] at hok'
      have hh : hitPt p' p = false := by simpa using hok'.1
      refine ⟨hok'.2, fun q cs' K1 m1 x1 h1 h2 => ?_⟩
      obtain ⟨m3, x3, h3⟩ := getP_after p p' hs hm h1 (fun hpre => by simpa [hitPt, hpre] using hh)
      obtain ⟨c3, h4⟩ := key.2.2.pt p' _ _ _ h1 h2 hh
      exact ⟨m3, x3, c3, h3, h4⟩
  | ms hgp hm hs ho =>
    rename_i n p o K m z y m2 x2
    obtain ⟨hob, hhl, hok, hpl, K', m', z', q, hms, e1, _, hgp', hnav, f⟩ := hlink
    cases e1
    have noR : ∀ b o, ¬ InR (gc.pl j) 0 b o := fun b o ⟨o0, e2, _⟩ => by rw [hpl] at e2; cases e2
    have hq : ∀ b off, q = some (b, off) → g.has id b ∧ ¬ gc.F j b := by
      intro b off e2
      obtain ⟨a1, a2⟩ := f.at_ b off e2
      refine ⟨?_, a1⟩
      rcases a2 with ⟨o0, e3, _⟩ | h
      · exact .inl ⟨o0, e3⟩
      · exact .inr h
    have key := f.set Sn w2 m m2 y x2 (gc.cs j) (g2.F j) hs hm hSn hSc (fun b' o1 hF hn _ => hfr b' o1 (.inr hF) hn (noR b' o1))
      (fun b' o1 hR _ => by
        obtain ⟨o0, e2, _⟩ := hR
        exact hfr b' o1 (.inl ⟨o0, e2⟩) (fun h => (hg.plz id b' o0 e2).2.2.1 id (f.sub b' h)) (noR b' o1))
      (f.ok.of_same fun b' o1 hR => by
        obtain ⟨o0, e2, _⟩ := hR
        obtain ⟨h1, h2⟩ := hq b' o0 e2
        exact hfr b' o1 h1 h2 (noR b' o1))
      (hconv _ _ y _ _ (.inr ⟨_, rfl⟩) ho) (fun b' h2 hF => hF2 b' h2 (.inr hF)) (fun b' o1 e2 h2 => (hg.plz id b' o1 e2).2.2.1 id (f.sub b' (hF2 b' h2 (.inl ⟨o1, e2⟩))))
      (fun b' o1 e2 h2 => by
        obtain ⟨h3, h4⟩ := hq b' o1 e2
        exact h4 (hF2 b' h2 h3))
    have hcase : (∃ el mm, K = .sl el ∧ m = .own mm) ∨ msLog K p = none := by
      cases K with
      | sl el =>
        cases m with
        | own mm => exact .inl ⟨el, mm, rfl, rfl⟩
        | ro => cases hms
        | pr _ _ => cases hms
      | _ => exact .inr rfl
    refine ⟨o, splice p o.K (g.cs id) (gc.cs j), hob, key.1, key.2.1, hhl, hhl, rfl, rfl, rfl, fun hpn => splice_same p hnav, rfl, fun _ => splice_same p hnav, by simp, fun n' p' hle hok' => ?_, fun n' p' hle hok' => ?_⟩
    · unfold okAl at hok'
      rcases hcase with ⟨el, mm, rfl, rfl⟩ | hnone
      · simp only [since_cons hle, List.all_cons, Bool.and_eq_true] at hok'
        have hh : hitAl p' (p ++ [.idx 0]) = false := by simpa [msLog] using hok'.1
        refine ⟨hok'.2, fun q cs' K1 m1 x1 h1 h2 => ?_⟩
        obtain ⟨m3, x3, h3⟩ := getP_after_ms p p' hs hm h1 (fun hpre => by simp [hitAl, hpre] at hh)
        exact ⟨m3, x3, h3, key.2.2.ms p' _ _ h1 h2 ⟨el, rfl⟩ rfl hh⟩
      · simp only [since_cons hle, List.all_cons, Bool.and_eq_true, hnone] at hok'
        have hp0 : p' = [] := by
          cases p' with
          | nil => rfl
          | cons s p' => exact absurd hok'.1 (by simp)
        subst hp0
        refine ⟨hok'.2, fun q cs' K1 m1 x1 h1 h2 => ?_⟩
        rw [getP_nil] at h1
        cases h1
        refine ⟨m2, x2, getP_nil _ _ _, ?_⟩
        rw [splice_same p hnav]
        simpa only [nav] using h2
    · unfold okPt at hok'
      rcases hcase with ⟨el, mm, rfl, rfl⟩ | hnone
      · simp only [since_cons hle, List.all_cons, Bool.and_eq_true] at hok'
        have hh : hitPt p' (p ++ [.idx 0]) = false := by simpa [msLog] using hok'.1
        refine ⟨hok'.2, fun q cs' K1 m1 x1 h1 h2 => ?_⟩
        obtain ⟨m3, x3, h3⟩ := getP_after_ms p p' hs hm h1 (fun hpre => by simpa [hitPt, hpre] using hh)
        obtain ⟨c3, h4⟩ := key.2.2.mt p' _ _ _ h1 h2 ⟨el, rfl⟩ rfl hh
        exact ⟨m3, x3, c3, h3, h4⟩
      · simp only [since_cons hle, List.all_cons, Bool.and_eq_true, hnone] at hok'
        have hi : hasIdx p' = false := by simpa using hok'.1
        refine ⟨hok'.2, fun q cs' K1 m1 x1 h1 h2 => ?_⟩
        obtain ⟨m3, x3, h3⟩ := getP_noidx p' hi h1 m2 x2
        refine ⟨m3, x3, cs', h3, ?_⟩
        rw [splice_same p hnav]
        exact nav_noidx p' hi h2

/-- After the call: the objects that were taken. -/
def Gh.called (g : Gh) (Sn : Nat → Prop) (outs : List (Nat × Option Obj)) (Fn : Nat → Nat → Prop) (csn : Nat → List Value) : Gh where
  S := Sn
  F := fun i b => match look outs i with | some (some _) => Fn i b | some none => False | none => g.F i b
  pl := fun i => match look outs i with | some none => none | _ => g.pl i
  cs := fun i => match look outs i with | some (some _) => csn i | _ => g.cs i

theorem InvG.called {P : Program} {nt : Nat} {e : Env} {a : Act} {w w2 : World} {g : Gh} (h : InvG P B nt e a w g) {Sn : Nat → Prop} {outs : List (Nat × Option Obj)} {Fn : Nat → Nat → Prop} {csn : Nat → List Value} {W : Nat → Nat → Prop}
    (hx : Ext w w2 W) (hW : ∀ b o, W b o → ∃ id o0, e.obj id = some (some o0) ∧ (∃ r, look outs id = some r) ∧ ((∃ off, g.pl id = some (b, off) ∧ off ≤ o ∧ o < off + o0.K.size) ∨ g.F id b))
    (hSn : ∀ b, g.S b → Sn b) (hSb : ∀ b, Sn b → g.S b ∨ (∃ id r, look outs id = some r ∧ g.F id b) ∨ w.heap.size ≤ b) (hSsz : ∀ b, Sn b → b < w2.heap.size)
    (hSt : ∀ b, Sn b → (∀ i, look outs i = none → ¬ g.F i b) ∧ (∀ i o', look outs i = some (some o') → ¬ Fn i b) ∧ ∀ i off, g.pl i ≠ some (b, off))
    (hFn : ∀ i o', look outs i = some (some o') → ∀ b, Fn i b → ((∃ id r, look outs id = some r ∧ g.F id b) ∨ w.heap.size ≤ b) ∧ b < w2.heap.size ∧ ∀ k, k ≠ i → ∀ o2, look outs k = some (some o2) → ¬ Fn k b)
    (hobs : ∀ i r, look outs i = some r → ∃ o, e.obj i = some (some o) ∧ ∀ o', r = some o' → OutOk w w2 g Sn i o o' (Fn i) (csn i)) :
    InvG P B nt ⟨e.slots, outs ++ e.objs⟩ a w2 (g.called Sn outs Fn csn) := by
  have hobj : ∀ i, (Env.mk e.slots (outs ++ e.objs)).obj i = match look outs i with | some r => some r | none => e.obj i := by
    intro i
    show look (outs ++ e.objs) i = _
    rw [look_app]
    cases look outs i <;> rfl
  have base_le : B.w0.heap.size ≤ w.heap.size := h.ext.size
  have Fold : ∀ i b, (g.called Sn outs Fn csn).F i b → (∃ o', look outs i = some (some o') ∧ Fn i b) ∨ (look outs i = none ∧ g.F i b) := by
    intro i b hF
    simp only [Gh.called] at hF
    split at hF
    · exact .inl ⟨_, by assumption, hF⟩
    · exact hF.elim
    · exact .inr ⟨by assumption, hF⟩
  have plold : ∀ i b off, (g.called Sn outs Fn csn).pl i = some (b, off) → g.pl i = some (b, off) ∧ look outs i ≠ some none := by
    intro i b off hp
    simp only [Gh.called] at hp
    split at hp
    · cases hp
    · rename_i hne
      exact ⟨hp, hne⟩
  have Wlt : ∀ b o, W b o → b < w.heap.size ∧ ¬ g.S b := by
    intro b o hw
    obtain ⟨id, o0, _, _, h1⟩ := hW b o hw
    refine h.has_lt (i := id) ?_
    rcases h1 with ⟨off, e1, _⟩ | h1
    · exact .inl ⟨off, e1⟩
    · exact .inr h1
  have Whas : ∀ b o, W b o → ∃ id r, look outs id = some r ∧ g.has id b := by
    intro b o hw
    obtain ⟨id, o0, _, ⟨r, hr⟩, h1⟩ := hW b o hw
    refine ⟨id, r, hr, ?_⟩
    rcases h1 with ⟨off, e1, _⟩ | h1
    · exact .inl ⟨off, e1⟩
    · exact .inr h1
  refine h.change (fun i => ∃ r, look outs i = some r) rfl (h.ext.step hx ?_) hSn (fun b o v hb hv => hx.same (fun hw => (Wlt b o hw).2 hb) hv) hSsz ?_ ?_ ?_ ?_ ?_ ?_ ?_ ?_ ?_ ?_ ?_
  · intro b o hb hw
    obtain ⟨id, o0, ho0, _, h1⟩ := hW b o hw
    rcases h1 with ⟨off, e1, h2, h3⟩ | h1
    · rcases (h.objs id o0 ho0).plx b off e1 with h4 | h4
      · omega
      · exact .inr (h4.2 o h2 h3)
    · rcases h.Fb id b h1 with h4 | h4
      · exact .inl h4
      · omega
  · intro i b hF
    rcases Fold i b hF with ⟨o', h1, h2⟩ | ⟨h1, h2⟩
    · exact (hFn i o' h1 b h2).2.1
    · exact Nat.lt_of_lt_of_le (h.Fsz i b h2) hx.size
  · intro b hb
    rcases hSb b hb with h1 | ⟨id, r, _, h1⟩ | h1
    · exact h.Sb b h1
    · rcases h.Fb id b h1 with h2 | h2
      · exact .inr (.inl h2)
      · exact .inr (.inr h2)
    · exact .inr (.inr (by omega))
  · intro i b hF
    rcases Fold i b hF with ⟨o', h1, h2⟩ | ⟨h1, h2⟩
    · rcases (hFn i o' h1 b h2).1 with ⟨id, r, _, h3⟩ | h3
      · exact h.Fb id b h3
      · exact .inr (by omega)
    · exact h.Fb i b h2
  · intro i b hF hS
    rcases Fold i b hF with ⟨o', h1, h2⟩ | ⟨h1, h2⟩
    · exact (hSt b hS).2.1 i o' h1 h2
    · exact (hSt b hS).1 i h1 h2
  · intro i k b hne hF hF'
    rcases Fold i b hF with ⟨o', h1, h2⟩ | ⟨h1, h2⟩ <;> rcases Fold k b hF' with ⟨o2, h3, h4⟩ | ⟨h3, h4⟩
    · exact (hFn i o' h1 b h2).2.2 k (fun e => hne e.symm) o2 h3 h4
    · rcases (hFn i o' h1 b h2).1 with ⟨id, r, h5, h6⟩ | h5
      · have := h.has_one (.inr h6) (.inr h4)
        subst this
        rw [h3] at h5; cases h5
      · have := h.Fsz k b h4; omega
    · rcases (hFn k o2 h3 b h4).1 with ⟨id, r, h5, h6⟩ | h5
      · have := h.has_one (.inr h6) (.inr h2)
        subst this
        rw [h1] at h5; cases h5
      · have := h.Fsz i b h2; omega
    · exact h.FF i k b hne h2 h4
  · intro i b off hp
    obtain ⟨h1, _⟩ := plold i b off hp
    obtain ⟨h3, h4, h5, h6⟩ := h.plz i b off h1
    refine ⟨Nat.lt_of_lt_of_le h3 hx.size, fun hS => (hSt b hS).2.2 i off h1, fun k hF => ?_, fun k off' hp' => h6 k off' (plold k b off' hp').1⟩
    rcases Fold k b hF with ⟨o', h7, h8⟩ | ⟨h7, h8⟩
    · rcases (hFn k o' h7 b h8).1 with ⟨id, r, _, h9⟩ | h9
      · exact h5 id h9
      · omega
    · exact h5 k h8
  · intro i hi
    have hl : look outs i = none := by
      cases hq : look outs i with
      | none => rfl
      | some r => exact absurd ⟨r, hq⟩ hi
    refine ⟨by rw [hobj, hl], ?_, ?_, ?_, fun b o hF => hx.cell b o (h.Fsz i b hF) (fun hw => ?_), fun b off hp o => hx.cell b o (h.plz i b off hp).1 (fun hw => ?_)⟩
    · funext b; simp [Gh.called, hl]
    · simp [Gh.called, hl]
    · simp [Gh.called, hl]
    · obtain ⟨id, r, h1, h2⟩ := Whas b o hw
      have := h.has_one h2 (.inr hF)
      subst this
      rw [hl] at h1; cases h1
    · obtain ⟨id, r, h1, h2⟩ := Whas b o hw
      have := h.has_one h2 (.inl ⟨off, hp⟩)
      subst this
      rw [hl] at h1; cases h1
  · rintro i ⟨r, hr⟩ hno
    cases r with
    | some o' => exact absurd (by rw [hobj, hr]) (hno o')
    | none => exact ⟨fun b hF => by simp [Gh.called, hr] at hF, by simp [Gh.called, hr]⟩
  · rintro i o1 ⟨r, hr⟩ ho1
    rw [hobj, hr] at ho1
    simp only [Option.some.injEq] at ho1
    subst ho1
    obtain ⟨o, ho, hk⟩ := hobs i _ hr
    have k := hk o1 rfl
    have O := h.objs i o ho
    have gF : (g.called Sn outs Fn csn).F i = Fn i := by funext b; simp [Gh.called, hr]
    have gp : (g.called Sn outs Fn csn).pl i = g.pl i := by simp [Gh.called, hr]
    have gc : (g.called Sn outs Fn csn).cs i = csn i := by simp [Gh.called, hr]
    refine ⟨fun _ => by rw [gF, gp, gc]; exact ⟨k.own, k.plok⟩, (fun p hp => by rw [k.hl] at hp; cases hp), (by rw [gp, k.box]; exact O.box), fun hp => ?_, fun b off hp => ?_⟩
    · rw [gp, gc]
      rw [k.par] at hp
      have hpk := O.par hp
      unfold ParOk at hpk ⊢
      rw [k.box, k.kx]
      by_cases hf : (o.box && fxK o.K) = true
      · rw [if_pos hf] at hpk ⊢
        rw [k.fx (by unfold Obj.fx; rw [hp, Bool.true_and, hf])]
        exact hpk
      · rw [if_neg hf] at hpk ⊢
        obtain ⟨h1, h2⟩ := hpk
        refine ⟨h1, fun hb => ?_⟩
        have hpn : g.pl i = none := by
          have := O.box
          rw [hb] at this
          cases hq : g.pl i with
          | none => rfl
          | some q => rw [hq] at this; cases this
        rw [k.cs hpn]
        exact h2 hb
    · rw [gp] at hp
      rw [k.par, k.size]
      exact O.plx b off hp
  · rintro i ⟨r, hr⟩ n p v hs
    cases r with
    | none =>
      have e1 : (Env.mk e.slots (outs ++ e.objs)).obj i = some none := by rw [hobj, hr]
      exact ⟨⟨by rw [e1]; simp, (fun o ho => by rw [e1] at ho; cases ho)⟩, (fun o ho => by rw [e1] at ho; cases ho)⟩
    | some o1 =>
      have e1 : (Env.mk e.slots (outs ++ e.objs)).obj i = some (some o1) := by rw [hobj, hr]
      obtain ⟨o, ho, hk⟩ := hobs i _ hr
      have k := hk o1 rfl
      have hle := hs.1.2 o ho
      refine ⟨⟨by rw [e1]; simp, fun o2 ho2 => by rw [e1] at ho2; cases ho2; exact Nat.le_trans hle k.log⟩, fun o2 ho2 hok2 _ => ?_⟩
      rw [e1] at ho2
      cases ho2
      obtain ⟨h1, h2⟩ := k.al n p hle hok2
      obtain ⟨q, c1, K1, m1, x1, a1, a2, a3⟩ := hs.2 o ho h1 (.inl k.hl0)
      obtain ⟨m3, x3, b1, b2⟩ := h2 q c1 K1 m1 x1 a1 a2
      exact ⟨q, c1, K1, m3, x3, b1, by simpa [Gh.called, hr] using b2, a3⟩
  · rintro i ⟨r, hr⟩ n p v hs
    cases r with
    | none =>
      have e1 : (Env.mk e.slots (outs ++ e.objs)).obj i = some none := by rw [hobj, hr]
      exact ⟨⟨by rw [e1]; simp, (fun o ho => by rw [e1] at ho; cases ho)⟩, (fun o ho => by rw [e1] at ho; cases ho)⟩
    | some o1 =>
      have e1 : (Env.mk e.slots (outs ++ e.objs)).obj i = some (some o1) := by rw [hobj, hr]
      obtain ⟨o, ho, hk⟩ := hobs i _ hr
      have k := hk o1 rfl
      have hle := hs.1.2 o ho
      refine ⟨⟨by rw [e1]; simp, fun o2 ho2 => by rw [e1] at ho2; cases ho2; exact Nat.le_trans hle k.log⟩, fun o2 ho2 hok2 _ => ?_⟩
      rw [e1] at ho2
      cases ho2
      obtain ⟨h1, h2⟩ := k.pt n p hle hok2
      obtain ⟨b, off, c1, K1, m1, x1, a1, a2, a3⟩ := hs.2 o ho h1 (.inl k.hl0)
      obtain ⟨m3, x3, c3, b1, b2⟩ := h2 _ c1 K1 m1 x1 a1 a2
      exact ⟨b, off, c3, K1, m3, x3, b1, by simpa [Gh.called, hr] using b2, a3⟩

end Go.Abs

namespace Go.Abs
variable {B : Base}

def Gh.adopt (g : Gh) (d : Nat) (Fd : Nat → Prop) (cs : List Value) : Gh where
  S := g.S
  F := fun i b => if i = d then Fd b else g.F i b
  pl := fun i => if i = d then none else g.pl i
  cs := fun i => if i = d then cs else g.cs i

def Gh.learn (g : Gh) (X : Nat → Prop) : Gh := { g with S := fun b => g.S b ∨ X b }

/-- Blocks that nobody holds. -/
def Free (B : Base) (w : World) (g : Gh) (b : Nat) : Prop := b < w.heap.size ∧ ¬ g.S b ∧ (∀ i, ¬ g.has i b) ∧ (B.Fx b ∨ B.w0.heap.size ≤ b)

theorem InvG.adopt {P : Program} {nt : Nat} {e : Env} {a : Act} {w : World} {g : Gh} (h : InvG P B nt e a w g) {d : Nat} (hd : e.obj d = none) (Fd : Nat → Prop) (cs : List Value) (ob : Obj) (hfree : ∀ b, Fd b → Free B w g b)
    (hown : Own g.S w ob.K ob.m ob.x cs Fd) (hbox : ob.box = false) (hhl : ob.hl = none) (hpar : ob.par = false) : InvG P B nt ⟨e.slots, (d, some ob) :: e.objs⟩ a w (g.adopt d Fd cs) := by
  have hobj : ∀ i, (Env.mk e.slots ((d, some ob) :: e.objs)).obj i = if i = d then some (some ob) else e.obj i := by
    intro i
    show look ((d, some ob) :: e.objs) i = _
    by_cases hi : i = d
    · subst hi; rw [look_cons_self, if_pos rfl]
    · rw [look_cons_ne (fun e => hi e.symm), if_neg hi]; rfl
  have Fold : ∀ i b, (g.adopt d Fd cs).F i b → (i = d ∧ Fd b) ∨ (i ≠ d ∧ g.F i b) := by
    intro i b hF
    simp only [Gh.adopt] at hF
    split at hF
    · exact .inl ⟨by assumption, hF⟩
    · exact .inr ⟨by assumption, hF⟩
  have plold : ∀ i b off, (g.adopt d Fd cs).pl i = some (b, off) → g.pl i = some (b, off) := by
    intro i b off hp
    simp only [Gh.adopt] at hp
    split at hp
    · cases hp
    · exact hp
  refine h.change (fun i => i = d) rfl h.ext (fun _ h => h) (fun _ _ _ _ h => h) h.Ssz ?_ h.Sb ?_ ?_ ?_ ?_ ?_ ?_ ?_ ?_ ?_
  · intro i b hF
    rcases Fold i b hF with ⟨_, h1⟩ | ⟨_, h1⟩
    · exact (hfree b h1).1
    · exact h.Fsz i b h1
  · intro i b hF
    rcases Fold i b hF with ⟨_, h1⟩ | ⟨_, h1⟩
    · exact (hfree b h1).2.2.2
    · exact h.Fb i b h1
  · intro i b hF
    rcases Fold i b hF with ⟨_, h1⟩ | ⟨_, h1⟩
    · exact (hfree b h1).2.1
    · exact h.FS i b h1
  · intro i k b hne hF hF'
    rcases Fold i b hF with ⟨h1, h2⟩ | ⟨h1, h2⟩ <;> rcases Fold k b hF' with ⟨h3, h4⟩ | ⟨h3, h4⟩
    · exact hne (h1.trans h3.symm)
    · exact (hfree b h2).2.2.1 k (.inr h4)
    · exact (hfree b h4).2.2.1 i (.inr h2)
    · exact h.FF i k b hne h2 h4
  · intro i b off hp
    have hp := plold i b off hp
    obtain ⟨h3, h4, h5, h6⟩ := h.plz i b off hp
    refine ⟨h3, h4, fun k hF => ?_, fun k off' hp' => h6 k off' (plold k b off' hp')⟩
    rcases Fold k b hF with ⟨_, h1⟩ | ⟨_, h1⟩
    · exact (hfree b h1).2.2.1 i (.inl ⟨off, hp⟩)
    · exact h5 k h1
  · intro i hi
    refine ⟨by rw [hobj, if_neg hi], ?_, ?_, ?_, fun _ _ _ => ⟨rfl, rfl⟩, fun _ _ _ _ => ⟨rfl, rfl⟩⟩
    · funext b; simp [Gh.adopt, hi]
    · simp [Gh.adopt, hi]
    · simp [Gh.adopt, hi]
  · intro i hi hno
    exact absurd (by rw [hobj, if_pos hi]) (hno ob)
  · intro i o' hi ho'
    rw [hobj, if_pos hi] at ho'
    cases ho'
    subst hi
    refine ⟨fun _ => ?_, (fun p hp => by rw [hhl] at hp; cases hp), (by simp [Gh.adopt, hbox]), (fun hp => by rw [hpar] at hp; cases hp), fun b off hp => ?_⟩
    · simp only [Gh.adopt, if_pos]
      exact ⟨hown, fun b off h => by cases h⟩
    · simp [Gh.adopt] at hp
  · intro i hi n p v hs
    subst hi
    exact absurd hd hs.1.1
  · intro i hi n p v hs
    subst hi
    exact absurd hd hs.1.1

theorem InvG.learn {P : Program} {nt : Nat} {e : Env} {a : Act} {w : World} {g : Gh} (h : InvG P B nt e a w g) (X : Nat → Prop) (hX : ∀ b, X b → b < w.heap.size ∧ (∀ i, ¬ g.has i b) ∧ (B.Fx b ∨ B.w0.heap.size ≤ b)) : InvG P B nt e a w (g.learn X) := by
  refine h.change (e' := e) (fun _ => False) rfl h.ext (fun _ h => .inl h) (fun _ _ _ _ h => h) ?_ h.Fsz ?_ h.Fb ?_ h.FF ?_ (fun i _ => ⟨rfl, rfl, rfl, rfl, fun _ _ _ => ⟨rfl, rfl⟩, fun _ _ _ _ => ⟨rfl, rfl⟩⟩) (fun _ h => h.elim) (fun _ _ h => h.elim) (fun _ h => h.elim) (fun _ h => h.elim)
  · rintro b (hb | hb)
    · exact h.Ssz b hb
    · exact (hX b hb).1
  · rintro b (hb | hb)
    · exact h.Sb b hb
    · exact .inr (hX b hb).2.2
  · rintro i b hF (hb | hb)
    · exact h.FS i b hF hb
    · exact (hX b hb).2.1 i (.inr hF)
  · intro i b off hp
    obtain ⟨h3, h4, h5, h6⟩ := h.plz i b off hp
    refine ⟨h3, ?_, h5, h6⟩
    rintro (hb | hb)
    · exact h4 hb
    · exact (hX b hb).2.1 i (.inl ⟨off, hp⟩)

theorem SlotRep0.carry {P : Program} {g g' : Gh} {w : World} {ob ob' : Nat → Option (Option Obj)} (hS : ∀ b, g.S b → g'.S b) (hob : ∀ i, ob i ≠ none → ob' i = ob i ∧ g'.pl i = g.pl i ∧ g'.cs i = g.cs i)
    {s : Slot} {v : Value} (h : SlotRep0 P g w ob s v) : SlotRep0 P g' w ob' s v := by
  cases s with
  | dead => trivial
  | un => exact h
  | nils => exact h
  | v K x => obtain ⟨cs, h1, h2⟩ := h; exact ⟨cs, h1.mono hS (fun _ _ _ _ h => h), h2⟩
  | rp K x => exact PtrRO.mono hS (fun _ _ _ _ h => h) h
  | al id n p =>
    obtain ⟨⟨h1, h2⟩, h3⟩ := h
    obtain ⟨e1, e2, e3⟩ := hob id h1
    refine ⟨⟨by rw [e1]; exact h1, by rw [e1]; exact h2⟩, ?_⟩
    rw [e1, e2, e3]
    exact h3
  | pt id n p =>
    obtain ⟨⟨h1, h2⟩, h3⟩ := h
    obtain ⟨e1, e2, e3⟩ := hob id h1
    refine ⟨⟨by rw [e1]; exact h1, by rw [e1]; exact h2⟩, ?_⟩
    rw [e1, e2, e3]
    exact h3
  | fv f caps => obtain ⟨cv, h1, h2⟩ := h; exact ⟨cv, h1, h2.mono hS (fun _ _ _ _ h => h)⟩
  | clo Ks Kr f => exact CloRep.mono hS (fun _ _ _ _ h => h) h
  | tup l => exact h

theorem TupRep.carry {P : Program} {g g' : Gh} {w : World} {ob ob' : Nat → Option (Option Obj)} (hS : ∀ b, g.S b → g'.S b) (hob : ∀ i, ob i ≠ none → ob' i = ob i ∧ g'.pl i = g.pl i ∧ g'.cs i = g.cs i) :
    ∀ {l : List Slot} {vs : List Value}, TupRep P g w ob l vs → TupRep P g' w ob' l vs
  | [], _, h => h
  | s :: l, _, ⟨v, r, e, h1, h2⟩ => ⟨v, r, e, h1.carry hS hob, h2.carry hS hob⟩

theorem RetRep.mono {S S' : Nat → Prop} {w : World} {F : Nat → Prop} {cs : List Value} {r : RV} {v : Value} (hS : ∀ b, S b → S' b) (h : RetRep S w F cs r v) : RetRep S' w F cs r v := by
  cases r with
  | ro K x => exact ⟨h.1, h.2.1.mono hS (fun _ _ _ _ h => h), h.2.2⟩
  | own K m x => exact ⟨h.1.mono hS (fun _ _ _ _ h => h) (fun _ h => h) (fun _ _ _ => ⟨rfl, rfl⟩), h.2⟩

/-- One result. -/
theorem ret_one {P : Program} {nt : Nat} {e : Env} {a : Act} {w : World} {g : Gh} (h : InvG P B nt e a w g) (mds : List (Nat × Md)) {d : Nat} (hd : e.obj d = none) {r : RV} {v : Value} {Fr : Nat → Prop} {cs : List Value}
    (hr : RetRep g.S w Fr cs r v) (hfree : ∀ b, Fr b → Free B w g b) :
    ∃ g', InvG P B nt ⟨e.slots, (retSlot mds d r).2 ++ e.objs⟩ a w g' ∧ SlotRep0 P g' w (Env.mk e.slots ((retSlot mds d r).2 ++ e.objs)).obj (retSlot mds d r).1 v ∧ (retSlot mds d r).1.isTup = false ∧
      (∀ b, g.S b → g'.S b) ∧ (∀ b, g'.S b → g.S b ∨ Fr b) ∧ (∀ i b, g'.has i b → g.has i b ∨ Fr b) ∧
      (∀ i, e.obj i ≠ none → (Env.mk e.slots ((retSlot mds d r).2 ++ e.objs)).obj i = e.obj i ∧ g'.pl i = g.pl i ∧ g'.cs i = g.cs i) ∧ (∀ i, i ≠ d → (Env.mk e.slots ((retSlot mds d r).2 ++ e.objs)).obj i = e.obj i) := by
  have frozen : ∀ K x cs, RO (fun b => g.S b ∨ Fr b) w K x cs → VRep K cs v → ∃ g', InvG P B nt ⟨e.slots, e.objs⟩ a w g' ∧ SlotRep0 P g' w e.obj (.v K x) v ∧ (∀ b, g.S b → g'.S b) ∧ (∀ b, g'.S b → g.S b ∨ Fr b) ∧ (∀ i b, g'.has i b → g.has i b ∨ Fr b) ∧
      (∀ i, e.obj i ≠ none → e.obj i = e.obj i ∧ g'.pl i = g.pl i ∧ g'.cs i = g.cs i) := by
    intro K x cs h1 h2
    exact ⟨g.learn Fr, h.learn Fr (fun b hb => ⟨(hfree b hb).1, (hfree b hb).2.2.1, (hfree b hb).2.2.2⟩), ⟨cs, h1, h2⟩, fun _ h => .inl h, fun _ h => h, fun _ _ h => .inl h, fun _ _ => ⟨rfl, rfl, rfl⟩⟩
  cases r with
  | ro K x =>
    obtain ⟨h1, h2, h3⟩ := hr
    obtain ⟨g', k1, k2, k3, k4, k5, k6⟩ := frozen K x cs (h2.mono (fun _ h => .inl h) (fun _ _ _ _ h => h)) h3
    exact ⟨g', k1, k2, rfl, k3, k4, k5, k6, fun _ _ => rfl⟩
  | own K m x =>
    obtain ⟨h1, h2⟩ := hr
    cases hl : look mds d with
    | none =>
      obtain ⟨g', k1, k2, k3, k4, k5, k6⟩ := frozen K x cs (Own.toRO (fun _ h => .inl h) (fun _ h => .inr h) h1) h2
      simp only [retSlot, hl]
      exact ⟨g', k1, k2, rfl, k3, k4, k5, k6, fun _ _ => rfl⟩
    | some md =>
      simp only [retSlot, hl]
      have hobj : ∀ i, (Env.mk e.slots ([(d, some (⟨K, m, x, false, false, [], none⟩ : Obj))] ++ e.objs)).obj i = if i = d then some (some ⟨K, m, x, false, false, [], none⟩) else e.obj i := by
        intro i
        show look ((d, some (⟨K, m, x, false, false, [], none⟩ : Obj)) :: e.objs) i = _
        by_cases hi : i = d
        · subst hi; rw [look_cons_self, if_pos rfl]
        · rw [look_cons_ne (fun e => hi e.symm), if_neg hi]; rfl
      refine ⟨g.adopt d Fr cs, h.adopt hd Fr cs ⟨K, m, x, false, false, [], none⟩ hfree h1 rfl rfl rfl, ⟨⟨by rw [hobj, if_pos rfl]; simp, fun _ _ => Nat.zero_le _⟩, fun o2 ho2 _ _ => ?_⟩, rfl, fun _ h => h, fun _ h => .inl h, fun i b hb => ?_, fun i hi => ?_, fun i hi => by rw [hobj, if_neg hi]⟩
      · rw [hobj, if_pos rfl] at ho2
        cases ho2
        exact ⟨none, cs, K, m, x, getP_nil _ _ _, by simp only [nav, Gh.adopt, if_pos], h2⟩
      · rcases hb with ⟨off, hb⟩ | hb
        · simp only [Gh.adopt] at hb
          split at hb
          · cases hb
          · exact .inl (.inl ⟨off, hb⟩)
        · simp only [Gh.adopt] at hb
          split at hb
          · exact .inr hb
          · exact .inl (.inr hb)
      · have hne : i ≠ d := fun e1 => by subst e1; exact hi hd
        exact ⟨by rw [hobj, if_neg hne], by simp [Gh.adopt, hne], by simp [Gh.adopt, hne]⟩

theorem sub_inj {d i j : Nat} (h : sub d i = sub d j) : i = j := by unfold sub at h; omega

/-- Several results. -/
theorem ret_many {P : Program} {nt : Nat} {a : Act} {w : World} (mds : List (Nat × Md)) {d : Nat} : ∀ (l : List RV) (i : Nat) {e : Env} {g : Gh}, InvG P B nt e a w g → ∀ (vals : List Value) (Fr : Nat → Nat → Prop) (csr : Nat → List Value), vals.length = l.length →
    (∀ k r u, l[k]? = some r → vals[k]? = some u → RetRep g.S w (Fr k) (csr k) r u) → (∀ k, k < l.length → e.obj (sub d (i + k)) = none) → (∀ k b, Fr k b → Free B w g b) → (∀ k k' b, k ≠ k' → Fr k b → ¬ Fr k' b) →
    ∃ g', InvG P B nt ⟨e.slots, (retSlots mds d i l).2 ++ e.objs⟩ a w g' ∧ TupRep P g' w (Env.mk e.slots ((retSlots mds d i l).2 ++ e.objs)).obj (retSlots mds d i l).1 vals ∧
      (∀ b, g.S b → g'.S b) ∧ (∀ b, g'.S b → g.S b ∨ ∃ k, Fr k b) ∧ (∀ j b, g'.has j b → g.has j b ∨ ∃ k, Fr k b) ∧
      (∀ j, (∀ k, k < l.length → j ≠ sub d (i + k)) → (Env.mk e.slots ((retSlots mds d i l).2 ++ e.objs)).obj j = e.obj j)
  | [], i, e, g, h, vals, Fr, csr, hl, _, _, _, _ => by
    have : vals = [] := List.length_eq_zero_iff.1 hl
    subst this
    exact ⟨g, h, rfl, fun _ h => h, fun _ h => .inl h, fun _ _ h => .inl h, fun _ _ => rfl⟩
  | r :: l, i, e, g, h, vals, Fr, csr, hl, hr, hf, hfree, hdis => by
    cases vals with
    | nil => simp at hl
    | cons v vals =>
      obtain ⟨g1, k1, k2, k3, k4, k5, k6⟩ := ret_many mds l (i + 1) h vals (fun k => Fr (k + 1)) (fun k => csr (k + 1)) (by simpa using hl) (fun k r' u h1 h2 => hr (k + 1) r' u (by simpa using h1) (by simpa using h2))
        (fun k hk => by have := hf (k + 1) (by simp; omega); rwa [show i + (k + 1) = i + 1 + k by omega] at this) (fun k b hb => hfree (k + 1) b hb) (fun k k' b hne => hdis (k + 1) (k' + 1) b (by omega))
      have hd0 : (Env.mk e.slots ((retSlots mds d (i + 1) l).2 ++ e.objs)).obj (sub d i) = none := by
        rw [k6 _ (fun k _ e1 => by have := sub_inj e1; omega)]
        have := hf 0 (by simp)
        simpa using this
      have hfree1 : ∀ b, Fr 0 b → Free B w g1 b := by
        intro b hb
        obtain ⟨h1, h2, h3, h4⟩ := hfree 0 b hb
        refine ⟨h1, fun hS => ?_, fun j hj => ?_, h4⟩
        · rcases k4 b hS with h5 | ⟨k, h5⟩
          · exact h2 h5
          · exact hdis 0 (k + 1) b (by omega) hb h5
        · rcases k5 j b hj with h5 | ⟨k, h5⟩
          · exact h3 j h5
          · exact hdis 0 (k + 1) b (by omega) hb h5
      obtain ⟨g2, m1, m2, m3, m4, m5, m6, m7, m8⟩ := ret_one k1 mds hd0 ((hr 0 r v rfl rfl).mono k3) hfree1
      refine ⟨g2, ?_, ?_, fun b hb => m4 b (k3 b hb), fun b hb => ?_, fun j b hj => ?_, fun j hj => ?_⟩
      · simpa only [retSlots, List.append_assoc] using m1
      · refine ⟨v, vals, rfl, ?_, ?_⟩
        · simpa only [retSlots, List.append_assoc] using m2
        · have := k2.carry (ob' := (Env.mk e.slots ((retSlot mds (sub d i) r).2 ++ ((retSlots mds d (i + 1) l).2 ++ e.objs))).obj) m4 m7
          simpa only [retSlots, List.append_assoc] using this
      · rcases m5 b hb with h1 | h1
        · rcases k4 b h1 with h2 | ⟨k, h2⟩
          · exact .inl h2
          · exact .inr ⟨k + 1, h2⟩
        · exact .inr ⟨0, h1⟩
      · rcases m6 j b hj with h1 | h1
        · rcases k5 j b h1 with h2 | ⟨k, h2⟩
          · exact .inl h2
          · exact .inr ⟨k + 1, h2⟩
        · exact .inr ⟨0, h1⟩
      · have h1 := m8 j (by have := hj 0 (by simp); simpa using this)
        have h2 := k6 j (fun k hk => by have := hj (k + 1) (by simp; omega); rwa [show i + (k + 1) = i + 1 + k by omega] at this)
        simp only [retSlots, List.append_assoc]
        exact h1.trans h2

end Go.Abs

namespace Go.Abs
variable {B : Base}

theorem argsOf_len {c : Ctx} : ∀ {ts : List Nat} {ams : List AM} {vs : List View} {args : List Arg}, argsOf c ts ams vs = some args → ams.length = vs.length ∧ args.length = vs.length
  | [], [], [], args, h => by
    simp only [argsOf, Option.some.injEq] at h
    subst h
    exact ⟨rfl, rfl⟩
  | t :: ts, am :: ams, v :: vs, args, h => by
    unfold argsOf at h
    split at h
    · rename_i a l _ h2
      cases h
      obtain ⟨i1, i2⟩ := argsOf_len h2
      exact ⟨by simp [i1], by simp [i2]⟩
    · cases h
  | [], _ :: _, _, _, h => by simp [argsOf] at h
  | [], [], _ :: _, _, h => by simp [argsOf] at h
  | _ :: _, [], _, _, h => by simp [argsOf] at h
  | _ :: _, _ :: _, [], _, h => by simp [argsOf] at h

theorem look_of_mem {α : Type} {l : List (Nat × α)} (hn : (l.map (·.1)).Nodup) {i : Nat} {x : α} (h : (i, x) ∈ l) : look l i = some x := mem_look hn h

theorem mem_of_look {α : Type} : ∀ {l : List (Nat × α)} {i : Nat} {x : α}, look l i = some x → (i, x) ∈ l
  | [], _, _, h => by simp [look] at h
  | (j, y) :: l, i, x, h => by
    by_cases hj : j = i
    · subst hj; rw [look_cons_self] at h; cases h; exact List.mem_cons_self
    · rw [look_cons_ne hj] at h; exact List.mem_cons_of_mem _ (mem_of_look h)

theorem look_none {α : Type} : ∀ {l : List (Nat × α)} {i : Nat}, i ∉ l.map (·.1) → look l i = none
  | [], _, _ => rfl
  | (j, y) :: l, i, h => by
    simp only [List.map_cons, List.mem_cons, not_or] at h
    rw [look_cons_ne (fun e => h.1 e.symm)]
    exact look_none h.2

theorem rpArgs_len (l : List KV) : (rpArgs l).length = l.length := by simp [rpArgs]

theorem takenAt_ro (v : View) : takenAt .ro v = none := by obtain ⟨s, q⟩ := v; cases s <;> rfl
theorem takenAt_rp (v : View) : takenAt .rp v = none := by obtain ⟨s, q⟩ := v; cases s <;> rfl
theorem takenAt_fn (Ks : List Kd) (Kr : Kd) (v : View) : takenAt (.fn Ks Kr) v = none := by obtain ⟨s, q⟩ := v; cases s <;> rfl

/-- After the callee came back: the caller's state. -/
theorem called {c : Ctx} {nt : Nat} {e : Env} {a : Act} {w w2 : World} {g : Gh} (hg : InvG c.P B nt e a w g) {ams : List AM} {xs : List Operand} {vs : List View} {args : List Arg} {caps : List KV} {F : Nat → Nat → Prop} {pl : Nat → Place} {cs : Nat → List Value}
    {g2 : Gh} {res : Res} {v : Value} {outs : List (Nat × Option Obj)}
    (hvs : xs.map (fun x => e.view (e.opd x)) = vs) (hl1 : args.length = xs.length) (hl2 : ams.length = xs.length) (hrest : ∀ j, args.length ≤ j → (∀ b, ¬ F j b) ∧ pl j = none)
    (hlink : ∀ (j : Nat) (am : AM) (v : View) (arg : Arg) (x : Operand), ams[j]? = some am → vs[j]? = some v → args[j]? = some arg → xs[j]? = some x → Link1 c.P (lent ams vs) w g e.obj (F j) (pl j) (cs j) am v arg (a.eval x))
    (hnd : (taken ams vs).Nodup) (hdis : ∀ i, i ∈ lent ams vs → i ∉ taken ams vs) (hd : Done w w2 (args ++ rpArgs caps) ⟨g.lend (lent ams vs), F, pl, cs⟩ g2 res v)
    (hfull : lent ams vs = [] ∨ (res.rets.all rvOk = true ∧ args.all argFull = true)) (ho : outsOf ams vs res.outs = some outs) :
    ∃ g1, InvG c.P B nt ⟨e.slots, outs ++ e.objs⟩ a w2 g1 ∧ (∀ i, look outs i ≠ none → e.obj i ≠ none) ∧ (∀ (r : RV) (F : Nat → Prop) (cs : List Value) (u : Value), r ∈ res.rets → RetRep g2.S w2 F cs r u → RetRep g1.S w2 F cs r u) ∧
      (∀ i b, args.length ≤ i → g2.F i b → Free B w2 g1 b) := by
  have hxl : vs.length = xs.length := by rw [← hvs]; simp
  -- every index has all its parts
  have at_ : ∀ j, j < xs.length → ∃ am v arg x, ams[j]? = some am ∧ vs[j]? = some v ∧ args[j]? = some arg ∧ xs[j]? = some x := fun j hj =>
    ⟨ams[j]'(by omega), vs[j]'(by omega), args[j]'(by omega), xs[j], by simp, by simp, by simp, by simp⟩
  have atF : ∀ j b, F j b → ∃ id am v, ams[j]? = some am ∧ vs[j]? = some v ∧ takenAt am v = some id ∧ g.F id b := by
    intro j b hF
    by_cases hj : j < xs.length
    · obtain ⟨am, v, arg, x, a1, a2, a3, a4⟩ := at_ j hj
      obtain ⟨id, h1, h2⟩ := (hlink j am v arg x a1 a2 a3 a4).sub b hF
      exact ⟨id, am, v, a1, a2, h1, h2⟩
    · exact absurd hF ((hrest j (by omega)).1 b)
  have atP : ∀ j b off, pl j = some (b, off) → ∃ id am v, ams[j]? = some am ∧ vs[j]? = some v ∧ takenAt am v = some id ∧ g.has id b ∧ ¬ F j b := by
    intro j b off hp
    by_cases hj : j < xs.length
    · obtain ⟨am, v, arg, x, a1, a2, a3, a4⟩ := at_ j hj
      obtain ⟨⟨id, h1, h2⟩, h3⟩ := (hlink j am v arg x a1 a2 a3 a4).place b off hp
      exact ⟨id, am, v, a1, a2, h1, h2, h3⟩
    · rw [(hrest j (by omega)).2] at hp; cases hp
  have tobj : ∀ id, id ∈ taken ams vs → ∃ o, e.obj id = some (some o) := by
    have : ∀ (ams : List AM) (vs : List View) (xs : List Operand), xs.map (fun x => e.view (e.opd x)) = vs → ams.length = xs.length →
        (∀ (j : Nat) (am : AM) (v : View) (x : Operand), ams[j]? = some am → vs[j]? = some v → xs[j]? = some x → ∀ id, takenAt am v = some id → ∃ o, e.obj id = some (some o)) → ∀ id, id ∈ taken ams vs → ∃ o, e.obj id = some (some o) := by
      intro ams
      induction ams with
      | nil => intro vs xs _ _ _ id h; cases vs <;> simp [taken] at h
      | cons am ams ih =>
        intro vs xs hv hl hk id h
        cases xs with
        | nil => simp at hl
        | cons x xs =>
          cases vs with
          | nil => simp at hv
          | cons v vs =>
            simp only [List.map_cons, List.cons.injEq] at hv
            rw [taken_cons] at h
            have ih' := ih vs xs hv.2 (by simpa using hl) (fun j am' v' x' h1 h2 h3 => hk (j + 1) am' v' x' (by simpa using h1) (by simpa using h2) (by simpa using h3))
            split at h
            · rename_i id' hid
              rcases List.mem_cons.1 h with rfl | h
              · exact hk 0 am v x rfl rfl rfl id hid
              · exact ih' id h
            · exact ih' id h
    refine this ams vs xs hvs hl2 fun j am v x h1 h2 h3 id h4 => ?_
    have hj : j < xs.length := (List.getElem?_eq_some_iff.1 h3).1
    have hlk := (hlink j am v (args[j]'(by omega)) x h1 h2 (by simp) h3).link
    unfold Link at hlk
    split at hlk
    · cases h4; exact ⟨_, hlk.1⟩
    · cases h4; exact ⟨_, hlk.1⟩
    · cases h4; exact ⟨_, hlk.1⟩
    · rw [takenAt_ro] at h4; cases h4
    · rw [takenAt_rp] at h4; cases h4
    · rw [takenAt_fn] at h4; cases h4
    · exact hlk.elim
  obtain ⟨keys, hat⟩ := outs_at (P := c.P) (S := g.lend (lent ams vs)) (w := w) (w2 := w2) (g := g) (gc := ⟨g.lend (lent ams vs), F, pl, cs⟩) (g2 := g2) (ob := e.obj) ams vs args (xs.map a.eval) res.outs outs 0 ho hd.outs.app (by omega) (by simp; omega)
    (fun j am v arg x h1 h2 h3 h4 => by
      rw [Nat.zero_add]
      simp only [List.getElem?_map, Option.map_eq_some_iff] at h4
      obtain ⟨y, h5, rfl⟩ := h4
      exact (hlink j am v arg y h1 h2 h3 h5).link)
  have hkn : (outs.map (·.1)).Nodup := by rw [keys]; exact hnd
  have hlk : ∀ i r, look outs i = some r → i ∈ taken ams vs ∧ ∃ (j : Nat) (am : AM) (v : View) (arg : Arg), ams[j]? = some am ∧ vs[j]? = some v ∧ args[j]? = some arg ∧ OutAt w2 ⟨g.lend (lent ams vs), F, pl, cs⟩ g2 j i am v arg r := by
    intro i r h
    have hm := mem_of_look h
    obtain ⟨j, am, v, arg, h1, h2, h3, h4⟩ := hat i r hm
    rw [Nat.zero_add] at h4
    exact ⟨keys ▸ List.mem_map.2 ⟨_, hm, rfl⟩, j, am, v, arg, h1, h2, h3, h4⟩
  have hno : ∀ i, look outs i = none → i ∉ taken ams vs := by
    intro i h hi
    rw [← keys] at hi
    obtain ⟨⟨i', r⟩, h1, rfl⟩ := List.mem_map.1 hi
    rw [look_of_mem hkn h1] at h
    cases h
  have hsome : ∀ i, i ∈ taken ams vs → ∃ r, look outs i = some r := by
    intro i hi
    cases h : look outs i with
    | none => exact absurd hi (hno i h)
    | some r => exact ⟨r, rfl⟩
  have outTaken : ∀ {j i : Nat} {am : AM} {v : View} {arg : Arg} {r : Option Obj}, OutAt w2 ⟨g.lend (lent ams vs), F, pl, cs⟩ g2 j i am v arg r → takenAt am v = some i := by
    intro j i am v arg r h
    cases h <;> rfl
  -- the new blocks that are only read
  let Sn : Nat → Prop := fun b => if lent ams vs = [] then g2.S b else g.S b
  have hSn : ∀ b, g.S b → Sn b := by
    intro b hb
    show if lent ams vs = [] then g2.S b else g.S b
    split
    · exact hd.S b (.inl hb)
    · exact hb
  have SnS : ∀ b, Sn b → g2.S b := by
    intro b hb
    by_cases hl : lent ams vs = []
    · simpa only [Sn, if_pos hl] using hb
    · simp only [Sn, if_neg hl] at hb
      exact hd.S b (.inl hb)
  have noLend : ∀ b, lent ams vs = [] → g.lend (lent ams vs) b → g.S b := by
    intro b hl hb
    rcases hb with hb | ⟨i, hi, _⟩
    · exact hb
    · rw [hl] at hi; cases hi
  have hSb : ∀ b, Sn b → g.S b ∨ (∃ j, F j b) ∨ w.heap.size ≤ b := by
    intro b hb
    by_cases hl : lent ams vs = []
    · simp only [Sn, if_pos hl] at hb
      rcases hd.Sb b hb with h | h | h
      · exact .inl (noLend b hl h)
      · exact .inr (.inl h)
      · exact .inr (.inr h)
    · simp only [Sn, if_neg hl] at hb
      exact .inl hb
  have conv : ∀ (arg : Arg), arg ∈ args → ∀ (K : Kd) (m : Md) (y : K.T) (cs : List Value) (F' : Nat → Prop), ((∃ z, arg = .mp K m z) ∨ (∃ z, arg = .ms K m z)) → Own g2.S w2 K m y cs F' → Own Sn w2 K m y cs F' := by
    intro arg harg K m y cs F' hk ho
    by_cases hl : lent ams vs = []
    · simp only [Sn, if_pos hl]; exact ho
    · simp only [Sn, if_neg hl]
      rcases hfull with h | ⟨_, h⟩
      · exact absurd h hl
      · have hf := List.all_eq_true.1 h arg harg
        rcases hk with ⟨z, rfl⟩ | ⟨z, rfl⟩
        · exact Own.full hf ho
        · exact Own.full hf ho
  -- what may be written lies in what was taken
  have hW : ∀ b o, Wr (args ++ rpArgs caps) ⟨g.lend (lent ams vs), F, pl, cs⟩ b o → ∃ (j id : Nat) (am : AM) (v : View), ams[j]? = some am ∧ vs[j]? = some v ∧ takenAt am v = some id ∧ g.has id b ∧
      (F j b ∨ ∃ arg off, args[j]? = some arg ∧ pl j = some (b, off) ∧ off ≤ o ∧ o < off + arg.size) := by
    rintro b o (⟨j, hF⟩ | ⟨j, arg, off, h1, h2, h3, h4⟩)
    · obtain ⟨id, am, v, k1, k2, k3, k4⟩ := atF j b hF
      exact ⟨j, id, am, v, k1, k2, k3, .inr k4, .inl hF⟩
    · obtain ⟨id, am, v, k1, k2, k3, k4, _⟩ := atP j b off h2
      have hj : j < args.length := by
        have : j < ams.length := (List.getElem?_eq_some_iff.1 k1).1
        omega
      rw [List.getElem?_append_left hj] at h1
      exact ⟨j, id, am, v, k1, k2, k3, k4, .inr ⟨arg, off, h1, h2, h3, h4⟩⟩
  have hF2 : ∀ j b, g2.F j b → (∃ i, F i b) ∨ w.heap.size ≤ b := hd.Fb
  have same : ∀ (j j' id id' b : Nat) (am am' : AM) (v v' : View), ams[j]? = some am → vs[j]? = some v → takenAt am v = some id → g.has id b → ams[j']? = some am' → vs[j']? = some v' → takenAt am' v' = some id' → g.has id' b → j = j' := by
    intro j j' id id' b am am' v v' h1 h2 h3 h4 h5 h6 h7 h8
    have := hg.has_one h4 h8
    subst this
    exact taken_ne hnd h1 h2 h3 h5 h6 h7
  -- one object
  have one : ∀ i, ∃ (p : (Nat → Prop) × List Value), ∀ r, look outs i = some r → ∃ o, e.obj i = some (some o) ∧ ∀ o', r = some o' → OutOk w w2 g Sn i o o' p.1 p.2 ∧
      (∀ b, p.1 b → (g.F i b ∧ ∀ j, ¬ F j b) ∨ ∃ (j : Nat) (am : AM) (v : View), ams[j]? = some am ∧ vs[j]? = some v ∧ takenAt am v = some i ∧ g2.F j b) := by
    intro i
    cases hl : look outs i with
    | none => exact ⟨⟨fun _ => False, []⟩, fun r h => by cases h⟩
    | some r =>
      obtain ⟨hit, j, am, v, arg, h1, h2, h3, h4⟩ := hlk i r hl
      obtain ⟨o0, ho0⟩ := tobj i hit
      have hti := outTaken h4
      have hj : j < xs.length := by
        have : j < ams.length := (List.getElem?_eq_some_iff.1 h1).1
        omega
      cases r with
      | none => exact ⟨⟨fun _ => False, []⟩, fun r h => ⟨o0, ho0, fun o' h' => by cases h; cases h'⟩⟩
      | some o' =>
        have hlk1 := hlink j am v arg xs[j] h1 h2 h3 (by simp)
        obtain ⟨o, csn, k1, k2⟩ := out_ok hg (S := g.lend (lent ams vs)) (Sn := Sn) hlk1.link h4 hSn
          (fun b o v hb hv => hd.ext.same (fun hw => by
            obtain ⟨j', id', am', v', _, _, _, h8, _⟩ := hW b o hw
            exact (hg.has_lt h8).2 hb) hv)
          (fun b o hb hn hq => hd.ext.cell b o (hg.has_lt hb).1 (fun hw => by
            obtain ⟨j', id', am', v', h5, h6, h7, h8, h9⟩ := hW b o hw
            have := same j j' i id' b am am' v v' h1 h2 hti hb h5 h6 h7 h8
            subst this
            rcases h9 with h9 | ⟨arg', off, a1, a2, a3, a4⟩
            · exact hn h9
            · rw [h3] at a1
              cases a1
              exact hq ⟨off, a2, a3, a4⟩))
          (conv arg (List.mem_of_getElem? h3))
          (fun b h2F hb => by
            rcases hF2 j b h2F with ⟨i', hi'⟩ | h5
            · obtain ⟨id', am', v', h5, h6, h7, h8⟩ := atF i' b hi'
              have := same j i' i id' b am am' v v' h1 h2 hti hb h5 h6 h7 (.inr h8)
              subst this
              exact hi'
            · have := (hg.has_lt hb).1; omega)
        refine ⟨⟨fun b => (g.F i b ∧ ¬ F j b) ∨ g2.F j b, csn⟩, fun r' h => ⟨o, k1, fun o1 h' => ?_⟩⟩
        cases h
        cases h'
        refine ⟨k2, ?_⟩
        rintro b (⟨a1, a2⟩ | a1)
        · refine .inl ⟨a1, fun j' hF => ?_⟩
          obtain ⟨id', am', v', h5, h6, h7, h8⟩ := atF j' b hF
          have := same j j' i id' b am am' v v' h1 h2 hti (.inr a1) h5 h6 h7 (.inr h8)
          subst this
          exact a2 hF
        · exact .inr ⟨j, am, v, h1, h2, hti, a1⟩
  obtain ⟨fam, hfam⟩ := Classical.axiomOfChoice one
  have FnOld : ∀ i o' b, look outs i = some (some o') → (fam i).1 b → (g.F i b ∧ ∀ j, ¬ F j b) ∨ ∃ (j : Nat) (am : AM) (v : View), ams[j]? = some am ∧ vs[j]? = some v ∧ takenAt am v = some i ∧ g2.F j b := by
    intro i o' b h hb
    obtain ⟨o, _, hk⟩ := hfam i _ h
    exact (hk o' rfl).2 b hb
  have jlen : ∀ {j : Nat} {am : AM}, ams[j]? = some am → j < args.length := by
    intro j am h
    have : j < ams.length := (List.getElem?_eq_some_iff.1 h).1
    omega
  have hI := hg.called (Sn := Sn) (outs := outs) (Fn := fun i => (fam i).1) (csn := fun i => (fam i).2) hd.ext
    (fun b o hw => by
      obtain ⟨j, id, am, v, h1, h2, h3, h4, h5⟩ := hW b o hw
      have hit := taken_at h1 h2 h3
      obtain ⟨o0, ho0⟩ := tobj id hit
      refine ⟨id, o0, ho0, hsome id hit, ?_⟩
      rcases h5 with h5 | ⟨arg, off, a1, a2, a3, a4⟩
      · obtain ⟨id', am', v', b1, b2, b3, b4⟩ := atF j b h5
        rw [h1] at b1; cases b1
        rw [h2] at b2; cases b2
        rw [h3] at b3; cases b3
        exact .inr b4
      · have hj : j < xs.length := by have := jlen h1; omega
        have hl1 := (hlink j am v arg xs[j] h1 h2 a1 (by simp)).link
        unfold Link at hl1
        split at hl1
        · cases h3
          obtain ⟨c1, _, _, K, m, z, b', off', rfl, c2, _, _, _, f⟩ := hl1
          rw [c1] at ho0
          cases ho0
          rw [a2] at c2
          cases c2
          rcases (f.at_ b off a2).2 with ⟨o1, d1, d2, d3⟩ | d1
          · have : o < off + K.size := a4
            exact .inl ⟨o1, d1, by omega, by omega⟩
          · exact .inr d1
        · obtain ⟨_, _, _, c1, _⟩ := hl1
          rw [a2] at c1; cases c1
        · obtain ⟨_, _, _, c1, _⟩ := hl1
          rw [a2] at c1; cases c1
        · rw [a2] at hl1; cases hl1.2.1
        · rw [a2] at hl1; cases hl1.2.1
        · rw [a2] at hl1; cases hl1.2.1
        · exact hl1.elim)
    hSn
    (fun b hb => by
      rcases hSb b hb with h | ⟨j, h⟩ | h
      · exact .inl h
      · obtain ⟨id, am, v, k1, k2, k3, k4⟩ := atF j b h
        obtain ⟨r, hr⟩ := hsome id (taken_at k1 k2 k3)
        exact .inr (.inl ⟨id, r, hr, k4⟩)
      · exact .inr (.inr h))
    (fun b hb => hd.Ssz b (SnS b hb))
    (fun b hb => by
      refine ⟨fun i hi hF => ?_, fun i o' hi hF => ?_, fun i off hp => ?_⟩
      · rcases hSb b hb with h | ⟨j, h⟩ | h
        · exact hg.FS i b hF h
        · obtain ⟨id, am, v, k1, k2, k3, k4⟩ := atF j b h
          have := hg.has_one (.inr hF) (.inr k4)
          subst this
          exact hno i hi (taken_at k1 k2 k3)
        · have := hg.Fsz i b hF; omega
      · rcases FnOld i o' b hi hF with ⟨h1, h2⟩ | ⟨j, am, v, _, _, _, h4⟩
        · rcases hSb b hb with h | ⟨j, h⟩ | h
          · exact hg.FS i b h1 h
          · exact h2 j h
          · have := hg.Fsz i b h1; omega
        · exact hd.FS j b h4 (SnS b hb)
      · rcases hSb b hb with h | ⟨j, h⟩ | h
        · exact (hg.plz i b off hp).2.1 h
        · obtain ⟨id, am, v, k1, k2, k3, k4⟩ := atF j b h
          exact (hg.plz i b off hp).2.2.1 id k4
        · have := (hg.plz i b off hp).1; omega)
    (fun i o' hi b hF => by
      refine ⟨?_, ?_, fun k hki o2 hk hF' => ?_⟩
      · rcases FnOld i o' b hi hF with ⟨h1, _⟩ | ⟨j, am, v, _, _, _, h4⟩
        · exact .inl ⟨i, _, hi, h1⟩
        · rcases hF2 j b h4 with ⟨j', h5⟩ | h5
          · obtain ⟨id, am, v, k1, k2, k3, k4⟩ := atF j' b h5
            obtain ⟨r, hr⟩ := hsome id (taken_at k1 k2 k3)
            exact .inl ⟨id, r, hr, k4⟩
          · exact .inr h5
      · rcases FnOld i o' b hi hF with ⟨h1, _⟩ | ⟨j, am, v, _, _, _, h4⟩
        · exact Nat.lt_of_lt_of_le (hg.Fsz i b h1) hd.ext.size
        · exact hd.Fsz j b h4
      · have cross : ∀ i' j', g.F i' b → (∀ j, ¬ F j b) → g2.F j' b → False := by
          intro i' j' h1 h2 h3
          rcases hF2 j' b h3 with ⟨j'', h5⟩ | h5
          · exact h2 j'' h5
          · have := hg.Fsz i' b h1; omega
        rcases FnOld i o' b hi hF with ⟨h1, h2⟩ | ⟨j, am, v, h1, h2, h3, h4⟩ <;> rcases FnOld k o2 b hk hF' with ⟨h5, h6⟩ | ⟨j', am', v', h5, h6, h7, h8⟩
        · exact hki (hg.has_one (.inr h5) (.inr h1))
        · exact cross i j' h1 h2 h8
        · exact cross k j h5 h6 h4
        · by_cases hjj : j = j'
          · subst hjj
            rw [h1] at h5; cases h5
            rw [h2] at h6; cases h6
            rw [h3] at h7; cases h7
            exact hki rfl
          · exact hd.FF j j' b hjj h4 h8)
    (fun i r hi => by
      obtain ⟨o, h1, h2⟩ := hfam i r hi
      exact ⟨o, h1, fun o' h3 => (h2 o' h3).1⟩)
  refine ⟨_, hI, fun i hi h0 => ?_, fun r F' cs' u hr hrep => ?_, fun i b hi hF => ?_⟩
  · cases hl : look outs i with
    | none => exact hi hl
    | some r =>
      obtain ⟨o, h1⟩ := tobj i (hlk i r hl).1
      rw [h0] at h1
      cases h1
  · show RetRep Sn w2 F' cs' r u
    by_cases hl : lent ams vs = []
    · have : Sn = g2.S := by funext b; simp only [Sn, if_pos hl]
      rw [this]; exact hrep
    · rcases hfull with h | ⟨h, _⟩
      · exact absurd h hl
      · have hf := List.all_eq_true.1 h r hr
        cases r with
        | ro K x => exact ⟨hrep.1, hrep.2.1.flat hf, hrep.2.2⟩
        | own K m x => exact ⟨Own.full hf hrep.1, hrep.2⟩
  · refine ⟨hd.Fsz i b hF, fun hS => hd.FS i b hF (SnS b hS), fun k hk => ?_, ?_⟩
    · rcases hk with ⟨off, hk⟩ | hk
      · simp only [Gh.called] at hk
        have hp : g.pl k = some (b, off) := by
          split at hk
          · cases hk
          · exact hk
        rcases hF2 i b hF with ⟨j, h5⟩ | h5
        · obtain ⟨id, am, v, k1, k2, k3, k4⟩ := atF j b h5
          exact (hg.plz k b off hp).2.2.1 id k4
        · have := (hg.plz k b off hp).1; omega
      · simp only [Gh.called] at hk
        split at hk
        · rename_i o' hl
          rcases FnOld k o' b hl hk with ⟨h1, h2⟩ | ⟨j, am, v, h1, _, _, h4⟩
          · rcases hF2 i b hF with ⟨j, h5⟩ | h5
            · exact h2 j h5
            · have := hg.Fsz k b h1; omega
          · have : i ≠ j := by have := jlen h1; omega
            exact hd.FF i j b this hF h4
        · exact hk
        · rename_i hl
          rcases hF2 i b hF with ⟨j, h5⟩ | h5
          · obtain ⟨id, am, v, k1, k2, k3, k4⟩ := atF j b h5
            have := hg.has_one (.inr hk) (.inr k4)
            subst this
            exact hno k hl (taken_at k1 k2 k3)
          · have := hg.Fsz k b hk; omega
    · rcases hF2 i b hF with ⟨j, h5⟩ | h5
      · obtain ⟨id, am, v, _, _, _, k4⟩ := atF j b h5
        exact hg.Fb id b k4
      · have : B.w0.heap.size ≤ w.heap.size := hg.ext.size
        exact .inr (by omega)

end Go.Abs

namespace Go.Abs
variable {B : Base}

theorem entry_of {c : Ctx} {nt : Nat} {e : Env} {a : Act} {w : World} {g : Gh} (hg : InvG c.P B nt e a w g) {ams : List AM} {xs : List Operand} {vs : List View} {args : List Arg} {caps : List KV} {cv : List Value} {F : Nat → Nat → Prop} {pl : Nat → Place} {cs : Nat → List Value}
    (hvs : xs.map (fun x => e.view (e.opd x)) = vs) (hl1 : args.length = xs.length) (hl2 : ams.length = xs.length) (hrest : ∀ j, args.length ≤ j → (∀ b, ¬ F j b) ∧ pl j = none)
    (hlink : ∀ (j : Nat) (am : AM) (v : View) (arg : Arg) (x : Operand), ams[j]? = some am → vs[j]? = some v → args[j]? = some arg → xs[j]? = some x → Link1 c.P (lent ams vs) w g e.obj (F j) (pl j) (cs j) am v arg (a.eval x))
    (hnd : (taken ams vs).Nodup) (hdis : ∀ i, i ∈ lent ams vs → i ∉ taken ams vs) (hcap : CapsRep g.S w caps cv) :
    Entry c.P w (args ++ rpArgs caps) (xs.map a.eval ++ cv) ⟨g.lend (lent ams vs), F, pl, cs⟩ := by
  have hxl : vs.length = xs.length := by rw [← hvs]; simp
  have at_ : ∀ j, j < xs.length → ∃ am v arg x, ams[j]? = some am ∧ vs[j]? = some v ∧ args[j]? = some arg ∧ xs[j]? = some x := fun j hj =>
    ⟨ams[j]'(by omega), vs[j]'(by omega), args[j]'(by omega), xs[j], by simp, by simp, by simp, by simp⟩
  have atF : ∀ j b, F j b → ∃ id am v, ams[j]? = some am ∧ vs[j]? = some v ∧ takenAt am v = some id ∧ g.F id b := by
    intro j b hF
    by_cases hj : j < xs.length
    · obtain ⟨am, v, arg, x, a1, a2, a3, a4⟩ := at_ j hj
      obtain ⟨id, h1, h2⟩ := (hlink j am v arg x a1 a2 a3 a4).sub b hF
      exact ⟨id, am, v, a1, a2, h1, h2⟩
    · exact absurd hF ((hrest j (by omega)).1 b)
  have atP : ∀ j b off, pl j = some (b, off) → ∃ id am v, ams[j]? = some am ∧ vs[j]? = some v ∧ takenAt am v = some id ∧ g.has id b ∧ ¬ F j b := by
    intro j b off hp
    by_cases hj : j < xs.length
    · obtain ⟨am, v, arg, x, a1, a2, a3, a4⟩ := at_ j hj
      obtain ⟨⟨id, h1, h2⟩, h3⟩ := (hlink j am v arg x a1 a2 a3 a4).place b off hp
      exact ⟨id, am, v, a1, a2, h1, h2, h3⟩
    · rw [(hrest j (by omega)).2] at hp; cases hp
  have same : ∀ (j j' id id' b : Nat) (am am' : AM) (v v' : View), ams[j]? = some am → vs[j]? = some v → takenAt am v = some id → g.has id b → ams[j']? = some am' → vs[j']? = some v' → takenAt am' v' = some id' → g.has id' b → j = j' := by
    intro j j' id id' b am am' v v' h1 h2 h3 h4 h5 h6 h7 h8
    have := hg.has_one h4 h8
    subst this
    exact taken_ne hnd h1 h2 h3 h5 h6 h7
  have noL : ∀ (j b : Nat) (am : AM) (v : View) (id : Nat), ams[j]? = some am → vs[j]? = some v → takenAt am v = some id → g.has id b → ¬ g.lend (lent ams vs) b := by
    rintro j b am v id h1 h2 h3 h4 (h5 | ⟨i, h5, h6⟩)
    · exact (hg.has_lt h4).2 h5
    · have := hg.has_one h4 h6
      subst this
      exact hdis id h5 (taken_at h1 h2 h3)
  have hc := (ROArgs.caps (P := c.P) (hcap.mono (S' := g.lend (lent ams vs)) (w' := w) (fun b hb => .inl hb) (fun _ _ _ _ h => h))).at_
  refine ⟨by simp [hl1, hc.1], fun j arg v h1 h2 => ?_, fun j hj => hrest j (by rw [List.length_append] at hj; omega), ?_, ?_, ?_, ?_, ?_, hg.globw.mono (fun b hb => .inl hb) (fun _ _ => rfl)⟩
  · by_cases hj : j < args.length
    · rw [List.getElem?_append_left hj] at h1
      rw [List.getElem?_append_left (by simp; omega)] at h2
      simp only [List.getElem?_map, Option.map_eq_some_iff] at h2
      obtain ⟨x, h3, rfl⟩ := h2
      obtain ⟨am, v, _, _, a1, a2, _, _⟩ := at_ j (by omega)
      exact (hlink j am v arg x a1 a2 h1 h3).link.rep (fun b hb => .inl hb)
    · rw [List.getElem?_append_right (by omega)] at h1
      rw [List.getElem?_append_right (by simp; omega)] at h2
      have e1 : (xs.map a.eval).length = args.length := by simp [hl1]
      rw [e1] at h2
      obtain ⟨k1, k2⟩ := hc.2 _ arg v h1 h2
      obtain ⟨r1, r2⟩ := hrest j (by omega)
      have eF : F j = fun _ => False := by funext b; exact propext ⟨fun h => r1 b h, fun h => h.elim⟩
      show ArgRep c.P (g.lend (lent ams vs)) w (F j) (pl j) (cs j) arg v
      cases arg with
      | ro K x => exact ⟨r1, r2, k1.2.2⟩
      | rp K x => exact ⟨r1, r2, k1.2.2⟩
      | fn Ks Kr f => exact ⟨r1, r2, k1.2.2⟩
      | mp K m x => simp [Arg.size] at k2; have := K.size_pos; omega
      | ms K m x =>
        have : ∀ (l : List KV) (i : Nat), (rpArgs l)[i]? ≠ some (.ms K m x) := by
          intro l i h
          simp only [rpArgs, List.getElem?_map, Option.map_eq_some_iff] at h
          obtain ⟨_, _, h⟩ := h
          cases h
        exact absurd h1 (this _ _)
      | mv K m x =>
        have : ∀ (l : List KV) (i : Nat), (rpArgs l)[i]? ≠ some (.mv K m x) := by
          intro l i h
          simp only [rpArgs, List.getElem?_map, Option.map_eq_some_iff] at h
          obtain ⟨_, _, h⟩ := h
          cases h
        exact absurd h1 (this _ _)
  · rintro b (hb | ⟨i, _, hb⟩)
    · exact hg.Ssz b hb
    · exact (hg.has_lt hb).1
  · intro j b hF
    obtain ⟨id, am, v, _, _, _, h4⟩ := atF j b hF
    exact hg.Fsz id b h4
  · intro j b hF
    obtain ⟨id, am, v, h1, h2, h3, h4⟩ := atF j b hF
    exact noL j b am v id h1 h2 h3 (.inr h4)
  · intro i j b hne hF hF'
    obtain ⟨id, am, v, h1, h2, h3, h4⟩ := atF i b hF
    obtain ⟨id', am', v', h5, h6, h7, h8⟩ := atF j b hF'
    exact hne (same i j id id' b am am' v v' h1 h2 h3 (.inr h4) h5 h6 h7 (.inr h8))
  · intro i b off hp
    obtain ⟨id, am, v, h1, h2, h3, h4, h5⟩ := atP i b off hp
    refine ⟨(hg.has_lt h4).1, noL i b am v id h1 h2 h3 h4, fun j hF => ?_, fun j off' hp' => ?_⟩
    · obtain ⟨id', am', v', k5, k6, k7, k8⟩ := atF j b hF
      have := same i j id id' b am am' v v' h1 h2 h3 h4 k5 k6 k7 (.inr k8)
      subst this
      exact h5 hF
    · obtain ⟨id', am', v', k5, k6, k7, k8, _⟩ := atP j b off' hp'
      exact same i j id id' b am am' v v' h1 h2 h3 h4 k5 k6 k7 k8

section
variable {c : Ctx} {nt : Nat} {o : Oper} {Ω : Type} {k : Delta → Option Ω} {out : Ω} {fr : Bool}

theorem put_none (a : Act) (v : Value) : a.put none v = a := rfl

theorem rets_in {w : World} {g : Gh} {n : Nat} {l : List RV} {v : Value} (h : RetsRep w g n l v) (h2 : 2 ≤ l.length) : ∃ vs : Array Value, v = .tuple vs ∧ vs.size = l.length ∧ ∀ i r u, l[i]? = some r → vs[i]? = some u → RetRep g.S w (g.F (n + i)) (g.cs (n + i)) r u := by
  cases l with
  | nil => simp at h2
  | cons r l =>
    cases l with
    | nil => simp at h2
    | cons r2 l => exact h

/-- The results go into their slots. -/
theorem rets_ok {outs : List (Nat × Option Obj)} {mds : List (Nat × Md)} {rets : List RV} (hk : retsOf nt mds o.dst fr outs rets k = some out) :
    ∃ d, k d = some out ∧ (∀ e : Env, fresh e o.dst = fr → ∀ a w2 g1 g2 n v, InvG c.P B nt ⟨e.slots, outs ++ e.objs⟩ a w2 g1 → (∀ i, look outs i ≠ none → e.obj i ≠ none) →
      RetsRep w2 g2 n rets v → (∀ (r : RV) (F : Nat → Prop) (cs : List Value) (u : Value), r ∈ rets → RetRep g2.S w2 F cs r u → RetRep g1.S w2 F cs r u) → (∀ i b, n ≤ i → g2.F i b → Free B w2 g1 b) →
      (∀ i j b, i ≠ j → g2.F i b → ¬ g2.F j b) → ∃ g', InvG c.P B nt (e.apply d) (a.put o.dst v) w2 g') := by
  have hfreshd : ∀ (e : Env) (d i : Nat) (g1 : Gh), fresh e (some d) = true → (∀ i, look outs i ≠ none → e.obj i ≠ none) → (i = d ∨ ∃ k, k < 4 ∧ i = sub d k) → (Env.mk e.slots (outs ++ e.objs)).obj i = none := by
    intro e d i g1 hf ho hi
    simp only [fresh, Bool.and_eq_true] at hf
    have h0 : e.obj i = none := by
      rcases hi with rfl | ⟨k, hk, rfl⟩
      · simpa using hf.1.1.1.1
      · match k, hk with
        | 0, _ => simpa using hf.1.1.1.2
        | 1, _ => simpa using hf.1.1.2
        | 2, _ => simpa using hf.1.2
        | 3, _ => simpa using hf.2
    show look (outs ++ e.objs) i = none
    rw [look_app]
    cases hl : look outs i with
    | some r => exact absurd h0 (ho i (by rw [hl]; simp))
    | none => exact h0
  unfold retsOf at hk
  split at hk
  · rename_i hdst
    split at hk
    · refine ⟨_, hk, fun e _ a w2 g1 g2 n v hI _ _ _ _ _ => ⟨g1, ?_⟩⟩
      rw [hdst, put_none]
      exact hI
    · cases hk
  · rename_i d hdst
    split at hk
    · rename_i hc
      rw [Bool.and_eq_true] at hc
      have hlt : d < nt := Nat.le_of_ble_eq_true hc.1
      split at hk
      · refine ⟨_, hk, fun e _ a w2 g1 g2 n v hI _ _ _ _ _ => ⟨g1, ?_⟩⟩
        rw [hdst]
        exact hI.put hlt (s := .dead) trivial
      · rename_i r
        refine ⟨_, hk, fun e hfr a w2 g1 g2 n v hI ho hr hconv hfree hFF => ?_⟩
        rw [hdst] at hfr
        obtain ⟨g', k1, k2, k3, _⟩ := ret_one hI mds (hfreshd e d d g1 (hfr.trans hc.2) ho (.inl rfl)) (hconv r _ _ _ (by simp) hr) (fun b hb => hfree n b (Nat.le_refl _) hb)
        refine ⟨g', ?_⟩
        rw [hdst]
        have := k1.put hlt (s := (retSlot mds d r).1) (v := v) ((SlotRep.iff0 k3).2 k2)
        simpa only [Env.apply, Env.put, List.append_assoc, List.singleton_append] using this
      · rename_i l hne1 hne2
        split at hk
        · rename_i hl4
          have hl4 := Nat.le_of_ble_eq_true hl4
          refine ⟨_, hk, fun e hfr a w2 g1 g2 n v hI ho hr hconv hfree hFF => ?_⟩
          rw [hdst] at hfr
          have h2 : 2 ≤ rets.length := by
            cases rets with
            | nil => exact absurd rfl hne1
            | cons r l => cases l with
              | nil => exact absurd rfl (hne2 r)
              | cons r2 l => simp
          obtain ⟨vs, rfl, hsz, hvs⟩ := rets_in hr h2
          obtain ⟨g', k1, k2, _⟩ := ret_many mds rets 0 hI vs.toList (fun i => g2.F (n + i)) (fun i => g2.cs (n + i)) (by simpa using hsz) (fun i r u h3 h4 => hconv r _ _ _ (List.mem_of_getElem? h3) (hvs i r u h3 (by simpa using h4)))
            (fun i hi => by rw [Nat.zero_add]; exact hfreshd e d _ g1 (hfr.trans hc.2) ho (.inr ⟨i, by omega, rfl⟩)) (fun i b hb => hfree _ b (by omega) hb) (fun i j b hne => hFF _ _ b (by omega))
          refine ⟨g', ?_⟩
          rw [hdst]
          have := k1.put hlt (s := .tup (retSlots mds d 0 rets).1) (v := .tuple vs) ⟨vs, rfl, k2⟩
          simpa only [Env.apply, Env.put, List.append_assoc, List.singleton_append] using this
        · cases hk
    · cases hk

theorem callK_ok (hM : MOk c) {mds : List (Nat × Md)} {f : Nat} {ts : List Nat} {vs V : List View} {caps : List KV} (hk : callK c nt mds o.dst fr f ts vs caps k = some out)
    (hexec : ∀ e : Env, e.views o = V → ∀ a w g, InvG c.P B nt e a w g → ∃ (xs : List Operand) (cv : List Value), xs.map (fun x => e.view (e.opd x)) = vs ∧ CapsRep g.S w caps cv ∧ (execOp a.eval o).run c.P w = .ok (.enter f (xs.map a.eval ++ cv).toArray) w) :
    Step1 c B nt o V fr k out := by
  unfold callK at hk
  split at hk
  · cases hk
  · rename_i l hsg
    simp only at hk
    split at hk
    · cases hk
    · rename_i args hargs
      split at hk
      · rename_i hcond
        simp only [Bool.and_eq_true] at hcond
        obtain ⟨res, hres, hans⟩ := hM.ans f l hsg _ _ _ _ hk
        split at hres
        · rename_i hfull
          split at hres
          · cases hres
          · rename_i outs houts
            generalize hams : l.take vs.length = ams at *
            have hnd := nodup_ok hcond.1.1
            have hdis : ∀ i, i ∈ lent ams vs → i ∉ taken ams vs := by
              intro i hi ht
              have := List.all_eq_true.1 hcond.1.2 i hi
              simp at this
              exact this i ht rfl
            obtain ⟨d, hd, hret⟩ := rets_ok (c := c) (B := B) hres
            refine ⟨d, hd, fun e he a w ⟨g, hg⟩ next Q hn => ?_⟩
            obtain ⟨xs, cv, hvs, hcap, hrun⟩ := hexec e he.1 a w g hg
            obtain ⟨hl1, hl2, F, pl, cs, hrest, hlink⟩ := links hM hg ts ams xs vs args hvs hargs (L := lent ams vs) (fun i hi => hi)
            have hE := entry_of hg hvs hl1 hl2 hrest hlink hnd hdis hcap
            unfold Oper.wp
            rw [hrun, Oper.upon_enter]
            refine (hans w _ _ hE).mono ?_
            rintro ee w2 ⟨v, g2, rfl, hdone⟩
            obtain ⟨g1, hI, hlo, hconv, hfree⟩ := called hg hvs hl1 hl2 hrest hlink hnd hdis hdone (by
              rw [Bool.or_eq_true, Bool.and_eq_true] at hfull
              rcases hfull with h | h
              · exact .inl (List.isEmpty_iff.1 h)
              · exact .inr h) houts
            obtain ⟨g', hI'⟩ := hret e he.2 a w2 g1 g2 _ v hI hlo hdone.rets hconv (fun i b hi hF => hfree i b (by rw [List.length_append] at hi; omega) hF) hdone.FF
            exact hn _ _ ⟨g', hI'⟩
        · cases hres
      · cases hk

end
end Go.Abs

namespace Go.Abs
variable {B : Base}
theorem map_toList {α β : Type} (f : α → β) (l : Array α) : (l.toList.map f).toArray = l.map f := by apply Array.ext'; simp

section
variable {c : Ctx} {nt : Nat} {o : Oper} {Ω : Type} {k : Delta → Option Ω} {out : Ω} {fr : Bool}

theorem exec_enter {P : Program} {f : Nat} {fn : Func} {a : Act} {w : World} {x : Operand} {as : Array Operand} {ts : Array Nat} {cv : Array Value} (hf : P.funcs[f]? = some fn) (hn : fn.name ≠ "runtime.NumGoroutine") (hb : fn.body.isNone = false)
    (ho : o.op = .call { callee := .value x, args := as, argTypes := ts }) (hx : a.eval x = .func (.func f) #[] cv) : (execOp a.eval o).run P w = .ok (.enter f (as.map a.eval ++ cv)) w := by
  have hn' : (fn.name == "runtime.NumGoroutine") = false := by simpa using hn
  simp only [execOp, ho, resolve, hx, Deferred.ofValue, Sem.run_bind, Sem.run_pure, Result.andThen_ok, invoke, callFunc, run_program, hf, hn', hb, Array.empty_append]
  rfl

theorem ok_call {mds : List (Nat × Md)} {f : Nat} {x : Operand} {as : Array Operand} {ts : Array Nat} {v : View} {vs : List View} {caps : List KV} (hM : MOk c) (ho : o.op = .call { callee := .value x, args := as, argTypes := ts })
    (hx : (x = .func f ∧ caps = []) ∨ ∃ q, v = (.fv f caps, q)) (hk : callK c nt mds o.dst fr f ts.toList vs caps k = some out) : Step1 c B nt o (v :: vs) fr k out := by
  have hsg : ∃ l, c.sg f = some l := by
    unfold callK at hk
    split at hk
    · cases hk
    · exact ⟨_, by assumption⟩
  obtain ⟨l, hsg⟩ := hsg
  obtain ⟨fn, b1, b2, b3⟩ := hM.body f l hsg
  refine callK_ok hM hk fun e he a w g hg => ?_
  have hops : o.op.operands = #[x] ++ as := by rw [ho]; simp [Op.operands, Call.operands]
  simp only [Env.views, Oper.opds, hops, Array.toList_append, List.map_append, List.map_cons, List.map_nil, List.singleton_append, List.cons.injEq] at he
  obtain ⟨e1, e2⟩ := he
  rcases hx with ⟨rfl, rfl⟩ | ⟨q, rfl⟩
  · refine ⟨as.toList, [], e2, rfl, ?_⟩
    rw [exec_enter (cv := #[]) b1 b2 b3 ho rfl]
    simp [map_toList]
  · obtain ⟨cv, h1, h2⟩ := view_rep hg e1
    refine ⟨as.toList, cv.toList, e2, h2, ?_⟩
    rw [exec_enter (cv := cv) b1 b2 b3 ho h1]
    simp

theorem kvs_ts {P : Program} {e : Env} {a : Act} {w : World} {g : Gh} (hg : InvG P B nt e a w g) : ∀ {xs : List Operand} {vs : List View} {l : List KV} {Ks : List Kd} {r : Kd.Ts Ks}, xs.map (fun x => e.view (e.opd x)) = vs → kvs vs = some l → mkTs Ks l = some r → TsRep g.S w Ks r (xs.map a.eval)
  | [], vs, l, Ks, r, hv, hk, hm => by
    rw [List.map_nil] at hv
    subst hv
    simp only [kvs, Option.some.injEq] at hk
    subst hk
    cases Ks with
    | nil => rfl
    | cons _ _ => simp [mkTs] at hm
  | x :: xs, vs, l, Ks, r, hv, hk, hm => by
    cases vs with
    | nil => cases hv
    | cons v vs =>
      simp only [List.map_cons, List.cons.injEq] at hv
      unfold kvs at hk
      split at hk
      · rename_i K z q l' h2
        cases hk
        cases Ks with
        | nil => simp [mkTs] at hm
        | cons K0 Ks =>
          unfold mkTs at hm
          split at hm
          · rename_i hb
            have := Kd.eq_of_beq hb
            subst this
            split at hm
            · rename_i r' hr'
              cases hm
              obtain ⟨cs, h3, h4⟩ := view_rep hg hv.1
              exact ⟨_, _, cs, rfl, h3, h4, kvs_ts hg hv.2 h2 hr'⟩
            · cases hm
          · cases hm
      · cases hk

theorem ok_clo {Ks : List Kd} {Kr : Kd} {f : Kd.Ts Ks → Option Kr.T} {x : Operand} {as : Array Operand} {ts : Array Nat} {q : Option Obj} {vs : List View} (ho : o.op = .call { callee := .value x, args := as, argTypes := ts })
    (hk : cloK nt o.dst Ks Kr f vs k = some out) : Step1 c B nt o ((.clo Ks Kr f, q) :: vs) fr k out := by
  unfold cloK at hk
  split at hk
  · cases hk
  · rename_i l hl
    split at hk
    · cases hk
    · rename_i r hr
      cases hf : f r with
      | none => rw [hf] at hk; cases hk
      | some y =>
        rw [hf] at hk
        have hk : put1 nt o.dst (.v Kr y) k = some out := hk
        have key : ∀ e : Env, (e.views o = (.clo Ks Kr f, q) :: vs ∧ fresh e o.dst = fr) → ∀ a w g, InvG c.P B nt e a w g → ∀ (next : Act → World → Prop) (Q : Exit → Act → World → Prop),
            (∀ v w' g', InvG c.P B nt e a w' g' → SlotRep c.P g' w' e.obj (.v Kr y) v → next (a.put o.dst v) w') → o.wp c.P a w next Q := by
          intro e he a w g hg next Q hn
          have hops : o.op.operands = #[x] ++ as := by rw [ho]; simp [Op.operands, Call.operands]
          have he1 := he.1
          simp only [Env.views, Oper.opds, hops, Array.toList_append, List.map_append, List.map_cons, List.map_nil, List.singleton_append, List.cons.injEq] at he1
          obtain ⟨e1, e2⟩ := he1
          obtain ⟨fid, cv, h1, ⟨fn, b1, b2, b3⟩, hcall⟩ := view_rep hg e1
          unfold Oper.wp
          rw [exec_enter (cv := cv) b1 b2 b3 ho h1, Oper.upon_enter]
          have hts := kvs_ts hg e2 hl hr
          have := hcall g.S w (fun _ h => h) hg.Ssz (fun _ _ _ _ h => h) hg.globw r y _ hf hts
          have e3 : as.map a.eval ++ cv = ((as.toList.map a.eval).toArray ++ cv) := by rw [map_toList]
          rw [e3]
          refine this.mono ?_
          rintro ee w2 ⟨v, rfl, hx, S', s1, s2, s3, cs, s4, s5⟩
          have hI := hg.grow hx
          refine hn v w2 _ hI ⟨cs, s4.mono (fun b hb => ?_) (fun _ _ _ _ h => h), s5⟩
          rcases s2 b hb with h | h
          · exact .inl h
          · exact .inr ⟨h, s3 b hb⟩
        unfold put1 at hk
        split at hk
        · rename_i hd
          refine ⟨_, hk, fun e he a w ⟨g, hg⟩ next Q hn => key e he a w g hg next Q fun v w' g' hI _ => ?_⟩
          rw [hd]
          exact hn _ _ ⟨g', hI⟩
        · rename_i d hd
          split at hk
          · rename_i hlt
            refine ⟨_, hk, fun e he a w ⟨g, hg⟩ next Q hn => key e he a w g hg next Q fun v w' g' hI hs => ?_⟩
            rw [hd]
            exact hn _ _ ⟨g', hI.put (Nat.le_of_ble_eq_true hlt) hs⟩
          · cases hk

end
end Go.Abs

namespace Go.Abs
variable {B : Base}
section
variable {c : Ctx} {nt : Nat} {o : Oper} {Ω : Type} {k : Delta → Option Ω} {out : Ω} {fr : Bool}

/-- A struct parameter that may be written through is put into a variable. -/
theorem ok_box_par {t id n d : Nat} {x : Operand} {ob : Obj} (hc : CtxOk c) (ho : o.op = .box t x) (hd : o.dst = some d) (hlt : Nat.blt d nt = true) (ht : (tyIs c t ob.K && noHole ob && okAl ob n [] && ob.par && !ob.box && stK ob.K) = true)
    (hk : k ⟨[(d, .pt id (ob.log.length + 1) [.inn])], [(id, some ⟨.st ob.K, ob.m, ob.x, true, true, none :: ob.log, none⟩)]⟩ = some out) : Step1 c B nt o [(.al id n [], some ob)] fr k out := by
  simp only [Bool.and_eq_true] at ht
  obtain ⟨⟨⟨⟨⟨h1, h2⟩, h3⟩, h4⟩, h5⟩, h6⟩ := ht
  have hbx : ob.box = false := by simpa using h5
  obtain ⟨kk, hKk⟩ : ∃ kk, ob.K = .st kk := by
    cases hK : ob.K with
    | st kk => exact ⟨kk, rfl⟩
    | _ => rw [hK] at h6; cases h6
  refine ⟨_, hk, fun e he => stepOk_value hd (Nat.le_of_ble_eq_true hlt) fun a w g hg => ?_⟩
  obtain ⟨r1, r2, r3⟩ := al_root hg (views_one he.1 (x := x) (by rw [ho]; rfl)) h2 h3
  obtain ⟨n1, n2⟩ := new_cells w (a.eval x).cells t
  have hx := Ext.alloc w (.cells (a.eval x).cells t) (fun _ _ => False)
  have O := hg.objs id ob r1
  have hpl : g.pl id = none := by
    have := O.box
    cases hq : g.pl id with
    | none => rfl
    | some q => rw [hq, hbx] at this; cases this
  have hpar : (B.hd id).1 = none ∧ g.cs id = (B.hd id).2 := by
    have := O.par h4
    unfold ParOk at this
    rw [hbx, Bool.false_and, if_neg (by simp)] at this
    exact ⟨by rw [← this.1, hpl], this.2 rfl⟩
  let ob' : Obj := ⟨.st ob.K, ob.m, ob.x, true, true, none :: ob.log, none⟩
  let g' : Gh := { g with pl := fun i => if i = id then some (w.heap.size, 0) else g.pl i }
  have hobj : ∀ i, (Env.mk e.slots ([(id, some ob')] ++ e.objs)).obj i = if i = id then some (some ob') else e.obj i := by
    intro i
    show look ((id, some ob') :: e.objs) i = _
    by_cases hi : i = id
    · subst hi; rw [look_cons_self, if_pos rfl]
    · rw [look_cons_ne (fun e => hi e.symm), if_neg hi]; rfl
  have eobj : (Env.mk e.slots ([(id, some ob')] ++ e.objs)).obj id = some (some ob') := by rw [hobj, if_pos rfl]
  have gp : g'.pl id = some (w.heap.size, 0) := if_pos rfl
  have gne : ∀ i, i ≠ id → g'.pl i = g.pl i := fun i hi => if_neg hi
  refine ⟨.pointer (some ⟨w.heap.size, 0, none⟩), w.alloc (.cells (a.eval x).cells t), g', ?_, ?_, ?_⟩
  · simp only [execOp, ho, Instr.box, Sem.run_bind, newVar, newRow, run_newObj, Result.andThen_ok, Sem.run_pure]
    rfl
  · refine hg.change (fun i => i = id) rfl (hg.ext.step hx (fun _ _ _ h => h.elim)) (fun _ h => h) (fun b o v _ hv => hx.same (fun h => h) hv)
      (fun b hb => Nat.lt_of_lt_of_le (hg.Ssz b hb) hx.size) (fun i b hb => Nat.lt_of_lt_of_le (hg.Fsz i b hb) hx.size) hg.Sb hg.Fb hg.FS hg.FF ?_ ?_ ?_ ?_ ?_ ?_
    · intro i b off hp
      by_cases hi : i = id
      · subst hi
        rw [gp] at hp
        cases hp
        refine ⟨by rw [World.size_alloc]; omega, fun hS => by have := hg.Ssz _ hS; omega, fun j hF => by have := hg.Fsz j _ hF; omega, fun j off' hp' => ?_⟩
        by_cases hj : j = i
        · exact hj.symm
        · rw [gne j hj] at hp'
          have := (hg.plz j _ off' hp').1
          omega
      · rw [gne i hi] at hp
        obtain ⟨a1, a2, a3, a4⟩ := hg.plz i b off hp
        refine ⟨Nat.lt_of_lt_of_le a1 hx.size, a2, a3, fun j off' hp' => ?_⟩
        by_cases hj : j = id
        · subst hj
          rw [gp] at hp'
          cases hp'
          omega
        · exact a4 j off' (by rw [gne j hj] at hp'; exact hp')
    · intro i hi
      exact ⟨by rw [hobj, if_neg hi], rfl, gne i hi, rfl, fun b o hF => hx.cell b o (hg.Fsz i b hF) (fun h => h), fun b off hp o => hx.cell b o (hg.plz i b off hp).1 (fun h => h)⟩
    · rintro i rfl hno
      exact absurd eobj (hno ob')
    · rintro i o' rfl ho'
      rw [eobj] at ho'
      cases ho'
      refine ⟨fun _ => ⟨Own.st.2 (r3.ext hx (fun b hb => hg.Fsz i b hb)), ?_⟩, (fun p hp => by cases hp), by rw [gp]; rfl, fun _ => ?_, fun b off hp => ?_⟩
      · rw [gp]
        rw [r2.2] at n1 n2 ⊢
        exact PlOk.mk n1 (fun j hj => (n2 j (by simpa using hj)).2)
      · unfold ParOk
        rw [if_pos (by show (true && fxK (.st ob.K)) = true; rw [hKk]; rfl)]
        exact ⟨fun hn => absurd hpar.1 hn, fun _ => hpar.2⟩
      · rw [gp] at hp
        cases hp
        exact .inl hg.ext.size
    · rintro i rfl n' p' v hs
      have hle := hs.1.2 ob r1
      refine ⟨⟨by rw [eobj]; simp, fun o3 ho3 => by rw [eobj] at ho3; cases ho3; exact Nat.le_trans hle (Nat.le_succ _)⟩, fun o3 ho3 hk3 _ => ?_⟩
      rw [eobj] at ho3
      cases ho3
      unfold okAl at hk3
      simp only [ob', since_cons hle, List.all_cons, Bool.and_eq_true] at hk3
      have hp0 : p' = [] := by
        cases p' with
        | nil => rfl
        | cons s p' => exact absurd hk3.1 (by simp)
      subst hp0
      obtain ⟨q, cs', K', m', x', q1, q2, q3⟩ := hs.2 ob r1 hk3.2 (.inr rfl)
      rw [getP_nil] at q1
      cases q1
      simp only [nav, Option.some.injEq, Prod.mk.injEq] at q2
      refine ⟨g'.pl i, g'.cs i, .st ob.K, ob.m, ob.x, getP_nil _ _ _, by simp only [nav], ?_⟩
      show VRep (.st ob.K) (g.cs i) v
      rw [q2.2]
      have q3' : VRep ob.K cs' v := q3
      rw [hKk] at q3'
      exact ⟨q3'.1, q3'.2⟩
    · rintro i rfl n' p' v hs
      have hle := hs.1.2 ob r1
      refine ⟨⟨by rw [eobj]; simp, fun o3 ho3 => by rw [eobj] at ho3; cases ho3; exact Nat.le_trans hle (Nat.le_succ _)⟩, fun o3 ho3 hk3 _ => ?_⟩
      rw [eobj] at ho3
      cases ho3
      unfold okPt at hk3
      simp only [ob', since_cons hle, List.all_cons, Bool.and_eq_true] at hk3
      have hi : hasIdx p' = false := by simpa using hk3.1
      obtain ⟨b, off, cs', K', m', x', q1, q2, q3⟩ := hs.2 ob r1 hk3.2 (.inl (noHole_ok h2))
      rw [hpl] at q2
      exact absurd (nav_none p' hi q2) (by simp)
  · refine ⟨⟨by rw [eobj]; simp, fun o3 ho3 => by rw [eobj] at ho3; cases ho3; exact Nat.le_refl _⟩, fun o3 ho3 _ _ => ?_⟩
    rw [eobj] at ho3
    cases ho3
    refine ⟨w.heap.size, 0, g.cs id, ob.K, ob.m, ob.x, ?_, ?_, rfl⟩
    · show getP (.st ob.K) ob.m ob.x [.inn] = _
      simp only [getP]
    · show nav _ [.inn] (.st ob.K) (g'.pl id) (g.cs id) = _
      rw [gp]
      simp only [nav]

theorem ok_nil_ro {x : Operand} {e : Kd} {q : Option Obj} (ho : o.op = .assign x) (hk : put1 nt o.dst (.v (.sl e) []) k = some out) : Step1 c B nt o [(.nils, q)] fr k out := by
  refine stepOk_pure hk fun e0 he a w g hg => ?_
  have hr : a.eval x = .slice none 0 0 := view_rep hg (views_one he.1 (x := x) (by rw [ho]; rfl))
  refine ⟨.slice none 0 0, ?_, [.slice none 0 0], ⟨none, 0, rfl, Nat.le_refl _, fun i hi => absurd hi (Nat.not_lt_zero i)⟩, rfl, rfl⟩
  simp only [execOp, ho, hr]
  rfl

theorem sameP_ok : ∀ {q p : Path} {k : Option Ω}, sameP q p k = some out → q = p ∧ k = some out
  | [], [], k, h => ⟨rfl, h⟩
  | .inn :: p, .inn :: q, k, h => by obtain ⟨rfl, h2⟩ := sameP_ok (q := p) (p := q) h; exact ⟨rfl, h2⟩
  | .fst :: p, .fst :: q, k, h => by obtain ⟨rfl, h2⟩ := sameP_ok (q := p) (p := q) h; exact ⟨rfl, h2⟩
  | .snd :: p, .snd :: q, k, h => by obtain ⟨rfl, h2⟩ := sameP_ok (q := p) (p := q) h; exact ⟨rfl, h2⟩
  | .idx i :: p, .idx j :: q, k, h => by
    unfold sameP at h
    split at h
    · rename_i hij
      obtain ⟨rfl, h2⟩ := sameP_ok (q := p) (p := q) h
      exact ⟨by rw [hij], h2⟩
    · cases h
  | [], _ :: _, k, h => by simp [sameP] at h
  | s :: _, [], k, h => by cases s <;> simp [sameP] at h
  | .inn :: _, .fst :: _, _, h | .inn :: _, .snd :: _, _, h | .inn :: _, .idx _ :: _, _, h | .fst :: _, .inn :: _, _, h | .fst :: _, .snd :: _, _, h | .fst :: _, .idx _ :: _, _, h
  | .snd :: _, .inn :: _, _, h | .snd :: _, .fst :: _, _, h | .snd :: _, .idx _ :: _, _, h | .idx _ :: _, .inn :: _, _, h | .idx _ :: _, .fst :: _, _, h | .idx _ :: _, .snd :: _, _, h => by simp [sameP] at h

theorem bnds_ok {lo hi : Option Operand} {bs : List View} {l h : Option Int} (hb : bndsOf lo hi bs = some (l, h)) (n : Nat) : Bnds lo hi bs n (orI l 0) (orI h n) := by
  unfold bndsOf at hb
  split at hb
  · cases hb
    exact ⟨fun _ _ => ⟨.inl ⟨rfl, rfl⟩, .inl ⟨rfl, rfl⟩⟩⟩
  · cases hb
    refine ⟨fun hg hv => ?_⟩
    simp at hv
    exact ⟨.inr ⟨_, congrArg some (rep_int (view_rep hg hv))⟩, .inl ⟨rfl, rfl⟩⟩
  · cases hb
    refine ⟨fun hg hv => ?_⟩
    simp at hv
    exact ⟨.inl ⟨rfl, rfl⟩, .inr ⟨_, congrArg some (rep_int (view_rep hg hv))⟩⟩
  · cases hb
    refine ⟨fun hg hv => ?_⟩
    simp at hv
    exact ⟨.inr ⟨_, congrArg some (rep_int (view_rep hg hv.1))⟩, .inr ⟨_, congrArg some (rep_int (view_rep hg hv.2))⟩⟩
  · cases hb

theorem old_ok {o2 : Obj} {p : Path} {old : Option Obj} (h : oldOf o2 p = some old) : (old = none ∧ o2.box = false ∧ p = [] ∧ o2.par = false) ∨ old = some { o2 with hl := some p } := by
  unfold oldOf at h
  split at h
  · cases h; exact .inr rfl
  · rename_i hb
    split at h
    · split at h
      · cases h
      · rename_i hp
        cases h
        exact .inl ⟨rfl, by simpa using hb, rfl, by simpa using hp⟩
    · cases h; exact .inr rfl

theorem ok_load {x : Operand} {t : Nat} {vs : List View} (hc : CtxOk c) (ho : o.op = .load t x) (h : (match vs with
    | [(.rp K x, _)] => if tyIs c t K = true then put1 nt o.dst (.v K x) k else none
    | [(.pt id n p, some o2)] => if (noHole o2 && okPt o2 n p) = true then (match partSlot id o2 p with
      | some (K, s) => if tyIs c t K = true then put1 nt o.dst s k else none
      | none => none) else none
    | _ => none) = some out) : Step1 c B nt o vs fr k out := by
  split at h
  · split at h
    · exact ok_load_rp hc ho (by assumption) h
    · cases h
  · split at h
    · split at h
      · split at h
        · exact ok_load_pt hc ho (by assumption) (by assumption) (by assumption) h
        · cases h
      · cases h
    · cases h
  · cases h

theorem aop_ok {mds : List (Nat × Md)} {vs : List View} (hc : CtxOk c) (hM : MOk c) (h : aop c nt mds o vs fr k = some out) : Step1 c B nt o vs fr k out := by
  unfold aop at h
  split at h
  · exact ok_move (v := (.nils, _)) (.inl (by assumption)) h
  · exact ok_move (v := (_, _)) (.inl (by assumption)) h
  · -- assign nil
    split at h
    · split at h
      · exact ok_nil_own (by assumption) h
      · cases h
      · exact ok_nil_ro (by assumption) h
    · cases h
  · exact ok_move (v := (_, _)) (.inr (by assumption)) h
  · exact ok_pick (v := (_, _)) (u := (_, _)) (by assumption) h
  · -- alloc
    split at h
    · split at h
      · split at h
        · exact ok_alloc hc (by assumption) (by assumption) (by assumption) h
        · cases h
      · exact ok_alloc hc (by assumption) (by assumption) (by cases ‹Kd› <;> rfl) h
    · cases h
  · split at h
    · exact ok_box_v hc (by assumption) (by assumption) h
    · cases h
  · split at h
    · exact ok_box_al hc (by assumption) (by assumption) h
    · split at h
      · split at h
        · split at h
          · exact ok_box_par hc (by assumption) (by assumption) (by assumption) (by assumption) h
          · cases h
        · cases h
      · cases h
  · -- build
    split at h
    · split at h
      · split at h
        · split at h
          · split at h
            · exact ok_build_own hc (by assumption) (by assumption) (by assumption) (by assumption) (by assumption) h
            · cases h
          · cases h
        · split at h
          · split at h
            · exact ok_build_ro hc (by assumption) (by assumption) (by assumption) (by assumption) (by assumption) h
            · cases h
          · cases h
      · cases h
    · cases h
  · -- buildSlice
    split at h
    · split at h
      · split at h
        · split at h
          · split at h
            · exact ok_buildSlice_own hc (by assumption) (by assumption) (by assumption) (by assumption) (by assumption) h
            · cases h
          · cases h
        · cases h
        · split at h
          · split at h
            · exact ok_buildSlice_ro hc (by assumption) (by assumption) (by assumption) (by assumption) (by assumption) h
            · cases h
          · cases h
      · cases h
    · cases h
  · -- load
    split at h
    · exact ok_load_rp hc (by assumption) (by assumption) h
    · cases h
  · split at h
    · split at h
      · split at h
        · exact ok_load_pt hc (by assumption) (by assumption) (by assumption) (by assumption) h
        · cases h
      · cases h
    · cases h
  · -- store
    split at h
    · split at h
      · split at h
        · split at h
          · split at h
            · split at h
              · cases h
              · exact ok_store hc (by assumption) (by assumption) (by assumption) (by assumption) (by assumption) (by assumption) (by assumption) (by assumption) (by assumption) (.inl (by assumption)) h
              · obtain ⟨rfl, h2⟩ := sameP_ok h
                exact ok_store hc (by assumption) (by assumption) (by assumption) (by assumption) (by assumption) (by assumption) (by assumption) (by assumption) (by assumption) (.inr (by assumption)) h2
            · cases h
          · cases h
        · cases h
      · cases h
    · cases h
  · -- fieldAddr
    split at h
    · split at h
      · rename_i hcond
        rw [Bool.and_eq_true] at hcond
        split at h
        · exact ok_fieldAddr_rp hc (by assumption) (by assumption) hcond.1 (Nat.le_of_ble_eq_true hcond.2) (by assumption) h
        · cases h
      · cases h
    · cases h
  · split at h
    · split at h
      · split at h
        · rename_i hcond
          simp only [Bool.and_eq_true] at hcond
          exact ok_fieldAddr_pt hc (by assumption) (by assumption) (by assumption) hcond.1.1.1 (Nat.le_of_ble_eq_true hcond.1.1.2) hcond.1.2 hcond.2 h
        · cases h
      · cases h
    · cases h
  · split at h
    · split at h
      · rename_i hcond
        rw [Bool.and_eq_true] at hcond
        split at h
        · exact ok_field_v hc (by assumption) (by assumption) hcond.1 (Nat.le_of_ble_eq_true hcond.2) (by assumption) h
        · cases h
      · cases h
    · cases h
  · split at h
    · split at h
      · exact ok_indexAddr_v hc (by assumption) (by assumption) (by assumption) h
      · cases h
    · cases h
  · split at h
    · split at h
      · split at h
        · split at h
          · exact ok_indexAddr_al hc (by assumption) (by assumption) (by assumption) (by assumption) (by assumption) h
          · cases h
        · cases h
      · cases h
    · cases h
  · split at h
    · split at h
      · exact ok_index hc (by assumption) (by assumption) (by assumption) h
      · cases h
    · cases h
  · -- slice
    split at h
    · rename_i K x hrd
      split at h
      · rename_i hty
        split at h
        · cases h
        · rename_i l hh hb
          split at h
          · split at h
            · exact ok_slice_str hc (by assumption) hty hrd (bnds_ok hb _) (by assumption) h
            · cases h
          · split at h
            · cases hrd
              exact ok_slice_ro hc (by assumption) hty (bnds_ok hb _) (by assumption) h
            · cases h
          · split at h
            · split at h
              · split at h
                · rename_i id n o2 hpb _ m hm hbd
                  simp only [rdv] at hrd
                  split at hrd
                  · rename_i hcond
                    rw [Bool.and_eq_true] at hcond
                    rw [getP_nil] at hrd
                    cases o2 with
                    | mk K2 m2 x2 b2 p2 l2 h2 =>
                      simp only at hrd hm
                      subst hm
                      cases hrd
                      exact ok_slice_al hc (by assumption) hty (getP_nil _ _ _) hcond.1 hcond.2 hpb (bnds_ok hb _) hbd h
                  · cases hrd
                · cases h
              · cases h
            · cases h
          · cases h
      · cases h
    · cases h
  · -- makeSlice
    split at h
    · split at h
      · split at h
        · split at h
          · split at h
            · exact ok_make_own hc (by assumption) (by assumption) (by assumption) (by assumption) h
            · cases h
          · cases h
          · exact ok_make_ro hc (by assumption) (by assumption) (by assumption) h
        · cases h
      · cases h
    · cases h
  · exact ok_abin hc (by assumption) h
  · exact ok_not (by assumption) h
  · exact ok_neg (by assumption) h
  · split at h
    · exact ok_convert hc (by assumption) ⟨_, by assumption⟩ (by assumption) h
    · cases h
  · split at h
    · exact ok_convert_bytes hc (by assumption) (by assumption) (by assumption) (by assumption) h
    · cases h
  · split at h
    · cases h
    · exact ok_extract (by assumption) (by assumption) (by
        rename_i s hn _
        cases s <;> first | rfl | exact absurd rfl (hn _)) h
    · cases h
  · exact ok_nilCheck (by assumption) (.inl ⟨_, _, rfl⟩) h
  · split at h
    · exact ok_nilCheck (by assumption) (.inr ⟨_, _, _, _, rfl, rfl, by assumption⟩) h
    · cases h
  · -- makeFunc
    split at h
    · split at h
      · split at h
        · split at h
          · exact ok_makeFunc (by assumption) (by assumption) (by assumption) (by assumption) (by assumption) h
          · cases h
        · cases h
      · cases h
    · cases h
  · -- len
    split at h
    · split at h
      · exact ok_len (x := .tmp 0) hc ⟨_, by assumption⟩ (by assumption) (by assumption) (.inl ⟨_, _, rfl, by assumption, rfl⟩) h
      · cases h
    · split at h
      · exact ok_len (x := .tmp 0) hc ⟨_, by assumption⟩ (by assumption) (by assumption) (.inr ⟨_, rfl, by assumption, rfl⟩) h
      · cases h
    · cases h
  · -- append
    split at h
    · rename_i e m xs t t2 hg0 hts
      split at h
      · rename_i hcond
        simp only [Bool.and_eq_true] at hcond
        have hts' := arr_two hts
        split at h
        · cases h
        · rename_i old hold
          split at h
          · split at h
            · rename_i hK
              split at h
              · have := Kd.eq_of_beq hK
                subst this
                dsimp only at h
                split at h
                · exact ok_append_v hc (by rw [← hts']; assumption) hcond.1.1.1 hcond.1.1.2 hg0 hcond.1.2 hcond.2 (old_ok hold) (by assumption) (by assumption) h
                · cases h
              · cases h
            · cases h
          · split at h
            · exact ok_append_nils hc (by rw [← hts']; assumption) hcond.1.1.1 hcond.1.1.2 hg0 hcond.1.2 hcond.2 (old_ok hold) (by assumption) h
            · cases h
          · split at h
            · rename_i o3 hK
              split at h
              · rename_i h3
                dsimp only at h
                split at h
                · rename_i hlen
                  have h3' := h3
                  simp only [Bool.and_eq_true] at h3'
                  have hm3 := Md.eq_of_beq h3'.1.1.1.1
                  cases o3 with
                  | mk K3 m3 x3 b3 p3 l3 hl3 =>
                    have := Kd.eq_of_beq hK
                    simp only at this hm3
                    subst this
                    subst hm3
                    exact ok_append_al hc (by rw [← hts']; assumption) hcond.1.1.1 hcond.1.1.2 hg0 hcond.1.2 hcond.2 (old_ok hold) hlen h3 (getP_nil _ _ _) h
                · cases h
              · cases h
            · cases h
          · cases h
      · cases h
    · cases h
  · exact ok_call hM (by assumption) (.inl ⟨rfl, rfl⟩) h
  · exact ok_call hM (by assumption) (.inr ⟨_, rfl⟩) h
  · exact ok_clo (by assumption) h
  · cases h

end
end Go.Abs

namespace Go.Abs
variable {B : Base}
section
variable {c : Ctx} {nt : Nat} {Ω : Type} {out : Ω}

theorem tmp_bool {P : Program} {e : Env} {a : Act} {w : World} {g : Gh} (hg : InvG P B nt e a w g) {t : Nat} {b : Bool} (h : e.get t = .v .bool b) : a.tmps[t]? = some (.bool b) := by
  have h1 := hg.slots t
  rw [h] at h1
  obtain ⟨cs, h2, h3⟩ := h1
  rw [show cs = [.bool b] from h2] at h3
  have h4 : a.tmps.getD t undef = .bool b := h3.1
  rw [Array.getD_eq_getD_getElem?] at h4
  cases hq : a.tmps[t]? with
  | none => rw [hq] at h4; cases h4
  | some v => rw [hq] at h4; simp only [Option.getD_some] at h4; rw [h4]

theorem tmp_un {P : Program} {e : Env} {a : Act} {w : World} {g : Gh} (hg : InvG P B nt e a w g) {t : Nat} (h : e.get t = .un) : a.tmps[t]? = some undef ∨ a.tmps[t]? = none := by
  have h1 := hg.slots t
  rw [h] at h1
  have h4 : a.tmps.getD t undef = undef := h1
  rw [Array.getD_eq_getD_getElem?] at h4
  cases hq : a.tmps[t]? with
  | none => exact .inr rfl
  | some v => rw [hq] at h4; simp only [Option.getD_some] at h4; rw [h4]; exact .inl rfl

theorem Inv.reslot {P : Program} {e : Env} {a : Act} {w : World} (h : Inv P B nt e a w) {t : Nat} {b : Bool} (ht : e.get t = .v .bool b) : Inv P B nt (e.put t (.v .bool b)) a w := by
  obtain ⟨g, hg⟩ := h
  exact ⟨g, hg.reslot (ht ▸ hg.slots t)⟩

theorem Inv.skip {P : Program} {e : Env} {a : Act} {w : World} (h : Inv P B nt e a w) {d : Nat} (hd : d < nt) : Inv P B nt (e.put d .un) (a.put (some d) undef) w := by
  obtain ⟨g, hg⟩ := h
  exact ⟨g, hg.put hd (s := .un) rfl⟩

/-- What one entry of a region comes to, abstractly. -/
theorem aops_ok (hc : CtxOk c) (hM : MOk c) {mds : List (Nat × Md)} {ops : Array Oper} : ∀ (l : List Nat) (rest : List Oper) (e : Env) (k : Env → Option Ω), l.map (fun i => ops[i]?) = rest.map some → aops c nt mds ops.toList rest e k = some out →
    ∃ e', k e' = some out ∧ ∀ a w, Inv c.P B nt e a w → ∀ Q : Exit → Act → World → Prop, (∀ a' w', Inv c.P B nt e' a' w' → Q .normal a' w') → wpOps c.P ops Q l a w
  | [], rest, e, k, hl, h => by
    cases rest with
    | cons _ _ => simp at hl
    | nil => exact ⟨e, h, fun a w hi Q hQ => hQ a w hi⟩
  | i :: l, rest, e, k, hl, h => by
    cases rest with
    | nil => simp at hl
    | cons o rest =>
      simp only [List.map_cons, List.cons.injEq] at hl
      unfold aops at h
      -- an entry that is run
      have run : ∀ e1 : Env, aopE c nt mds o e1 (fun d => aops c nt mds ops.toList rest (e1.apply d) k) = some out → ∃ e', k e' = some out ∧ ∀ a w, Inv c.P B nt e1 a w → ∀ Q : Exit → Act → World → Prop, (∀ a' w', Inv c.P B nt e' a' w' → Q .normal a' w') →
          o.wp c.P a w (wpOps c.P ops Q l) Q := by
        intro e1 h1
        obtain ⟨d, h2, h3⟩ := aop_ok (B := B) hc hM h1
        obtain ⟨e', h4, h5⟩ := aops_ok hc hM l rest (e1.apply d) k hl.2 h2
        exact ⟨e', h4, fun a w hi Q hQ => h3 e1 ⟨rfl, rfl⟩ a w hi _ _ fun a' w' hi' => h5 a' w' hi' Q hQ⟩
      have skip : ∀ e1 : Env, aops c nt mds ops.toList rest e1 k = some out → ∃ e', k e' = some out ∧ ∀ a w, Inv c.P B nt e1 a w → ∀ Q : Exit → Act → World → Prop, (∀ a' w', Inv c.P B nt e' a' w' → Q .normal a' w') → wpOps c.P ops Q l a w :=
        fun e1 h1 => aops_ok hc hM l rest e1 k hl.2 h1
      split at h
      · rename_i hgd
        obtain ⟨e', h4, h5⟩ := run e h
        refine ⟨e', h4, fun a w hi Q hQ => ?_⟩
        simp only [wpOps, hl.1, Region.wanted, hgd, if_true]
        exact .inl (h5 a w hi Q hQ)
      · rename_i j want hgd
        split at h
        · cases h
        · rename_i t ht
          have hyield : ∀ tmps : Array Value, yielded ops tmps j = match tmps[t]? with | some (.bool b) => some b | _ => none := by
            intro tmps
            have : (ops[j]?).bind (·.dst) = some t := by
              unfold dstAt at ht
              split at ht
              · rename_i o' ho'
                have : ops[j]? = some o' := by simpa using ho'
                rw [this]; exact ht
              · cases ht
            unfold yielded
            rw [this]
            rfl
          split at h
          · rename_i b hb
            split at h
            · rename_i hw
              subst hw
              obtain ⟨e', h4, h5⟩ := run _ h
              refine ⟨e', h4, fun a w hi Q hQ => ?_⟩
              have hy : yielded ops a.tmps j = some b := by obtain ⟨g, hg⟩ := hi; rw [hyield, tmp_bool hg hb]
              simp only [wpOps, hl.1, Region.wanted, hgd, hy, beq_self_eq_true, if_true]
              exact .inl (h5 a w (hi.reslot hb) Q hQ)
            · rename_i hw
              have hnb : (some b == some want) = false := by simp [hw]
              have hbn : b = !want := by cases b <;> cases want <;> simp_all
              split at h
              · rename_i d hd
                split at h
                · rename_i hlt
                  obtain ⟨e', h4, h5⟩ := skip _ h
                  refine ⟨e', h4, fun a w hi Q hQ => ?_⟩
                  have hy : yielded ops a.tmps j = some b := by obtain ⟨g, hg⟩ := hi; rw [hyield, tmp_bool hg hb]
                  simp only [wpOps, hl.1, Region.wanted, hgd, hy, hnb, Bool.false_eq_true, if_false, hd]
                  exact h5 _ _ ((hbn ▸ hi.reslot hb : Inv c.P B nt (e.put t (.v .bool (!want))) a w).skip (Nat.le_of_ble_eq_true hlt)) Q hQ
                · cases h
              · rename_i hd
                obtain ⟨e', h4, h5⟩ := skip _ h
                refine ⟨e', h4, fun a w hi Q hQ => ?_⟩
                have hy : yielded ops a.tmps j = some b := by obtain ⟨g, hg⟩ := hi; rw [hyield, tmp_bool hg hb]
                simp only [wpOps, hl.1, Region.wanted, hgd, hy, hnb, Bool.false_eq_true, if_false, hd, put_none]
                exact h5 _ _ (hbn ▸ hi.reslot hb) Q hQ
          · rename_i hun
            have hy : ∀ {a : Act} {w : World}, Inv c.P B nt e a w → yielded ops a.tmps j = none := by
              rintro a w ⟨g, hg⟩
              rw [hyield]
              rcases tmp_un hg hun with h | h <;> rw [h] <;> rfl
            have hnb : ((none : Option Bool) == some want) = false := rfl
            split at h
            · rename_i d hd
              split at h
              · rename_i hlt
                obtain ⟨e', h4, h5⟩ := skip _ h
                refine ⟨e', h4, fun a w hi Q hQ => ?_⟩
                simp only [wpOps, hl.1, Region.wanted, hgd, hy hi, hnb, Bool.false_eq_true, if_false, hd]
                exact h5 _ _ (hi.skip (Nat.le_of_ble_eq_true hlt)) Q hQ
              · cases h
            · rename_i hd
              obtain ⟨e', h4, h5⟩ := skip _ h
              refine ⟨e', h4, fun a w hi Q hQ => ?_⟩
              simp only [wpOps, hl.1, Region.wanted, hgd, hy hi, hnb, Bool.false_eq_true, if_false, hd, put_none]
              exact h5 _ _ hi Q hQ
          · cases h

theorem range_map {ops : Array Oper} : (List.range ops.size).map (fun i => ops[i]?) = ops.toList.map some := by
  apply List.ext_getElem
  · simp
  · intro i h1 h2
    have h3 : i < ops.size := by simpa using h1
    simp [h3]

end
end Go.Abs

namespace Go.Abs
variable {B : Base}

def Slot.plain : Slot → Bool
  | .al _ _ _ => false
  | .pt _ _ _ => false
  | .tup _ => false
  | .dead => false
  | _ => true

/-- What is kept of a slot: R: which objects got which numbers. -/
def Kept (e : Env) (R : List (Nat × Nat)) (ren : List (Nat × Nat)) (s : Nat) (x : Slot) : Prop :=
  (x = e.get s ∧ x.plain = true) ∨
  (∃ id n p o j, e.get s = .al id n p ∧ x = .al j 0 p ∧ e.obj id = some (some o) ∧ o.hl = none ∧ okAl o n p = true ∧ ((id, j) ∈ R ∨ renT ren id = some j)) ∨
  (∃ id n p o j, e.get s = .pt id n p ∧ x = .pt j 0 p ∧ e.obj id = some (some o) ∧ o.hl = none ∧ okPt o n p = true ∧ ((id, j) ∈ R ∨ renT ren id = some j))

def aliasOf (e : Env) (s id : Nat) : Prop := ∃ n p, e.get s = .al id n p ∨ e.get s = .pt id n p

theorem aliasOf_one {e : Env} {s id id' : Nat} (h : aliasOf e s id) (h' : aliasOf e s id') : id = id' := by
  obtain ⟨n, p, h⟩ := h
  obtain ⟨n', p', h'⟩ := h'
  rcases h with h | h <;> rcases h' with h' | h' <;> rw [h] at h' <;> cases h' <;> rfl

theorem join_obj {e : Env} {id : Nat} {o : Obj} (h : (e.obj id).join = some o) : e.obj id = some (some o) := by
  cases hq : e.obj id with
  | none => rw [hq] at h; cases h
  | some r => rw [hq] at h; cases r with
    | none => cases h
    | some o' => cases h; rfl

structure KeepOk (e : Env) (l : List Nat) (ren : List (Nat × Nat)) (z : List (Nat × Slot) × List (Nat × Option Obj)) (R : List (Nat × Nat)) : Prop where
  objs : ∀ j r, (j, r) ∈ z.2 → ∃ id o, (id, j) ∈ R ∧ e.obj id = some (some o) ∧ r = some { o with log := [] }
  back : ∀ q, q ∈ R → ∃ o, (q.2, some { o with log := [] }) ∈ z.2 ∧ e.obj q.1 = some (some o) ∧ o.hl = none ∧ (o.par = true → q.2 = q.1) ∧ renT ren q.1 = none ∧ aliasOf e q.2 q.1
  ids : ∀ q q', q ∈ R → q' ∈ R → q.1 = q'.1 → q = q'
  slots : ∀ s x, (s, x) ∈ z.1 → Kept e R ren s x

theorem KeepOk.id_ {e : Env} {l : List Nat} {s : Nat} {ren : List (Nat × Nat)} {z : List (Nat × Slot) × List (Nat × Option Obj)} {R : List (Nat × Nat)} (h : KeepOk e l ren z R) : KeepOk e (s :: l) ren z R := ⟨h.objs, h.back, h.ids, h.slots⟩

theorem KeepOk.slot {e : Env} {l : List Nat} {s : Nat} {x : Slot} {ren : List (Nat × Nat)} {z : List (Nat × Slot) × List (Nat × Option Obj)} {R : List (Nat × Nat)} (h : KeepOk e l ren z R) (hk : Kept e R ren s x) :
    KeepOk e (s :: l) ren ((s, x) :: z.1, z.2) R :=
  ⟨h.objs, h.back, h.ids, fun s' x' hm => by
    rcases List.mem_cons.1 hm with hm | hm
    · cases hm; exact hk
    · exact h.slots s' x' hm⟩

theorem KeepOk.new {e : Env} {l : List Nat} {s id : Nat} {x : Slot} {o : Obj} {ren : List (Nat × Nat)} {z : List (Nat × Slot) × List (Nat × Option Obj)} {R : List (Nat × Nat)} (h : KeepOk e l ((id, s) :: ren) z R) (hren : renT ren id = none)
    (ho : e.obj id = some (some o)) (hh : o.hl = none) (hp : o.par = true → s = id) (ha : aliasOf e s id) (hk : Kept e ((id, s) :: R) ren s x) :
    KeepOk e (s :: l) ren ((s, x) :: z.1, (s, some { o with log := [] }) :: z.2) ((id, s) :: R) := by
  have conv : ∀ {i j : Nat}, renT ((id, s) :: ren) i = some j → (i = id ∧ j = s) ∨ renT ren i = some j := by
    intro i j hr
    unfold renT at hr
    split at hr
    · rename_i hb
      cases hr
      exact .inl ⟨(Nat.eq_of_beq_eq_true hb).symm, rfl⟩
    · exact .inr hr
  have convn : ∀ {i : Nat}, renT ((id, s) :: ren) i = none → i ≠ id ∧ renT ren i = none := by
    intro i hr
    unfold renT at hr
    split at hr
    · cases hr
    · rename_i hb
      exact ⟨fun e1 => hb (by subst e1; exact Nat.beq_refl _), hr⟩
  refine ⟨fun j r hm => ?_, fun q hq => ?_, fun q q' hq hq' he => ?_, fun s' x' hm => ?_⟩
  · rcases List.mem_cons.1 hm with hm | hm
    · cases hm; exact ⟨id, o, List.mem_cons_self, ho, rfl⟩
    · obtain ⟨id', o', h1, h2, h3⟩ := h.objs j r hm
      exact ⟨id', o', List.mem_cons_of_mem _ h1, h2, h3⟩
  · rcases List.mem_cons.1 hq with rfl | hq
    · exact ⟨o, List.mem_cons_self, ho, hh, hp, hren, ha⟩
    · obtain ⟨o', h1, h2, h3, h4, h5, h6⟩ := h.back q hq
      exact ⟨o', List.mem_cons_of_mem _ h1, h2, h3, h4, (convn h5).2, h6⟩
  · rcases List.mem_cons.1 hq with rfl | hq <;> rcases List.mem_cons.1 hq' with rfl | hq'
    · rfl
    · obtain ⟨_, _, _, _, _, h5, _⟩ := h.back q' hq'
      exact absurd he.symm (convn h5).1
    · obtain ⟨_, _, _, _, _, h5, _⟩ := h.back q hq
      exact absurd he (convn h5).1
    · exact h.ids q q' hq hq' he
  · rcases List.mem_cons.1 hm with hm | hm
    · cases hm; exact hk
    · rcases h.slots s' x' hm with h1 | ⟨i, n, p, o', j, a1, a2, a3, a4, a5, a6⟩ | ⟨i, n, p, o', j, a1, a2, a3, a4, a5, a6⟩
      · exact .inl h1
      · refine .inr (.inl ⟨i, n, p, o', j, a1, a2, a3, a4, a5, ?_⟩)
        rcases a6 with a6 | a6
        · exact .inl (List.mem_cons_of_mem _ a6)
        · rcases conv a6 with ⟨rfl, rfl⟩ | a6
          · exact .inl List.mem_cons_self
          · exact .inr a6
      · refine .inr (.inr ⟨i, n, p, o', j, a1, a2, a3, a4, a5, ?_⟩)
        rcases a6 with a6 | a6
        · exact .inl (List.mem_cons_of_mem _ a6)
        · rcases conv a6 with ⟨rfl, rfl⟩ | a6
          · exact .inl List.mem_cons_self
          · exact .inr a6

theorem keep_ok (e : Env) : ∀ (l : List Nat) (ren : List (Nat × Nat)), ∃ R, KeepOk e l ren (keep e l ren) R
  | [], ren => ⟨[], fun j r h => by simp [keep] at h, fun q h => by simp at h, fun q q' h => by simp at h, fun s x h => by simp [keep] at h⟩
  | s :: l, ren => by
    unfold keep
    split
    · rename_i id n p hs
      split
      · rename_i o ho
        have ho' := join_obj ho
        split
        · rename_i hc
          rw [Bool.and_eq_true] at hc
          split
          · rename_i j hj
            obtain ⟨R, h⟩ := keep_ok e l ren
            exact ⟨R, h.slot (.inr (.inl ⟨id, n, p, o, j, hs, rfl, ho', noHole_ok hc.1, hc.2, .inr hj⟩))⟩
          · rename_i hj
            split
            · rename_i hp
              obtain ⟨R, h⟩ := keep_ok e l ((id, s) :: ren)
              refine ⟨(id, s) :: R, h.new hj ho' (noHole_ok hc.1) (fun hpar => ?_) ⟨n, p, .inl hs⟩ (.inr (.inl ⟨id, n, p, o, s, hs, rfl, ho', noHole_ok hc.1, hc.2, .inl List.mem_cons_self⟩))⟩
              rw [hpar] at hp
              exact Nat.eq_of_beq_eq_true (by simpa using hp)
            · obtain ⟨R, h⟩ := keep_ok e l ren
              exact ⟨R, h.id_⟩
        · obtain ⟨R, h⟩ := keep_ok e l ren
          exact ⟨R, h.id_⟩
      · obtain ⟨R, h⟩ := keep_ok e l ren
        exact ⟨R, h.id_⟩
    · rename_i id n p hs
      split
      · rename_i o ho
        have ho' := join_obj ho
        split
        · rename_i hc
          rw [Bool.and_eq_true] at hc
          split
          · rename_i j hj
            obtain ⟨R, h⟩ := keep_ok e l ren
            exact ⟨R, h.slot (.inr (.inr ⟨id, n, p, o, j, hs, rfl, ho', noHole_ok hc.1, hc.2, .inr hj⟩))⟩
          · rename_i hj
            split
            · rename_i hp
              obtain ⟨R, h⟩ := keep_ok e l ((id, s) :: ren)
              refine ⟨(id, s) :: R, h.new hj ho' (noHole_ok hc.1) (fun hpar => ?_) ⟨n, p, .inr hs⟩ (.inr (.inr ⟨id, n, p, o, s, hs, rfl, ho', noHole_ok hc.1, hc.2, .inl List.mem_cons_self⟩))⟩
              rw [hpar] at hp
              exact Nat.eq_of_beq_eq_true (by simpa using hp)
            · obtain ⟨R, h⟩ := keep_ok e l ren
              exact ⟨R, h.id_⟩
        · obtain ⟨R, h⟩ := keep_ok e l ren
          exact ⟨R, h.id_⟩
      · obtain ⟨R, h⟩ := keep_ok e l ren
        exact ⟨R, h.id_⟩
    · obtain ⟨R, h⟩ := keep_ok e l ren
      exact ⟨R, h.id_⟩
    · obtain ⟨R, h⟩ := keep_ok e l ren
      exact ⟨R, h.id_⟩
    · rename_i x h1 h2 h3 h4
      obtain ⟨R, h⟩ := keep_ok e l ren
      refine ⟨R, h.slot (.inl ⟨rfl, ?_⟩)⟩
      cases hx : e.get s with
      | al id n p => exact absurd hx (h1 id n p)
      | pt id n p => exact absurd hx (h2 id n p)
      | tup l => exact absurd hx (h3 l)
      | dead => exact absurd hx h4
      | _ => rfl

theorem plain_rep {P : Program} {g g' : Gh} {w : World} {ob ob' : Nat → Option (Option Obj)} (hS : ∀ b, g.S b → g'.S b) {s : Slot} {v : Value} (hp : s.plain = true) (h : SlotRep P g w ob s v) : SlotRep P g' w ob' s v := by
  cases s with
  | al _ _ _ => cases hp
  | pt _ _ _ => cases hp
  | tup _ => cases hp
  | dead => cases hp
  | un => exact h
  | nils => exact h
  | v K x => obtain ⟨cs, h1, h2⟩ := h; exact ⟨cs, h1.mono hS (fun _ _ _ _ h => h), h2⟩
  | rp K x => exact PtrRO.mono hS (fun _ _ _ _ h => h) h
  | fv f caps => obtain ⟨cv, h1, h2⟩ := h; exact ⟨cv, h1, h2.mono hS (fun _ _ _ _ h => h)⟩
  | clo Ks Kr f => exact CloRep.mono hS (fun _ _ _ _ h => h) h

theorem inv_forget {P : Program} {nt : Nat} {e : Env} {a : Act} {w : World} (h : Inv P B nt e a w) (live : List Nat) : Inv P B nt (forget e live) a w := by
  obtain ⟨g, hg⟩ := h
  obtain ⟨R, hk⟩ := keep_ok e live []
  -- the object that got a number
  have uniq : ∀ q q', q ∈ R → q' ∈ R → q.2 = q'.2 → q = q' := by
    intro q q' h1 h2 h3
    obtain ⟨_, _, _, _, _, _, a1⟩ := hk.back q h1
    obtain ⟨_, _, _, _, _, _, a2⟩ := hk.back q' h2
    rw [h3] at a1
    exact hk.ids q q' h1 h2 (aliasOf_one a1 a2)
  let bk : Nat → Option Nat := fun j => look (R.map fun q => (q.2, q.1)) j
  have bk1 : ∀ {j id : Nat}, bk j = some id → (id, j) ∈ R := by
    intro j id hb
    obtain ⟨q, h1, h2⟩ := List.mem_map.1 (mem_of_look hb)
    cases h2
    exact h1
  have bk2 : ∀ {j id : Nat}, (id, j) ∈ R → bk j = some id := by
    intro j id hm
    cases hb : bk j with
    | some id' =>
      have := uniq _ _ hm (bk1 hb) rfl
      cases this
      rfl
    | none =>
      exfalso
      have : ∀ (R : List (Nat × Nat)), (id, j) ∈ R → look (R.map fun q => (q.2, q.1)) j ≠ none := by
        intro R
        induction R with
        | nil => intro h; cases h
        | cons q R ih =>
          intro h hn
          rw [List.map_cons] at hn
          by_cases hq : q.2 = j
          · rw [hq, look_cons_self] at hn; cases hn
          · rw [look_cons_ne hq] at hn
            rcases List.mem_cons.1 h with h | h
            · rw [← h] at hq; exact hq rfl
            · exact ih h hn
      exact this R hm hb
  let g' : Gh := { S := g.S, F := fun j b => match bk j with | some id => g.F id b | none => False, pl := fun j => match bk j with | some id => g.pl id | none => none, cs := fun j => match bk j with | some id => g.cs id | none => [] }
  have Fg : ∀ {j b : Nat}, g'.F j b → ∃ id, bk j = some id ∧ g.F id b := by
    intro j b hF
    show ∃ id, bk j = some id ∧ g.F id b
    have hF : (match bk j with | some id => g.F id b | none => False) := hF
    split at hF
    · exact ⟨_, by assumption, hF⟩
    · exact hF.elim
  have plg : ∀ {j : Nat} {q : Nat × Nat}, g'.pl j = some q → ∃ id, bk j = some id ∧ g.pl id = some q := by
    intro j q hp
    have hp : (match bk j with | some id => g.pl id | none => none) = some q := hp
    split at hp
    · exact ⟨_, by assumption, hp⟩
    · cases hp
  have inj : ∀ {i j id : Nat}, bk i = some id → bk j = some id → i = j := by
    intro i j id h1 h2
    have := hk.ids _ _ (bk1 h1) (bk1 h2) rfl
    cases this
    rfl
  have obj' : ∀ {j : Nat} {r : Option Obj}, (forget e live).obj j = some r → ∃ id o, bk j = some id ∧ e.obj id = some (some o) ∧ r = some { o with log := [] } ∧ o.hl = none ∧ (o.par = true → j = id) := by
    intro j r hr
    have hm : (j, r) ∈ (keep e live []).2 := mem_of_look hr
    obtain ⟨id, o, h1, h2, h3⟩ := hk.objs j r hm
    obtain ⟨o', _, h4, h5, h6, _⟩ := hk.back _ h1
    rw [h2] at h4
    cases h4
    exact ⟨id, o, bk2 h1, h2, h3, h5, h6⟩
  have known : ∀ {id j : Nat}, (id, j) ∈ R → ∃ r, (forget e live).obj j = some r := by
    intro id j hm
    obtain ⟨o, h1, _⟩ := hk.back _ hm
    have : ∀ (l : List (Nat × Option Obj)), (j, some { o with log := [] }) ∈ l → ∃ r, look l j = some r := by
      intro l
      induction l with
      | nil => intro h; cases h
      | cons q l ih =>
        intro h
        by_cases hq : q.1 = j
        · exact ⟨q.2, by rw [← hq]; exact look_cons_self _ _ _⟩
        · obtain ⟨r, hr⟩ := ih (by
            rcases List.mem_cons.1 h with h | h
            · rw [← h] at hq; exact absurd rfl hq
            · exact h)
          exact ⟨r, by rw [look_cons_ne hq]; exact hr⟩
    exact this _ h1
  refine ⟨g', hg.glob, hg.tmps, hg.defers, hg.ext, hg.Ssz, fun j b hF => ?_, hg.S0, hg.Sb, fun j b hF => ?_, fun j b hF hS => ?_, fun i j b hne h1 h2 => ?_, fun i b off hp => ?_, fun i hno => ?_, fun i o' ho' => ?_, fun i => ?_⟩
  · obtain ⟨id, _, h2⟩ := Fg hF; exact hg.Fsz id b h2
  · obtain ⟨id, _, h2⟩ := Fg hF; exact hg.Fb id b h2
  · obtain ⟨id, _, h2⟩ := Fg hF; exact hg.FS id b h2 hS
  · obtain ⟨id, k1, k2⟩ := Fg h1
    obtain ⟨id', k3, k4⟩ := Fg h2
    exact hg.FF id id' b (fun e1 => hne (inj k1 (e1 ▸ k3))) k2 k4
  · obtain ⟨id, k1, k2⟩ := plg hp
    obtain ⟨h3, h4, h5, h6⟩ := hg.plz id b off k2
    refine ⟨h3, h4, fun j hF => ?_, fun j off' hp' => ?_⟩
    · obtain ⟨id', _, k4⟩ := Fg hF
      exact h5 id' k4
    · obtain ⟨id', k3, k4⟩ := plg hp'
      have := h6 id' off' k4
      subst this
      exact inj k1 k3
  · have hb : bk i = none := by
      cases hq : bk i with
      | none => rfl
      | some id =>
        obtain ⟨r, hr⟩ := known (bk1 hq)
        obtain ⟨id', o, _, _, rfl, _⟩ := obj' hr
        exact absurd hr (hno _)
    refine ⟨fun b hF => ?_, ?_⟩
    · obtain ⟨id, h1, _⟩ := Fg hF
      rw [hb] at h1; cases h1
    · show (match bk i with | some id => g.pl id | none => none) = none
      rw [hb]
  · obtain ⟨id, o, h1, h2, h3, h4, h5⟩ := obj' ho'
    cases h3
    have O := hg.objs id o h2
    have gF : g'.F i = g.F id := by funext b; show (match bk i with | some id => g.F id b | none => False) = _; rw [h1]
    have gp : g'.pl i = g.pl id := by show (match bk i with | some id => g.pl id | none => none) = _; rw [h1]
    have gc : g'.cs i = g.cs id := by show (match bk i with | some id => g.cs id | none => []) = _; rw [h1]
    refine ⟨fun _ => by rw [gF, gp, gc]; exact O.own h4, (fun p hp => by rw [show o.hl = some p from hp] at h4; cases h4), (by rw [gp]; exact O.box), fun hp => ?_, fun b off hp => O.plx b off (by rw [← gp]; exact hp)⟩
    rw [gp, gc]
    have := h5 hp
    subst this
    exact O.par hp
  · cases hl : look (keep e live []).1 i with
    | none =>
      have : (forget e live).get i = .dead := by show (match look (keep e live []).1 i with | some s => s | none => Slot.dead) = _; rw [hl]
      rw [this]
      trivial
    | some x =>
      have hx : (forget e live).get i = x := by show (match look (keep e live []).1 i with | some s => s | none => Slot.dead) = _; rw [hl]
      rw [hx]
      have hs := hg.slots i
      rcases hk.slots i x (mem_of_look hl) with ⟨rfl, hp⟩ | ⟨id, n, p, o, j, a1, rfl, a3, a4, a5, a6⟩ | ⟨id, n, p, o, j, a1, rfl, a3, a4, a5, a6⟩
      · exact plain_rep (g := g) (g' := g') (ob := e.obj) (fun _ h => h) hp hs
      · have a6 : (id, j) ∈ R := by
          rcases a6 with h | h
          · exact h
          · simp [renT] at h
        rw [a1] at hs
        obtain ⟨q, c1, K1, m1, x1, b1, b2, b3⟩ := hs.2 o a3 a5 (.inl a4)
        obtain ⟨r, hr⟩ := known a6
        refine ⟨⟨by rw [hr]; simp, fun _ _ => Nat.zero_le _⟩, fun o2 ho2 _ _ => ?_⟩
        obtain ⟨id', o', k1, k2, k3, _⟩ := obj' ho2
        rw [bk2 a6] at k1
        cases k1
        rw [a3] at k2
        cases k2
        cases k3
        refine ⟨q, c1, K1, m1, x1, b1, ?_, b3⟩
        have gp : g'.pl j = g.pl id := by show (match bk j with | some id => g.pl id | none => none) = _; rw [bk2 a6]
        have gc : g'.cs j = g.cs id := by show (match bk j with | some id => g.cs id | none => []) = _; rw [bk2 a6]
        rw [gp, gc]; exact b2
      · have a6 : (id, j) ∈ R := by
          rcases a6 with h | h
          · exact h
          · simp [renT] at h
        rw [a1] at hs
        obtain ⟨b, off, c1, K1, m1, x1, b1, b2, b3⟩ := hs.2 o a3 a5 (.inl a4)
        obtain ⟨r, hr⟩ := known a6
        refine ⟨⟨by rw [hr]; simp, fun _ _ => Nat.zero_le _⟩, fun o2 ho2 _ _ => ?_⟩
        obtain ⟨id', o', k1, k2, k3, _⟩ := obj' ho2
        rw [bk2 a6] at k1
        cases k1
        rw [a3] at k2
        cases k2
        cases k3
        refine ⟨b, off, c1, K1, m1, x1, b1, ?_, b3⟩
        have gp : g'.pl j = g.pl id := by show (match bk j with | some id => g.pl id | none => none) = _; rw [bk2 a6]
        have gc : g'.cs j = g.cs id := by show (match bk j with | some id => g.cs id | none => []) = _; rw [bk2 a6]
        rw [gp, gc]; exact b2

end Go.Abs

