/- The abstract interpreter of the elaborated code, and that what it answers is what the machine does: part 3. Conditions: none. -/
import Derived.Orders
import Derived.Below
import Derived.Sort.Grow
import Derived.Deep.Draws
import Derived.Test.YtahdigojpapcdaaGreatDoorA2
set_option linter.unusedVariables false
set_option linter.unusedSimpArgs false
namespace Go.Abs
variable {B : Base}

/-! ### The state hangs on what is found alone -/

theorem InvG.congr {P : Program} {nt : Nat} {e e' : Env} {a : Act} {w : World} {g : Gh} (h : InvG P B nt e a w g) (h1 : ∀ i, e'.get i = e.get i) (h2 : e'.obj = e.obj) : InvG P B nt e' a w g :=
  ⟨h.glob, h.tmps, h.defers, h.ext, h.Ssz, h.Fsz, h.S0, h.Sb, h.Fb, h.FS, h.FF, h.plz, fun i hi => h.absent i (by rw [← h2]; exact hi), fun i o ho => h.objs i o (by rw [← h2]; exact ho), fun i => by rw [h1, h2]; exact h.slots i⟩

theorem Inv.congr {P : Program} {nt : Nat} {e e' : Env} {a : Act} {w : World} (h : Inv P B nt e a w) (h1 : ∀ i, look e'.slots i = look e.slots i) (h2 : ∀ i, look e'.objs i = look e.objs i) : Inv P B nt e' a w := by
  obtain ⟨g, hg⟩ := h
  exact ⟨g, hg.congr (fun i => by unfold Env.get; rw [h1]) (by funext i; exact h2 i)⟩

/-! ### Entries run one by one -/

def runL (e : Env) (L : List (Rec × Delta)) : Env := L.foldl (fun e q => e.apply q.2) e

def runE (D : Nat → Delta) (e : Env) (l : List Nat) : Env := l.foldl (fun e i => e.apply (D i)) e

theorem natIn_iff {n : Nat} : ∀ {l : List Nat}, natIn n l = true ↔ n ∈ l
  | [] => by simp [natIn]
  | m :: l => by
    simp only [natIn, Bool.or_eq_true, List.mem_cons, natIn_iff (l := l)]
    refine or_congr ⟨fun h => (Nat.eq_of_beq_eq_true h).symm, fun h => by subst h; exact Nat.beq_refl _⟩ Iff.rfl

theorem anyIn_false : ∀ {l r : List Nat}, anyIn l r = false → ∀ x, x ∈ l → x ∉ r
  | [], _, _, x, hx => by cases hx
  | a :: l, r, h, x, hx => by
    simp only [anyIn, Bool.or_eq_false_iff] at h
    rcases List.mem_cons.1 hx with rfl | hx
    · intro hr
      have := natIn_iff.2 hr
      rw [h.1] at this
      cases this
    · exact anyIn_false h.2 x hx

theorem run_look {α : Type} (pe : Env → List (Nat × α)) (pd : Delta → List (Nat × α)) (hp : ∀ e d, pe (e.apply d) = pd d ++ pe e) (D : Nat → Delta) (κ : Nat) : ∀ (l : List Nat) (e e' : Env), look (pe e) κ = look (pe e') κ →
    look (pe (runE D e l)) κ = look (pe (runE D e' (l.filter fun i => natIn κ ((pd (D i)).map (·.1))))) κ
  | [], e, e', h => h
  | i :: l, e, e', h => by
    have key : look (pe (e.apply (D i))) κ = match look (pd (D i)) κ with | some x => some x | none => look (pe e) κ := by
      rw [hp, look_app]
      cases look (pd (D i)) κ <;> rfl
    by_cases hw : natIn κ ((pd (D i)).map (·.1)) = true
    · simp only [List.filter_cons, hw, if_true]
      refine run_look pe pd hp D κ l _ _ ?_
      rw [key, hp, look_app, h]
      cases look (pd (D i)) κ <;> rfl
    · simp only [List.filter_cons, hw]
      refine run_look pe pd hp D κ l _ _ ?_
      rw [key, look_none (fun hm => hw (natIn_iff.2 hm))]
      exact h

/-- What one entry does, wherever it sees what it saw. -/
structure Ent (c : Ctx) (B : Base) (nt : Nat) (ops : Array Oper) (i : Nat) (r : Rec) (d : Delta) (e0 : Env) : Prop where
  ok : ∀ e' : Env, (∀ κ, κ ∈ r.rs → look e'.slots κ = look e0.slots κ) → (∀ κ, κ ∈ r.ro → look e'.objs κ = look e0.objs κ) → ∀ a w, Inv c.P B nt e' a w → ∀ (K : Act → World → Prop) (Q : Exit → Act → World → Prop),
    (∀ a' w', Inv c.P B nt (e'.apply d) a' w' → K a' w') → wpOp c.P ops Q i K a w
  ws : r.ws = d.slots.map (·.1)
  wo : r.wo = d.objs.map (·.1)

theorem opd_const (e e' : Env) (v : Value) : e.opd (.const v) = e'.opd (.const v) := by
  cases v with
  | slice A n cap =>
    cases A with
    | some _ => rfl
    | none =>
      cases n with
      | zero => cases cap <;> rfl
      | succ _ => rfl
  | _ => rfl

theorem opd_same {e e' : Env} {l : List Operand} (h : ∀ κ, κ ∈ tmpsOf l → look e'.slots κ = look e.slots κ) : ∀ x, x ∈ l → e'.opd x = e.opd x := by
  induction l with
  | nil => intro x hx; cases hx
  | cons y l ih =>
    intro x hx
    rcases List.mem_cons.1 hx with rfl | hx
    · cases x with
      | tmp t =>
        show e'.get t = e.get t
        unfold Env.get
        rw [h t (by simp [tmpsOf])]
      | const v => exact opd_const _ _ v
      | _ => rfl
    · refine ih (fun κ hκ => h κ ?_) x hx
      cases y <;> simp [tmpsOf, hκ]

theorem ids_mem : ∀ {vs : List View} {v : View} {id : Nat}, v ∈ vs → ((∃ n p, v.1 = .al id n p) ∨ ∃ n p, v.1 = .pt id n p) → id ∈ idsOf vs
  | [], _, _, h, _ => by cases h
  | u :: vs, v, id, h, hv => by
    rcases List.mem_cons.1 h with rfl | h
    · obtain ⟨s, q⟩ := v
      rcases hv with ⟨n, p, hs⟩ | ⟨n, p, hs⟩ <;> (simp only at hs; subst hs; simp [idsOf])
    · have := ids_mem h hv
      obtain ⟨s, q⟩ := u
      cases s <;> simp [idsOf, this]

theorem views_same {e e' : Env} {o : Oper} (h1 : ∀ κ, κ ∈ tmpsOf (Oper.opds o) → look e'.slots κ = look e.slots κ) (h2 : ∀ κ, κ ∈ idsOf (e.views o) → look e'.objs κ = look e.objs κ) : e'.views o = e.views o := by
  unfold Env.views
  refine List.map_congr_left fun x hx => ?_
  have e1 := opd_same h1 x hx
  rw [e1]
  have hm : e.view (e.opd x) ∈ e.views o := List.mem_map.2 ⟨x, hx, rfl⟩
  cases hs : e.opd x with
  | al id n p =>
    rw [hs] at hm
    show ((Slot.al id n p, (e'.obj id).join) : View) = (Slot.al id n p, (e.obj id).join)
    have : e'.obj id = e.obj id := h2 id (ids_mem hm (.inl ⟨n, p, rfl⟩))
    rw [this]
  | pt id n p =>
    rw [hs] at hm
    show ((Slot.pt id n p, (e'.obj id).join) : View) = (Slot.pt id n p, (e.obj id).join)
    have : e'.obj id = e.obj id := h2 id (ids_mem hm (.inr ⟨n, p, rfl⟩))
    rw [this]
  | _ => rfl

theorem fresh_same {e e' : Env} {dst : Option Nat} (h : ∀ κ, κ ∈ freshKeys dst → look e'.objs κ = look e.objs κ) : fresh e' dst = fresh e dst := by
  cases dst with
  | none => rfl
  | some d =>
    simp only [fresh, Env.obj]
    rw [h d (by simp [freshKeys]), h (sub d 0) (by simp [freshKeys]), h (sub d 1) (by simp [freshKeys]), h (sub d 2) (by simp [freshKeys]), h (sub d 3) (by simp [freshKeys])]

section
variable {c : Ctx} {nt : Nat} {Ω : Type} {out : Ω}

theorem ent_run (hc : CtxOk c) (hM : MOk c) {mds : List (Nat × Md)} {ops : Array Oper} {i : Nat} {o : Oper} {e : Env} {k : Delta → Option Ω} (ho : ops[i]? = some o) (gs : List Nat)
    (hw : ∀ e' : Env, (∀ κ, κ ∈ gs → look e'.slots κ = look e.slots κ) → ∀ a w, Inv c.P B nt e' a w → Region.wanted o (yielded ops a.tmps) = true) (h : aopE c nt mds o e k = some out) :
    ∃ d, k d = some out ∧ Ent c B nt ops i (recOf gs o (e.views o) d) d e := by
  obtain ⟨d, h1, h2⟩ := aop_ok (B := B) hc hM h
  refine ⟨d, h1, ⟨fun e' hs hobj a w hi K Q hK => ?_, rfl, rfl⟩⟩
  have hv : e'.views o = e.views o := views_same (fun κ hκ => hs κ (List.mem_append_right _ hκ)) (fun κ hκ => hobj κ (List.mem_append_left _ hκ))
  have hf : fresh e' o.dst = fresh e o.dst := fresh_same (fun κ hκ => hobj κ (List.mem_append_right _ hκ))
  unfold wpOp
  rw [ho]
  simp only [hw e' (fun κ hκ => hs κ (List.mem_append_left _ hκ)) a w hi, if_true]
  exact .inl (h2 e' ⟨hv, hf⟩ a w hi _ _ hK)

theorem skip_inv {P : Program} {e : Env} {a : Act} {w : World} (h : Inv P B nt e a w) {dst : Option Nat} (hd : skipOk nt dst = true) : Inv P B nt (e.apply (skipD dst)) (a.put dst undef) w := by
  cases dst with
  | none => exact h
  | some d => exact h.skip (Nat.le_of_ble_eq_true hd)

theorem ent_skip {ops : Array Oper} {i t : Nat} {o : Oper} {e : Env} (ho : ops[i]? = some o) (hd : skipOk nt o.dst = true)
    (hw : ∀ e' : Env, (∀ κ, κ ∈ [t] → look e'.slots κ = look e.slots κ) → ∀ a w, Inv c.P B nt e' a w → Region.wanted o (yielded ops a.tmps) = false) : Ent c B nt ops i ⟨[t], [], o.dst.toList, []⟩ (skipD o.dst) e := by
  refine ⟨fun e' hs hobj a w hi K Q hK => ?_, ?_, ?_⟩
  · unfold wpOp
    rw [ho]
    simp only [hw e' hs a w hi, Bool.false_eq_true, if_false]
    exact hK _ _ (skip_inv hi hd)
  · cases o.dst <;> rfl
  · cases o.dst <;> rfl

theorem get_same {e e' : Env} {t : Nat} (h : ∀ κ, κ ∈ [t] → look e'.slots κ = look e.slots κ) : e'.get t = e.get t := by
  unfold Env.get
  rw [h t (by simp)]

theorem aopsD_ok (hc : CtxOk c) (hM : MOk c) {mds : List (Nat × Md)} {ops : Array Oper} : ∀ (rest : List Oper) (i : Nat) (e : Env) (tr : List Rec) (k : List Rec → Env → Option Ω), (∀ (j : Nat) (o : Oper), rest[j]? = some o → ops[i + j]? = some o) →
    aopsD c nt mds ops.toList rest e tr k = some out →
    ∃ L : List (Rec × Delta), L.length = rest.length ∧ k ((L.map (·.1)).reverse ++ tr) (runL e L) = some out ∧ ∀ (j : Nat) (q : Rec × Delta), L[j]? = some q → Ent c B nt ops (i + j) q.1 q.2 (runL e (L.take j))
  | [], i, e, tr, k, _, h => ⟨[], rfl, h, fun j q hq => by simp at hq⟩
  | o :: rest, i, e, tr, k, hr, h => by
    have ho := hr 0 o rfl
    rw [Nat.add_zero] at ho
    have step : ∀ (r : Rec) (d : Delta), Ent c B nt ops i r d e → aopsD c nt mds ops.toList rest (e.apply d) (r :: tr) k = some out →
        ∃ L : List (Rec × Delta), L.length = (o :: rest).length ∧ k ((L.map (·.1)).reverse ++ tr) (runL e L) = some out ∧ ∀ (j : Nat) (q : Rec × Delta), L[j]? = some q → Ent c B nt ops (i + j) q.1 q.2 (runL e (L.take j)) := by
      intro r d he h1
      obtain ⟨L, l1, l2, l3⟩ := aopsD_ok hc hM rest (i + 1) (e.apply d) (r :: tr) k (fun j o' ho' => by
        have := hr (j + 1) o' (by simpa using ho')
        rwa [show i + 1 + j = i + (j + 1) by omega]) h1
      refine ⟨(r, d) :: L, by simp [l1], ?_, fun j q hq => ?_⟩
      · simpa [runL] using l2
      · cases j with
        | zero =>
          simp only [List.getElem?_cons_zero, Option.some.injEq] at hq
          subst hq
          exact he
        | succ j =>
          have := l3 j q (by simpa using hq)
          rw [show i + (j + 1) = i + 1 + j by omega]
          exact this
    unfold aopsD at h
    split at h
    · rename_i hgd
      obtain ⟨d, h1, h2⟩ := ent_run (B := B) hc hM (i := i) ho [] (fun e' _ a w _ => by simp [Region.wanted, hgd]) h
      exact step _ d h2 h1
    · rename_i j want hgd
      split at h
      · cases h
      · rename_i t ht
        have hyield : ∀ tmps : Array Value, yielded ops tmps j = match tmps[t]? with | some (.bool b) => some b | _ => none := by
          intro tmps
          have : (ops[j]?).bind (·.dst) = some t := by
            unfold dstAt at ht
            split at ht
            · rename_i o' ho'
              have : ops[j]? = some o' := by simpa using ho'
              rw [this]; exact ht
            · cases ht
          unfold yielded
          rw [this]
          rfl
        split at h
        · rename_i b hb
          have hy : ∀ e' : Env, (∀ κ, κ ∈ [t] → look e'.slots κ = look e.slots κ) → ∀ a w, Inv c.P B nt e' a w → yielded ops a.tmps j = some b := by
            rintro e' hs a w ⟨g, hg⟩
            rw [hyield, tmp_bool hg (by rw [get_same hs]; exact hb)]
          split at h
          · rename_i hbw
            obtain ⟨d, h1, h2⟩ := ent_run (B := B) hc hM (i := i) ho [t] (fun e' hs a w hi => by simp [Region.wanted, hgd, hy e' hs a w hi, hbw]) h
            exact step _ d h2 h1
          · rename_i hbw
            split at h
            · rename_i hsk
              exact step _ _ (ent_skip ho hsk (fun e' hs a w hi => by simp [Region.wanted, hgd, hy e' hs a w hi, hbw])) h
            · cases h
        · rename_i hun
          split at h
          · rename_i hsk
            refine step _ _ (ent_skip ho hsk (fun e' hs a w hi => ?_)) h
            obtain ⟨g, hg⟩ := hi
            have : yielded ops a.tmps j = none := by
              rw [hyield]
              rcases tmp_un hg (by rw [get_same hs]; exact hun) with h | h <;> rw [h] <;> rfl
            simp [Region.wanted, hgd, this]
          · cases h
        · cases h

end

/-! ### Who comes before whom -/

theorem nthL_eq : ∀ (l : List (List Nat)) (n : Nat), nthL l n = (l[n]?).getD []
  | [], n => by cases n <;> rfl
  | a :: l, 0 => rfl
  | a :: l, n + 1 => by rw [nthL, nthL_eq l n]; simp

theorem ancs_eq : ∀ (l : List Oper) (acc : List (List Nat)), ∃ M, ancs l acc = acc ++ M ∧ M.length = l.length ∧ ∀ (j : Nat) (o : Oper), l[j]? = some o → M[j]? = some (ancOne (acc ++ M.take j) o.after.toList)
  | [], acc => ⟨[], by simp [ancs], rfl, fun j o h => by simp at h⟩
  | o :: l, acc => by
    obtain ⟨M, h1, h2, h3⟩ := ancs_eq l (acc ++ [ancOne acc o.after.toList])
    refine ⟨ancOne acc o.after.toList :: M, by rw [ancs, h1]; simp, by simp [h2], fun j o' ho => ?_⟩
    cases j with
    | zero =>
      simp only [List.getElem?_cons_zero, Option.some.injEq] at ho
      subst ho
      simp
    | succ j =>
      have := h3 j o' (by simpa using ho)
      simpa using this

theorem ancOne_mem {acc : List (List Nat)} : ∀ {es : List Edge} {m : Nat}, m ∈ ancOne acc es ↔ ∃ e, e ∈ es ∧ Region.binds .any e = true ∧ (m = e.on ∨ m ∈ nthL acc e.on)
  | [], m => by simp [ancOne]
  | e :: es, m => by
    unfold ancOne
    split
    · rename_i hb
      simp only [List.cons_append, List.mem_cons, List.mem_append, ancOne_mem (es := es)]
      constructor
      · rintro (h | h | ⟨e', h1, h2, h3⟩)
        · exact ⟨e, .inl rfl, hb, .inl h⟩
        · exact ⟨e, .inl rfl, hb, .inr h⟩
        · exact ⟨e', .inr h1, h2, h3⟩
      · rintro ⟨e', h1 | h1, h2, h3⟩
        · subst h1
          rcases h3 with h3 | h3
          · exact .inl h3
          · exact .inr (.inl h3)
        · exact .inr (.inr ⟨e', h1, h2, h3⟩)
    · rename_i hb
      rw [ancOne_mem (es := es)]
      constructor
      · rintro ⟨e', h1, h2, h3⟩; exact ⟨e', List.mem_cons_of_mem _ h1, h2, h3⟩
      · rintro ⟨e', h1, h2, h3⟩
        rcases List.mem_cons.1 h1 with rfl | h1
        · exact absurd h2 hb
        · exact ⟨e', h1, h2, h3⟩

theorem edgesLow_ok {n : Nat} : ∀ {es : List Edge}, edgesLow n es = true → ∀ e, e ∈ es → Region.binds .any e = true → e.on < n
  | [], _, e, he, _ => by cases he
  | e0 :: es, h, e, he, hb => by
    simp only [edgesLow, Bool.and_eq_true, Bool.or_eq_true] at h
    rcases List.mem_cons.1 he with rfl | he
    · rcases h.1 with h1 | h1
      · rw [hb] at h1; cases h1
      · exact Nat.le_of_ble_eq_true h1
    · exact edgesLow_ok h.2 e he hb

theorem allLow_ok : ∀ {l : List Oper} {n : Nat}, allLow n l = true → ∀ (j : Nat) (o : Oper), l[j]? = some o → ∀ e, e ∈ o.after.toList → Region.binds .any e = true → e.on < n + j
  | [], _, _, j, o, ho, _, _, _ => by simp at ho
  | o0 :: l, n, h, j, o, ho, e, he, hb => by
    simp only [allLow, Bool.and_eq_true] at h
    cases j with
    | zero =>
      simp only [List.getElem?_cons_zero, Option.some.injEq] at ho
      subst ho
      exact edgesLow_ok h.1 e he hb
    | succ j =>
      have := allLow_ok h.2 j o (by simpa using ho) e he hb
      omega

/-- Who comes before entry j. -/
structure Ancs (ops : Array Oper) (A : Nat → List Nat) : Prop where
  mem : ∀ (j : Nat) (o : Oper), ops[j]? = some o → ∀ m, m ∈ A j ↔ ∃ e, e ∈ o.after.toList ∧ Region.binds .any e = true ∧ (m = e.on ∨ m ∈ A e.on)
  low : ∀ (j : Nat) (o : Oper), ops[j]? = some o → ∀ e, e ∈ o.after.toList → Region.binds .any e = true → e.on < j

theorem ancs_ok {ops : Array Oper} (h : allLow 0 ops.toList = true) : Ancs ops (nthL (ancs ops.toList [])) := by
  obtain ⟨M, h1, h2, h3⟩ := ancs_eq ops.toList []
  rw [List.nil_append] at h1
  have low : ∀ (j : Nat) (o : Oper), ops[j]? = some o → ∀ e, e ∈ o.after.toList → Region.binds .any e = true → e.on < j := fun j o ho e he hb => by
    have := allLow_ok h j o (by simpa using ho) e he hb
    omega
  refine ⟨fun j o ho m => ?_, low⟩
  have h4 := h3 j o (by simpa using ho)
  rw [List.nil_append] at h4
  rw [h1, nthL_eq, h4, Option.getD_some, ancOne_mem]
  refine exists_congr fun e => and_congr_right fun he => and_congr_right fun hb => or_congr Iff.rfl ?_
  have hlt := low j o ho e he hb
  rw [nthL_eq, nthL_eq, List.getElem?_take, if_pos hlt]

theorem Ancs.lt {ops : Array Oper} {A : Nat → List Nat} (h : Ancs ops A) : ∀ (j : Nat) (o : Oper), ops[j]? = some o → ∀ m, m ∈ A j → m < j := by
  intro j
  induction j using Nat.strongRecOn with
  | _ j ih =>
    intro o ho m hm
    obtain ⟨e, he, hb, h1⟩ := (h.mem j o ho m).1 hm
    have hl := h.low j o ho e he hb
    rcases h1 with rfl | h1
    · exact hl
    · have hlt : e.on < ops.size := by
        have : j < ops.size := (Array.getElem?_eq_some_iff.1 ho).1
        omega
      have := ih e.on hl ops[e.on] (by simp [hlt]) m h1
      omega

theorem freeOf_ok {an : List Nat} {y : Rec} : ∀ {l : List Rec} {i : Nat}, freeOf an y i l = true → ∀ (j : Nat) (x : Rec), l[j]? = some x → i + j ∈ an ∨ clash x y = false
  | [], _, _, j, x, hx => by simp at hx
  | x0 :: l, i, h, j, x, hx => by
    simp only [freeOf, Bool.and_eq_true, Bool.or_eq_true] at h
    cases j with
    | zero =>
      simp only [List.getElem?_cons_zero, Option.some.injEq] at hx
      subst hx
      rcases h.1 with h1 | h1
      · exact .inl (by simpa using natIn_iff.1 h1)
      · exact .inr (by simpa using h1)
    | succ j =>
      have := freeOf_ok h.2 j x (by simpa using hx)
      rwa [show i + 1 + j = i + (j + 1) by omega] at this

theorem indepL_ok {an : List (List Nat)} {all : List Rec} : ∀ {l : List Rec} {j : Nat}, indepL an all j l = true → ∀ (k : Nat) (y : Rec), l[k]? = some y → ∀ (i : Nat) (x : Rec), i < j + k → all[i]? = some x → i ∈ nthL an (j + k) ∨ clash x y = false
  | [], _, _, k, y, hy, _, _, _, _ => by simp at hy
  | y0 :: l, j, h, k, y, hy, i, x, hi, hx => by
    simp only [indepL, Bool.and_eq_true] at h
    cases k with
    | zero =>
      simp only [List.getElem?_cons_zero, Option.some.injEq] at hy
      subst hy
      have := freeOf_ok h.1 i x (by rw [List.getElem?_take, if_pos (by omega)]; exact hx)
      simpa using this
    | succ k =>
      have := indepL_ok h.2 k y (by simpa using hy) i x (by omega) hx
      rwa [show j + 1 + k = j + (k + 1) by omega] at this

end Go.Abs

namespace Go.Abs
variable {B : Base}

theorem sorted_ext : ∀ (l r : List Nat), l.Pairwise (· < ·) → r.Pairwise (· < ·) → (∀ x, x ∈ l ↔ x ∈ r) → l = r
  | [], [], _, _, _ => rfl
  | [], b :: r, _, _, h => by have := (h b).2 List.mem_cons_self; cases this
  | a :: l, [], _, _, h => by have := (h a).1 List.mem_cons_self; cases this
  | a :: l, b :: r, hl, hr, h => by
    have hl' := List.pairwise_cons.1 hl
    have hr' := List.pairwise_cons.1 hr
    have hab : a = b := by
      rcases List.mem_cons.1 ((h a).1 List.mem_cons_self) with h1 | h1
      · exact h1
      · rcases List.mem_cons.1 ((h b).2 List.mem_cons_self) with h2 | h2
        · exact h2.symm
        · have := hr'.1 a h1
          have := hl'.1 b h2
          omega
    subst hab
    rw [sorted_ext l r hl'.2 hr'.2 fun x => ⟨fun hx => ?_, fun hx => ?_⟩]
    · rcases List.mem_cons.1 ((h x).1 (List.mem_cons_of_mem _ hx)) with h1 | h1
      · have := hl'.1 x hx; omega
      · exact h1
    · rcases List.mem_cons.1 ((h x).2 (List.mem_cons_of_mem _ hx)) with h1 | h1
      · have := hr'.1 x hx; omega
      · exact h1

/-- An order that has been run so far. -/
structure Good (A : Nat → List Nat) (n : Nat) (l : List Nat) : Prop where
  lt : ∀ x, x ∈ l → x < n
  one : ∀ (p q i : Nat), l[p]? = some i → l[q]? = some i → p = q
  anc : ∀ (p i : Nat), l[p]? = some i → ∀ m, m ∈ A i → ∃ r, r < p ∧ l[r]? = some m

theorem Good.sorted {A : Nat → List Nat} {n : Nat} {l : List Nat} (h : Good A n l) (wr : Nat → Bool) (hw : ∀ i j, i < j → j < n → wr i = true → wr j = true → i ∈ A j) : (l.filter wr).Pairwise (· < ·) := by
  have h1 : l.Pairwise (fun i j => wr i = true → wr j = true → i < j) := by
    rw [List.pairwise_iff_getElem]
    intro p q hp hq hpq hi hj
    have ep : l[p]? = some l[p] := by simp [hp]
    have eq : l[q]? = some l[q] := by simp [hq]
    rcases Nat.lt_trichotomy l[p] l[q] with h2 | h2 | h2
    · exact h2
    · rw [h2] at ep
      have := h.one p q _ ep eq
      omega
    · have := hw l[q] l[p] h2 (h.lt _ (List.getElem_mem hp)) hj hi
      obtain ⟨r, hr, hr2⟩ := h.anc p _ ep _ this
      have := h.one r q _ hr2 eq
      omega
  have h2 := h1.filter wr
  refine h2.imp_of_mem ?_
  intro a b ha hb hab
  exact hab (List.mem_filter.1 ha).2 (List.mem_filter.1 hb).2

theorem Good.mem_anc {A : Nat → List Nat} {n : Nat} {l : List Nat} (h : Good A n l) {i : Nat} (hi : i ∈ l) : ∀ m, m ∈ A i → m ∈ l := by
  intro m hm
  obtain ⟨p, hp, rfl⟩ := List.mem_iff_getElem.1 hi
  obtain ⟨r, _, hr⟩ := h.anc p _ (by simp [hp]) m hm
  exact List.mem_of_getElem? hr

theorem Good.snoc {A : Nat → List Nat} {n : Nat} {l : List Nat} (h : Good A n l) {i : Nat} (hi : i < n) (hn : i ∉ l) (ha : ∀ m, m ∈ A i → m ∈ l) : Good A n (l ++ [i]) := by
  have at_ : ∀ (p j : Nat), (l ++ [i])[p]? = some j → (l[p]? = some j ∧ p < l.length) ∨ (p = l.length ∧ j = i) := by
    intro p j hp
    by_cases hlt : p < l.length
    · rw [List.getElem?_append_left hlt] at hp
      exact .inl ⟨hp, hlt⟩
    · rw [List.getElem?_append_right (by omega)] at hp
      by_cases h0 : p - l.length = 0
      · rw [h0] at hp
        simp at hp
        exact .inr ⟨by omega, hp.symm⟩
      · rw [List.getElem?_eq_none (by simp; omega)] at hp
        cases hp
  refine ⟨fun x hx => ?_, fun p q j hp hq => ?_, fun p j hp m hm => ?_⟩
  · rcases List.mem_append.1 hx with h1 | h1
    · exact h.lt x h1
    · simp at h1; omega
  · rcases at_ p j hp with ⟨h1, h1'⟩ | ⟨h1, h2⟩ <;> rcases at_ q j hq with ⟨h3, h3'⟩ | ⟨h3, h4⟩
    · exact h.one p q j h1 h3
    · subst h4; exact absurd (List.mem_of_getElem? h1) hn
    · subst h2; exact absurd (List.mem_of_getElem? h3) hn
    · omega
  · rcases at_ p j hp with ⟨h1, h1'⟩ | ⟨h1, h2⟩
    · obtain ⟨r, hr, hr2⟩ := h.anc p j h1 m hm
      exact ⟨r, hr, by rw [List.getElem?_append_left (by omega)]; exact hr2⟩
    · subst h2
      obtain ⟨r, hr, hr2⟩ := List.mem_iff_getElem.1 (ha m hm)
      exact ⟨r, by omega, by rw [List.getElem?_append_left hr]; simp [hr, hr2]⟩

theorem Good.range {A : Nat → List Nat} {n j : Nat} (hj : j ≤ n) (hA : ∀ i m, i < n → m ∈ A i → m < i) : Good A n (List.range j) := by
  have at_ : ∀ (p i : Nat), (List.range j)[p]? = some i → p = i ∧ i < j := by
    intro p i hp
    obtain ⟨h1, h2⟩ := List.getElem?_eq_some_iff.1 hp
    simp at h1 h2
    omega
  refine ⟨fun x hx => by have := List.mem_range.1 hx; omega, fun p q i hp hq => ?_, fun p i hp m hm => ?_⟩
  · have := at_ p i hp; have := at_ q i hq; omega
  · obtain ⟨h1, h2⟩ := at_ p i hp
    have := hA i m (by omega) hm
    exact ⟨m, by omega, List.getElem?_range (by omega)⟩

theorem Good.nodup {A : Nat → List Nat} {n : Nat} {l : List Nat} (h : Good A n l) : l.Nodup := by
  refine List.pairwise_iff_getElem.2 fun p q hp hq hpq heq => ?_
  have := h.one p q l[p] (by simp [hp]) (by simp [hq, heq])
  omega

theorem nodup_le : ∀ (n : Nat) (l : List Nat), l.Nodup → (∀ x, x ∈ l → x < n) → l.length ≤ n
  | 0, l, _, h => by
    cases l with
    | nil => simp
    | cons a l => have := h a List.mem_cons_self; omega
  | n + 1, l, hn, h => by
    by_cases hm : n ∈ l
    · have h1 := nodup_le n (l.erase n) (hn.erase n) (fun x hx => by
        have := (hn.mem_erase_iff).1 hx
        have := h x this.2
        omega)
      rw [List.length_erase_of_mem hm] at h1
      omega
    · have := nodup_le n l hn (fun x hx => by
        have := h x hx
        have : x ≠ n := fun e => hm (e ▸ hx)
        omega)
      omega

/-- Lookups hang on the writers alone. -/
theorem look_run {α : Type} (pe : Env → List (Nat × α)) (pd : Delta → List (Nat × α)) (hp : ∀ e d, pe (e.apply d) = pd d ++ pe e) {D : Nat → Delta} {A : Nat → List Nat} {n κ : Nat} {l l' : List Nat} (h : Good A n l) (h' : Good A n l')
    (hw : ∀ i j, i < j → j < n → κ ∈ (pd (D i)).map (·.1) → κ ∈ (pd (D j)).map (·.1) → i ∈ A j) (hm : ∀ i, κ ∈ (pd (D i)).map (·.1) → (i ∈ l ↔ i ∈ l')) (e : Env) : look (pe (runE D e l)) κ = look (pe (runE D e l')) κ := by
  rw [run_look pe pd hp D κ l e e rfl, run_look pe pd hp D κ l' e e rfl]
  have hw' : ∀ i j, i < j → j < n → natIn κ ((pd (D i)).map (·.1)) = true → natIn κ ((pd (D j)).map (·.1)) = true → i ∈ A j := fun i j h1 h2 h3 h4 => hw i j h1 h2 (natIn_iff.1 h3) (natIn_iff.1 h4)
  rw [sorted_ext _ _ (h.sorted _ hw') (h'.sorted _ hw') fun x => ?_]
  rw [List.mem_filter, List.mem_filter]
  exact ⟨fun ⟨h1, h2⟩ => ⟨(hm x (natIn_iff.1 h2)).1 h1, h2⟩, fun ⟨h1, h2⟩ => ⟨(hm x (natIn_iff.1 h2)).2 h1, h2⟩⟩

theorem runL_take {e : Env} {L : List (Rec × Delta)} : ∀ (j : Nat), j ≤ L.length → runL e (L.take j) = runE (fun i => match L[i]? with | some q => q.2 | none => ⟨[], []⟩) e (List.range j)
  | 0, _ => rfl
  | j + 1, hj => by
    have ih := runL_take (e := e) (L := L) j (by omega)
    rw [List.range_succ, List.take_add_one]
    have hq : L[j]? = some (L[j]'(by omega)) := List.getElem?_eq_getElem (by omega)
    rw [hq]
    simp only [runL, runE, List.foldl_append] at ih ⊢
    rw [ih]
    simp [hq]

section
variable {c : Ctx} {nt : Nat} {Ω : Type} {out : Ω}

theorem drawn_ok (hc : CtxOk c) (hM : MOk c) {mds : List (Nat × Md)} {ops : Array Oper} {e : Env} {k : Env → Option Ω}
    (h : aopsD c nt mds ops.toList ops.toList e [] (fun tr e' => if indep ops.toList tr = true then k e' else none) = some out) :
    ∃ e', k e' = some out ∧ ∀ a w, Inv c.P B nt e a w → ∀ Q : Exit → Act → World → Prop, (∀ a' w', Inv c.P B nt e' a' w' → Q .normal a' w') → wpAny c.P .any ops Q ops.size (Array.replicate ops.size false) a w := by
  obtain ⟨L, l1, l2, l3⟩ := aopsD_ok (B := B) hc hM ops.toList 0 e [] _ (fun j o ho => by rw [Nat.zero_add]; simpa using ho) h
  rw [List.append_nil] at l2
  have hn : L.length = ops.size := by simpa using l1
  split at l2
  case isFalse => cases l2
  rename_i hind
  unfold indep at hind
  rw [List.reverse_reverse, Bool.and_eq_true] at hind
  have hA := ancs_ok hind.1
  generalize hAA : nthL (ancs ops.toList []) = A at hA
  have hAlt : ∀ i m, i < ops.size → m ∈ A i → m < i := fun i m hi hm => hA.lt i ops[i] (by simp [hi]) m hm
  let D : Nat → Delta := fun i => match L[i]? with | some q => q.2 | none => ⟨[], []⟩
  have hD : ∀ {i : Nat} {q : Rec × Delta}, L[i]? = some q → D i = q.2 := by
    intro i q hq
    show (match L[i]? with | some q => q.2 | none => (⟨[], []⟩ : Delta)) = q.2
    rw [hq]
  have Lget : ∀ i, i < ops.size → ∃ q, L[i]? = some q := fun i hi => ⟨L[i]'(by omega), by simp⟩
  have hent : ∀ i q, L[i]? = some q → Ent c B nt ops i q.1 q.2 (runE D e (List.range i)) := by
    intro i q hq
    have := l3 i q hq
    rw [Nat.zero_add, runL_take i (by have := (List.getElem?_eq_some_iff.1 hq).1; omega)] at this
    exact this
  have hcl : ∀ i j p q, i < j → L[i]? = some p → L[j]? = some q → i ∈ A j ∨ clash p.1 q.1 = false := by
    intro i j p q hij hp hq
    have := indepL_ok hind.2 j q.1 (by simp [hq]) i p.1 (by omega) (by simp [hp])
    rw [Nat.zero_add] at this
    rw [← hAA]
    exact this
  have clash_ws : ∀ {x y : Rec}, clash x y = false → (∀ κ, κ ∈ x.ws → κ ∉ y.rs ∧ κ ∉ y.ws) ∧ (∀ κ, κ ∈ y.ws → κ ∉ x.rs) ∧ (∀ κ, κ ∈ x.wo → κ ∉ y.ro ∧ κ ∉ y.wo) ∧ (∀ κ, κ ∈ y.wo → κ ∉ x.ro) := by
    intro x y h
    simp only [clash, Bool.or_eq_false_iff] at h
    refine ⟨fun κ hκ => ?_, fun κ hκ => anyIn_false h.1.1.2 κ hκ, fun κ hκ => ?_, fun κ hκ => anyIn_false h.2 κ hκ⟩
    · have := anyIn_false h.1.1.1 κ hκ
      exact ⟨fun h => this (List.mem_append_left _ h), fun h => this (List.mem_append_right _ h)⟩
    · have := anyIn_false h.1.2 κ hκ
      exact ⟨fun h => this (List.mem_append_left _ h), fun h => this (List.mem_append_right _ h)⟩
  have wsD : ∀ {i : Nat} {q : Rec × Delta}, L[i]? = some q → q.1.ws = (D i).slots.map (·.1) ∧ q.1.wo = (D i).objs.map (·.1) := by
    intro i q hq
    rw [hD hq]
    exact ⟨(hent i q hq).ws, (hent i q hq).wo⟩
  have writers : ∀ {i κ : Nat}, (κ ∈ (D i).slots.map (·.1) ∨ κ ∈ (D i).objs.map (·.1)) → i < ops.size := by
    intro i κ h
    refine Nat.lt_of_not_le fun hle => ?_
    have : D i = ⟨[], []⟩ := by
      show (match L[i]? with | some q => q.2 | none => (⟨[], []⟩ : Delta)) = ⟨[], []⟩
      rw [List.getElem?_eq_none (by omega)]
    rw [this] at h
    rcases h with h | h <;> cases h
  have wS : ∀ κ i j, i < j → j < ops.size → κ ∈ (D i).slots.map (·.1) → κ ∈ (D j).slots.map (·.1) → i ∈ A j := by
    intro κ i j hij hj h1 h2
    obtain ⟨p, hp⟩ := Lget i (by omega)
    obtain ⟨q, hq⟩ := Lget j hj
    rcases hcl i j p q hij hp hq with h3 | h3
    · exact h3
    · rw [← (wsD hp).1] at h1
      rw [← (wsD hq).1] at h2
      exact absurd h2 ((clash_ws h3).1 κ h1).2
  have wO : ∀ κ i j, i < j → j < ops.size → κ ∈ (D i).objs.map (·.1) → κ ∈ (D j).objs.map (·.1) → i ∈ A j := by
    intro κ i j hij hj h1 h2
    obtain ⟨p, hp⟩ := Lget i (by omega)
    obtain ⟨q, hq⟩ := Lget j hj
    rcases hcl i j p q hij hp hq with h3 | h3
    · exact h3
    · rw [← (wsD hp).2] at h1
      rw [← (wsD hq).2] at h2
      exact absurd h2 ((clash_ws h3).2.2.1 κ h1).2
  -- who wrote what an entry looks at
  have before : ∀ (l : List Nat) (i : Nat) (q : Rec × Delta), Good A ops.size l → L[i]? = some q → i ∉ l → (∀ m, m ∈ A i → m ∈ l) → ∀ κ j, ((κ ∈ q.1.rs ∧ κ ∈ (D j).slots.map (·.1)) ∨ (κ ∈ q.1.ro ∧ κ ∈ (D j).objs.map (·.1))) → j ≠ i → (j ∈ l ↔ j < i) := by
    intro l i q hG hq hil hanc κ j hk hne
    have hj : j < ops.size := by
      rcases hk with h | h
      · exact writers (.inl h.2)
      · exact writers (.inr h.2)
    have hi : i < ops.size := by have := (List.getElem?_eq_some_iff.1 hq).1; omega
    obtain ⟨p, hp⟩ := Lget j hj
    rw [← (wsD hp).1, ← (wsD hp).2] at hk
    rcases Nat.lt_or_gt_of_ne hne with hlt | hgt
    · refine ⟨fun _ => hlt, fun _ => ?_⟩
      rcases hcl j i p q hlt hp hq with h3 | h3
      · exact hanc j h3
      · rcases hk with ⟨h1, h2⟩ | ⟨h1, h2⟩
        · exact absurd h1 ((clash_ws h3).1 κ h2).1
        · exact absurd h1 ((clash_ws h3).2.2.1 κ h2).1
    · refine ⟨fun hjl => ?_, fun h => by omega⟩
      rcases hcl i j q p hgt hq hp with h3 | h3
      · exact absurd (hG.mem_anc hjl i h3) hil
      · rcases hk with ⟨h1, h2⟩ | ⟨h1, h2⟩
        · exact absurd h1 ((clash_ws h3).2.1 κ h2)
        · exact absurd h1 ((clash_ws h3).2.2.2 κ h2)
  refine ⟨runL e L, l2, fun a w hI Q hQ => ?_⟩
  have hfin : runL e L = runE D e (List.range ops.size) := by
    have := runL_take (e := e) (L := L) L.length (Nat.le_refl _)
    rw [List.take_length] at this
    rw [this, hn]
  rw [hfin] at hQ
  have ready : ∀ (listed : Array Bool) (i : Nat), i ∈ Region.ready .any ops listed ↔ ∃ o, ops[i]? = some o ∧ listed.getD i true = false ∧ ∀ ed, ed ∈ o.after.toList → Region.binds .any ed = true → listed.getD ed.on false = true := by
    intro listed i
    unfold Region.ready
    rw [List.mem_filter, List.mem_range]
    constructor
    · rintro ⟨h1, h2⟩
      have ho : ops[i]? = some ops[i] := by simp [h1]
      rw [ho] at h2
      simp only [Option.map_some, Option.getD_some, Bool.and_eq_true] at h2
      refine ⟨ops[i], ho, by simpa using h2.1, fun ed hed hb => ?_⟩
      have h3 := (Array.all_eq_true_iff_forall_mem.1 h2.2) ed (by simpa using hed)
      rw [hb] at h3
      simpa using h3
    · rintro ⟨o, ho, h1, h2⟩
      refine ⟨(Array.getElem?_eq_some_iff.1 ho).1, ?_⟩
      rw [ho]
      simp only [Option.map_some, Option.getD_some, Bool.and_eq_true]
      refine ⟨by simpa using h1, Array.all_eq_true_iff_forall_mem.2 fun ed hed => ?_⟩
      cases hb : Region.binds .any ed with
      | false => rfl
      | true => simpa using h2 ed (by simpa using hed) hb
  have main : ∀ (fuel : Nat) (l : List Nat) (listed : Array Bool) (a : Act) (w : World), fuel + l.length = ops.size → Good A ops.size l → listed.size = ops.size → (∀ i, i < ops.size → (listed.getD i true = true ↔ i ∈ l)) →
      Inv c.P B nt (runE D e l) a w → wpAny c.P .any ops Q fuel listed a w := by
    intro fuel
    induction fuel with
    | zero =>
      intro l listed a w hlen hG hsz hlisted hI
      have full : ∀ i, i < ops.size → i ∈ l := by
        intro i hi
        refine Classical.byContradiction fun hni => ?_
        have := nodup_le ops.size (i :: l) (List.nodup_cons.2 ⟨hni, hG.nodup⟩) (fun x hx => by
          rcases List.mem_cons.1 hx with rfl | hx
          · exact hi
          · exact hG.lt x hx)
        simp at this
        omega
      refine ⟨?_, hQ _ _ (hI.congr ?_ ?_)⟩
      · refine List.eq_nil_iff_forall_not_mem.2 fun i hi => ?_
        obtain ⟨o, ho, h1, _⟩ := (ready listed i).1 hi
        have hlt := (Array.getElem?_eq_some_iff.1 ho).1
        rw [(hlisted i hlt).2 (full i hlt)] at h1
        cases h1
      · intro κ
        exact look_run (fun e => e.slots) (fun d => d.slots) (fun _ _ => rfl) (Good.range (Nat.le_refl _) hAlt) hG (wS κ) (fun i hi => ⟨fun _ => full i (writers (.inl hi)), fun _ => List.mem_range.2 (writers (.inl hi))⟩) e
      · intro κ
        exact look_run (fun e => e.objs) (fun d => d.objs) (fun _ _ => rfl) (Good.range (Nat.le_refl _) hAlt) hG (wO κ) (fun i hi => ⟨fun _ => full i (writers (.inr hi)), fun _ => List.mem_range.2 (writers (.inr hi))⟩) e
    | succ fuel ih =>
      intro l listed a w hlen hG hsz hlisted hI
      refine ⟨fun hempty => ?_, fun i hi => ?_⟩
      · exfalso
        -- the least that is not listed is ready
        have hex : ∃ i, i < ops.size ∧ i ∉ l := by
          refine Classical.byContradiction fun hno => ?_
          have full : ∀ i, i < ops.size → i ∈ l := fun i hi => Classical.byContradiction fun h => hno ⟨i, hi, h⟩
          have h1 : (List.range ops.size).length ≤ l.length := by
            have : ∀ (r l : List Nat), r.Nodup → (∀ x, x ∈ r → x ∈ l) → r.length ≤ l.length := by
              intro r
              induction r with
              | nil => intro l _ _; simp
              | cons x r ih =>
                intro l hn hs
                have hn' := List.nodup_cons.1 hn
                have := ih (l.erase x) hn'.2 (fun y hy => (List.mem_erase_of_ne (by intro e1; subst e1; exact hn'.1 hy)).2 (hs y (List.mem_cons_of_mem _ hy)))
                rw [List.length_erase_of_mem (hs x List.mem_cons_self)] at this
                have hpos : 0 < l.length := List.length_pos_of_mem (hs x List.mem_cons_self)
                simp
                omega
            exact this _ _ List.nodup_range (fun x hx => full x (List.mem_range.1 hx))
          simp at h1
          omega
        have least : ∀ (i : Nat), i < ops.size → i ∉ l → ∃ j, j < ops.size ∧ j ∉ l ∧ ∀ m, m < j → m ∈ l := by
          intro i
          induction i using Nat.strongRecOn with
          | _ i ihi =>
            intro hi hil
            by_cases hall : ∀ m, m < i → m ∈ l
            · exact ⟨i, hi, hil, hall⟩
            · obtain ⟨m, hm⟩ := Classical.not_forall.1 hall
              obtain ⟨hm1, hm2⟩ := Classical.not_imp.1 hm
              exact ihi m hm1 (by omega) hm2
        obtain ⟨i, hi, hil⟩ := hex
        obtain ⟨j, hj, hjl, hjm⟩ := least i hi hil
        have : j ∈ Region.ready .any ops listed := by
          refine (ready listed j).2 ⟨ops[j], by simp [hj], ?_, fun ed hed hb => ?_⟩
          · cases hb : listed.getD j true with
            | false => rfl
            | true => exact absurd ((hlisted j hj).1 hb) hjl
          · have hlt := hA.low j ops[j] (by simp [hj]) ed hed hb
            have := (hlisted ed.on (by omega)).2 (hjm _ hlt)
            have hlt2 : ed.on < listed.size := by omega
            simpa [Array.getD, hlt2] using this
        rw [hempty] at this
        cases this
      · obtain ⟨o, ho, h1, h2⟩ := (ready listed i).1 hi
        have hlt := (Array.getElem?_eq_some_iff.1 ho).1
        have hil : i ∉ l := fun h => by rw [(hlisted i hlt).2 h] at h1; cases h1
        have hanc : ∀ m, m ∈ A i → m ∈ l := by
          intro m hm
          obtain ⟨ed, hed, hb, h3⟩ := (hA.mem i o ho m).1 hm
          have hel := hA.low i o ho ed hed hb
          have hin : ed.on ∈ l := by
            refine (hlisted ed.on (by omega)).1 ?_
            have := h2 ed hed hb
            have hlt2 : ed.on < listed.size := by omega
            simpa [Array.getD, hlt2] using this
          rcases h3 with rfl | h3
          · exact hin
          · exact hG.mem_anc hin m h3
        obtain ⟨q, hq⟩ := Lget i hlt
        have hE := hent i q hq
        have hGr : Good A ops.size (List.range i) := Good.range (by omega) hAlt
        have selfl : ∀ j, j = i → (j ∈ l ↔ j ∈ List.range i) := fun j hj => by
          subst hj
          exact ⟨fun h => absurd h hil, fun h => by simp at h⟩
        have sm : ∀ κ, κ ∈ q.1.rs → look (runE D e l).slots κ = look (runE D e (List.range i)).slots κ := fun κ hκ =>
          look_run (fun e => e.slots) (fun d => d.slots) (fun _ _ => rfl) hG hGr (wS κ) (fun j hj => by
            by_cases hji : j = i
            · exact selfl j hji
            · rw [before l i q hG hq hil hanc κ j (.inl ⟨hκ, hj⟩) hji, List.mem_range]) e
        have om : ∀ κ, κ ∈ q.1.ro → look (runE D e l).objs κ = look (runE D e (List.range i)).objs κ := fun κ hκ =>
          look_run (fun e => e.objs) (fun d => d.objs) (fun _ _ => rfl) hG hGr (wO κ) (fun j hj => by
            by_cases hji : j = i
            · exact selfl j hji
            · rw [before l i q hG hq hil hanc κ j (.inr ⟨hκ, hj⟩) hji, List.mem_range]) e
        refine hE.ok (runE D e l) sm om a w hI _ Q fun a' w' hI' => ?_
        refine ih (l ++ [i]) (listed.setIfInBounds i true) a' w' (by simp; omega) (hG.snoc hlt hil hanc) (by simp [hsz]) (fun j hj => ?_) ?_
        · have hjs : j < listed.size := by omega
          by_cases hji : i = j
          · subst hji
            simp [Array.getD, hjs]
          · have e1 : (listed.setIfInBounds i true).getD j true = listed.getD j true := by
              simp [Array.getD, hjs, Array.getElem_setIfInBounds_ne, hji]
            rw [e1, hlisted j hj]
            simp only [List.mem_append, List.mem_singleton]
            exact ⟨fun h => .inl h, fun h => h.elim (fun h => h) (fun h => absurd h.symm hji)⟩
        · rw [← hD hq] at hI'
          simpa [runE] using hI'
  exact main ops.size [] _ a w (by simp) ⟨(fun x hx => by cases hx), (fun p q i hp => by simp at hp), (fun p i hp => by simp at hp)⟩ (by simp) (fun i hi => by simp [Array.getD, hi]) hI

end
end Go.Abs

namespace Go.Abs
variable {B : Base}
section
variable {c : Ctx} {nt n : Nat} {Ω : Type} {out : Ω}

/-- What a state that answers 'out' is good for. -/
def Fine (P : Program) (B : Base) (nt : Nat) (k : Env → Option Ω) (out : Ω) (Q : Act → World → Prop) : Prop := ∀ e, k e = some out → ∀ a w, Inv P B nt e a w → Q a w

theorem Fine.meet {P : Program} {k : Env → Option Ω} {Q : Act → World → Prop} (h : Fine P B nt k out Q) (l : Option (List Nat)) : Fine P B nt (meet l k) out Q := by
  cases l with
  | none => exact h
  | some l => exact fun e he a w hi => h (forget e l) he a w (inv_forget hi l)

theorem aev_ok (hc : CtxOk c) (hM : MOk c) (hmix : c.P.follows .mixedOrders = true) : ∀ (code : Code) (ann : Ann) (kn : Env → Option Ω) (kx : Nat → Env → Option Ω) (kr : Env → Option Ω) (Q : Exit → Act → World → Prop),
    Fine c.P B nt kn out (Q .normal) → (∀ j, Fine c.P B nt (kx j) out (Q (.exit j))) → Fine c.P B nt kr out (Q .ret) → Fine c.P B nt (aev c nt n code ann kn kx kr) out (fun a w => code.wp c.P Q a w)
  | .skip, ann, kn, kx, kr, Q, hn, hx, hr => fun e h a w hi => wp_skip (hn e h a w hi)
  | .region id ops false, ann, kn, kx, kr, Q, hn, hx, hr => fun e h a w hi => by
    obtain ⟨e', h1, h2⟩ := aops_ok (B := B) hc hM (List.range ops.size) ops.toList e kn range_map h
    exact wp_region (h2 a w hi Q fun a' w' hi' => hn e' h1 a' w' hi')
  | .region id ops true, ann, kn, kx, kr, Q, hn, hx, hr => fun e h a w hi => by
    obtain ⟨e', h1, h2⟩ := drawn_ok (B := B) hc hM h
    refine wp_region_any hmix (h2 a _ ?_ Q fun a' w' hi' => hn e' h1 a' w' hi')
    obtain ⟨g, hg⟩ := hi
    exact ⟨_, hg.grow (Ext.drew w _)⟩
  | .seq x y, ann, kn, kx, kr, Q, hn, hx, hr => fun e h a w hi => by
    have hy := aev_ok hc hM hmix y ann.r kn kx kr Q hn hx hr
    exact wp_seq (aev_ok hc hM hmix x ann.l _ kx kr (Exit.then (y.wp c.P Q) Q) hy hx hr e h a w hi)
  | .cond o x y, ann, kn, kx, kr, Q, hn, hx, hr => fun e h a w hi => by
    have h : (match e.opd o with
      | .v .bool b => if b = true then aev c nt n x ann.l (meet ann.live kn) kx kr e else aev c nt n y ann.r (meet ann.live kn) kx kr e
      | _ => none) = some out := h
    split at h
    · rename_i b hb
      have hv : a.eval o = .bool b := by
        obtain ⟨g, hg⟩ := hi
        have hr := Inv.eval hg o
        rw [hb] at hr
        obtain ⟨cs, h2, h3⟩ := hr
        rw [show cs = [.bool b] from h2] at h3
        exact h3.1
      split at h
      · rename_i hbt
        subst hbt
        exact wp_cond_true hv (aev_ok hc hM hmix x ann.l _ kx kr Q (hn.meet _) hx hr e h a w hi)
      · rename_i hbt
        have : b = false := by simpa using hbt
        subst this
        exact wp_cond_false hv (aev_ok hc hM hmix y ann.r _ kx kr Q (hn.meet _) hx hr e h a w hi)
    · cases h
  | .block id x, ann, kn, kx, kr, Q, hn, hx, hr => fun e h a w hi => by
    refine wp_block (aev_ok hc hM hmix x ann.l _ _ kr (Exit.inBlock id Q) (hn.meet _) (fun j => ?_) hr e h a w hi)
    intro e1 h1 a1 w1 hi1
    show if j = id then Q .normal a1 w1 else Q (.exit j) a1 w1
    by_cases hj : j = id
    · subst hj
      rw [if_pos rfl]
      have h1 : (if Nat.beq j j = true then meet ann.live kn else kx j) e1 = some out := h1
      rw [if_pos (Nat.beq_refl j)] at h1
      exact hn.meet _ e1 h1 a1 w1 hi1
    · rw [if_neg hj]
      have h1 : (if Nat.beq j id = true then meet ann.live kn else kx j) e1 = some out := h1
      rw [if_neg (fun hb => hj (Nat.eq_of_beq_eq_true hb))] at h1
      exact hx j e1 h1 a1 w1 hi1
  | .loop x, ann, kn, kx, kr, Q, hn, hx, hr => by
    have hl : ∀ m, Fine c.P B nt (aloop m fun again => aev c nt n x ann.l (meet ann.live again) kx kr) out (fun a w => Code.rounds c.P x Q m a w) := by
      intro m
      induction m with
      | zero => intro e h; cases h
      | succ m ih =>
        intro e h a w hi
        rw [rounds_succ]
        exact aev_ok hc hM hmix x ann.l _ kx kr (Exit.then (Code.rounds c.P x Q m) Q) (ih.meet _) hx hr e h a w hi
    have hl2 : Fine c.P B nt (aloop n fun again => aev c nt n x ann.l (meet ann.live again) kx kr) out (fun a w => (Code.loop x).wp c.P Q a w) := fun e h a w hi => wp_loop_rounds n (hl n e h a w hi)
    exact hl2.meet ann.live
  | .exit j, ann, kn, kx, kr, Q, hn, hx, hr => fun e h a w hi => wp_exit (hx j e h a w hi)
  | .ret, ann, kn, kx, kr, Q, hn, hx, hr => fun e h a w hi => wp_ret (hr e h a w hi)
  | .rangeFunc _ _ _ _, ann, kn, kx, kr, Q, hn, hx, hr => fun e h a w hi => by cases h
  | .scope _, ann, kn, kx, kr, Q, hn, hx, hr => fun e h a w hi => by cases h
  | .label _, ann, kn, kx, kr, Q, hn, hx, hr => fun e h a w hi => by cases h
  | .goto _, ann, kn, kx, kr, Q, hn, hx, hr => fun e h a w hi => by cases h
  | .refuse _, ann, kn, kx, kr, Q, hn, hx, hr => fun e h a w hi => by cases h

end
end Go.Abs

namespace Go.Abs

/-- The meanings answer alike, whatever comes after. -/
def MUni (c : Ctx) : Prop := ∀ (f : Nat) (args : List Arg) (Ω : Type) (K : Res → Option Ω), c.M f args K = (c.M f args some).bind K

theorem put1_uni {Ω : Type} (nt : Nat) (dst : Option Nat) (s : Slot) (k : Delta → Option Ω) : put1 nt dst s k = (put1 nt dst s some).bind k := by
  unfold put1
  repeat' split
  all_goals rfl

theorem putNew_uni {Ω : Type} (nt : Nat) (dst : Option Nat) (fr : Bool) (o : Obj) (b : Bool) (more : List (Nat × Option Obj)) (k : Delta → Option Ω) : putNew nt dst fr o b more k = (putNew nt dst fr o b more some).bind k := by
  unfold putNew
  repeat' split
  all_goals rfl

theorem sameP_uni {Ω Ω' : Type} : ∀ (p q : Path) (x : Option Ω) (f : Ω → Option Ω'), sameP p q (x.bind f) = (sameP p q x).bind f
  | [], [], _, _ => rfl
  | .inn :: p, .inn :: q, x, f => sameP_uni p q x f
  | .fst :: p, .fst :: q, x, f => sameP_uni p q x f
  | .snd :: p, .snd :: q, x, f => sameP_uni p q x f
  | .idx i :: p, .idx j :: q, x, f => by
    unfold sameP
    split
    · exact sameP_uni p q x f
    · rfl
  | [], _ :: _, _, _ => rfl
  | .inn :: _, [], _, _ | .fst :: _, [], _, _ | .snd :: _, [], _, _ | .idx _ :: _, [], _, _ => rfl
  | .inn :: _, .fst :: _, _, _ | .inn :: _, .snd :: _, _, _ | .inn :: _, .idx _ :: _, _, _ | .fst :: _, .inn :: _, _, _ | .fst :: _, .snd :: _, _, _ | .fst :: _, .idx _ :: _, _, _
  | .snd :: _, .inn :: _, _, _ | .snd :: _, .fst :: _, _, _ | .snd :: _, .idx _ :: _, _, _ | .idx _ :: _, .inn :: _, _, _ | .idx _ :: _, .fst :: _, _, _ | .idx _ :: _, .snd :: _, _, _ => rfl

theorem divI_uni {Ω Ω' : Type} (op : BinOp) (i : IntKind) (a b : Int) (k : KV → Option Ω) (f : Ω → Option Ω') : divI op i a b (fun r => (k r).bind f) = (divI op i a b k).bind f := by
  unfold divI
  repeat' split
  all_goals rfl

theorem binS_uni {Ω Ω' : Type} (op : BinOp) (a b : ByteArray) (k : KV → Option Ω) (f : Ω → Option Ω') : binS op a b (fun r => (k r).bind f) = (binS op a b k).bind f := by
  unfold binS
  repeat' split
  all_goals rfl

theorem abin_uni {Ω Ω' : Type} (c : Ctx) (op : BinOp) (t : Nat) (cst : Bool) (a b : KV) (k : KV → Option Ω) (f : Ω → Option Ω') : abin c op t cst a b (fun r => (k r).bind f) = (abin c op t cst a b k).bind f := by
  unfold abin
  repeat' split
  all_goals first | rfl | exact divI_uni _ _ _ _ _ _ | exact binS_uni _ _ _ _ _

theorem retsOf_uni {Ω : Type} (nt : Nat) (mds : List (Nat × Md)) (dst : Option Nat) (fr : Bool) (outs : List (Nat × Option Obj)) (rets : List RV) (k : Delta → Option Ω) : retsOf nt mds dst fr outs rets k = (retsOf nt mds dst fr outs rets some).bind k := by
  unfold retsOf
  repeat' split
  all_goals rfl

theorem callK_uni {c : Ctx} (hU : MUni c) {Ω : Type} (nt : Nat) (mds : List (Nat × Md)) (dst : Option Nat) (fr : Bool) (f : Nat) (ts : List Nat) (vs : List View) (caps : List KV) (k : Delta → Option Ω) :
    callK c nt mds dst fr f ts vs caps k = (callK c nt mds dst fr f ts vs caps some).bind k := by
  unfold callK
  split
  · rfl
  · dsimp only
    split
    · rfl
    · split
      · rw [hU f _ Ω, hU f _ Delta]
        cases c.M f _ some with
        | none => rfl
        | some res =>
          simp only [Option.bind_some]
          split
          · split
            · rfl
            · exact retsOf_uni _ _ _ _ _ _ _
          · rfl
      · rfl

theorem cloK_uni {Ω : Type} (nt : Nat) (dst : Option Nat) (Ks : List Kd) (Kr : Kd) (f : Kd.Ts Ks → Option Kr.T) (vs : List View) (k : Delta → Option Ω) : cloK nt dst Ks Kr f vs k = (cloK nt dst Ks Kr f vs some).bind k := by
  unfold cloK
  split
  · rfl
  · split
    · rfl
    · rename_i a ha
      cases f a with
      | none => rfl
      | some y => exact put1_uni _ _ _ _

theorem aop_uni {c : Ctx} (hU : MUni c) {Ω : Type} (nt : Nat) (mds : List (Nat × Md)) (o : Oper) (vs : List View) (fr : Bool) (k : Delta → Option Ω) : aop c nt mds o vs fr k = (aop c nt mds o vs fr some).bind k := by
  unfold aop
  split
  all_goals repeat' (first | rfl | exact put1_uni _ _ _ _ | exact putNew_uni _ _ _ _ _ _ _ | exact callK_uni hU _ _ _ _ _ _ _ _ _ | exact cloK_uni _ _ _ _ _ _ _ | (rw [← abin_uni]; congr 1; funext q; exact put1_uni _ _ _ _) | (rw [← sameP_uni]; rfl) | split | (dsimp only; split))

theorem aops_uni {c : Ctx} (hU : MUni c) {Ω : Type} (nt : Nat) (mds : List (Nat × Md)) (ops : List Oper) : ∀ (rest : List Oper) (e : Env) (k : Env → Option Ω), aops c nt mds ops rest e k = (aops c nt mds ops rest e some).bind k
  | [], e, k => rfl
  | o :: rest, e, k => by
    have run : ∀ e1 : Env, aopE c nt mds o e1 (fun d => aops c nt mds ops rest (e1.apply d) k) = (aopE c nt mds o e1 (fun d => aops c nt mds ops rest (e1.apply d) some)).bind k := by
      intro e1
      unfold aopE
      rw [aop_uni hU _ _ _ _ _ (fun d => aops c nt mds ops rest (e1.apply d) k), aop_uni hU _ _ _ _ _ (fun d => aops c nt mds ops rest (e1.apply d) some)]
      cases aop c nt mds o _ _ some with
      | none => rfl
      | some d => exact aops_uni hU nt mds ops rest (e1.apply d) k
    unfold aops
    repeat' (first | rfl | exact run _ | exact aops_uni hU nt mds ops rest _ k | split | (dsimp only; exact run _))

theorem aopsD_uni {c : Ctx} (hU : MUni c) {Ω : Type} (nt : Nat) (mds : List (Nat × Md)) (ops : List Oper) : ∀ (rest : List Oper) (e : Env) (tr : List Rec) (k : List Rec → Env → Option Ω), aopsD c nt mds ops rest e tr k = (aopsD c nt mds ops rest e tr (fun tr e => some (tr, e))).bind fun q => k q.1 q.2
  | [], e, tr, k => rfl
  | o :: rest, e, tr, k => by
    have run : ∀ (f : Delta → Rec), aopE c nt mds o e (fun d => aopsD c nt mds ops rest (e.apply d) (f d :: tr) k) = (aopE c nt mds o e (fun d => aopsD c nt mds ops rest (e.apply d) (f d :: tr) (fun tr e => some (tr, e)))).bind fun q => k q.1 q.2 := by
      intro f
      unfold aopE
      rw [aop_uni hU _ _ _ _ _ (fun d => aopsD c nt mds ops rest (e.apply d) (f d :: tr) k), aop_uni hU _ _ _ _ _ (fun d => aopsD c nt mds ops rest (e.apply d) (f d :: tr) (fun tr e => some (tr, e)))]
      cases aop c nt mds o _ _ some with
      | none => rfl
      | some d => exact aopsD_uni hU nt mds ops rest (e.apply d) _ k
    unfold aopsD
    repeat' (first | rfl | exact run _ | exact aopsD_uni hU nt mds ops rest _ _ k | split)

/-- How code ends. -/
inductive Leaf where
  | nrm (e : Env)
  | ext (j : Nat) (e : Env)
  | ret (e : Env)

def Leaf.go {Ω : Type} (kn : Env → Option Ω) (kx : Nat → Env → Option Ω) (kr : Env → Option Ω) : Leaf → Option Ω
  | .nrm e => kn e
  | .ext j e => kx j e
  | .ret e => kr e

def leaves (c : Ctx) (nt n : Nat) (code : Code) (a : Ann) (e : Env) : Option Leaf := aev c nt n code a (fun e => some (Leaf.nrm e)) (fun j e => some (Leaf.ext j e)) (fun e => some (Leaf.ret e)) e

theorem meet_uni {Ω : Type} (l : Option (List Nat)) (k : Env → Option Ω) (e : Env) : meet l k e = k (match l with | none => e | some l => forget e l) := by
  cases l <;> rfl

/-- One law for all continuations: what code comes to is a leaf. -/
theorem aev_uni {c : Ctx} (hU : MUni c) (nt n : Nat) : ∀ (code : Code) (a : Ann) {Ω : Type} (kn : Env → Option Ω) (kx : Nat → Env → Option Ω) (kr : Env → Option Ω) (e : Env),
    aev c nt n code a kn kx kr e = (leaves c nt n code a e).bind (Leaf.go kn kx kr)
  | .skip, a, Ω, kn, kx, kr, e => rfl
  | .region _ ops false, a, Ω, kn, kx, kr, e => by
    show aops c nt a.mds ops.toList ops.toList e kn = (aops c nt a.mds ops.toList ops.toList e (fun e => some (Leaf.nrm e))).bind (Leaf.go kn kx kr)
    rw [aops_uni hU nt a.mds ops.toList ops.toList e kn, aops_uni hU nt a.mds ops.toList ops.toList e (fun e => some (Leaf.nrm e))]
    cases aops c nt a.mds ops.toList ops.toList e some <;> rfl
  | .region _ ops true, a, Ω, kn, kx, kr, e => by
    show aopsD c nt a.mds ops.toList ops.toList e [] (fun tr e' => if indep ops.toList tr = true then kn e' else none) = (aopsD c nt a.mds ops.toList ops.toList e [] (fun tr e' => if indep ops.toList tr = true then some (Leaf.nrm e') else none)).bind (Leaf.go kn kx kr)
    rw [aopsD_uni hU nt a.mds ops.toList ops.toList e [] (fun tr e' => if indep ops.toList tr = true then kn e' else none), aopsD_uni hU nt a.mds ops.toList ops.toList e [] (fun tr e' => if indep ops.toList tr = true then some (Leaf.nrm e') else none)]
    cases aopsD c nt a.mds ops.toList ops.toList e [] (fun tr e => some (tr, e)) with
    | none => rfl
    | some q =>
      simp only [Option.bind_some]
      split <;> rfl
  | .seq x y, a, Ω, kn, kx, kr, e => by
    show aev c nt n x a.l (aev c nt n y a.r kn kx kr) kx kr e = (aev c nt n x a.l (aev c nt n y a.r (fun e => some (Leaf.nrm e)) (fun j e => some (Leaf.ext j e)) (fun e => some (Leaf.ret e))) (fun j e => some (Leaf.ext j e)) (fun e => some (Leaf.ret e)) e).bind (Leaf.go kn kx kr)
    rw [aev_uni hU nt n x a.l (aev c nt n y a.r kn kx kr) kx kr e, aev_uni hU nt n x a.l (aev c nt n y a.r (fun e => some (Leaf.nrm e)) (fun j e => some (Leaf.ext j e)) (fun e => some (Leaf.ret e))) (fun j e => some (Leaf.ext j e)) (fun e => some (Leaf.ret e)) e]
    cases leaves c nt n x a.l e with
    | none => rfl
    | some l =>
      cases l with
      | nrm e1 => exact aev_uni hU nt n y a.r kn kx kr e1
      | ext j e1 => rfl
      | ret e1 => rfl
  | .cond o x y, a, Ω, kn, kx, kr, e => by
    show (match e.opd o with
      | .v .bool b => if b = true then aev c nt n x a.l (meet a.live kn) kx kr e else aev c nt n y a.r (meet a.live kn) kx kr e
      | _ => none) = (match e.opd o with
      | .v .bool b => if b = true then aev c nt n x a.l (meet a.live (fun e => some (Leaf.nrm e))) (fun j e => some (Leaf.ext j e)) (fun e => some (Leaf.ret e)) e else aev c nt n y a.r (meet a.live (fun e => some (Leaf.nrm e))) (fun j e => some (Leaf.ext j e)) (fun e => some (Leaf.ret e)) e
      | _ => none).bind (Leaf.go kn kx kr)
    have both : ∀ (l : Option Leaf), l.bind (Leaf.go (meet a.live kn) kx kr) = (l.bind (Leaf.go (meet a.live (fun e => some (Leaf.nrm e))) (fun j e => some (Leaf.ext j e)) (fun e => some (Leaf.ret e)))).bind (Leaf.go kn kx kr) := by
      intro l
      cases l with
      | none => rfl
      | some l =>
        cases l with
        | nrm e1 => simp only [Option.bind_some, Leaf.go, meet_uni]
        | ext j e1 => rfl
        | ret e1 => rfl
    split
    · split
      · rw [aev_uni hU nt n x a.l (meet a.live kn) kx kr e, aev_uni hU nt n x a.l (meet a.live (fun e => some (Leaf.nrm e))) _ _ e]
        exact both _
      · rw [aev_uni hU nt n y a.r (meet a.live kn) kx kr e, aev_uni hU nt n y a.r (meet a.live (fun e => some (Leaf.nrm e))) _ _ e]
        exact both _
    · rfl
  | .block id x, a, Ω, kn, kx, kr, e => by
    show aev c nt n x a.l (meet a.live kn) (fun j => if Nat.beq j id = true then meet a.live kn else kx j) kr e =
      (aev c nt n x a.l (meet a.live (fun e => some (Leaf.nrm e))) (fun j => if Nat.beq j id = true then meet a.live (fun e => some (Leaf.nrm e)) else fun e => some (Leaf.ext j e)) (fun e => some (Leaf.ret e)) e).bind (Leaf.go kn kx kr)
    rw [aev_uni hU nt n x a.l (meet a.live kn) _ kr e, aev_uni hU nt n x a.l (meet a.live (fun e => some (Leaf.nrm e))) _ _ e]
    cases leaves c nt n x a.l e with
    | none => rfl
    | some l =>
      cases l with
      | nrm e1 => simp only [Option.bind_some, Leaf.go, meet_uni]
      | ext j e1 =>
        simp only [Option.bind_some, Leaf.go]
        split
        · simp only [meet_uni, Option.bind_some, Leaf.go]
        · rfl
      | ret e1 => rfl
  | .loop x, a, Ω, kn, kx, kr, e => by
    have key : ∀ (m : Nat) (e : Env), aloop m (fun again => aev c nt n x a.l (meet a.live again) kx kr) e = (aloop m (fun again => aev c nt n x a.l (meet a.live again) (fun j e => some (Leaf.ext j e)) (fun e => some (Leaf.ret e))) e).bind (Leaf.go kn kx kr) := by
      intro m
      induction m with
      | zero => intro e; rfl
      | succ m ih =>
        intro e
        show aev c nt n x a.l (meet a.live (aloop m _)) kx kr e = (aev c nt n x a.l (meet a.live (aloop m _)) (fun j e => some (Leaf.ext j e)) (fun e => some (Leaf.ret e)) e).bind (Leaf.go kn kx kr)
        rw [aev_uni hU nt n x a.l (meet a.live (aloop m fun again => aev c nt n x a.l (meet a.live again) kx kr)) kx kr e,
          aev_uni hU nt n x a.l (meet a.live (aloop m fun again => aev c nt n x a.l (meet a.live again) (fun j e => some (Leaf.ext j e)) (fun e => some (Leaf.ret e)))) _ _ e]
        cases leaves c nt n x a.l e with
        | none => rfl
        | some l =>
          cases l with
          | nrm e1 =>
            simp only [Option.bind_some, Leaf.go, meet_uni]
            exact ih _
          | ext j e1 => rfl
          | ret e1 => rfl
    show meet a.live (aloop n fun again => aev c nt n x a.l (meet a.live again) kx kr) e = (meet a.live (aloop n fun again => aev c nt n x a.l (meet a.live again) (fun j e => some (Leaf.ext j e)) (fun e => some (Leaf.ret e))) e).bind (Leaf.go kn kx kr)
    rw [meet_uni, meet_uni]
    exact key n _
  | .exit j, a, Ω, kn, kx, kr, e => rfl
  | .ret, a, Ω, kn, kx, kr, e => rfl
  | .rangeFunc _ _ _ _, a, Ω, kn, kx, kr, e => rfl
  | .scope _, a, Ω, kn, kx, kr, e => rfl
  | .label _, a, Ω, kn, kx, kr, e => rfl
  | .goto _, a, Ω, kn, kx, kr, e => rfl
  | .refuse _, a, Ω, kn, kx, kr, e => rfl

end Go.Abs

namespace Go.Abs

/-- How a parameter begins. -/
def slotOf (j : Nat) : Arg → Slot
  | .ro K x => .v K x
  | .rp K x => .rp K x
  | .mp _ _ _ => .pt j 0 []
  | .ms _ _ _ => .al j 0 []
  | .mv _ _ _ => .al j 0 []
  | .fn Ks Kr f => .clo Ks Kr f

def objOf : Arg → Option Obj
  | .mp K m x => some ⟨K, m, x, true, true, [], none⟩
  | .ms K m x => some ⟨K, m, x, false, true, [], none⟩
  | .mv K m x => some ⟨K, m, x, false, false, [], none⟩
  | _ => none

def slotsOf : Nat → List Arg → List (Nat × Slot)
  | _, [] => []
  | j, a :: l => (j, slotOf j a) :: slotsOf (j + 1) l

def objsOf : Nat → List Arg → List (Nat × Option Obj)
  | _, [] => []
  | j, a :: l => match objOf a with
    | some o => (j, some o) :: objsOf (j + 1) l
    | none => objsOf (j + 1) l

def start (args : List Arg) : Env := ⟨slotsOf 0 args, objsOf 0 args⟩

theorem slotsOf_look : ∀ (l : List Arg) (j i : Nat), look (slotsOf j l) i = if j ≤ i then (l[i - j]?).map (slotOf i) else none
  | [], j, i => by simp [slotsOf, look]
  | a :: l, j, i => by
    unfold slotsOf
    by_cases h : j = i
    · subst h
      rw [look_cons_self, if_pos (Nat.le_refl _), Nat.sub_self]
      rfl
    · rw [look_cons_ne h, slotsOf_look l (j + 1) i]
      by_cases hlt : j < i
      · rw [if_pos (by omega), if_pos (by omega), show i - j = (i - (j + 1)) + 1 by omega, List.getElem?_cons_succ]
      · rw [if_neg (by omega), if_neg (by omega)]

theorem objsOf_look : ∀ (l : List Arg) (j i : Nat), look (objsOf j l) i = if j ≤ i then (l[i - j]?).bind (fun a => (objOf a).map some) else none
  | [], j, i => by simp [objsOf, look]
  | a :: l, j, i => by
    have tail : j ≠ i → look (objsOf (j + 1) l) i = if j ≤ i then ((a :: l)[i - j]?).bind (fun a => (objOf a).map some) else none := by
      intro h
      rw [objsOf_look l (j + 1) i]
      by_cases hlt : j < i
      · rw [if_pos (by omega), if_pos (by omega), show i - j = (i - (j + 1)) + 1 by omega, List.getElem?_cons_succ]
      · rw [if_neg (by omega), if_neg (by omega)]
    unfold objsOf
    by_cases h : j = i
    · subst h
      rw [if_pos (Nat.le_refl _), Nat.sub_self]
      split
      · rename_i o ho
        rw [look_cons_self]
        simp [ho]
      · rename_i ho
        rw [objsOf_look l (j + 1) j, if_neg (by omega)]
        simp [ho]
    · split
      · rw [look_cons_ne h]; exact tail h
      · exact tail h

/-- What the callee's state is measured against. -/
def baseOf (w : World) (args : List Arg) (g : Gh) : Base where
  w0 := w
  S0 := g.S
  Fx := fun b => ∃ j, g.F j b
  Rx := fun b o => ∃ j a off, args[j]? = some a ∧ g.pl j = some (b, off) ∧ off ≤ o ∧ o < off + a.size
  hd := fun j => (g.pl j, g.cs j)

theorem start_inv {P : Program} {w : World} {args : List Arg} {vals : List Value} {g : Gh} {nt : Nat} (h : Entry P w args vals g) (hnt : args.length ≤ nt) :
    Inv P (baseOf w args g) nt (start args) { tmps := vals.toArray ++ Array.replicate (nt - vals.toArray.size) undef, defers := [] } w := by
  have hl := h.len
  have obj : ∀ i, (start args).obj i = (args[i]?).bind fun a => (objOf a).map some := by
    intro i
    show look (objsOf 0 args) i = _
    rw [objsOf_look, if_pos (Nat.zero_le _), Nat.sub_zero]
  have get : ∀ i, (start args).get i = match args[i]? with | some a => slotOf i a | none => .dead := by
    intro i
    show (match look (slotsOf 0 args) i with | some s => s | none => Slot.dead) = _
    rw [slotsOf_look, if_pos (Nat.zero_le _), Nat.sub_zero]
    cases args[i]? <;> rfl
  have argAt : ∀ i a, args[i]? = some a → ∃ v, vals[i]? = some v ∧ ArgRep P g.S w (g.F i) (g.pl i) (g.cs i) a v := by
    intro i a ha
    have hi : i < vals.length := by have := (List.getElem?_eq_some_iff.1 ha).1; omega
    exact ⟨vals[i], by simp, h.arg i a vals[i] ha (by simp)⟩
  have hX : ∀ b o, g.S b → ¬ (baseOf w args g).X b o := by
    rintro b o hS (⟨j, hF⟩ | ⟨j, a, off, _, hp, _, _⟩)
    · exact h.FS j b hF hS
    · exact (h.plz j b off hp).2.1 hS
  refine ⟨g, ⟨h.glob, hX⟩, ?_, rfl, Ext.refl _ _, h.Ssz, h.Fsz, fun _ h => h, fun _ h => .inl h, fun i b hF => .inl ⟨i, hF⟩, h.FS, h.FF, h.plz, fun i hno => ?_, fun i o ho => ?_, fun i => ?_⟩
  · simp only [Array.size_append, Array.size_replicate, List.size_toArray]
    omega
  · cases ha : args[i]? with
    | none => exact h.rest i (by have := List.getElem?_eq_none_iff.1 ha; omega)
    | some a =>
      obtain ⟨v, _, hr⟩ := argAt i a ha
      have : objOf a = none := by
        cases ho : objOf a with
        | none => rfl
        | some o => exact absurd (by rw [obj, ha]; simp [ho]) (hno o)
      cases a with
      | ro K x => exact ⟨hr.1, hr.2.1⟩
      | rp K x => exact ⟨hr.1, hr.2.1⟩
      | fn Ks Kr f => exact ⟨hr.1, hr.2.1⟩
      | mp K m x => simp [objOf] at this
      | ms K m x => simp [objOf] at this
      | mv K m x => simp [objOf] at this
  · rw [obj] at ho
    cases ha : args[i]? with
    | none => rw [ha] at ho; cases ho
    | some a =>
      rw [ha] at ho
      obtain ⟨v, _, hr⟩ := argAt i a ha
      cases a with
      | ro K x => cases ho
      | rp K x => cases ho
      | fn Ks Kr f => cases ho
      | mp K m x =>
        cases ho
        obtain ⟨b, off, hp, rfl, h1, h2⟩ := hr
        exact ⟨fun _ => ⟨h1, h2⟩, (fun p hp => by cases hp), by rw [hp]; rfl, fun _ => by
          unfold ParOk
          split
          · exact ⟨fun _ => rfl, fun hn => by rw [show (baseOf w args g).hd i = (g.pl i, g.cs i) from rfl, hp] at hn; cases hn⟩
          · exact ⟨rfl, fun hb => by cases hb⟩, fun b' off' hp' => .inr ⟨rfl, fun o' h3 h4 => ⟨i, _, off', ha, hp', h3, h4⟩⟩⟩
      | ms K m x =>
        cases ho
        obtain ⟨hp, h1, h2⟩ := hr
        exact ⟨fun _ => ⟨h1, fun b off hq => by rw [hp] at hq; cases hq⟩, (fun p hp => by cases hp), by rw [hp]; rfl, fun _ => by
          unfold ParOk
          rw [if_neg (by simp)]
          exact ⟨rfl, fun _ => rfl⟩, fun b' off' hp' => by rw [hp] at hp'; cases hp'⟩
      | mv K m x =>
        cases ho
        obtain ⟨hp, h1, h2⟩ := hr
        exact ⟨fun _ => ⟨h1, fun b off hq => by rw [hp] at hq; cases hq⟩, (fun p hp => by cases hp), by rw [hp]; rfl, (fun hp => by cases hp), fun b' off' hp' => by rw [hp] at hp'; cases hp'⟩
  · rw [get]
    cases ha : args[i]? with
    | none => trivial
    | some a =>
      obtain ⟨v, hv, hr⟩ := argAt i a ha
      have hi : i < vals.length := (List.getElem?_eq_some_iff.1 hv).1
      have ht : (vals.toArray ++ Array.replicate (nt - vals.toArray.size) undef).getD i undef = v := by
        rw [Array.getD_eq_getD_getElem?, Array.getElem?_append_left (by simpa using hi)]
        simp [hv]
      show SlotRep P g w (start args).obj (slotOf i a) ((vals.toArray ++ Array.replicate (nt - vals.toArray.size) undef).getD i undef)
      rw [ht]
      have hob : (start args).obj i = (objOf a).map some := by rw [obj, ha]; rfl
      cases a with
      | ro K x => exact hr.2.2
      | rp K x => exact hr.2.2
      | fn Ks Kr f => exact hr.2.2
      | mp K m x =>
        obtain ⟨b, off, hp, rfl, h1, h2⟩ := hr
        refine ⟨⟨by rw [hob]; simp [objOf], fun _ _ => Nat.zero_le _⟩, fun o ho _ _ => ?_⟩
        rw [hob] at ho
        cases ho
        exact ⟨b, off, g.cs i, K, m, x, getP_nil _ _ _, by simp only [nav, hp], rfl⟩
      | ms K m x =>
        obtain ⟨hp, h1, h2⟩ := hr
        refine ⟨⟨by rw [hob]; simp [objOf], fun _ _ => Nat.zero_le _⟩, fun o ho _ _ => ?_⟩
        rw [hob] at ho
        cases ho
        exact ⟨none, g.cs i, K, m, x, getP_nil _ _ _, by simp only [nav, hp], h2⟩
      | mv K m x =>
        obtain ⟨hp, h1, h2⟩ := hr
        refine ⟨⟨by rw [hob]; simp [objOf], fun _ _ => Nat.zero_le _⟩, fun o ho _ _ => ?_⟩
        rw [hob] at ho
        cases ho
        exact ⟨none, g.cs i, K, m, x, getP_nil _ _ _, by simp only [nav, hp], h2⟩

end Go.Abs

namespace Go.Abs

/-- What a function is to the interpreter. -/
structure FnD where
  code : Code
  nt : Nat
  ann : Ann
  res : List (ResultVar × Kd × Md)

/-- A result; which object is frozen for it, which is handed over. -/
def retVal (K : Kd) (m : Md) : View → Option (RV × List Nat × List Nat)
  | (.v K' x, _) => if (K'.beq K && m.beq .ro) = true then some (.ro K' x, [], []) else none
  | (.nils, _) => match K with
    | .sl e => if m.beq .ro = true then some (.ro (.sl e) [], [], []) else (match m with | .own m' => some (.own (.sl e) (.own m') [], [], []) | _ => none)
    | _ => none
  | (.al id n [], some o) => if (noHole o && okAl o n [] && !o.par && o.K.beq K) = true then (if m.beq .ro = true then some (.ro o.K o.x, [id], []) else if o.m.beq m = true then some (.own o.K o.m o.x, [], [id]) else none) else none
  | _ => none

def retCell (c : Ctx) (t : Nat) (K : Kd) (m : Md) : View → Option (RV × List Nat × List Nat)
  | (.rp K' x, _) => if (K'.beq K && m.beq .ro && tyIs c t K') = true then some (.ro K' x, [], []) else none
  | (.pt id n [], some o) => if (noHole o && okPt o n [] && !o.par && o.K.beq K && tyIs c t o.K) = true then (if m.beq .ro = true then some (.ro o.K o.x, [id], []) else if o.m.beq m = true then some (.own o.K o.m o.x, [], [id]) else none) else none
  | _ => none

def retOne (c : Ctx) (e : Env) : ResultVar × Kd × Md → Option (RV × List Nat × List Nat)
  | (.tmp t, K, m) => retVal K m (e.view (e.get t))
  | (.cell a t, K, m) => retCell c t K m (e.view (e.get a))

def retsAt (c : Ctx) (e : Env) : List (ResultVar × Kd × Md) → Option (List RV × List Nat × List Nat)
  | [] => some ([], [], [])
  | q :: l => match retOne c e q, retsAt c e l with
    | some (r, a1, a2), some (rs, b1, b2) => some (r :: rs, a1 ++ b1, a2 ++ b2)
    | _, _ => none

def outsAt (e : Env) : Nat → List Arg → Option (List KV)
  | _, [] => some []
  | j, .mp K m _ :: l => match e.obj j with
    | some (some o) => if (noHole o && o.par && o.box && o.K.beq K && o.m.beq m) = true then (match outsAt e (j + 1) l with | some r => some (⟨o.K, o.x⟩ :: r) | none => none) else none
    | _ => none
  | j, .ms K m _ :: l => match e.obj j with
    | some (some o) => if (noHole o && o.par && !o.box && o.K.beq K && o.m.beq m) = true then (match outsAt e (j + 1) l with | some r => some (⟨o.K, o.x⟩ :: r) | none => none)
      else if h : o.K.beq (.st K) = true then (if (noHole o && o.par && o.box && fxK o.K && o.m.beq m) = true then (match outsAt e (j + 1) l with | some r => some (⟨K, (Kd.eq_of_beq h ▸ o.x : (Kd.st K).T)⟩ :: r) | none => none) else none) else none
    | _ => none
  | j, .ro _ _ :: l => outsAt e (j + 1) l
  | j, .rp _ _ :: l => outsAt e (j + 1) l
  | j, .mv _ _ _ :: l => outsAt e (j + 1) l
  | j, .fn _ _ _ :: l => outsAt e (j + 1) l

def endK {Ω : Type} (c : Ctx) (d : FnD) (args : List Arg) (K : Res → Option Ω) (e : Env) : Option Ω := match retsAt c e d.res, outsAt e 0 args with
  | some (rs, fz, ow), some outs => if nodup (fz ++ ow) = true then K ⟨rs, outs⟩ else none
  | _, _ => none

/-- A function's meaning, by that of those it calls; n: fuel of its loops. -/
def fnEv {Ω : Type} (c : Ctx) (n : Nat) (d : FnD) (args : List Arg) (K : Res → Option Ω) : Option Ω :=
  if Nat.ble args.length d.nt = true then aev c d.nt n d.code d.ann (endK c d args K) (fun _ _ => none) (endK c d args K) (start args) else none

theorem endK_uni {Ω : Type} (c : Ctx) (d : FnD) (args : List Arg) (K : Res → Option Ω) (e : Env) : endK c d args K e = (endK c d args some e).bind K := by
  unfold endK
  repeat' split
  all_goals rfl

theorem fnEv_uni {c : Ctx} (hU : MUni c) {Ω : Type} (n : Nat) (d : FnD) (args : List Arg) (K : Res → Option Ω) : fnEv c n d args K = (fnEv c n d args some).bind K := by
  unfold fnEv
  split
  · rw [aev_uni hU, aev_uni hU d.nt n d.code d.ann (endK c d args some)]
    cases leaves c d.nt n d.code d.ann (start args) with
    | none => rfl
    | some l =>
      cases l with
      | nrm e => exact endK_uni c d args K e
      | ext j e => rfl
      | ret e => exact endK_uni c d args K e
  · rfl

/-- One result at the end: which cells, which blocks. -/
theorem retOne_ok {c : Ctx} (hc : CtxOk c) {B : Base} {nt : Nat} {e : Env} {a : Act} {w : World} {g : Gh} (hg : InvG c.P B nt e a w g) {q : ResultVar × Kd × Md} {r : RV} {fz ow : List Nat} (h : retOne c e q = some (r, fz, ow)) (FZ : List Nat) (hF : ∀ i, i ∈ fz → i ∈ FZ) :
    ∃ v cs, ((match q.1 with | .tmp t => pure (a.tmps.getD t undef) | .cell t ty => (do loadVar ty (← asAddr (a.tmps.getD t undef))) : Sem Value)).run c.P w = .ok v w ∧
      RetRep (g.freeze FZ).S w (fun b => ∃ i, i ∈ ow ∧ g.F i b) cs r v ∧ ∀ i, i ∈ fz ++ ow → ∃ o, e.obj i = some (some o) ∧ o.par = false := by
  obtain ⟨rv, K, m⟩ := q
  have S1 : ∀ b, g.S b → (g.freeze FZ).S b := fun b hb => .inl hb
  have noF : ∀ b, ¬ ∃ i, i ∈ ([] : List Nat) ∧ g.F i b := fun b ⟨i, hi, _⟩ => by cases hi
  cases rv with
  | tmp t =>
    have hv : e.view (e.opd (.tmp t)) = e.view (e.get t) := rfl
    have h : retVal K m (e.view (e.get t)) = some (r, fz, ow) := h
    generalize hw : e.view (e.get t) = vw at h hv
    have hrep := view_rep hg hv
    refine ⟨a.tmps.getD t undef, ?_⟩
    unfold retVal at h
    split at h
    · split at h
      · cases h
        obtain ⟨cs, h1, h2⟩ := hrep
        exact ⟨cs, rfl, ⟨noF, h1.mono S1 (fun _ _ _ _ h => h), h2⟩, fun i hi => by cases hi⟩
      · cases h
    · split at h
      · split at h
        · cases h
          refine ⟨[.slice none 0 0], rfl, ⟨noF, ⟨none, 0, rfl, Nat.le_refl _, fun i hi => absurd hi (Nat.not_lt_zero i)⟩, ?_⟩, fun i hi => by cases hi⟩
          have h1 : a.tmps.getD t undef = .slice none 0 0 := hrep
          rw [h1]
          exact ⟨rfl, rfl⟩
        · split at h
          · cases h
            refine ⟨[.slice none 0 0], rfl, ⟨⟨none, 0, rfl, Nat.le_refl _, fun _ => rfl, (fun ad had => by cases had), fun _ _ => False, (fun _ _ h => h.elim), (fun _ ad had => by cases had), (fun _ _ _ _ h => h.elim), fun i hi => absurd hi (Nat.not_lt_zero i)⟩, ?_⟩, fun i hi => by cases hi⟩
            have h1 : a.tmps.getD t undef = .slice none 0 0 := hrep
            rw [h1]
            exact ⟨rfl, rfl⟩
          · cases h
      · cases h
    · rename_i id n o
      split at h
      · rename_i hcond
        simp only [Bool.and_eq_true] at hcond
        obtain ⟨r1, r2, r3⟩ := al_root hg hv hcond.1.1.1 hcond.1.1.2
        have hpar : o.par = false := by simpa using hcond.1.2
        split at h
        · cases h
          refine ⟨g.cs id, rfl, ⟨noF, freeze_ro hg (hF id (by simp)) r1 (noHole_ok hcond.1.1.1), r2⟩, fun i hi => ?_⟩
          simp at hi
          subst hi
          exact ⟨o, r1, hpar⟩
        · split at h
          · cases h
            refine ⟨g.cs id, rfl, ⟨r3.mono S1 (fun _ _ _ _ h => h) (fun b hb => ⟨id, by simp, hb⟩) (fun _ _ _ => ⟨rfl, rfl⟩), r2⟩, fun i hi => ?_⟩
            simp at hi
            subst hi
            exact ⟨o, r1, hpar⟩
          · cases h
      · cases h
    · cases h
  | cell t ty =>
    have hv : e.view (e.opd (.tmp t)) = e.view (e.get t) := rfl
    have h : retCell c ty K m (e.view (e.get t)) = some (r, fz, ow) := h
    generalize hw : e.view (e.get t) = vw at h hv
    have hrep := view_rep hg hv
    have he : a.eval (.tmp t) = a.tmps.getD t undef := rfl
    rw [he] at hrep
    unfold retCell at h
    split at h
    · split at h
      · rename_i hcond
        simp only [Bool.and_eq_true] at hcond
        cases h
        obtain ⟨b, off, cs, h1, h2, h3, h4⟩ := hrep
        obtain ⟨hT, _⟩ := tyIs_ok hc.ty hcond.2
        refine ⟨_, cs, ?_, ⟨noF, h4.mono S1 (fun _ _ _ _ h => h), h4.vrep hT.np⟩, fun i hi => by cases hi⟩
        simp only [h1, asAddr, Sem.run_bind, Sem.run_pure, Result.andThen_ok]
        exact run_loadVar hT h4.length h3
      · cases h
    · rename_i id n o
      split at h
      · rename_i hcond
        simp only [Bool.and_eq_true] at hcond
        have hpar : o.par = false := by simpa using hcond.1.1.2
        have hh := noHole_ok hcond.1.1.1.1
        have hob := view_pt hv
        obtain ⟨b, off, cs', K', m', x', a1, a2, a3⟩ := hrep.2 o hob hcond.1.1.1.2 (.inl hh)
        rw [getP_nil] at a1
        cases a1
        simp only [nav, Option.some.injEq, Prod.mk.injEq] at a2
        obtain ⟨o1, o2⟩ := (hg.objs id o hob).own hh
        obtain ⟨hT, _⟩ := tyIs_ok hc.ty hcond.2
        have hld : (do loadVar ty (← asAddr (a.tmps.getD t undef)) : Sem Value).run c.P w = .ok (o.K.val (g.cs id)) w := by
          simp only [a3, asAddr, Sem.run_bind, Sem.run_pure, Result.andThen_ok]
          exact run_loadVar hT o1.length (o2 b off a2.1).1
        have hro := freeze_ro hg (ids := id :: FZ) (i := id) List.mem_cons_self hob hh
        split at h
        · cases h
          refine ⟨_, g.cs id, hld, ⟨noF, freeze_ro hg (hF id (by simp)) hob hh, hro.vrep hT.np⟩, fun i hi => ?_⟩
          simp at hi
          subst hi
          exact ⟨o, hob, hpar⟩
        · split at h
          · cases h
            refine ⟨_, g.cs id, hld, ⟨o1.mono S1 (fun _ _ _ _ h => h) (fun b hb => ⟨id, by simp, hb⟩) (fun _ _ _ => ⟨rfl, rfl⟩), hro.vrep hT.np⟩, fun i hi => ?_⟩
            simp at hi
            subst hi
            exact ⟨o, hob, hpar⟩
          · cases h
      · cases h
    · cases h

end Go.Abs

namespace Go.Abs

/-- What one result variable holds. -/
def resRun (tmps : Array Value) : ResultVar → Sem Value
  | .tmp t => pure (tmps.getD t undef)
  | .cell a t => do loadVar t (← asAddr (tmps.getD a undef))

/-- All results: owI i: the objects that result i hands over. -/
structure RetsOk (c : Ctx) (w : World) (g : Gh) (FZ : List Nat) (a : Act) (l : List (ResultVar × Kd × Md)) (rs : List RV) (ow : List Nat) (vals : List Value) (csr : Nat → List Value) (owI : Nat → List Nat) : Prop where
  len : vals.length = l.length ∧ rs.length = l.length
  run : ∀ (i : Nat) (q : ResultVar × Kd × Md) (v : Value), l[i]? = some q → vals[i]? = some v → (resRun a.tmps q.1).run c.P w = .ok v w
  rep : ∀ (i : Nat) (r : RV) (v : Value), rs[i]? = some r → vals[i]? = some v → RetRep (g.freeze FZ).S w (fun b => ∃ id, id ∈ owI i ∧ g.F id b) (csr i) r v
  sub : ∀ i id, id ∈ owI i → id ∈ ow
  one : ow.Nodup → ∀ i k id, id ∈ owI i → id ∈ owI k → i = k
  rest : ∀ i, l.length ≤ i → owI i = []

theorem retsAt_ok {c : Ctx} (hc : CtxOk c) {B : Base} {nt : Nat} {e : Env} {a : Act} {w : World} {g : Gh} (hg : InvG c.P B nt e a w g) (FZ : List Nat) : ∀ (l : List (ResultVar × Kd × Md)) (rs : List RV) (fz ow : List Nat), retsAt c e l = some (rs, fz, ow) → (∀ i, i ∈ fz → i ∈ FZ) →
    (∀ i, i ∈ fz ++ ow → ∃ o, e.obj i = some (some o) ∧ o.par = false) ∧ ∃ vals csr owI, RetsOk c w g FZ a l rs ow vals csr owI
  | [], rs, fz, ow, h, _ => by
    simp only [retsAt, Option.some.injEq, Prod.mk.injEq] at h
    obtain ⟨rfl, rfl, rfl⟩ := h
    exact ⟨(fun i hi => by cases hi), [], fun _ => [], fun _ => [], ⟨⟨rfl, rfl⟩, (fun i q v h => by simp at h), (fun i r v h => by simp at h), (fun i id h => by cases h), (fun _ i k id h => by cases h), fun _ _ => rfl⟩⟩
  | q :: l, rs, fz, ow, h, hF => by
    unfold retsAt at h
    split at h
    · rename_i r a1 a2 rs' b1 b2 h1 h2
      cases h
      obtain ⟨v, cs, k1, k2, k3⟩ := retOne_ok hc hg h1 FZ (fun i hi => hF i (List.mem_append_left _ hi))
      obtain ⟨m1, vals, csr, owI, m2⟩ := retsAt_ok hc hg FZ l rs' b1 b2 h2 (fun i hi => hF i (List.mem_append_right _ hi))
      have k1' : (resRun a.tmps q.1).run c.P w = .ok v w := by
        obtain ⟨rv, K, m⟩ := q
        cases rv <;> exact k1
      refine ⟨fun i hi => ?_, v :: vals, fcons cs csr, fcons a2 owI, ⟨⟨by simp [m2.len.1], by simp [m2.len.2]⟩, fun i q' v' hq hv => ?_, fun i r' v' hr hv => ?_, fun i id hi => ?_, fun hn i k id hi hk => ?_, fun i hi => ?_⟩⟩
      · rcases List.mem_append.1 hi with hi | hi <;> rcases List.mem_append.1 hi with hi | hi
        · exact k3 i (List.mem_append_left _ hi)
        · exact m1 i (List.mem_append_left _ hi)
        · exact k3 i (List.mem_append_right _ hi)
        · exact m1 i (List.mem_append_right _ hi)
      · cases i with
        | zero =>
          simp only [List.getElem?_cons_zero, Option.some.injEq] at hq hv
          subst hq; subst hv
          exact k1'
        | succ i => exact m2.run i q' v' (by simpa using hq) (by simpa using hv)
      · cases i with
        | zero =>
          simp only [List.getElem?_cons_zero, Option.some.injEq] at hr hv
          subst hr; subst hv
          exact k2
        | succ i => exact m2.rep i r' v' (by simpa using hr) (by simpa using hv)
      · cases i with
        | zero => exact List.mem_append_left _ hi
        | succ i => exact List.mem_append_right _ (m2.sub i id hi)
      · have hn' := List.nodup_append.1 hn
        cases i with
        | zero =>
          cases k with
          | zero => rfl
          | succ k => exact absurd rfl (hn'.2.2 id hi id (m2.sub k id hk))
        | succ i =>
          cases k with
          | zero => exact absurd rfl (hn'.2.2 id hk id (m2.sub i id hi))
          | succ k => rw [m2.one hn'.2.1 i k id hi hk]
      · cases i with
        | zero => simp at hi
        | succ i => exact m2.rest i (by simpa using hi)
    · cases h

theorem outsAt_ok {P : Program} {B : Base} {nt : Nat} {e : Env} {a : Act} {w2 : World} {gc g1 g2 : Gh} (hg : InvG P B nt e a w2 g1) (hhd : ∀ j, B.hd j = (gc.pl j, gc.cs j)) (hS : ∀ b, g1.S b → g2.S b) : ∀ (args : List Arg) (j : Nat) (outs : List KV), outsAt e j args = some outs → (∀ k K m x, args[k]? = some (.ms K m x) → gc.pl (j + k) = none) →
    (∀ k, k < args.length → ∀ o, e.obj (j + k) = some (some o) → o.par = true → g2.F (j + k) = g1.F (j + k) ∧ g2.cs (j + k) = g1.cs (j + k)) → OutsRep w2 gc g2 j args outs
  | [], j, outs, h, _, _ => by
    simp only [outsAt, Option.some.injEq] at h
    subst h
    trivial
  | arg :: args, j, outs, h, hms, hk => by
    have tail : ∀ outs', outsAt e (j + 1) args = some outs' → OutsRep w2 gc g2 (j + 1) args outs' := fun outs' h' => outsAt_ok hg hhd hS args (j + 1) outs' h' (fun k K m x hkx => by
      have := hms (k + 1) K m x (by simpa using hkx)
      rwa [show j + (k + 1) = j + 1 + k by omega] at this) (fun k hlt o ho hp => by
      have := hk (k + 1) (by simp; omega) o (by rwa [show j + (k + 1) = j + 1 + k by omega]) hp
      rwa [show j + (k + 1) = j + 1 + k by omega] at this)
    cases arg with
    | ro K x => have h' : outsAt e (j + 1) args = some outs := h; cases outs <;> exact tail _ h'
    | rp K x => have h' : outsAt e (j + 1) args = some outs := h; cases outs <;> exact tail _ h'
    | mv K m x => have h' : outsAt e (j + 1) args = some outs := h; cases outs <;> exact tail _ h'
    | fn Ks Kr f => have h' : outsAt e (j + 1) args = some outs := h; cases outs <;> exact tail _ h'
    | mp K m x =>
      simp only [outsAt] at h
      split at h
      · rename_i o ho
        split at h
        · rename_i hcond
          simp only [Bool.and_eq_true] at hcond
          split at h
          · rename_i r hr
            cases h
            have O := hg.objs j o ho
            obtain ⟨o1, o2⟩ := O.own (noHole_ok hcond.1.1.1.1)
            have p0 := O.par hcond.1.1.1.2
            obtain ⟨f1, f2⟩ := hk 0 (by simp) o (by simpa using ho) hcond.1.1.1.2
            rw [Nat.add_zero] at f1 f2
            have e1 := Kd.eq_of_beq hcond.1.2
            have e2 := Md.eq_of_beq hcond.2
            have p1 : g1.pl j = gc.pl j ∨ gc.pl j = none := by
              unfold ParOk at p0
              rw [hhd] at p0
              split at p0
              · cases hq : gc.pl j with
                | none => exact .inr rfl
                | some q => exact .inl ((p0.1 (by simp [hq])).trans hq)
              · exact .inl p0.1
            refine ⟨?_, tail _ hr⟩
            obtain ⟨K', m', x', b', p', l', h'⟩ := o
            simp only at e1 e2 o1 o2
            subst e1
            subst e2
            refine ⟨x', rfl, ?_, ?_⟩
            · rw [f1, f2]
              exact o1.mono hS (fun _ _ _ _ h => h) (fun _ h => h) (fun _ _ _ => ⟨rfl, rfl⟩)
            · rw [f2]
              rcases p1 with p1 | p1
              · rw [← p1]
                exact o2
              · rw [p1]
                exact fun b off hq => by cases hq
          · cases h
        · cases h
      · cases h
    | ms K m x =>
      simp only [outsAt] at h
      split at h
      · rename_i o ho
        split at h
        · rename_i hcond
          simp only [Bool.and_eq_true] at hcond
          split at h
          · rename_i r hr
            cases h
            have O := hg.objs j o ho
            obtain ⟨o1, o2⟩ := O.own (noHole_ok hcond.1.1.1.1)
            have p0 := O.par hcond.1.1.1.2
            obtain ⟨f1, f2⟩ := hk 0 (by simp) o (by simpa using ho) hcond.1.1.1.2
            rw [Nat.add_zero] at f1 f2
            have e1 := Kd.eq_of_beq hcond.1.2
            have e2 := Md.eq_of_beq hcond.2
            have hbx : o.box = false := by simpa using hcond.1.1.2
            unfold ParOk at p0
            rw [hbx, Bool.false_and, if_neg (by simp)] at p0
            have p3 := p0.2 rfl
            rw [hhd] at p3
            refine ⟨?_, tail _ hr⟩
            obtain ⟨K', m', x', b', p', l', h'⟩ := o
            simp only at e1 e2 o1 o2
            subst e1
            subst e2
            refine ⟨x', rfl, ?_⟩
            rw [f1]
            rw [show g1.cs j = gc.cs j from p3] at o1
            exact o1.mono hS (fun _ _ _ _ h => h) (fun _ h => h) (fun _ _ _ => ⟨rfl, rfl⟩)
          · cases h
        · split at h
          · rename_i hKK
            split at h
            · rename_i hcond
              simp only [Bool.and_eq_true] at hcond
              split at h
              · rename_i r hr
                cases h
                have O := hg.objs j o ho
                obtain ⟨o1, o2⟩ := O.own (noHole_ok hcond.1.1.1.1)
                have p0 := O.par hcond.1.1.1.2
                obtain ⟨f1, f2⟩ := hk 0 (by simp) o (by simpa using ho) hcond.1.1.1.2
                rw [Nat.add_zero] at f1 f2
                have e2 := Md.eq_of_beq hcond.2
                unfold ParOk at p0
                rw [if_pos (by rw [hcond.1.1.2, hcond.1.2]; rfl), hhd] at p0
                have p3 := p0.2 (by have := hms 0 K m x rfl; simpa using this)
                refine ⟨?_, tail _ hr⟩
                have e1 := Kd.eq_of_beq hKK
                obtain ⟨K', m', x', b', p', l', h'⟩ := o
                simp only at e1 e2 o1 o2
                subst e1
                subst e2
                refine ⟨x', rfl, ?_⟩
                rw [f1]
                rw [show g1.cs j = gc.cs j from p3] at o1
                exact (Own.st.1 o1).mono hS (fun _ _ _ _ h => h) (fun _ h => h) (fun _ _ _ => ⟨rfl, rfl⟩)
              · cases h
            · cases h
          · cases h
      · cases h

theorem run_mapM_ex {α β : Type} {P : Program} {w : World} (f : α → Sem β) : ∀ (l : List α) (vs : List β), vs.length = l.length → (∀ (i : Nat) (x : α) (v : β), l[i]? = some x → vs[i]? = some v → (f x).run P w = .ok v w) → (l.mapM f).run P w = .ok vs w
  | [], vs, hl, _ => by
    have : vs = [] := List.length_eq_zero_iff.1 hl
    subst this
    rfl
  | x :: l, vs, hl, h => by
    cases vs with
    | nil => simp at hl
    | cons v vs =>
      rw [List.mapM_cons]
      simp only [Sem.run_bind, h 0 x v rfl rfl, Result.andThen_ok, run_mapM_ex f l vs (by simpa using hl) (fun i x v h1 h2 => h (i + 1) x v (by simpa using h1) (by simpa using h2)), Sem.run_pure]

theorem end_ok {c : Ctx} (hc : CtxOk c) {nt : Nat} {d : FnD} {args : List Arg} {w w2 : World} {gc : Gh} {vals : List Value} (hE : Entry c.P w args vals gc) {e : Env} {a : Act} {res : Res} (h : endK c d args some e = some res) {fn : Func} (hres : fn.results.toList = d.res.map (·.1))
    (hi : Inv c.P (baseOf w args gc) nt e a w2) : a.defers = [] ∧ ∃ v g2, (results fn a.tmps).run c.P w2 = .ok v w2 ∧ Done w w2 args gc g2 res v := by
  obtain ⟨g1, hg⟩ := hi
  refine ⟨hg.defers, ?_⟩
  unfold endK at h
  split at h
  case h_2 => cases h
  rename_i rs fz ow outs hr ho
  split at h
  case isFalse => cases h
  rename_i hnd
  cases h
  have hnd := nodup_ok hnd
  obtain ⟨hobj, rv, csr, owI, R⟩ := retsAt_ok hc hg fz d.res rs fz ow hr (fun i h => h)
  have hnd' := List.nodup_append.1 hnd
  have hfz := hg.freeze fz (fun i hi => hobj i (List.mem_append_left _ hi))
  -- the last state, seen by the caller
  let isOut : Nat → Prop := fun j => ∃ o, e.obj j = some (some o) ∧ o.par = true
  have outNot : ∀ j, isOut j → ∀ id, id ∈ fz ++ ow → j ≠ id := by
    rintro j ⟨o, h1, h2⟩ id hid e1
    subst e1
    obtain ⟨o', h3, h4⟩ := hobj j hid
    rw [h1] at h3
    cases h3
    rw [h2] at h4
    cases h4
  let g2 : Gh := { S := (g1.freeze fz).S, F := fun j b => if j < args.length then isOut j ∧ g1.F j b else ∃ id, id ∈ owI (j - args.length) ∧ g1.F id b, pl := fun _ => none, cs := fun j => if j < args.length then g1.cs j else csr (j - args.length) }
  have F2 : ∀ {j b : Nat}, g2.F j b → ∃ id, g1.F id b ∧ id ∉ fz ∧ ((j < args.length ∧ id = j ∧ isOut j) ∨ (args.length ≤ j ∧ id ∈ owI (j - args.length))) := by
    intro j b hF
    have hF : (if j < args.length then isOut j ∧ g1.F j b else ∃ id, id ∈ owI (j - args.length) ∧ g1.F id b) := hF
    split at hF
    · rename_i hj
      exact ⟨j, hF.2, fun hm => outNot j hF.1 j (List.mem_append_left _ hm) rfl, .inl ⟨hj, rfl, hF.1⟩⟩
    · rename_i hj
      obtain ⟨id, h1, h2⟩ := hF
      exact ⟨id, h2, fun hm => hnd'.2.2 id hm id (R.sub _ id h1) rfl, .inr ⟨by omega, h1⟩⟩
  have fzF : ∀ {id b : Nat}, g1.F id b → id ∉ fz → (g1.freeze fz).F id b := by
    intro id b h1 h2
    show if id ∈ fz then False else g1.F id b
    rw [if_neg h2]; exact h1
  have hrun : (fn.results.mapM (resRun a.tmps)).run c.P w2 = .ok rv.toArray w2 := by
    rw [Array.mapM_eq_mapM_toList, Sem.run_map, run_mapM_ex (resRun a.tmps) fn.results.toList rv (by rw [hres, List.length_map]; exact R.len.1) (fun i x v h1 h2 => by
      rw [hres, List.getElem?_map, Option.map_eq_some_iff] at h1
      obtain ⟨q, h3, rfl⟩ := h1
      exact R.run i q v h3 h2)]
    rfl
  have hresults : (results fn a.tmps).run c.P w2 = .ok (if h : rv.toArray.size = 1 then rv.toArray[0] else .tuple rv.toArray) w2 := by
    have e1 : results fn a.tmps = (do let vs ← fn.results.mapM (resRun a.tmps); pure (if h : vs.size = 1 then vs[0] else .tuple vs)) := by
      unfold results
      congr 1
    rw [e1, Sem.run_bind, hrun, Result.andThen_ok, Sem.run_pure]
  refine ⟨_, g2, hresults, ?_⟩
  have repAt : ∀ (i : Nat) (r : RV) (v : Value), rs[i]? = some r → rv[i]? = some v → RetRep g2.S w2 (g2.F (args.length + i)) (g2.cs (args.length + i)) r v := by
    intro i r v h1 h2
    have h3 := R.rep i r v h1 h2
    have eF : g2.F (args.length + i) = fun b => ∃ id, id ∈ owI i ∧ g1.F id b := by
      funext b
      show (if args.length + i < args.length then _ else ∃ id, id ∈ owI (args.length + i - args.length) ∧ g1.F id b) = _
      rw [if_neg (by omega), Nat.add_sub_cancel_left]
    have eC : g2.cs (args.length + i) = csr i := by
      show (if args.length + i < args.length then _ else csr (args.length + i - args.length)) = _
      rw [if_neg (by omega), Nat.add_sub_cancel_left]
    rw [eF, eC]
    exact h3
  refine ⟨hg.ext, fun b hb => hfz.S0 b hb, fun b hb => hfz.Sb b hb, hfz.Ssz, fun j b hF => ?_, fun j b hF => ?_, fun j b hF hS => ?_, fun i j b hne h1 h2 => ?_, ?_, ?_⟩
  · obtain ⟨id, h1, _⟩ := F2 hF
    exact hg.Fb id b h1
  · obtain ⟨id, h1, _⟩ := F2 hF
    exact hg.Fsz id b h1
  · obtain ⟨id, h1, h2, _⟩ := F2 hF
    exact hfz.FS id b (fzF h1 h2) hS
  · obtain ⟨id, k1, _, k3⟩ := F2 h1
    obtain ⟨id', k4, _, k6⟩ := F2 h2
    have hid : id = id' := Classical.byContradiction fun hn => hg.FF id id' b hn k1 k4
    subst hid
    rcases k3 with ⟨_, e1, o1⟩ | ⟨e0, e1⟩ <;> rcases k6 with ⟨_, e2, o2⟩ | ⟨e3, e2⟩
    · exact hne (e1.symm.trans e2)
    · exact outNot i o1 id (List.mem_append_right _ (R.sub _ id e2)) e1.symm
    · exact outNot j o2 id (List.mem_append_right _ (R.sub _ id e1)) e2.symm
    · have := R.one hnd'.2.1 _ _ id e1 e2
      omega
  · refine outsAt_ok (g2 := g2) hg (fun j => rfl) (fun b hb => Or.inl hb) args 0 outs ho (fun k K m x hkx => by
      have hlt : k < vals.length := by have := (List.getElem?_eq_some_iff.1 hkx).1; have := hE.len; omega
      have := hE.arg k _ vals[k] hkx (by simp)
      rw [Nat.zero_add]
      exact this.1) (fun k hk o hko hp => ?_)
    rw [Nat.zero_add] at hko ⊢
    refine ⟨?_, ?_⟩
    · funext b
      show (if k < args.length then isOut k ∧ g1.F k b else _) = _
      rw [if_pos hk]
      exact propext ⟨fun h => h.2, fun h => ⟨⟨o, hko, hp⟩, h⟩⟩
    · show (if k < args.length then g1.cs k else _) = _
      rw [if_pos hk]
  · have hl1 : rv.length = rs.length := by rw [R.len.1, R.len.2]
    match rs, hl1, repAt with
    | [], _, _ => trivial
    | [r], hl, hrep =>
      obtain ⟨v, hv⟩ : ∃ v, rv = [v] := List.length_eq_one_iff.1 hl
      subst hv
      exact hrep 0 r v rfl rfl
    | r :: r2 :: rs', hl, hrep =>
      have h2 : ¬ rv.toArray.size = 1 := by simp at hl ⊢; omega
      rw [dif_neg h2]
      exact ⟨rv.toArray, rfl, by simpa using hl, fun i r' u h1 h3 => hrep i r' u h1 (by simpa using h3)⟩

/-- THE LAW OF A FUNCTION: what its meaning answers is what a call of it comes to. -/
theorem fn_ok {c : Ctx} (hc : CtxOk c) (hM : MOk c) (hU : MUni c) (hmix : c.P.follows .mixedOrders = true) {n f : Nat} {d : FnD} {fn : Func} (hf : c.P.funcs[f]? = some fn) (hb : fn.body = some d.code) (hnt : fn.ntmps = d.nt) (hres : fn.results.toList = d.res.map (·.1))
    {args : List Arg} {Ω : Type} {K : Res → Option Ω} {out : Ω} (h : fnEv c n d args K = some out) : ∃ res, K res = some out ∧ Ans c.P f args res := by
  rw [fnEv_uni hU] at h
  cases hr : fnEv c n d args some with
  | none => rw [hr] at h; cases h
  | some res =>
    rw [hr] at h
    refine ⟨res, h, fun w vals gc hE => ?_⟩
    unfold fnEv at hr
    split at hr
    · rename_i hle
      refine calls_of_wp hf hb ?_
      rw [hnt]
      have hend : Fine c.P (baseOf w args gc) d.nt (endK c d args some) res (fun a w2 => a.defers = [] ∧ ∃ v, (results fn a.tmps).run c.P w2 = .ok v w2 ∧ ∃ v' g2, (Ending.returned v) = .returned v' ∧ Done w w2 args gc g2 res v') := by
        intro e he a w2 hi
        obtain ⟨h1, v, g2, h2, h3⟩ := end_ok hc hE he hres hi
        exact ⟨h1, v, h2, v, g2, rfl, h3⟩
      exact aev_ok (B := baseOf w args gc) hc hM hmix d.code d.ann _ _ _ (bodyPost c.P fn fun e w2 => ∃ v g2, e = .returned v ∧ Done w w2 args gc g2 res v) hend (fun j e he => by cases he) hend (start args) hr _ w (start_inv hE (Nat.le_of_ble_eq_true hle))
    · cases hr

end Go.Abs

namespace Go.Abs

inductive An where
  | nil
  | reg (mds : List (Nat × Md))
  | seq (a b : An)
  | cond (a b : An)
  | block (live : Option (List Nat)) (a : An)
  | cut (j : Nat) (live : List Nat)

def An.l : An → An
  | .seq a _ => a
  | .cond a _ => a
  | .block _ a => a
  | _ => .nil
def An.r : An → An
  | .seq _ b => b
  | .cond _ b => b
  | _ => .nil
def An.live : An → Option (List Nat)
  | .block l _ => l
  | _ => none
def An.mds : An → List (Nat × Md)
  | .reg l => l
  | _ => []

abbrev Lv : Type := List (Nat × List Nat)
def Lv.add (lv : Lv) (id : Nat) : Option (List Nat) → Lv
  | none => lv
  | some l => (id, l) :: lv

abbrev Tab (Ω : Type) : Type := Nat → Env → (Env → Option Ω) → (Nat → Env → Option Ω) → Option Ω

/-- A region whose order is drawn, as 'aopsD', but that what a guard has told is kept. -/
def aopsG {Ω : Type} (c : Ctx) (nt : Nat) (mds : List (Nat × Md)) (ops : List Oper) : List Oper → Env → List Rec → (List Rec → Env → Option Ω) → Option Ω
  | [], e, tr, k => k tr e
  | o :: rest, e, tr, k => match o.guard with
    | none => aopE c nt mds o e fun d => aopsG c nt mds ops rest (e.apply d) (recOf [] o ((Oper.opds o).map fun x => e.view (e.opd x)) d :: tr) k
    | some (j, want) => match dstAt ops j with
      | none => none
      | some t => match e.get t with
        | .v .bool b =>
          if b = want then (let e1 := e.put t (.v .bool want); aopE c nt mds o e1 fun d => aopsG c nt mds ops rest (e1.apply d) (recOf [t] o ((Oper.opds o).map fun x => e1.view (e1.opd x)) d :: tr) k)
          else if skipOk nt o.dst = true then aopsG c nt mds ops rest ((e.put t (.v .bool (!want))).apply (skipD o.dst)) (⟨[t], [], o.dst.toList, []⟩ :: tr) k else none
        | .un => if skipOk nt o.dst = true then aopsG c nt mds ops rest (e.apply (skipD o.dst)) (⟨[t], [], o.dst.toList, []⟩ :: tr) k else none
        | _ => none

/-- The same is found in two states. -/
def Eqv (e e' : Env) : Prop := (∀ i, look e'.slots i = look e.slots i) ∧ (∀ i, look e'.objs i = look e.objs i)

theorem Eqv.get {e e' : Env} (h : Eqv e e') (i : Nat) : e'.get i = e.get i := by unfold Env.get; rw [h.1]
theorem Eqv.obj {e e' : Env} (h : Eqv e e') (i : Nat) : e'.obj i = e.obj i := h.2 i
theorem Eqv.opd {e e' : Env} (h : Eqv e e') (x : Operand) : e'.opd x = e.opd x := by
  unfold Env.opd
  split <;> first | rfl | exact h.get _
theorem Eqv.view {e e' : Env} (h : Eqv e e') (s : Slot) : e'.view s = e.view s := by
  unfold Env.view
  split <;> first | rfl | rw [h.obj]
theorem Eqv.views {e e' : Env} (h : Eqv e e') (o : Oper) : ((Oper.opds o).map fun x => e'.view (e'.opd x)) = (Oper.opds o).map fun x => e.view (e.opd x) :=
  List.map_congr_left fun x _ => by rw [h.opd, h.view]
theorem Eqv.fresh {e e' : Env} (h : Eqv e e') (d : Option Nat) : fresh e' d = fresh e d := by
  cases d with
  | none => rfl
  | some d => unfold Abs.fresh; simp only [h.obj]
theorem Eqv.apply {e e' : Env} (h : Eqv e e') (d : Delta) : Eqv (e.apply d) (e'.apply d) := by
  refine ⟨fun i => ?_, fun i => ?_⟩
  · show look (d.slots ++ e'.slots) i = look (d.slots ++ e.slots) i
    rw [look_app, look_app, h.1]
  · show look (d.objs ++ e'.objs) i = look (d.objs ++ e.objs) i
    rw [look_app, look_app, h.2]
theorem Eqv.put {e e' : Env} (h : Eqv e e') {t : Nat} {b : Bool} (hb : e'.get t = .v .bool b) : Eqv e (e'.put t (.v .bool b)) := by
  refine ⟨fun i => ?_, h.2⟩
  show look ((t, .v .bool b) :: e'.slots) i = _
  by_cases hi : t = i
  · subst hi
    rw [look_cons_self, ← h.1]
    unfold Env.get at hb
    split at hb
    · rename_i s hs
      rw [hs, hb]
    · cases hb
  · rw [look_cons_ne hi]
    exact h.1 i

theorem aopsG_ok {c : Ctx} (hM : MOk c) {Ω : Type} {nt : Nat} {mds : List (Nat × Md)} {ops : List Oper} {k : List Rec → Env → Option Ω} {out : Ω} : ∀ (rest : List Oper) (e e' : Env) (tr : List Rec), Eqv e e' → aopsG c nt mds ops rest e' tr k = some out →
    ∃ tr0 e0 e0', Eqv e0 e0' ∧ k tr0 e0' = some out ∧ ∀ (Ω0 : Type) (k0 : List Rec → Env → Option Ω0) (out0 : Ω0), k0 tr0 e0 = some out0 → aopsD c nt mds ops rest e tr k0 = some out0
  | [], e, e', tr, hq, h => ⟨tr, e, e', hq, h, fun _ _ _ h => h⟩
  | o :: rest, e, e', tr, hq, h => by
    have one : ∀ (e1 : Env) (g : List Nat), Eqv e e1 → aopE c nt mds o e1 (fun d => aopsG c nt mds ops rest (e1.apply d) (recOf g o ((Oper.opds o).map fun x => e1.view (e1.opd x)) d :: tr) k) = some out →
        ∃ tr0 e0 e0', Eqv e0 e0' ∧ k tr0 e0' = some out ∧ ∀ (Ω0 : Type) (k0 : List Rec → Env → Option Ω0) (out0 : Ω0), k0 tr0 e0 = some out0 →
          aopE c nt mds o e (fun d => aopsD c nt mds ops rest (e.apply d) (recOf g o ((Oper.opds o).map fun x => e.view (e.opd x)) d :: tr) k0) = some out0 := by
      intro e1 g hq1 h1
      unfold aopE at h1
      rw [hq1.views, hq1.fresh, aop_uni hM.uni] at h1
      cases hd : aop c nt mds o ((Oper.opds o).map fun x => e.view (e.opd x)) (Abs.fresh e o.dst) some with
      | none => rw [hd] at h1; cases h1
      | some d =>
        rw [hd] at h1
        obtain ⟨tr0, e0, e0', a1, a2, a3⟩ := aopsG_ok hM rest (e.apply d) (e1.apply d) _ (hq1.apply d) h1
        refine ⟨tr0, e0, e0', a1, a2, fun Ω0 k0 out0 hk => ?_⟩
        unfold aopE
        rw [aop_uni hM.uni, hd]
        exact a3 Ω0 k0 out0 hk
    unfold aopsG at h
    unfold aopsD
    split at h
    · rename_i hg
      simp only [hg]
      exact one e' [] hq h
    · rename_i j want hg
      simp only [hg]
      split at h
      · cases h
      · rename_i t ht
        simp only [ht]
        split at h
        · rename_i b hb
          have hb' : e.get t = .v .bool b := by rw [← hq.get]; exact hb
          simp only [hb']
          split at h
          · rename_i hw
            subst hw
            simp only [if_true]
            exact one (e'.put t (.v .bool b)) [t] (hq.put hb) h
          · rename_i hw
            simp only [hw, if_false]
            split at h
            · rename_i hs
              simp only [hs, if_true]
              have hbw : b = !want := by cases b <;> cases want <;> first | rfl | exact absurd rfl hw
              exact aopsG_ok hM rest _ _ _ ((hq.put (by rw [hb, hbw])).apply _) h
            · cases h
        · rename_i hb
          have hb' : e.get t = .un := by rw [← hq.get]; exact hb
          simp only [hb']
          split at h
          · rename_i hs
            simp only [hs, if_true]
            exact aopsG_ok hM rest _ _ _ (hq.apply _) h
          · cases h
        · cases h

def aevT {Ω : Type} (c : Ctx) (nt : Nat) (T : Tab Ω) (kr : Env → Option Ω) : Code → An → Lv → (Env → Option Ω) → (Nat → Env → Option Ω) → Env → Option Ω
  | _, .cut j live, _, kn, kx => fun e => T j (forget e live) kn kx
  | .skip, _, _, kn, _ => kn
  | .region _ ops false, a, _, kn, _ => fun e => aops c nt a.mds ops.toList ops.toList e kn
  | .region _ ops true, a, _, kn, _ => fun e => aopsG c nt a.mds ops.toList ops.toList e [] fun tr e' => if indep ops.toList tr = true then kn e' else none
  | .seq x y, a, lv, kn, kx => aevT c nt T kr x a.l lv (aevT c nt T kr y a.r lv kn kx) kx
  | .cond o x y, a, lv, kn, kx => fun e => match e.opd o with
    | .v .bool b => if b = true then aevT c nt T kr x a.l lv kn kx e else aevT c nt T kr y a.r lv kn kx e
    | _ => none
  | .block id x, a, lv, kn, kx => aevT c nt T kr x a.l (Lv.add lv id a.live) (meet a.live kn) (fun j => if Nat.beq j id = true then kn else kx j)
  | .exit j, _, lv, _, kx => meet (look lv j) (kx j)
  | .ret, _, _, _, _ => kr
  | _, _, _, _, _ => fun _ => none

def units : Code → An → List (Nat × Code)
  | x, .cut j _ => [(j, x)]
  | .seq x y, a => units x a.l ++ units y a.r
  | .cond _ x y, a => units x a.l ++ units y a.r
  | .block _ x, a => units x a.l
  | _, _ => []

/-- What the table answers at j is right for the code x. -/
def UnitOk {Ω : Type} (c : Ctx) (nt : Nat) (T : Tab Ω) (kr : Env → Option Ω) (j : Nat) (x : Code) : Prop :=
  ∀ (B : Base) (out : Ω) (kn : Env → Option Ω) (kx : Nat → Env → Option Ω) (Q : Exit → Act → World → Prop),
    Fine c.P B nt kn out (Q .normal) → (∀ i, Fine c.P B nt (kx i) out (Q (.exit i))) → Fine c.P B nt kr out (Q .ret) →
    Fine c.P B nt (fun e => T j e kn kx) out (fun a w => x.wp c.P Q a w)

section
variable {B : Base} {c : Ctx} {nt : Nat} {Ω : Type} {out : Ω} {T : Tab Ω} {kr : Env → Option Ω}

theorem aevT_ok (hc : CtxOk c) (hM : MOk c) (hmix : c.P.follows .mixedOrders = true) (code : Code) : ∀ (ann : An) (lv : Lv) (kn : Env → Option Ω) (kx : Nat → Env → Option Ω) (Q : Exit → Act → World → Prop),
    (∀ q, q ∈ units code ann → UnitOk c nt T kr q.1 q.2) →
    Fine c.P B nt kn out (Q .normal) → (∀ j, Fine c.P B nt (kx j) out (Q (.exit j))) → Fine c.P B nt kr out (Q .ret) → Fine c.P B nt (aevT c nt T kr code ann lv kn kx) out (fun a w => code.wp c.P Q a w) := by
  have cutCase : ∀ (x : Code) (j : Nat) (live : List Nat) (kn : Env → Option Ω) (kx : Nat → Env → Option Ω) (Q : Exit → Act → World → Prop), UnitOk c nt T kr j x → Fine c.P B nt kn out (Q .normal) → (∀ j, Fine c.P B nt (kx j) out (Q (.exit j))) → Fine c.P B nt kr out (Q .ret) →
      Fine c.P B nt (fun e => T j (forget e live) kn kx) out (fun a w => x.wp c.P Q a w) := by
    intro x j live kn kx Q hU hn hx hr e h a w hi
    exact hU B out kn kx Q hn hx hr (forget e live) h a w (inv_forget hi live)
  induction code with
  | skip =>
    intro ann lv kn kx Q hU hn hx hr
    cases ann with
    | cut j live => exact cutCase _ j live kn kx Q (hU (j, _) (List.mem_singleton.2 rfl)) hn hx hr
    | _ => exact fun e h a w hi => wp_skip (hn e h a w hi)
  | region id ops draw =>
    intro ann lv kn kx Q hU hn hx hr
    have key : ∀ mds, Fine c.P B nt (match draw with
        | false => fun e => aops c nt mds ops.toList ops.toList e kn
        | true => fun e => aopsG c nt mds ops.toList ops.toList e [] fun tr e' => if indep ops.toList tr = true then kn e' else none) out (fun a w => (Code.region id ops draw).wp c.P Q a w) := by
      intro mds e h a w hi
      cases draw with
      | false =>
        obtain ⟨e', h1, h2⟩ := aops_ok (B := B) hc hM (List.range ops.size) ops.toList e kn range_map h
        exact wp_region (h2 a w hi Q fun a' w' hi' => hn e' h1 a' w' hi')
      | true =>
        obtain ⟨tr0, e0, e1, hq, hk, hD⟩ := aopsG_ok hM ops.toList e e [] ⟨fun _ => rfl, fun _ => rfl⟩ h
        split at hk
        case isFalse => cases hk
        rename_i hind
        obtain ⟨e', h1, h2⟩ := drawn_ok (B := B) (k := some) hc hM (hD Env (fun tr e' => if indep ops.toList tr = true then some e' else none) e0 (by rw [if_pos hind]))
        cases h1
        refine wp_region_any hmix (h2 a _ ?_ Q fun a' w' hi' => hn e1 hk a' w' (hi'.congr hq.1 hq.2))
        obtain ⟨g, hg⟩ := hi
        exact ⟨_, hg.grow (Ext.drew w _)⟩
    cases ann with
    | cut j live => exact cutCase _ j live kn kx Q (hU (j, _) (List.mem_singleton.2 rfl)) hn hx hr
    | reg mds => cases draw <;> exact key mds
    | _ => cases draw <;> exact key []
  | seq x y ihx ihy =>
    intro ann lv kn kx Q hU hn hx hr
    have key : ∀ (a b : An), (∀ q, q ∈ units x a ++ units y b → UnitOk c nt T kr q.1 q.2) → Fine c.P B nt (aevT c nt T kr x a lv (aevT c nt T kr y b lv kn kx) kx) out (fun a w => (Code.seq x y).wp c.P Q a w) := by
      intro a1 b1 hU e h a w hi
      have hy := ihy b1 lv kn kx Q (fun q hq => hU q (List.mem_append_right _ hq)) hn hx hr
      exact wp_seq (ihx a1 lv _ kx (Exit.then (y.wp c.P Q) Q) (fun q hq => hU q (List.mem_append_left _ hq)) hy hx hr e h a w hi)
    cases ann with
    | cut j live => exact cutCase _ j live kn kx Q (hU (j, _) (List.mem_singleton.2 rfl)) hn hx hr
    | _ => exact key _ _ hU
  | cond o x y ihx ihy =>
    intro ann lv kn kx Q hU hn hx hr
    have key : ∀ (a1 b1 : An), (∀ q, q ∈ units x a1 ++ units y b1 → UnitOk c nt T kr q.1 q.2) → Fine c.P B nt (fun e => match e.opd o with
        | .v .bool b => if b = true then aevT c nt T kr x a1 lv kn kx e else aevT c nt T kr y b1 lv kn kx e
        | _ => none) out (fun a w => (Code.cond o x y).wp c.P Q a w) := by
      intro a1 b1 hU e h a w hi
      dsimp only at h
      split at h
      · rename_i b hb
        have hv : a.eval o = .bool b := by
          obtain ⟨g, hg⟩ := hi
          have hr := Inv.eval hg o
          rw [hb] at hr
          obtain ⟨cs, h2, h3⟩ := hr
          rw [show cs = [.bool b] from h2] at h3
          exact h3.1
        split at h
        · rename_i hbt
          subst hbt
          exact wp_cond_true hv (ihx a1 lv kn kx Q (fun q hq => hU q (List.mem_append_left _ hq)) hn hx hr e h a w hi)
        · rename_i hbt
          have : b = false := by simpa using hbt
          subst this
          exact wp_cond_false hv (ihy b1 lv kn kx Q (fun q hq => hU q (List.mem_append_right _ hq)) hn hx hr e h a w hi)
      · cases h
    cases ann with
    | cut j live => exact cutCase _ j live kn kx Q (hU (j, _) (List.mem_singleton.2 rfl)) hn hx hr
    | _ => exact key _ _ hU
  | block id x ih =>
    intro ann lv kn kx Q hU hn hx hr
    have key : ∀ (a1 : An) (live : Option (List Nat)), (∀ q, q ∈ units x a1 → UnitOk c nt T kr q.1 q.2) →
        Fine c.P B nt (aevT c nt T kr x a1 (Lv.add lv id live) (meet live kn) (fun j => if Nat.beq j id = true then kn else kx j)) out (fun a w => (Code.block id x).wp c.P Q a w) := by
      intro a1 live hU e h a w hi
      refine wp_block (ih a1 (Lv.add lv id live) _ _ (Exit.inBlock id Q) hU (hn.meet _) (fun j => ?_) hr e h a w hi)
      intro e1 h1 a1 w1 hi1
      show if j = id then Q .normal a1 w1 else Q (.exit j) a1 w1
      by_cases hj : j = id
      · subst hj
        rw [if_pos rfl]
        have h1 : (if Nat.beq j j = true then kn else kx j) e1 = some out := h1
        rw [if_pos (Nat.beq_refl j)] at h1
        exact hn e1 h1 a1 w1 hi1
      · rw [if_neg hj]
        have h1 : (if Nat.beq j id = true then kn else kx j) e1 = some out := h1
        rw [if_neg (fun hb => hj (Nat.eq_of_beq_eq_true hb))] at h1
        exact hx j e1 h1 a1 w1 hi1
    cases ann with
    | cut j live => exact cutCase _ j live kn kx Q (hU (j, _) (List.mem_singleton.2 rfl)) hn hx hr
    | _ => exact key _ _ hU
  | exit i =>
    intro ann lv kn kx Q hU hn hx hr
    cases ann with
    | cut j live => exact cutCase _ j live kn kx Q (hU (j, _) (List.mem_singleton.2 rfl)) hn hx hr
    | _ => exact fun e h a w hi => wp_exit ((hx i).meet (look lv i) e h a w hi)
  | ret =>
    intro ann lv kn kx Q hU hn hx hr
    cases ann with
    | cut j live => exact cutCase _ j live kn kx Q (hU (j, _) (List.mem_singleton.2 rfl)) hn hx hr
    | _ => exact fun e h a w hi => wp_ret (hr e h a w hi)
  | _ =>
    intro ann lv kn kx Q hU hn hx hr
    cases ann with
    | cut j live => exact cutCase _ j live kn kx Q (hU (j, _) (List.mem_singleton.2 rfl)) hn hx hr
    | _ => exact fun e h => by cases h

/-- A loop's answers. -/
theorem loop_unit (hc : CtxOk c) (hM : MOk c) (hmix : c.P.follows .mixedOrders = true) {j n : Nat} {x : Code} (a : An) (lv : Lv) (live : List Nat)
    (L : Nat → Env → (Env → Option Ω) → (Nat → Env → Option Ω) → Option Ω) (hT : ∀ e kn kx, T j e kn kx = L n e kn kx) (h0 : ∀ e kn kx out, L 0 e kn kx = some out → False)
    (hs : ∀ m e kn kx out, L (m + 1) e kn kx = some out → aevT c nt T kr x a lv (meet (some live) fun e => L m e kn kx) kx e = some out)
    (hU : ∀ q, q ∈ units x a → UnitOk c nt T kr q.1 q.2) : UnitOk c nt T kr j (.loop x) := by
  intro B out kn kx Q hn hx hr
  have hl : ∀ m, Fine c.P B nt (fun e => L m e kn kx) out (fun a w => Code.rounds c.P x Q m a w) := by
    intro m
    induction m with
    | zero => intro e h; exact (h0 _ _ _ _ h).elim
    | succ m ih =>
      intro e h a w hi
      rw [rounds_succ]
      exact aevT_ok hc hM hmix x _ lv _ kx (Exit.then (Code.rounds c.P x Q m) Q) hU (ih.meet (some live)) hx hr e (hs m e kn kx out h) a w hi
  intro e h a w hi
  have h : T j e kn kx = some out := h
  rw [hT] at h
  exact wp_loop_rounds n (hl n e h a w hi)

/-- The answers of code after a join. -/
theorem join_unit (hc : CtxOk c) (hM : MOk c) (hmix : c.P.follows .mixedOrders = true) {j : Nat} {x : Code} (a : An) (lv : Lv) (live : Option (List Nat))
    (hs : ∀ e kn kx out, T j e kn kx = some out → aevT c nt T kr x a lv (meet live kn) kx e = some out)
    (hU : ∀ q, q ∈ units x a → UnitOk c nt T kr q.1 q.2) : UnitOk c nt T kr j x := by
  intro B out kn kx Q hn hx hr e h a w hi
  exact aevT_ok hc hM hmix x _ lv _ kx Q hU (hn.meet live) hx hr e (hs e kn kx out h) a w hi

end

def fnEvT {Ω : Type} (c : Ctx) (d : FnD) (an : An) (T : Tab Ω) (args : List Arg) (K : Res → Option Ω) : Option Ω :=
  if Nat.ble args.length d.nt = true then aevT c d.nt T (endK c d args K) d.code an [] (endK c d args K) (fun _ _ => none) (start args) else none

/-- THE LAW OF A FUNCTION: what its meaning answers is what a call of it comes to. -/
theorem fn_okT {c : Ctx} (hc : CtxOk c) (hM : MOk c) (hmix : c.P.follows .mixedOrders = true) {f : Nat} {d : FnD} {an : An} {fn : Func} (hf : c.P.funcs[f]? = some fn) (hb : fn.body = some d.code) (hnt : fn.ntmps = d.nt) (hres : fn.results.toList = d.res.map (·.1))
    {args : List Arg} {Ω : Type} {K : Res → Option Ω} {out : Ω} {res : Res} {T : Tab Ω} (hU : ∀ q, q ∈ units d.code an → UnitOk c d.nt T (endK c d args K) q.1 q.2) (hK : ∀ r, K r = some out → r = res)
    (h : fnEvT c d an T args K = some out) : Ans c.P f args res := by
  intro w vals gc hE
  unfold fnEvT at h
  split at h
  · rename_i hle
    refine calls_of_wp hf hb ?_
    rw [hnt]
    have hend : Fine c.P (baseOf w args gc) d.nt (endK c d args K) out (fun a w2 => a.defers = [] ∧ ∃ v, (results fn a.tmps).run c.P w2 = .ok v w2 ∧ ∃ v' g2, (Ending.returned v) = .returned v' ∧ Done w w2 args gc g2 res v') := by
      intro e he a w2 hi
      rw [endK_uni] at he
      cases h1 : endK c d args some e with
      | none => rw [h1] at he; cases he
      | some r =>
        rw [h1] at he
        have := hK r he
        subst this
        obtain ⟨h1, v, g2, h2, h3⟩ := end_ok hc hE h1 hres hi
        exact ⟨h1, v, h2, v, g2, rfl, h3⟩
    exact aevT_ok (B := baseOf w args gc) hc hM hmix d.code an [] _ _ (bodyPost c.P fn fun e w2 => ∃ v g2, e = .returned v ∧ Done w w2 args gc g2 res v) hU hend (fun j e he => by cases he) hend (start args) h _ w (start_inv hE (Nat.le_of_ble_eq_true hle))
  · cases h

end Go.Abs

namespace Go.Abs

def castK {K K' : Kd} (h : K'.beq K = true) (x : K'.T) : K.T := Kd.eq_of_beq h ▸ x

theorem castK_self {K K' : Kd} (h : K'.beq K = true) (x : K'.T) : (⟨K', x⟩ : KV) = ⟨K, castK h x⟩ := by
  have e := Kd.eq_of_beq h
  subst e
  rfl

/-! ### Shapes of slots -/

inductive PS where
  | inn
  | fst
  | snd
  | idx

@[reducible] def PS.Is : List PS → Type
  | [] => Unit
  | .idx :: l => Int × PS.Is l
  | _ :: l => PS.Is l

def PS.enc : (l : List PS) → PS.Is l → Path
  | [], _ => []
  | .idx :: l, i => .idx i.1 :: PS.enc l i.2
  | .inn :: l, i => .inn :: PS.enc l i
  | .fst :: l, i => .fst :: PS.enc l i
  | .snd :: l, i => .snd :: PS.enc l i

def PS.dec : (l : List PS) → Path → Option (PS.Is l)
  | [], [] => some ()
  | .idx :: l, .idx i :: p => match PS.dec l p with | some r => some ((i, r) : Int × PS.Is l) | none => none
  | .inn :: l, .inn :: p => PS.dec l p
  | .fst :: l, .fst :: p => PS.dec l p
  | .snd :: l, .snd :: p => PS.dec l p
  | _, _ => none

theorem PS.dec_enc : ∀ (l : List PS) (p : Path) {i : PS.Is l}, PS.dec l p = some i → p = PS.enc l i
  | [], [], _, _ => rfl
  | .idx :: l, .idx j :: p, i, h => by
    have h' : (match PS.dec l p with | some r => some ((j, r) : Int × PS.Is l) | none => none) = some i := h
    split at h'
    · rename_i r hr
      cases h'
      show _ = Step.idx j :: PS.enc l r
      rw [← PS.dec_enc l p hr]
    · cases h'
  | .inn :: l, .inn :: p, i, h => by show _ = Step.inn :: PS.enc l i; rw [← PS.dec_enc l p (show PS.dec l p = some i from h)]
  | .fst :: l, .fst :: p, i, h => by show _ = Step.fst :: PS.enc l i; rw [← PS.dec_enc l p (show PS.dec l p = some i from h)]
  | .snd :: l, .snd :: p, i, h => by show _ = Step.snd :: PS.enc l i; rw [← PS.dec_enc l p (show PS.dec l p = some i from h)]
  | [], _ :: _, _, h => by cases h
  | .idx :: _, [], _, h | .idx :: _, .inn :: _, _, h | .idx :: _, .fst :: _, _, h | .idx :: _, .snd :: _, _, h => by cases h
  | .inn :: _, [], _, h | .inn :: _, .idx _ :: _, _, h | .inn :: _, .fst :: _, _, h | .inn :: _, .snd :: _, _, h => by cases h
  | .fst :: _, [], _, h | .fst :: _, .idx _ :: _, _, h | .fst :: _, .inn :: _, _, h | .fst :: _, .snd :: _, _, h => by cases h
  | .snd :: _, [], _, h | .snd :: _, .idx _ :: _, _, h | .snd :: _, .inn :: _, _, h | .snd :: _, .fst :: _, _, h => by cases h

inductive Sh where
  | un
  | nils
  | v (K : Kd)
  | rp (K : Kd)
  | al (id : Nat) (p : List PS)
  | pt (id : Nat) (p : List PS)
  | fv (f : Nat) (Ks : List Kd)
  | clo (Ks : List Kd) (Kr : Kd)

@[reducible] def Sh.V : Sh → Type
  | .un => Unit
  | .nils => Unit
  | .v K => K.T
  | .rp K => K.T
  | .al _ p => PS.Is p
  | .pt _ p => PS.Is p
  | .fv _ Ks => Kd.Ts Ks
  | .clo Ks Kr => Kd.Ts Ks → Option Kr.T

def kvsOf : (Ks : List Kd) → Kd.Ts Ks → List KV
  | [], _ => []
  | K :: Ks, x => ⟨K, x.1⟩ :: kvsOf Ks x.2

def kvsDec : (Ks : List Kd) → List KV → Option (Kd.Ts Ks)
  | [], [] => some ()
  | K :: Ks, ⟨K', x⟩ :: l => if h : K'.beq K = true then (match kvsDec Ks l with | some r => some ((castK h x, r) : K.T × Kd.Ts Ks) | none => none) else none
  | _, _ => none

theorem kvs_dec : ∀ (Ks : List Kd) (l : List KV) {x : Kd.Ts Ks}, kvsDec Ks l = some x → l = kvsOf Ks x
  | [], [], _, _ => rfl
  | K :: Ks, ⟨K', y⟩ :: l, x, h => by
    have h' : (if h : K'.beq K = true then (match kvsDec Ks l with | some r => some ((castK h y, r) : K.T × Kd.Ts Ks) | none => none) else none) = some x := h
    split at h'
    · split at h'
      · rename_i hk _ r hr
        cases h'
        show _ = (⟨K, castK hk y⟩ : KV) :: kvsOf Ks r
        rw [← kvs_dec Ks l hr, castK_self hk y]
      · cases h'
    · cases h'
  | [], _ :: _, _, h => by cases h
  | _ :: _, [], _, h => by cases h

def Sh.enc : (s : Sh) → s.V → Slot
  | .un, _ => .un
  | .nils, _ => .nils
  | .v K, x => .v K x
  | .rp K, x => .rp K x
  | .al id p, i => .al id 0 (PS.enc p i)
  | .pt id p, i => .pt id 0 (PS.enc p i)
  | .fv f Ks, x => .fv f (kvsOf Ks x)
  | .clo Ks Kr, f => .clo Ks Kr f

def castC {Ks Ls : List Kd} {Kr Lr : Kd} (h : (Kd.beqs Ls Ks && Lr.beq Kr) = true) (f : Kd.Ts Ls → Option Lr.T) : Kd.Ts Ks → Option Kr.T := by
  rw [Bool.and_eq_true] at h
  rw [← Kd.eq_of_beqs h.1, ← Kd.eq_of_beq h.2]
  exact f

theorem castC_self {Ks Ls : List Kd} {Kr Lr : Kd} (h : (Kd.beqs Ls Ks && Lr.beq Kr) = true) (f : Kd.Ts Ls → Option Lr.T) : Slot.clo Ls Lr f = Slot.clo Ks Kr (castC h f) := by
  have h' := h
  rw [Bool.and_eq_true] at h'
  have e1 := Kd.eq_of_beqs h'.1
  have e2 := Kd.eq_of_beq h'.2
  subst e1
  subst e2
  rfl

theorem castC_arg {Ks Ls : List Kd} {Kr Lr : Kd} (h : (Kd.beqs Ls Ks && Lr.beq Kr) = true) (f : Kd.Ts Ls → Option Lr.T) : Arg.fn Ls Lr f = Arg.fn Ks Kr (castC h f) := by
  have h' := h
  rw [Bool.and_eq_true] at h'
  have e1 := Kd.eq_of_beqs h'.1
  have e2 := Kd.eq_of_beq h'.2
  subst e1
  subst e2
  rfl

def Sh.dec : (s : Sh) → Slot → Option s.V
  | .un, .un => some ()
  | .nils, .nils => some ()
  | .v K, .v K' x => if h : K'.beq K = true then some (castK h x) else none
  | .rp K, .rp K' x => if h : K'.beq K = true then some (castK h x) else none
  | .al id p, .al id' n q => if (Nat.beq id' id && Nat.beq n 0) = true then PS.dec p q else none
  | .pt id p, .pt id' n q => if (Nat.beq id' id && Nat.beq n 0) = true then PS.dec p q else none
  | .fv f Ks, .fv f' l => if Nat.beq f' f = true then kvsDec Ks l else none
  | .clo Ks Kr, .clo Ls Lr f => if h : (Kd.beqs Ls Ks && Lr.beq Kr) = true then some (castC h f) else none
  | _, _ => none

theorem Sh.dec_enc {s : Sh} {t : Slot} {x : s.V} (h : s.dec t = some x) : t = s.enc x := by
  have two : ∀ {id id' n : Nat} {p : List PS} {q : Path} {x : PS.Is p}, (if (Nat.beq id' id && Nat.beq n 0) = true then PS.dec p q else none) = some x → id' = id ∧ n = 0 ∧ q = PS.enc p x := by
    intro id id' n p q x h
    split at h
    · rename_i hb
      rw [Bool.and_eq_true] at hb
      exact ⟨Nat.eq_of_beq_eq_true hb.1, Nat.eq_of_beq_eq_true hb.2, PS.dec_enc _ _ h⟩
    · cases h
  unfold Sh.dec at h
  split at h
  · rfl
  · rfl
  · split at h
    · rename_i K K' y hk
      cases h
      have := castK_self hk y
      have e := Kd.eq_of_beq hk
      subst e
      rfl
    · cases h
  · split at h
    · rename_i K K' y hk
      cases h
      have e := Kd.eq_of_beq hk
      subst e
      rfl
    · cases h
  · obtain ⟨h1, h2, h3⟩ := two h
    subst h1 h2 h3
    rfl
  · obtain ⟨h1, h2, h3⟩ := two h
    subst h1 h2 h3
    rfl
  · split at h
    · rename_i hb
      rw [Nat.eq_of_beq_eq_true hb, kvs_dec _ _ h]
      rfl
    · cases h
  · split at h
    · rename_i hb
      cases h
      exact castC_self hb _
    · cases h
  · cases h

@[reducible] def SVs : List (Nat × Sh) → Type
  | [] => Unit
  | (_, s) :: l => s.V × SVs l

def svEnc : (l : List (Nat × Sh)) → SVs l → List (Nat × Slot)
  | [], _ => []
  | (t, s) :: l, x => (t, s.enc x.1) :: svEnc l x.2

def svDec : (l : List (Nat × Sh)) → List (Nat × Slot) → Option (SVs l)
  | [], [] => some ()
  | (t, s) :: l, (u, z) :: r => if Nat.beq u t = true then (match s.dec z, svDec l r with | some x, some y => some ((x, y) : s.V × SVs l) | _, _ => none) else none
  | _, _ => none

theorem sv_dec : ∀ (l : List (Nat × Sh)) (r : List (Nat × Slot)) {x : SVs l}, svDec l r = some x → r = svEnc l x
  | [], [], _, _ => rfl
  | (t, s) :: l, (u, z) :: r, x, h => by
    have h' : (if Nat.beq u t = true then (match s.dec z, svDec l r with | some x, some y => some ((x, y) : s.V × SVs l) | _, _ => none) else none) = some x := h
    split at h'
    · rename_i hb
      split at h'
      · rename_i a b ha hb2
        cases h'
        show _ = (t, s.enc a) :: svEnc l b
        rw [← sv_dec l r hb2, ← Sh.dec_enc ha, Nat.eq_of_beq_eq_true hb]
      · cases h'
    · cases h'
  | [], _ :: _, _, h => by cases h
  | (_, _) :: _, [], _, h => by cases h

/-- An object's shape. -/
structure OS where
  id : Nat
  K : Kd
  m : Md
  box : Bool
  par : Bool

@[reducible] def OVs : List OS → Type
  | [] => Unit
  | o :: l => o.K.T × OVs l

def ovEnc : (l : List OS) → OVs l → List (Nat × Option Obj)
  | [], _ => []
  | o :: l, x => (o.id, some ⟨o.K, o.m, x.1, o.box, o.par, [], none⟩) :: ovEnc l x.2

def noLog (l : List (Option Path)) : Bool := match l with | [] => true | _ => false
def noHl (l : Option Path) : Bool := match l with | none => true | _ => false

def ovDec : (l : List OS) → List (Nat × Option Obj) → Option (OVs l)
  | [], [] => some ()
  | o :: l, (u, some b) :: r => if h : b.K.beq o.K = true then (if (Nat.beq u o.id && b.m.beq o.m && (b.box == o.box) && (b.par == o.par) && noLog b.log && noHl b.hl) = true then (match ovDec l r with | some y => some ((castK h b.x, y) : o.K.T × OVs l) | none => none) else none) else none
  | _, _ => none

theorem ov_dec : ∀ (l : List OS) (r : List (Nat × Option Obj)) {x : OVs l}, ovDec l r = some x → r = ovEnc l x
  | [], [], _, _ => rfl
  | o :: l, (u, some b) :: r, x, h => by
    have h' : (if h : b.K.beq o.K = true then (if (Nat.beq u o.id && b.m.beq o.m && (b.box == o.box) && (b.par == o.par) && noLog b.log && noHl b.hl) = true then (match ovDec l r with | some y => some ((castK h b.x, y) : o.K.T × OVs l) | none => none) else none) else none) = some x := h
    split at h'
    · rename_i hk
      split at h'
      · rename_i hb
        split at h'
        · rename_i y hy
          cases h'
          show _ = (o.id, some (⟨o.K, o.m, castK hk b.x, o.box, o.par, [], none⟩ : Obj)) :: ovEnc l y
          rw [← ov_dec l r hy]
          simp only [Bool.and_eq_true] at hb
          obtain ⟨⟨⟨⟨⟨h1, h2⟩, h3⟩, h4⟩, h5⟩, h6⟩ := hb
          obtain ⟨K, m, z, box, par, log, hl⟩ := b
          obtain ⟨id, oK, om, obox, opar⟩ := o
          have e := Kd.eq_of_beq hk
          have e2 := Md.eq_of_beq h2
          have e3 := eq_of_beq h3
          have e4 := eq_of_beq h4
          have e1 := Nat.eq_of_beq_eq_true h1
          dsimp only at e e2 e3 e4 e1
          subst e e2 e3 e4 e1
          cases log with
          | cons _ _ => cases h5
          | nil =>
            cases hl with
            | some _ => cases h6
            | none => rfl
        · cases h'
      · cases h'
    · cases h'
  | [], _ :: _, _, h => by cases h
  | _ :: _, [], _, h => by cases h
  | _ :: _, (_, none) :: _, _, h => by cases h

/-- A state's shape. -/
structure ES where
  s : List (Nat × Sh)
  o : List OS

@[reducible] def ES.V (S : ES) : Type := SVs S.s × OVs S.o
def ES.enc (S : ES) (x : S.V) : Env := ⟨svEnc S.s x.1, ovEnc S.o x.2⟩
def ES.dec (S : ES) (e : Env) : Option S.V := match svDec S.s e.slots, ovDec S.o e.objs with | some a, some b => some (a, b) | _, _ => none

theorem ES.dec_enc {S : ES} {e : Env} {x : S.V} (h : S.dec e = some x) : e = S.enc x := by
  unfold ES.dec at h
  split at h
  · rename_i a b ha hb
    cases h
    obtain ⟨es, eo⟩ := e
    show _ = (⟨svEnc S.s a, ovEnc S.o b⟩ : Env)
    rw [← sv_dec _ _ ha, ← ov_dec _ _ hb]
  · cases h

def ES.on {α : Type} (S : ES) (e : Env) (k : S.V → Option α) : Option α := match S.dec e with | some x => k x | none => none

theorem ES.on_inv {α : Type} {S : ES} {e : Env} {k : S.V → Option α} {out : α} (h : S.on e k = some out) : ∃ x, e = S.enc x ∧ k x = some out := by
  unfold ES.on at h
  split at h
  · rename_i x hx
    exact ⟨x, ES.dec_enc hx, h⟩
  · cases h

/-! ### Shapes of arguments and results -/

inductive ASh where
  | ro (K : Kd)
  | rp (K : Kd)
  | mp (K : Kd) (m : Md)
  | ms (K : Kd) (m : Md)
  | mv (K : Kd) (m : Md)
  | fn (Ks : List Kd) (Kr : Kd)

def ASh.am : ASh → AM
  | .ro _ => .ro
  | .rp _ => .rp
  | .mp _ _ => .mp
  | .ms _ _ => .ms
  | .mv _ _ => .mv
  | .fn Ks Kr => .fn Ks Kr

@[reducible] def ASh.V : ASh → Type
  | .ro K => K.T
  | .rp K => K.T
  | .mp K _ => K.T
  | .ms K _ => K.T
  | .mv K _ => K.T
  | .fn Ks Kr => Kd.Ts Ks → Option Kr.T

def ASh.enc : (s : ASh) → s.V → Arg
  | .ro K, x => .ro K x
  | .rp K, x => .rp K x
  | .mp K m, x => .mp K m x
  | .ms K m, x => .ms K m x
  | .mv K m, x => .mv K m x
  | .fn Ks Kr, x => .fn Ks Kr x

def ASh.dec : (s : ASh) → Arg → Option s.V
  | .ro K, .ro K' x => if h : K'.beq K = true then some (castK h x) else none
  | .rp K, .rp K' x => if h : K'.beq K = true then some (castK h x) else none
  | .mp K m, .mp K' m' x => if h : K'.beq K = true then (if m'.beq m = true then some (castK h x) else none) else none
  | .ms K m, .ms K' m' x => if h : K'.beq K = true then (if m'.beq m = true then some (castK h x) else none) else none
  | .mv K m, .mv K' m' x => if h : K'.beq K = true then (if m'.beq m = true then some (castK h x) else none) else none
  | .fn Ks Kr, .fn Ls Lr f => if h : (Kd.beqs Ls Ks && Lr.beq Kr) = true then some (castC h f) else none
  | _, _ => none

theorem ASh.dec_enc {s : ASh} {a : Arg} {x : s.V} (h : s.dec a = some x) : a = s.enc x := by
  unfold ASh.dec at h
  split at h
  · split at h
    · rename_i K K' y hk
      cases h
      have e := Kd.eq_of_beq hk
      subst e
      rfl
    · cases h
  · split at h
    · rename_i K K' y hk
      cases h
      have e := Kd.eq_of_beq hk
      subst e
      rfl
    · cases h
  · split at h
    · rename_i K m K' m' y hk
      split at h
      · rename_i hm
        cases h
        have e := Kd.eq_of_beq hk
        have e2 := Md.eq_of_beq hm
        subst e e2
        rfl
      · cases h
    · cases h
  · split at h
    · rename_i K m K' m' y hk
      split at h
      · rename_i hm
        cases h
        have e := Kd.eq_of_beq hk
        have e2 := Md.eq_of_beq hm
        subst e e2
        rfl
      · cases h
    · cases h
  · split at h
    · rename_i K m K' m' y hk
      split at h
      · rename_i hm
        cases h
        have e := Kd.eq_of_beq hk
        have e2 := Md.eq_of_beq hm
        subst e e2
        rfl
      · cases h
    · cases h
  · split at h
    · rename_i hb
      cases h
      exact castC_arg hb _
    · cases h
  · cases h

@[reducible] def AVs : List ASh → Type
  | [] => Unit
  | s :: l => s.V × AVs l

def avEnc : (l : List ASh) → AVs l → List Arg
  | [], _ => []
  | s :: l, x => s.enc x.1 :: avEnc l x.2

def avDec : (l : List ASh) → List Arg → Option (AVs l)
  | [], [] => some ()
  | s :: l, a :: r => match s.dec a, avDec l r with | some x, some y => some ((x, y) : s.V × AVs l) | _, _ => none
  | _, _ => none

theorem av_dec : ∀ (l : List ASh) (r : List Arg) {x : AVs l}, avDec l r = some x → r = avEnc l x
  | [], [], _, _ => rfl
  | s :: l, a :: r, x, h => by
    have h' : (match s.dec a, avDec l r with | some x, some y => some ((x, y) : s.V × AVs l) | _, _ => none) = some x := h
    split at h'
    · rename_i y z hy hz
      cases h'
      show _ = s.enc y :: avEnc l z
      rw [← av_dec l r hz, ← ASh.dec_enc hy]
    · cases h'
  | [], _ :: _, _, h => by cases h
  | _ :: _, [], _, h => by cases h

/-- A result's shape. -/
inductive RSh where
  | ro (K : Kd)
  | own (K : Kd) (m : Md)
  | out (K : Kd)

@[reducible] def RSh.K : RSh → Kd
  | .ro K => K
  | .own K _ => K
  | .out K => K

@[reducible] def RVs : List RSh → Type
  | [] => Unit
  | [s] => s.K.T
  | s :: s2 :: l => s.K.T × RVs (s2 :: l)

def addR (s : RSh) (x : s.K.T) (r : Res) : Res := match s, x with
  | .ro K, x => ⟨.ro K x :: r.rets, r.outs⟩
  | .own K m, x => ⟨.own K m x :: r.rets, r.outs⟩
  | .out K, x => ⟨r.rets, ⟨K, x⟩ :: r.outs⟩

def rvEnc : (l : List RSh) → RVs l → Res
  | [], _ => ⟨[], []⟩
  | [s], x => addR s x ⟨[], []⟩
  | s :: s2 :: l, x => addR s x.1 (rvEnc (s2 :: l) x.2)

/-- Takes the first result off. -/
def offR {α : Type} (s : RSh) (r : Res) (k : s.K.T → Res → Option α) : Option α := match s, k with
  | .ro K, k => match r with
    | ⟨.ro K' x :: l, o⟩ => if h : K'.beq K = true then k (castK h x) ⟨l, o⟩ else none
    | _ => none
  | .own K m, k => match r with
    | ⟨.own K' m' x :: l, o⟩ => if h : K'.beq K = true then (if m'.beq m = true then k (castK h x) ⟨l, o⟩ else none) else none
    | _ => none
  | .out K, k => match r with
    | ⟨l, ⟨K', x⟩ :: o⟩ => if h : K'.beq K = true then (if l.isEmpty = true then k (castK h x) ⟨l, o⟩ else none) else none
    | _ => none

theorem offR_inv {α : Type} {s : RSh} {r : Res} {k : s.K.T → Res → Option α} {out : α} (h : offR s r k = some out) : ∃ x r2, r = addR s x r2 ∧ k x r2 = some out := by
  unfold offR at h
  split at h
  · split at h
    · split at h
      · rename_i K k0 K' x l o hk
        refine ⟨_, _, ?_, h⟩
        have e := Kd.eq_of_beq hk
        subst e
        rfl
      · cases h
    · cases h
  · split at h
    · split at h
      · rename_i K m k0 K' m' x l o hk
        split at h
        · rename_i hm
          refine ⟨_, _, ?_, h⟩
          have e := Kd.eq_of_beq hk
          have e2 := Md.eq_of_beq hm
          subst e e2
          rfl
        · cases h
      · cases h
    · cases h
  · split at h
    · split at h
      · rename_i K k0 l K' x o hk
        split at h
        · refine ⟨_, _, ?_, h⟩
          have e := Kd.eq_of_beq hk
          subst e
          rfl
        · cases h
      · cases h
    · cases h

def emptyR {α : Type} (r : Res) (x : α) : Option α := match r with | ⟨[], []⟩ => some x | _ => none

def rvDec : (l : List RSh) → Res → Option (RVs l)
  | [], r => emptyR r ()
  | [s], r => offR s r fun x r => emptyR r x
  | s :: s2 :: l, r => offR s r fun x r => match rvDec (s2 :: l) r with | some y => some ((x, y) : s.K.T × RVs (s2 :: l)) | none => none

theorem emptyR_inv {α : Type} {r : Res} {x y : α} (h : emptyR r x = some y) : r = ⟨[], []⟩ ∧ x = y := by
  unfold emptyR at h
  split at h
  · cases h; exact ⟨rfl, rfl⟩
  · cases h

theorem rv_dec : ∀ (l : List RSh) (r : Res) {x : RVs l}, rvDec l r = some x → r = rvEnc l x
  | [], r, x, h => (emptyR_inv (show emptyR r () = some x from h)).1
  | [s], r, x, h => by
    obtain ⟨y, r2, h1, h2⟩ := offR_inv (show offR s r (fun x r => emptyR r x) = some x from h)
    obtain ⟨h3, h4⟩ := emptyR_inv h2
    rw [h1, h3, h4]
    rfl
  | s :: s2 :: l, r, x, h => by
    obtain ⟨y, r2, h1, h2⟩ := offR_inv (show offR s r (fun x r => match rvDec (s2 :: l) r with | some y => some ((x, y) : s.K.T × RVs (s2 :: l)) | none => none) = some x from h)
    split at h2
    · rename_i z hz
      cases h2
      rw [h1, rv_dec (s2 :: l) r2 hz]
      rfl
    · cases h2

/-! ### The table of the functions -/

structure FEnt where
  a : List ASh
  r : List RSh
  F : AVs a → Option (RVs r)

def lookE : List (Nat × FEnt) → Nat → Option FEnt
  | [], _ => none
  | (i, x) :: l, n => if Nat.beq i n = true then some x else lookE l n

theorem lookE_mem : ∀ {l : List (Nat × FEnt)} {n : Nat} {e : FEnt}, lookE l n = some e → (n, e) ∈ l
  | (i, x) :: l, n, e, h => by
    have h' : (if Nat.beq i n = true then some x else lookE l n) = some e := h
    split at h'
    · rename_i hb
      cases h'
      rw [Nat.eq_of_beq_eq_true hb]
      exact List.mem_cons_self
    · exact List.mem_cons_of_mem _ (lookE_mem h')
  | [], n, e, h => by cases h

def mkM (tb : List (Nat × FEnt)) : Meaning := fun f args {_} K => match lookE tb f with
  | none => none
  | some e => match avDec e.a args with
    | none => none
    | some v => (e.F v).bind fun r => K (rvEnc e.r r)

def mkCtx (P : Program) (ty : List (Nat × Kd)) (tb : List (Nat × FEnt)) : Ctx := ⟨P, ty, fun f => (lookE tb f).map fun e => e.a.map ASh.am, mkM tb⟩

structure EntOk (P : Program) (f : Nat) (e : FEnt) : Prop where
  body : ∃ fn, P.funcs[f]? = some fn ∧ fn.name ≠ "runtime.NumGoroutine" ∧ fn.body.isNone = false
  ans : ∀ v r, e.F v = some r → Ans P f (avEnc e.a v) (rvEnc e.r r)

theorem mkCtx_ok {P : Program} {ty : List (Nat × Kd)} {tb : List (Nat × FEnt)} (h : ∀ q, q ∈ tb → EntOk P q.1 q.2) : MOk (mkCtx P ty tb) where
  uni := by
    intro f args Ω K
    show mkM tb f args K = (mkM tb f args some).bind K
    unfold mkM
    cases lookE tb f with
    | none => rfl
    | some e =>
      dsimp only
      cases avDec e.a args with
      | none => rfl
      | some v =>
        dsimp only
        cases e.F v <;> rfl
  body := by
    intro f ams hs
    have hs : (lookE tb f).map (fun e => e.a.map ASh.am) = some ams := hs
    rw [Option.map_eq_some_iff] at hs
    obtain ⟨e, he, _⟩ := hs
    exact (h _ (lookE_mem he)).body
  ans := by
    intro f ams _ args Ω K out hm
    have hm : mkM tb f args K = some out := hm
    unfold mkM at hm
    split at hm
    · cases hm
    · rename_i e he
      split at hm
      · cases hm
      · rename_i v hv
        cases hr : e.F v with
        | none => rw [hr] at hm; cases hm
        | some r =>
          rw [hr] at hm
          refine ⟨rvEnc e.r r, hm, ?_⟩
          rw [av_dec _ _ hv]
          exact (h _ (lookE_mem he)).ans v r hr

/-- A function's entry, out of its code. -/
theorem ent_ok {c : Ctx} (hc : CtxOk c) (hM : MOk c) (hmix : c.P.follows .mixedOrders = true) {f : Nat} {e : FEnt} {d : FnD} {an : An} {fn : Func} (hf : c.P.funcs[f]? = some fn) (hb : fn.body = some d.code) (hn : (fn.name == "runtime.NumGoroutine") = false)
    (hnt : fn.ntmps = d.nt) (hres : fn.results.toList = d.res.map (·.1)) (T : (v : AVs e.a) → Tab (RVs e.r))
    (hU : ∀ v q, q ∈ units d.code an → UnitOk c d.nt (T v) (endK c d (avEnc e.a v) (rvDec e.r)) q.1 q.2)
    (h : ∀ v, fnEvT c d an (T v) (avEnc e.a v) (rvDec e.r) = e.F v) : EntOk c.P f e where
  body := ⟨fn, hf, (by intro h1; rw [h1] at hn; exact absurd hn (by simp)), by rw [hb]; rfl⟩
  ans := by
    intro v r hr
    rw [← h v] at hr
    exact fn_okT hc hM hmix hf hb hnt hres (hU v) (fun q hq => rv_dec _ _ hq) hr

end Go.Abs

namespace Go.Abs

def Code.l : Code → Code
  | .seq a _ => a
  | .block _ a => a
  | .loop a => a
  | .cond _ a _ => a
  | c => c
def Code.r : Code → Code
  | .seq _ b => b
  | .cond _ _ b => b
  | c => c

universe u
theorem mem_nil {α : Type u} {p : α → Prop} : ∀ q, q ∈ ([] : List α) → p q := fun _ h => by cases h
theorem mem_cons {α : Type u} {p : α → Prop} {a : α} {l : List α} (h : p a) (h2 : ∀ q, q ∈ l → p q) : ∀ q, q ∈ a :: l → p q := fun q hq => by
  cases hq with
  | head => exact h
  | tail _ hq => exact h2 q hq
theorem units_of {p : Nat × Code → Prop} {x : Code} {a : An} {l : List (Nat × Code)} (h : units x a = l) (h2 : ∀ q, q ∈ l → p q) : ∀ q, q ∈ units x a → p q := by rw [h]; exact h2

theorem mkCtx_cok {P : Program} {ty : List (Nat × Kd)} {tb : List (Nat × FEnt)} (h : TysOk P ty) : CtxOk (mkCtx P ty tb) := ⟨h⟩
theorem mkCtx_mix {P : Program} {ty : List (Nat × Kd)} {tb : List (Nat × FEnt)} (h : P.follows .mixedOrders = true) : (mkCtx P ty tb).P.follows .mixedOrders = true := h

theorem ent_none {P : Program} {f : Nat} {e : FEnt} (fn : Func) (hf : P.funcs[f]? = some fn) (hb : fn.body.isNone = false) (hn : (fn.name == "runtime.NumGoroutine") = false) (h : ∀ v, e.F v = none) : EntOk P f e where
  body := ⟨fn, hf, (by intro h1; rw [h1] at hn; exact absurd hn (by simp)), hb⟩
  ans := by intro v r hr; rw [h v] at hr; cases hr

end Go.Abs

namespace Go.Abs

/-- The value of a plain kind. -/
def Kd.pv : (K : Kd) → K.T → Value
  | .int k, n => .int k n
  | .bool, b => .bool b
  | .str, s => .string s
  | _, _ => undef

def Kd.plain : Kd → Bool
  | .int _ => true
  | .bool => true
  | .str => true
  | _ => false

theorem RO.pv {S : Nat → Prop} {w : World} {K : Kd} {x : K.T} {cs : List Value} {v : Value} (hK : K.plain = true) (h : RO S w K x cs) (hv : VRep K cs v) : v = K.pv x := by
  cases K with
  | int k => rw [show cs = [.int k x] from h] at hv; exact hv.1
  | bool => rw [show cs = [.bool x] from h] at hv; exact hv.1
  | str => rw [show cs = [.string x] from h] at hv; exact hv.1
  | _ => cases hK

theorem pv_ro {S : Nat → Prop} {w : World} {K : Kd} {x : K.T} (hK : K.plain = true) : RO S w K x [K.pv x] ∧ VRep K [K.pv x] (K.pv x) := by
  cases K with
  | int k => exact ⟨rfl, rfl, rfl⟩
  | bool => exact ⟨rfl, rfl, rfl⟩
  | str => exact ⟨rfl, rfl, rfl⟩
  | _ => cases hK

@[reducible] def roA (Ks : List Kd) : List ASh := Ks.map ASh.ro
@[reducible] def roR (Ks : List Kd) : List RSh := Ks.map RSh.ro

def pvals : (Ks : List Kd) → AVs (roA Ks) → List Value
  | [], _ => []
  | K :: Ks, x => K.pv x.1 :: pvals Ks x.2

theorem outs_ro {w2 : World} {g g2 : Gh} : ∀ (Ks : List Kd) (v : AVs (roA Ks)) (j : Nat), OutsRep w2 g g2 j (avEnc (roA Ks) v) []
  | [], _, _ => trivial
  | _ :: Ks, v, j => outs_ro Ks v.2 (j + 1)

/-- A value of a kind that reads of no block. -/
def Rep0 (K : Kd) (x : K.T) (v : Value) : Prop := ∃ cs, (∀ (S : Nat → Prop) (w : World), RO S w K x cs) ∧ VRep K cs v

theorem Rep0.int {k : IntKind} {n : Int} : Rep0 (.int k) n (.int k n) := ⟨_, fun _ _ => rfl, rfl, rfl⟩
theorem Rep0.bool {b : Bool} : Rep0 .bool b (.bool b) := ⟨_, fun _ _ => rfl, rfl, rfl⟩
theorem Rep0.str {s : ByteArray} : Rep0 .str s (.string s) := ⟨_, fun _ _ => rfl, rfl, rfl⟩
theorem Rep0.noErr : Rep0 .err false .nilIface := ⟨_, fun _ _ => ⟨_, rfl, .inl ⟨rfl, rfl⟩⟩, rfl, rfl⟩
theorem Rep0.anErr {t : TypeId} {p : Value} : Rep0 .err true (.iface t p) := ⟨_, fun _ _ => ⟨_, rfl, .inr ⟨rfl, t, p, rfl⟩⟩, rfl, rfl⟩

/-- The results as the machine hands them back. -/
def Rets0 : (Rs : List Kd) → RVs (roR Rs) → Value → Prop
  | [K], x, v => Rep0 K x v
  | [K, L], x, v => ∃ a b, v = .tuple #[a, b] ∧ Rep0 K x.1 a ∧ Rep0 L x.2 b
  | [K, L, M], x, v => ∃ a b c, v = .tuple #[a, b, c] ∧ Rep0 K x.1 a ∧ Rep0 L x.2.1 b ∧ Rep0 M x.2.2 c
  | _, _, _ => False

theorem rets0 {w2 : World} {g : Gh} {n : Nat} : ∀ (Rs : List Kd) (r : RVs (roR Rs)) (v : Value), Rets0 Rs r v → (∀ i b, ¬ g.F (n + i) b) → ∃ cs, RetsRep w2 { g with cs := cs } n (rvEnc (roR Rs) r).rets v
  | [], _, _, h, _ => h.elim
  | [K], x, v, h, hrest => by
    obtain ⟨cs, h1, h2⟩ := h
    exact ⟨fun _ => cs, hrest 0, h1 _ _, h2⟩
  | [K, L], x, v, h, hrest => by
    obtain ⟨a, b, rfl, ⟨c1, p1, p2⟩, c2, q1, q2⟩ := h
    refine ⟨fun i => if i = n then c1 else c2, _, rfl, rfl, fun i rr u hi hu => ?_⟩
    match i, hi, hu with
    | 0, hi, hu =>
      cases hi; cases hu
      refine ⟨hrest 0, ?_, ?_⟩
      · simp only [Nat.add_zero, if_true]; exact p1 _ _
      · simp only [Nat.add_zero, if_true]; exact p2
    | 1, hi, hu =>
      cases hi; cases hu
      refine ⟨hrest 1, ?_, ?_⟩
      · dsimp only; rw [if_neg (by omega)]; exact q1 _ _
      · dsimp only; rw [if_neg (by omega)]; exact q2
    | i + 2, hi, hu => cases hi
  | [K, L, M], x, v, h, hrest => by
    obtain ⟨a, b, c, rfl, ⟨c1, p1, p2⟩, ⟨c2, q1, q2⟩, c3, s1, s2⟩ := h
    refine ⟨fun i => if i = n then c1 else if i = n + 1 then c2 else c3, _, rfl, rfl, fun i rr u hi hu => ?_⟩
    match i, hi, hu with
    | 0, hi, hu =>
      cases hi
      obtain rfl : a = u := by simpa using hu
      refine ⟨hrest 0, ?_, ?_⟩
      · dsimp only; rw [if_pos (by omega)]; exact p1 _ _
      · dsimp only; rw [if_pos (by omega)]; exact p2
    | 1, hi, hu =>
      cases hi
      obtain rfl : b = u := by simpa using hu
      refine ⟨hrest 1, ?_, ?_⟩
      · dsimp only; rw [if_neg (by omega), if_pos (by omega)]; exact q1 _ _
      · dsimp only; rw [if_neg (by omega), if_pos (by omega)]; exact q2
    | 2, hi, hu =>
      cases hi
      obtain rfl : c = u := by simpa using hu
      refine ⟨hrest 2, ?_, ?_⟩
      · dsimp only; rw [if_neg (by omega), if_neg (by omega)]; exact s1 _ _
      · dsimp only; rw [if_neg (by omega), if_neg (by omega)]; exact s2
    | i + 3, hi, hu => cases hi
  | _ :: _ :: _ :: _ :: _, _, _, h, _ => h.elim

/-- The arguments as the machine hands them over. -/
def ArgsRO (S : Nat → Prop) (w : World) : (Ks : List Kd) → AVs (roA Ks) → List Value → Prop
  | [], _, vs => vs = []
  | K :: Ks, x, vs => ∃ v r cs, vs = v :: r ∧ RO S w K x.1 cs ∧ VRep K cs v ∧ ArgsRO S w Ks x.2 r

theorem entry_args {P : Program} {w : World} {S : Nat → Prop} : ∀ (Ks : List Kd) (v : AVs (roA Ks)) (vals : List Value), vals.length = (avEnc (roA Ks) v).length →
    (∀ (j : Nat) a x, (avEnc (roA Ks) v)[j]? = some a → vals[j]? = some x → ∃ F pl cs, ArgRep P S w F pl cs a x) → ArgsRO S w Ks v vals
  | [], _, [], _, _ => rfl
  | [], _, _ :: _, h, _ => by cases h
  | K :: Ks, v, [], h, _ => by cases h
  | K :: Ks, v, x :: vals, hl, h => by
    obtain ⟨F, pl, cs, _, _, cs', h1, h2⟩ := h 0 (.ro K v.1) x rfl rfl
    exact ⟨x, vals, cs', rfl, h1, h2, entry_args Ks v.2 vals (Nat.succ.inj hl) (fun j a y ha hy => h (j + 1) a y ha (by simpa using hy))⟩

/-- A library function's entry, out of its contract. -/
theorem ent_gen {P : Program} {f : Nat} {Ks Rs : List Kd} {F : AVs (roA Ks) → Option (RVs (roR Rs))} (fn : Func) (hf : P.funcs[f]? = some fn) (hb : fn.body.isNone = false) (hn : (fn.name == "runtime.NumGoroutine") = false)
    (h : ∀ v r, F v = some r → ∀ (S : Nat → Prop) (w : World) (vals : List Value), (∀ b, S b → b < w.heap.size) → GlobOk P S w → ArgsRO S w Ks v vals →
      Calls P f vals.toArray w fun e w' => (∃ ret, e = .returned ret ∧ Rets0 Rs r ret) ∧ Ext w w' (fun _ _ => False)) :
    EntOk P f ⟨roA Ks, roR Rs, F⟩ where
  body := ⟨fn, hf, (by intro h1; rw [h1] at hn; exact absurd hn (by simp)), hb⟩
  ans := by
    intro v r hr w vals g hE
    refine (h v r hr g.S w vals hE.Ssz hE.glob (entry_args (P := P) Ks v vals hE.len (fun j a x ha hx => ⟨_, _, _, hE.arg j a x ha hx⟩))).mono fun e w2 ⟨⟨ret, he, hret⟩, hx⟩ => ?_
    have hrest : ∀ i, (∀ b, ¬ g.F ((avEnc (roA Ks) v).length + i) b) := fun i => (hE.rest _ (Nat.le_add_right _ _)).1
    obtain ⟨cs, hcs⟩ := rets0 (w2 := w2) Rs r ret hret hrest
    refine ⟨ret, { g with cs := cs }, he, ⟨hx.mono (fun _ _ _ h => h.elim), fun _ h => h, fun _ h => .inl h, fun b hb => Nat.lt_of_lt_of_le (hE.Ssz b hb) hx.size,
      fun j b hF => .inl ⟨j, hF⟩, fun j b hF => Nat.lt_of_lt_of_le (hE.Fsz j b hF) hx.size, hE.FS, hE.FF, ?_, hcs⟩⟩
    have : ∀ (Rs : List Kd) (r : RVs (roR Rs)), (rvEnc (roR Rs) r).outs = [] := by
      intro Rs
      induction Rs with
      | nil => intro r; rfl
      | cons K Rs ih =>
        intro r
        cases Rs with
        | nil => rfl
        | cons L Rs => exact ih r.2
    rw [this]
    exact outs_ro Ks v 0

theorem argsRO_vals {S : Nat → Prop} {w : World} : ∀ (Ks : List Kd) (v : AVs (roA Ks)) (vals : List Value), Ks.all Kd.plain = true → ArgsRO S w Ks v vals → vals = pvals Ks v
  | [], _, _, _, h => h
  | K :: Ks, v, vals, hK, h => by
    rw [List.all_cons, Bool.and_eq_true] at hK
    obtain ⟨x, r, cs, rfl, h1, h2, h3⟩ := h
    show x :: r = K.pv v.1 :: pvals Ks v.2
    rw [RO.pv hK.1 h1 h2, argsRO_vals Ks v.2 r hK.2 h3]

/-- The world's blocks and streams are as they were. -/
theorem Ext.below {w w' : World} {X : Nat → Nat → Prop} (h : RowKit.Below w.heap.size w w') : Ext w w' X :=
  ⟨h.os, h.tape, h.output, h.size, fun b hb _ => h.block b hb, fun b o hb _ => ⟨by unfold World.cell?; rw [h.block b hb], by unfold World.frozen?; rw [h.block b hb]⟩⟩

theorem Ext.grow (w : World) (k : Nat) (os : Array Go.Obj) (X : Nat → Nat → Prop) : Ext w (Go.Sort.grow (w.drewN k) os) X := by
  have hb : ∀ b, b < w.heap.size → (w.heap ++ os)[b]? = w.heap[b]? := fun b hb => by rw [Array.getElem?_append, if_pos hb]
  have hs : w.heap.size ≤ (w.heap ++ os).size := by rw [Array.size_append]; omega
  exact Ext.below ⟨rfl, rfl, rfl, hs, hb⟩

theorem Ext.of_heap {w w' : World} {X : Nat → Nat → Prop} (h1 : w'.heap = w.heap) (h2 : w'.os = w.os) (h3 : w'.tape = w.tape) (h4 : w'.output = w.output) : Ext w w' X :=
  ⟨h2, h3, h4, by rw [h1]; exact Nat.le_refl _, fun b _ _ => by rw [h1], fun b o _ _ => ⟨by unfold World.cell?; rw [h1], by unfold World.frozen?; rw [h1]⟩⟩

/-- The same where all arguments are numbers, bools and texts. -/
theorem ent_lib {P : Program} {f : Nat} {Ks Rs : List Kd} {F : AVs (roA Ks) → Option (RVs (roR Rs))} (fn : Func) (hf : P.funcs[f]? = some fn) (hb : fn.body.isNone = false) (hn : (fn.name == "runtime.NumGoroutine") = false)
    (hK : Ks.all Kd.plain = true)
    (h : ∀ v r, F v = some r → ∀ (S : Nat → Prop) (w : World), GlobOk P S w → Calls P f (pvals Ks v).toArray w fun e w' => (∃ ret, e = .returned ret ∧ Rets0 Rs r ret) ∧ Ext w w' (fun _ _ => False)) :
    EntOk P f ⟨roA Ks, roR Rs, F⟩ :=
  ent_gen fn hf hb hn fun v r hr S w vals _ hG hA => by rw [argsRO_vals Ks v vals hK hA]; exact h v r hr S w hG

end Go.Abs

