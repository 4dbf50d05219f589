/- The abstract interpreter of the elaborated code, and that what it answers is what the machine does: part 3. Conditions: none. -/
import Derived.MapKept
import Derived.LoopN
import Derived.Orders
import Derived.Test.YtdjdgempjnlkeaaA2
set_option linter.unusedVariables false
set_option linter.unusedSimpArgs false
namespace Go.Abs
variable {B : Base}
structure OutOk (w w2 : World) (g : Gh) (Sn : Nat → Prop) (id : Nat) (o o' : Obj) (Fn : Nat → Prop) (csn : List Value) : Prop where
 own : o'.hl = none → Own Sn w2 o'.K o'.m o'.x csn Fn ∧ PlOk w2 (g.pl id) csn
 hole : ∀ p, o'.hl = some p → isQ p = false ∧ Holed Sn w2 o' p Fn (g.pl id) csn
 hl0 : o.hl = none
 box : o'.box = o.box
 par : o'.par = o.par
 size : o'.K.size = o.K.size
 cs : g.pl id = none → csn = g.cs id
 kx : fxK o'.K = fxK o.K
 fx : o.fx = true → csn = g.cs id
 log : o.log.length ≤ o'.log.length
 al : ∀ n p, n ≤ o.log.length → okAl o' n p = true → okAl o n p = true ∧ ∀ q cs' K' m' x', getP o.K o.m o.x p = some ⟨K', m', x'⟩ → nav w p o.K (g.pl id) (g.cs id) = some (q, cs') →
  (o'.hl = none ∨ hasIdx p = false) → ∃ m3 x3, getP o'.K o'.m o'.x p = some ⟨K', m3, x3⟩ ∧ nav w2 p o'.K (g.pl id) csn = some (q, cs')
 pt : ∀ n p, n ≤ o.log.length → okPt o' n p = true → okPt o n p = true ∧ ∀ q cs' K' m' x', getP o.K o.m o.x p = some ⟨K', m', x'⟩ → nav w p o.K (g.pl id) (g.cs id) = some (q, cs') →
  (o'.hl = none ∨ idx1 p = true ∨ (o'.hl = some p ∧ isQ p = false)) → ∃ m3 x3 c3, getP o'.K o'.m o'.x p = some ⟨K', m3, x3⟩ ∧ nav w2 p o'.K (g.pl id) csn = some (q, c3)
theorem nav_idx_of {w : World} {p : Path} {K : Kd} {pl : Place} {cs : List Value} {b off : Nat} {c : List Value} (h : nav w p K pl cs = some (some (b, off), c)) (hp : pl = none) : hasIdx p = true := by
 cases hi : hasIdx p with
 | true => rfl
 | false => subst hp; have := nav_none p hi h; cases this
theorem getP_noidx : ∀ (p : Path) {K : Kd} {m : Md} {x : K.T} {K1 : Kd} {m1 : Md} {x1 : K1.T}, hasIdx p = false → getP K m x p = some ⟨K1, m1, x1⟩ → ∀ (m2 : Md) (x2 : K.T), ∃ m3 x3, getP K m2 x2 p = some ⟨K1, m3, x3⟩
 | [], K, m, x, K1, m1, x1, _, h, m2, x2 => by
  rw [getP_nil] at h
  cases h
  exact ⟨m2, x2, getP_nil _ _ _⟩
 | .inn :: p, .st k, m, x, K1, m1, x1, hi, h, m2, x2 => getP_noidx p (K := k) (by simpa [hasIdx] using hi) h m2 x2
 | .fst :: p, .pair a b, m, x, K1, m1, x1, hi, h, m2, x2 => getP_noidx p (K := a) (by simpa [hasIdx] using hi) h m2.fst x2.1
 | .snd :: p, .pair a b, m, x, K1, m1, x1, hi, h, m2, x2 => getP_noidx p (K := b) (by simpa [hasIdx] using hi) h m2.snd x2.2
 | .idx i :: p, _, _, _, _, _, _, hi, _, _, _ => by simp [hasIdx] at hi
 | .inn :: _, .int _, _, _, _, _, _, _, h, _, _ | .inn :: _, .bool, _, _, _, _, _, _, h, _, _ | .inn :: _, .str, _, _, _, _, _, _, h, _, _ | .inn :: _, .err, _, _, _, _, _, _, h, _, _ | .inn :: _, .mp _ _, _, _, _, _, _, _, h, _, _ | .inn :: _, .fcell _ _ _, _, _, _, _, _, _, h, _, _ | .inn :: _, .raw _, _, _, _, _, _, _, h, _, _ | .inn :: _, .sl _, _, _, _, _, _, _, h, _, _ | .inn :: _, .pair _ _, _, _, _, _, _, _, h, _, _ => by simp [getP] at h
 | .fst :: _, .int _, _, _, _, _, _, _, h, _, _ | .fst :: _, .bool, _, _, _, _, _, _, h, _, _ | .fst :: _, .str, _, _, _, _, _, _, h, _, _ | .fst :: _, .err, _, _, _, _, _, _, h, _, _ | .fst :: _, .mp _ _, _, _, _, _, _, _, h, _, _ | .fst :: _, .fcell _ _ _, _, _, _, _, _, _, h, _, _ | .fst :: _, .raw _, _, _, _, _, _, _, h, _, _ | .fst :: _, .sl _, _, _, _, _, _, _, h, _, _ | .fst :: _, .st _, _, _, _, _, _, _, h, _, _ => by simp [getP] at h
 | .snd :: _, .int _, _, _, _, _, _, _, h, _, _ | .snd :: _, .bool, _, _, _, _, _, _, h, _, _ | .snd :: _, .str, _, _, _, _, _, _, h, _, _ | .snd :: _, .err, _, _, _, _, _, _, h, _, _ | .snd :: _, .mp _ _, _, _, _, _, _, _, h, _, _ | .snd :: _, .fcell _ _ _, _, _, _, _, _, _, h, _, _ | .snd :: _, .raw _, _, _, _, _, _, _, h, _, _ | .snd :: _, .sl _, _, _, _, _, _, _, h, _, _ | .snd :: _, .st _, _, _, _, _, _, _, h, _, _ => by simp [getP] at h
theorem out_ok {P : Program} {nt : Nat} {e : Env} {a : Act} {w w2 : World} {g gc g2 : Gh} (hg : InvG P B nt e a w g) {S Sn : Nat → Prop} {j id : Nat} {am : AM} {v : View} {arg : Arg} {xv : Value} {o' : Obj}
  (hlink : Link P S w g e.obj (gc.F j) (gc.pl j) (gc.cs j) am v arg xv) (hout : OutAt w2 gc g2 j id am v arg (some o')) (hSn : ∀ b, g.S b → Sn b)
  (hSc : ∀ b o v, g.S b → w.pk b o = some v → w2.pk b o = some v)
  (hfr : ∀ b o, g.has id b → ¬ gc.F j b → ¬ InR (gc.pl j) arg.size b o → w2.pk b o = w.pk b o ∧ w2.frozen? ⟨b, o, none⟩ = w.frozen? ⟨b, o, none⟩)
  (hconv : ∀ (K : Kd) (m : Md) (y : K.T) (cs : List Value) (F : Nat → Prop), ((∃ z, arg = .mp K m z) ∨ (∃ z, arg = .ms K m z)) → Own g2.S w2 K m y cs F → Own Sn w2 K m y cs F)
  (hF2 : ∀ b, g2.F j b → g.has id b → gc.F j b) :
  ∃ o csn, e.obj id = some (some o) ∧ OutOk w w2 g Sn id o o' (fun b => (g.F id b ∧ ¬ gc.F j b) ∨ g2.F j b) csn := by
 cases hout with
 | mp hgp hm hs ho hp hfx =>
  rename_i n p o K m z y m2 x2
  obtain ⟨hob, hhl, hok, K', m', z', b, off, e1, hpl, _, hgp', hnav, f⟩ := hlink
  cases e1
  obtain ⟨a1, a2⟩ := f.at_ b off hpl
  have hhas : g.has id b := by
   rcases a2 with ⟨o0, e2, _⟩ | h
   ·exact .inl ⟨o0, e2⟩
   ·exact .inr h
  have key := f.set Sn w2 m m2 y x2 (g2.cs j) (g2.F j) hs hm hSn hSc (fun b' o1 hF hn hq => hfr b' o1 (.inr hF) hn hq)
   (fun b' o1 hR hq => by
    obtain ⟨o0, e2, _⟩ := hR
    exact hfr b' o1 (.inl ⟨o0, e2⟩) (fun h => (hg.plz id b' o0 e2).2.2.1 id (f.sub b' h)) hq)
   hp (hconv K m y _ _ (.inl ⟨_, rfl⟩) ho) (fun b' h2 hF => hF2 b' h2 (.inr hF)) (fun b' o1 e2 h2 => (hg.plz id b' o1 e2).2.2.1 id (f.sub b' (hF2 b' h2 (.inl ⟨o1, e2⟩))))
   (fun b' o1 e2 h2 => by
    rw [hpl] at e2
    cases e2
    exact a1 (hF2 b h2 hhas))
  refine ⟨o, splice p o.K (g.cs id) (g2.cs j), hob, fun _ => ⟨key.1, key.2.1⟩, (fun p' hp' => by rw [show _ = none from hhl] at hp'; cases hp'), hhl, rfl, rfl, rfl, fun hpn => ?_, rfl, fun hf => ?_, by simp, fun n' p' hle hok' => ?_, fun n' p' hle hok' => ?_⟩
  ·rw [hpl] at hnav
   exact splice_idx p (nav_idx_of hnav hpn) hnav
  ·refine splice_idx p ?_ hnav
   cases hi : hasIdx p with
   | true => rfl
   | false => exact absurd (by rw [hf, hi]; rfl) hfx
  ·unfold okAl at hok'
   simp only [since_cons hle, List.all_cons, Bool.and_eq_true] at hok'
   have hh : hitAl p' p = false := by simpa using hok'.1
   refine ⟨hok'.2, fun q cs' K1 m1 x1 h1 h2 _ => ?_⟩
   obtain ⟨m3, x3, h3⟩ := getP_after p p' hs hm h1 (fun hpre => by simp [hitAl, hpre] at hh)
   exact ⟨m3, x3, h3, key.2.2.al p' _ _ h1 h2 hh⟩
  ·unfold okPt at hok'
   simp only [since_cons hle, List.all_cons, Bool.and_eq_true] at hok'
   have hh : hitPt p' p = false := by simpa using hok'.1
   refine ⟨hok'.2, fun q cs' K1 m1 x1 h1 h2 _ => ?_⟩
   obtain ⟨m3, x3, h3⟩ := getP_after p p' hs hm h1 (fun hpre => by simpa [hitPt, hpre] using hh)
   obtain ⟨c3, h4⟩ := key.2.2.pt p' _ _ _ h1 h2 hh
   exact ⟨m3, x3, c3, h3, h4⟩
 | ms hgp hm hs ho =>
  rename_i n p o K m z y m2 x2
  obtain ⟨hob, hhl, hok, hpl, K', m', z', q, hms, e1, _, hgp', hnav, f⟩ := hlink
  cases e1
  have noR : ∀ b o, ¬ InR (gc.pl j) 0 b o := fun b o ⟨o0, e2, _⟩ => by rw [hpl] at e2; cases e2
  have hq : ∀ b off, q = some (b, off) → g.has id b ∧ ¬ gc.F j b := by
   intro b off e2
   obtain ⟨a1, a2⟩ := f.at_ b off e2
   refine ⟨?_, a1⟩
   rcases a2 with ⟨o0, e3, _⟩ | h
   ·exact .inl ⟨o0, e3⟩
   ·exact .inr h
  have key := f.set Sn w2 m m2 y x2 (gc.cs j) (g2.F j) hs hm hSn hSc (fun b' o1 hF hn _ => hfr b' o1 (.inr hF) hn (noR b' o1))
   (fun b' o1 hR _ => by
    obtain ⟨o0, e2, _⟩ := hR
    exact hfr b' o1 (.inl ⟨o0, e2⟩) (fun h => (hg.plz id b' o0 e2).2.2.1 id (f.sub b' h)) (noR b' o1))
   (f.ok.of_same fun b' o1 hR => by
    obtain ⟨o0, e2, _⟩ := hR
    obtain ⟨h1, h2⟩ := hq b' o0 e2
    exact hfr b' o1 h1 h2 (noR b' o1))
   (hconv _ _ y _ _ (.inr ⟨_, rfl⟩) ho) (fun b' h2 hF => hF2 b' h2 (.inr hF)) (fun b' o1 e2 h2 => (hg.plz id b' o1 e2).2.2.1 id (f.sub b' (hF2 b' h2 (.inl ⟨o1, e2⟩))))
   (fun b' o1 e2 h2 => by
    obtain ⟨h3, h4⟩ := hq b' o1 e2
    exact h4 (hF2 b' h2 h3))
  have hcase : (∃ el mm, K = .sl el ∧ m = .own mm) ∨ msLog K p = none := by
   cases K with
   | sl el =>
    cases m with
    | own mm => exact .inl ⟨el, mm, rfl, rfl⟩
    | ro => cases hms
    | pr _ _ => cases hms
   | _ => exact .inr rfl
  refine ⟨o, splice p o.K (g.cs id) (gc.cs j), hob, fun _ => ⟨key.1, key.2.1⟩, (fun p' hp' => by rw [show _ = none from hhl] at hp'; cases hp'), hhl, rfl, rfl, rfl, fun hpn => splice_same p hnav, rfl, fun _ => splice_same p hnav, by simp, fun n' p' hle hok' => ?_, fun n' p' hle hok' => ?_⟩
  ·unfold okAl at hok'
   rcases hcase with ⟨el, mm, rfl, rfl⟩ | hnone
   ·simp only [since_cons hle, List.all_cons, Bool.and_eq_true] at hok'
    have hh : hitAl p' (p ++ [.idx 0]) = false := by simpa [msLog] using hok'.1
    refine ⟨hok'.2, fun q cs' K1 m1 x1 h1 h2 _ => ?_⟩
    obtain ⟨m3, x3, h3⟩ := getP_after_ms p p' hs hm h1 (fun hpre => by simp [hitAl, hpre] at hh)
    exact ⟨m3, x3, h3, key.2.2.ms p' _ _ h1 h2 ⟨el, rfl⟩ rfl hh⟩
   ·simp only [since_cons hle, List.all_cons, Bool.and_eq_true, hnone] at hok'
    have hp0 : p' = [] := by
     cases p' with
     | nil => rfl
     | cons s p' => exact absurd hok'.1 (by simp)
    subst hp0
    refine ⟨hok'.2, fun q cs' K1 m1 x1 h1 h2 _ => ?_⟩
    rw [getP_nil] at h1
    cases h1
    refine ⟨m2, x2, getP_nil _ _ _, ?_⟩
    rw [splice_same p hnav]
    simpa only [nav] using h2
  ·unfold okPt at hok'
   rcases hcase with ⟨el, mm, rfl, rfl⟩ | hnone
   ·simp only [since_cons hle, List.all_cons, Bool.and_eq_true] at hok'
    have hh : hitPt p' (p ++ [.idx 0]) = false := by simpa [msLog] using hok'.1
    refine ⟨hok'.2, fun q cs' K1 m1 x1 h1 h2 _ => ?_⟩
    obtain ⟨m3, x3, h3⟩ := getP_after_ms p p' hs hm h1 (fun hpre => by simpa [hitPt, hpre] using hh)
    obtain ⟨c3, h4⟩ := key.2.2.mt p' _ _ _ h1 h2 ⟨el, rfl⟩ rfl hh
    exact ⟨m3, x3, c3, h3, h4⟩
   ·simp only [since_cons hle, List.all_cons, Bool.and_eq_true, hnone] at hok'
    have hi : hasIdx p' = false := by simpa using hok'.1
    refine ⟨hok'.2, fun q cs' K1 m1 x1 h1 h2 _ => ?_⟩
    obtain ⟨m3, x3, h3⟩ := getP_noidx p' hi h1 m2 x2
    refine ⟨m3, x3, cs', h3, ?_⟩
    rw [splice_same p hnav]
    exact nav_noidx p' hi h2
 | mv hr =>
  rename_i n p o
  obtain ⟨hob, hhl, _, hpl, K, m, z, q, rfl, _, hgp, hnav, f⟩ := hlink
  have hO := (hg.objs id o hob).own hhl
  have noR : ∀ b o, ¬ InR (gc.pl j) 0 b o := fun b o ⟨o0, e2, _⟩ => by rw [hpl] at e2; cases e2
  have ho' : isQ p = false ∧ o' = { o with hl := some p } := by
   unfold mvOld at hr
   split at hr
   ·cases hr
   ·rename_i hq
    refine ⟨Bool.eq_false_iff.2 hq, ?_⟩
    split at hr
    ·exact (Option.some.inj hr).symm
    ·split at hr
     ·cases hr
     ·exact (Option.some.inj hr).symm
  obtain ⟨hq, rfl⟩ := ho'
  have hh : Holed Sn w2 { o with hl := some p } p (fun b => g.F id b ∧ ¬ gc.F j b) (g.pl id) (g.cs id) :=
   f.holeG hO.1.length hgp hnav (fun b o1 hF hn => hfr b o1 (.inr hF) hn (noR b o1)) (fun b o1 hR => by
    obtain ⟨o0, e2, _⟩ := hR
    exact hfr b o1 (.inl ⟨o0, e2⟩) (fun h => (hg.plz id b o0 e2).2.2.1 id (f.sub b h)) (noR b o1)) hSn hSc
  refine ⟨o, g.cs id, hob, (fun h => by cases h), (fun p' hp' => by cases hp'; exact ⟨hq, hh.weaken fun b hb => .inl hb⟩), hhl, rfl, rfl, rfl, fun _ => rfl, rfl, fun _ => rfl, Nat.le_refl _, fun n' p' _ hok' => ⟨hok', fun q' c' K1 m1 x1 h1 h2 h3 => ?_⟩, fun n' p' _ hok' => ⟨hok', fun q' c' K1 m1 x1 h1 h2 h3 => ?_⟩⟩
  ·rcases h3 with h3 | h3
   ·cases h3
   ·exact ⟨m1, x1, h1, nav_noidx p' h3 h2⟩
  ·rcases h3 with h3 | h3 | ⟨h3, _⟩
   ·cases h3
   ·obtain ⟨c3, h4⟩ := nav_idx1 (w2 := w2) p' h3 h2
    exact ⟨m1, x1, c3, h1, h4⟩
   ·cases h3
    obtain ⟨q2, c2, _, _, _, _, k2, _⟩ := hh
    have := f.nv w2 (fun b o1 hF hn => (hfr b o1 (.inr hF) hn (noR b o1)).1)
    rw [hnav] at h2
    cases h2
    exact ⟨m1, x1, _, h1, this⟩
def Gh.called (g : Gh) (Sn : Nat → Prop) (outs : List (Nat × Option Obj)) (Fn : Nat → Nat → Prop) (csn : Nat → List Value) : Gh where
 S := Sn
 F := fun i b => match look outs i with | some (some _) => Fn i b | some none => False | none => g.F i b
 pl := fun i => match look outs i with | some none => none | _ => g.pl i
 cs := fun i => match look outs i with | some (some _) => csn i | _ => g.cs i
theorem InvG.called {P : Program} {nt : Nat} {e : Env} {a : Act} {w w2 : World} {g : Gh} (h : InvG P B nt e a w g) {Sn : Nat → Prop} {outs : List (Nat × Option Obj)} {Fn : Nat → Nat → Prop} {csn : Nat → List Value} {W : Nat → Nat → Prop}
  (hx : Ext w w2 W) (hW : ∀ b o, W b o → ∃ id o0, e.obj id = some (some o0) ∧ (∃ r, look outs id = some r) ∧ ((∃ off, g.pl id = some (b, off) ∧ off ≤ o ∧ o < off + o0.K.size) ∨ g.F id b))
  (hSn : ∀ b, g.S b → Sn b) (hSb : ∀ b, Sn b → g.S b ∨ (∃ id r, look outs id = some r ∧ g.F id b) ∨ w.heap.size ≤ b) (hSsz : ∀ b, Sn b → b < w2.heap.size)
  (hSt : ∀ b, Sn b → (∀ i, look outs i = none → ¬ g.F i b) ∧ (∀ i o', look outs i = some (some o') → ¬ Fn i b) ∧ ∀ i off, g.pl i ≠ some (b, off))
  (hFn : ∀ i o', look outs i = some (some o') → ∀ b, Fn i b → ((∃ id r, look outs id = some r ∧ g.F id b) ∨ w.heap.size ≤ b) ∧ b < w2.heap.size ∧ ∀ k, k ≠ i → ∀ o2, look outs k = some (some o2) → ¬ Fn k b)
  (hobs : ∀ i r, look outs i = some r → ∃ o, e.obj i = some (some o) ∧ ∀ o', r = some o' → OutOk w w2 g Sn i o o' (Fn i) (csn i)) :
  InvG P B nt ⟨e.slots, outs ++ e.objs⟩ a w2 (g.called Sn outs Fn csn) := by
 have hobj : ∀ i, (Env.mk e.slots (outs ++ e.objs)).obj i = match look outs i with | some r => some r | none => e.obj i := by
  intro i
  show look (outs ++ e.objs) i = _
  rw [look_app]
  cases look outs i <;> rfl
 have base_le : B.w0.heap.size ≤ w.heap.size := h.ext.size
 have Fold : ∀ i b, (g.called Sn outs Fn csn).F i b → (∃ o', look outs i = some (some o') ∧ Fn i b) ∨ (look outs i = none ∧ g.F i b) := by
  intro i b hF
  simp only [Gh.called] at hF
  split at hF
  ·exact .inl ⟨_, by assumption, hF⟩
  ·exact hF.elim
  ·exact .inr ⟨by assumption, hF⟩
 have plold : ∀ i b off, (g.called Sn outs Fn csn).pl i = some (b, off) → g.pl i = some (b, off) ∧ look outs i ≠ some none := by
  intro i b off hp
  simp only [Gh.called] at hp
  split at hp
  ·cases hp
  ·rename_i hne
   exact ⟨hp, hne⟩
 have Wlt : ∀ b o, W b o → b < w.heap.size ∧ ¬ g.S b := by
  intro b o hw
  obtain ⟨id, o0, _, _, h1⟩ := hW b o hw
  refine h.has_lt (i := id) ?_
  rcases h1 with ⟨off, e1, _⟩ | h1
  ·exact .inl ⟨off, e1⟩
  ·exact .inr h1
 have Whas : ∀ b o, W b o → ∃ id r, look outs id = some r ∧ g.has id b := by
  intro b o hw
  obtain ⟨id, o0, _, ⟨r, hr⟩, h1⟩ := hW b o hw
  refine ⟨id, r, hr, ?_⟩
  rcases h1 with ⟨off, e1, _⟩ | h1
  ·exact .inl ⟨off, e1⟩
  ·exact .inr h1
 refine h.change (fun i => ∃ r, look outs i = some r) rfl (h.ext.step hx ?_) hSn (fun b o v hb hv => hx.same (fun hw => (Wlt b o hw).2 hb) hv) hSsz ?_ ?_ ?_ ?_ ?_ ?_ ?_ ?_ ?_ ?_ ?_
 ·intro b o hb hw
  obtain ⟨id, o0, ho0, _, h1⟩ := hW b o hw
  rcases h1 with ⟨off, e1, h2, h3⟩ | h1
  ·rcases (h.objs id o0 ho0).plx b off e1 with (h4 | h4) | h4
   ·exact .inl h4
   ·omega
   ·exact .inr (h4.2 o h2 h3)
  ·rcases h.Fb id b h1 with h4 | h4
   ·exact .inl h4
   ·omega
 ·intro i b hF
  rcases Fold i b hF with ⟨o', h1, h2⟩ | ⟨h1, h2⟩
  ·exact (hFn i o' h1 b h2).2.1
  ·exact Nat.lt_of_lt_of_le (h.Fsz i b h2) hx.size
 ·intro b hb
  rcases hSb b hb with h1 | ⟨id, r, _, h1⟩ | h1
  ·exact h.Sb b h1
  ·rcases h.Fb id b h1 with h2 | h2
   ·exact .inr (.inl h2)
   ·exact .inr (.inr h2)
  ·exact .inr (.inr (by omega))
 ·intro i b hF
  rcases Fold i b hF with ⟨o', h1, h2⟩ | ⟨h1, h2⟩
  ·rcases (hFn i o' h1 b h2).1 with ⟨id, r, _, h3⟩ | h3
   ·exact h.Fb id b h3
   ·exact .inr (by omega)
  ·exact h.Fb i b h2
 ·intro i b hF hS
  rcases Fold i b hF with ⟨o', h1, h2⟩ | ⟨h1, h2⟩
  ·exact (hSt b hS).2.1 i o' h1 h2
  ·exact (hSt b hS).1 i h1 h2
 ·intro i k b hne hF hF'
  rcases Fold i b hF with ⟨o', h1, h2⟩ | ⟨h1, h2⟩ <;> rcases Fold k b hF' with ⟨o2, h3, h4⟩ | ⟨h3, h4⟩
  ·exact (hFn i o' h1 b h2).2.2 k (fun e => hne e.symm) o2 h3 h4
  ·rcases (hFn i o' h1 b h2).1 with ⟨id, r, h5, h6⟩ | h5
   ·have := h.has_one (.inr h6) (.inr h4)
    subst this
    rw [h3] at h5; cases h5
   ·have := h.Fsz k b h4; omega
  ·rcases (hFn k o2 h3 b h4).1 with ⟨id, r, h5, h6⟩ | h5
   ·have := h.has_one (.inr h6) (.inr h2)
    subst this
    rw [h1] at h5; cases h5
   ·have := h.Fsz i b h2; omega
  ·exact h.FF i k b hne h2 h4
 ·intro i b off hp
  obtain ⟨h1, _⟩ := plold i b off hp
  obtain ⟨h3, h4, h5, h6⟩ := h.plz i b off h1
  refine ⟨Nat.lt_of_lt_of_le h3 hx.size, fun hS => (hSt b hS).2.2 i off h1, fun k hF => ?_, fun k off' hp' => h6 k off' (plold k b off' hp').1⟩
  rcases Fold k b hF with ⟨o', h7, h8⟩ | ⟨h7, h8⟩
  ·rcases (hFn k o' h7 b h8).1 with ⟨id, r, _, h9⟩ | h9
   ·exact h5 id h9
   ·omega
  ·exact h5 k h8
 ·intro i hi
  have hl : look outs i = none := by
   cases hq : look outs i with
   | none => rfl
   | some r => exact absurd ⟨r, hq⟩ hi
  refine ⟨by rw [hobj, hl], ?_, ?_, ?_, fun b o hF => hx.cell b o (h.Fsz i b hF) (fun hw => ?_), fun b off hp o => hx.cell b o (h.plz i b off hp).1 (fun hw => ?_)⟩
  ·funext b; simp [Gh.called, hl]
  ·simp [Gh.called, hl]
  ·simp [Gh.called, hl]
  ·obtain ⟨id, r, h1, h2⟩ := Whas b o hw
   have := h.has_one h2 (.inr hF)
   subst this
   rw [hl] at h1; cases h1
  ·obtain ⟨id, r, h1, h2⟩ := Whas b o hw
   have := h.has_one h2 (.inl ⟨off, hp⟩)
   subst this
   rw [hl] at h1; cases h1
 ·rintro i ⟨r, hr⟩ hno
  cases r with
  | some o' => exact absurd (by rw [hobj, hr]) (hno o')
  | none => exact ⟨fun b hF => by simp [Gh.called, hr] at hF, by simp [Gh.called, hr]⟩
 ·rintro i o1 ⟨r, hr⟩ ho1
  rw [hobj, hr] at ho1
  simp only [Option.some.injEq] at ho1
  subst ho1
  obtain ⟨o, ho, hk⟩ := hobs i _ hr
  have k := hk o1 rfl
  have O := h.objs i o ho
  have gF : (g.called Sn outs Fn csn).F i = Fn i := by funext b; simp [Gh.called, hr]
  have gp : (g.called Sn outs Fn csn).pl i = g.pl i := by simp [Gh.called, hr]
  have gc : (g.called Sn outs Fn csn).cs i = csn i := by simp [Gh.called, hr]
  refine ⟨fun hn => by rw [gF, gp, gc]; exact k.own hn, (fun p hp _ => by rw [gF, gp, gc]; exact (k.hole p hp).2), (by rw [gp, k.box]; exact O.box), (fun hp => ?_), (fun b off hp => ?_), fun q off hq => ?_⟩
  rotate_left 2
  ·obtain ⟨_, h1, h2⟩ := queAt_ok hq
   cases hh : o1.hl with
   | none => exact absurd hh h1
   | some p => have := h2 p hh; rw [(k.hole p hh).1] at this; cases this
  ·rw [gp, gc]
   rw [k.par] at hp
   have hpk := O.par hp
   unfold ParOk at hpk ⊢
   rw [k.box, k.kx]
   by_cases hf : (o.box && fxK o.K) = true
   ·rw [if_pos hf] at hpk ⊢
    rw [k.fx (by unfold Obj.fx; rw [hp, Bool.true_and, hf])]
    exact hpk
   ·rw [if_neg hf] at hpk ⊢
    obtain ⟨h1, h2⟩ := hpk
    refine ⟨h1, fun hb => ?_⟩
    have hpn : g.pl i = none := by
     have := O.box
     rw [hb] at this
     cases hq : g.pl i with
     | none => rfl
     | some q => rw [hq] at this; cases this
    rw [k.cs hpn]
    exact h2 hb
  ·rw [gp] at hp
   rw [k.par, k.size]
   exact O.plx b off hp
 ·rintro i ⟨r, hr⟩ n p v hs
  cases r with
  | none =>
   have e1 : (Env.mk e.slots (outs ++ e.objs)).obj i = some none := by rw [hobj, hr]
   exact ⟨⟨by rw [e1]; simp, (fun o ho => by rw [e1] at ho; cases ho)⟩, (fun o ho => by rw [e1] at ho; cases ho)⟩
  | some o1 =>
   have e1 : (Env.mk e.slots (outs ++ e.objs)).obj i = some (some o1) := by rw [hobj, hr]
   obtain ⟨o, ho, hk⟩ := hobs i _ hr
   have k := hk o1 rfl
   have hle := hs.1.2 o ho
   refine ⟨⟨by rw [e1]; simp, fun o2 ho2 => by rw [e1] at ho2; cases ho2; exact Nat.le_trans hle k.log⟩, fun o2 ho2 hok2 hcond => ?_⟩
   rw [e1] at ho2
   cases ho2
   obtain ⟨h1, h2⟩ := k.al n p hle hok2
   obtain ⟨q, c1, K1, m1, x1, a1, a2, a3⟩ := hs.2 o ho h1 (.inl k.hl0)
   obtain ⟨m3, x3, b1, b2⟩ := h2 q c1 K1 m1 x1 a1 a2 hcond
   exact ⟨q, c1, K1, m3, x3, b1, by simpa [Gh.called, hr] using b2, a3⟩
 ·rintro i ⟨r, hr⟩ n p v hs
  cases r with
  | none =>
   have e1 : (Env.mk e.slots (outs ++ e.objs)).obj i = some none := by rw [hobj, hr]
   exact ⟨⟨by rw [e1]; simp, (fun o ho => by rw [e1] at ho; cases ho)⟩, (fun o ho => by rw [e1] at ho; cases ho)⟩
  | some o1 =>
   have e1 : (Env.mk e.slots (outs ++ e.objs)).obj i = some (some o1) := by rw [hobj, hr]
   obtain ⟨o, ho, hk⟩ := hobs i _ hr
   have k := hk o1 rfl
   have hle := hs.1.2 o ho
   refine ⟨⟨by rw [e1]; simp, fun o2 ho2 => by rw [e1] at ho2; cases ho2; exact Nat.le_trans hle k.log⟩, fun o2 ho2 hok2 hcond => ?_⟩
   rw [e1] at ho2
   cases ho2
   obtain ⟨h1, h2⟩ := k.pt n p hle hok2
   obtain ⟨b, off, c1, K1, m1, x1, a1, a2, a3⟩ := hs.2 o ho h1 (.inl k.hl0)
   obtain ⟨m3, x3, c3, b1, b2⟩ := h2 _ c1 K1 m1 x1 a1 a2 hcond
   exact ⟨b, off, c3, K1, m3, x3, b1, by simpa [Gh.called, hr] using b2, a3⟩
end Go.Abs
namespace Go.Abs
variable {B : Base}
def Gh.adopt (g : Gh) (d : Nat) (Fd : Nat → Prop) (pl : Place) (cs : List Value) : Gh where
 S := g.S
 F := fun i b => if i = d then Fd b else g.F i b
 pl := fun i => if i = d then pl else g.pl i
 cs := fun i => if i = d then cs else g.cs i
def Gh.learn (g : Gh) (X : Nat → Prop) : Gh := { g with S := fun b => g.S b ∨ X b }
def Free (B : Base) (w : World) (g : Gh) (b : Nat) : Prop := b < w.heap.size ∧ ¬ g.S b ∧ (∀ i, ¬ g.has i b) ∧ (B.Fx b ∨ B.w0.heap.size ≤ b)
theorem InvG.adopt {P : Program} {nt : Nat} {e : Env} {a : Act} {w : World} {g : Gh} (h : InvG P B nt e a w g) {d : Nat} (hd : e.obj d = none) (Fd : Nat → Prop) (pl : Place) (cs : List Value) (ob : Obj) (hfree : ∀ b, Fd b → Free B w g b) (hfp : ∀ b off, pl = some (b, off) → Free B w g b ∧ ¬ Fd b) (hplok : PlOk w pl cs)
  (hown : Own g.S w ob.K ob.m ob.x cs Fd) (hbox : ob.box = pl.isSome) (hhl : ob.hl = none) (hpar : ob.par = false) : InvG P B nt ⟨e.slots, (d, some ob) :: e.objs⟩ a w (g.adopt d Fd pl cs) := by
 have hobj : ∀ i, (Env.mk e.slots ((d, some ob) :: e.objs)).obj i = if i = d then some (some ob) else e.obj i := by
  intro i
  show look ((d, some ob) :: e.objs) i = _
  by_cases hi : i = d
  ·subst hi; rw [look_cons_self, if_pos rfl]
  ·rw [look_cons_ne (fun e => hi e.symm), if_neg hi]; rfl
 have Fold : ∀ i b, (g.adopt d Fd pl cs).F i b → (i = d ∧ Fd b) ∨ (i ≠ d ∧ g.F i b) := by
  intro i b hF
  simp only [Gh.adopt] at hF
  split at hF
  ·exact .inl ⟨by assumption, hF⟩
  ·exact .inr ⟨by assumption, hF⟩
 have plold : ∀ i b off, (g.adopt d Fd pl cs).pl i = some (b, off) → (i = d ∧ pl = some (b, off)) ∨ (i ≠ d ∧ g.pl i = some (b, off)) := by
  intro i b off hp
  simp only [Gh.adopt] at hp
  split at hp
  ·exact .inl ⟨by assumption, hp⟩
  ·exact .inr ⟨by assumption, hp⟩
 refine h.change (fun i => i = d) rfl h.ext (fun _ h => h) (fun _ _ _ _ h => h) h.Ssz ?_ h.Sb ?_ ?_ ?_ ?_ ?_ ?_ ?_ ?_ ?_
 ·intro i b hF
  rcases Fold i b hF with ⟨_, h1⟩ | ⟨_, h1⟩
  ·exact (hfree b h1).1
  ·exact h.Fsz i b h1
 ·intro i b hF
  rcases Fold i b hF with ⟨_, h1⟩ | ⟨_, h1⟩
  ·exact (hfree b h1).2.2.2
  ·exact h.Fb i b h1
 ·intro i b hF
  rcases Fold i b hF with ⟨_, h1⟩ | ⟨_, h1⟩
  ·exact (hfree b h1).2.1
  ·exact h.FS i b h1
 ·intro i k b hne hF hF'
  rcases Fold i b hF with ⟨h1, h2⟩ | ⟨h1, h2⟩ <;> rcases Fold k b hF' with ⟨h3, h4⟩ | ⟨h3, h4⟩
  ·exact hne (h1.trans h3.symm)
  ·exact (hfree b h2).2.2.1 k (.inr h4)
  ·exact (hfree b h4).2.2.1 i (.inr h2)
  ·exact h.FF i k b hne h2 h4
 ·intro i b off hp
  rcases plold i b off hp with ⟨e0, hp⟩ | ⟨e0, hp⟩
  ·obtain ⟨⟨f1, f2, f3, f4⟩, f5⟩ := hfp b off hp
   refine ⟨f1, f2, fun k hF => ?_, fun k off' hp' => ?_⟩
   ·rcases Fold k b hF with ⟨_, h1⟩ | ⟨_, h1⟩
    ·exact f5 h1
    ·exact f3 k (.inr h1)
   ·rcases plold k b off' hp' with ⟨e1, _⟩ | ⟨_, h1⟩
    ·exact e0.trans e1.symm
    ·exact absurd (.inl ⟨off', h1⟩) (f3 k)
  ·obtain ⟨h3, h4, h5, h6⟩ := h.plz i b off hp
   refine ⟨h3, h4, fun k hF => ?_, fun k off' hp' => ?_⟩
   ·rcases Fold k b hF with ⟨_, h1⟩ | ⟨_, h1⟩
    ·exact (hfree b h1).2.2.1 i (.inl ⟨off, hp⟩)
    ·exact h5 k h1
   ·rcases plold k b off' hp' with ⟨_, h1⟩ | ⟨_, h1⟩
    ·exact absurd (.inl ⟨off, hp⟩) ((hfp b off' h1).1.2.2.1 i)
    ·exact h6 k off' h1
 ·intro i hi
  refine ⟨by rw [hobj, if_neg hi], ?_, ?_, ?_, fun _ _ _ => ⟨rfl, rfl⟩, fun _ _ _ _ => ⟨rfl, rfl⟩⟩
  ·funext b; simp [Gh.adopt, hi]
  ·simp [Gh.adopt, hi]
  ·simp [Gh.adopt, hi]
 ·intro i hi hno
  exact absurd (by rw [hobj, if_pos hi]) (hno ob)
 ·intro i o' hi ho'
  rw [hobj, if_pos hi] at ho'
  cases ho'
  subst hi
  refine ⟨fun _ => ?_, (fun p hp => by rw [hhl] at hp; cases hp), (by simp [Gh.adopt, hbox]), (fun hp => by rw [hpar] at hp; cases hp), (fun b off hp => ?_), fun q off hq => no_que hhl hq⟩
  ·simp only [Gh.adopt, if_pos]
   exact ⟨hown, hplok⟩
  ·simp only [Gh.adopt, if_pos] at hp
   exact .inl (hfp b off hp).1.2.2.2
 ·intro i hi n p v hs
  subst hi
  exact absurd hd hs.1.1
 ·intro i hi n p v hs
  subst hi
  exact absurd hd hs.1.1
theorem InvG.learn {P : Program} {nt : Nat} {e : Env} {a : Act} {w : World} {g : Gh} (h : InvG P B nt e a w g) (X : Nat → Prop) (hX : ∀ b, X b → b < w.heap.size ∧ (∀ i, ¬ g.has i b) ∧ (B.Fx b ∨ B.w0.heap.size ≤ b)) : InvG P B nt e a w (g.learn X) := by
 refine h.change (e' := e) (fun _ => False) rfl h.ext (fun _ h => .inl h) (fun _ _ _ _ h => h) ?_ h.Fsz ?_ h.Fb ?_ h.FF ?_ (fun i _ => ⟨rfl, rfl, rfl, rfl, fun _ _ _ => ⟨rfl, rfl⟩, fun _ _ _ _ => ⟨rfl, rfl⟩⟩) (fun _ h => h.elim) (fun _ _ h => h.elim) (fun _ h => h.elim) (fun _ h => h.elim)
 ·rintro b (hb | hb)
  ·exact h.Ssz b hb
  ·exact (hX b hb).1
 ·rintro b (hb | hb)
  ·exact h.Sb b hb
  ·exact .inr (hX b hb).2.2
 ·rintro i b hF (hb | hb)
  ·exact h.FS i b hF hb
  ·exact (hX b hb).2.1 i (.inr hF)
 ·intro i b off hp
  obtain ⟨h3, h4, h5, h6⟩ := h.plz i b off hp
  refine ⟨h3, ?_, h5, h6⟩
  rintro (hb | hb)
  ·exact h4 hb
  ·exact (hX b hb).2.1 i (.inl ⟨off, hp⟩)
theorem SlotRep0.carry {P : Program} {g g' : Gh} {w : World} {ob ob' : Nat → Option (Option Obj)} (hS : ∀ b, g.S b → g'.S b) (hob : ∀ i, ob i ≠ none → ob' i = ob i ∧ g'.pl i = g.pl i ∧ g'.cs i = g.cs i)
  {s : Slot} {v : Value} (h : SlotRep0 P g w ob s v) : SlotRep0 P g' w ob' s v := by
 have ha : ∀ id n p v, AlRep g w ob id n p v → AlRep g' w ob' id n p v := by
  rintro id n p v ⟨⟨h1, h2⟩, h3⟩
  obtain ⟨e1, e2, e3⟩ := hob id h1
  refine ⟨⟨by rw [e1]; exact h1, by rw [e1]; exact h2⟩, ?_⟩
  rw [e1, e2, e3]
  exact h3
 have hp : ∀ id n p v, PtRep g w ob id n p v → PtRep g' w ob' id n p v := by
  rintro id n p v ⟨⟨h1, h2⟩, h3⟩
  obtain ⟨e1, e2, e3⟩ := hob id h1
  refine ⟨⟨by rw [e1]; exact h1, by rw [e1]; exact h2⟩, ?_⟩
  rw [e1, e2, e3]
  exact h3
 cases s with
 | dead => trivial
 | un => exact h
 | nils => exact h
 | v K x => obtain ⟨cs, h1, h2⟩ := h; exact ⟨cs, h1.mono hS (fun _ _ _ _ h => h), h2⟩
 | rp K x => exact PtrRO.mono hS (fun _ _ _ _ h => h) h
 | al id n p => exact ha id n p v h
 | sub e id n l r => exact SubRep.imp (fun v => ha id n [] v) h
 | pt id n p => exact hp id n p v h
 | fv f fs caps => exact FvRep.imp hS (fun _ _ _ _ h => h) (fun id n v => hp id n [] v) h
 | fvr => exact h
 | clo Ks Kr f => exact CloRep.mono hS (fun _ _ _ _ h => h) h
 | tup l => exact h
theorem TupRep.carry {P : Program} {g g' : Gh} {w : World} {ob ob' : Nat → Option (Option Obj)} (hS : ∀ b, g.S b → g'.S b) (hob : ∀ i, ob i ≠ none → ob' i = ob i ∧ g'.pl i = g.pl i ∧ g'.cs i = g.cs i) :
  ∀ {l : List Slot} {vs : List Value}, TupRep P g w ob l vs → TupRep P g' w ob' l vs
 | [], _, h => h
 | s :: l, _, ⟨v, r, e, h1, h2⟩ => ⟨v, r, e, h1.carry hS hob, h2.carry hS hob⟩
theorem RetRep.mono {S S' : Nat → Prop} {w : World} {F : Nat → Prop} {cs : List Value} {r : RV} {v : Value} (hS : ∀ b, S b → S' b) (h : RetRep S w F cs r v) : RetRep S' w F cs r v := by
 cases r with
 | ro K x => exact ⟨h.1, h.2.1.mono hS (fun _ _ _ _ h => h), h.2.2⟩
 | own K m x => exact ⟨h.1.mono hS (fun _ _ _ _ h => h) (fun _ h => h) (fun _ _ _ => ⟨rfl, rfl⟩), h.2⟩
 | bx K m x =>
  obtain ⟨b, off, h1, h2, h3, h4⟩ := h
  exact ⟨b, off, h1, h2, h3.mono hS (fun _ _ _ _ h => h) (fun _ h => h) (fun _ _ _ => ⟨rfl, rfl⟩), h4⟩
theorem ret_one {P : Program} {nt : Nat} {e : Env} {a : Act} {w : World} {g : Gh} (h : InvG P B nt e a w g) (mds : List (Nat × Md)) {d : Nat} (hd : e.obj d = none) {r : RV} {v : Value} {Fr : Nat → Prop} {cs : List Value}
  (hr : RetRep g.S w Fr cs r v) (hfree : ∀ b, Fr b → Free B w g b) :
  ∃ g', InvG P B nt ⟨e.slots, (retSlot mds d r).2 ++ e.objs⟩ a w g' ∧ SlotRep0 P g' w (Env.mk e.slots ((retSlot mds d r).2 ++ e.objs)).obj (retSlot mds d r).1 v ∧ (retSlot mds d r).1.isTup = false ∧
   (∀ b, g.S b → g'.S b) ∧ (∀ b, g'.S b → g.S b ∨ Fr b) ∧ (∀ i b, g'.has i b → g.has i b ∨ Fr b) ∧
   (∀ i, e.obj i ≠ none → (Env.mk e.slots ((retSlot mds d r).2 ++ e.objs)).obj i = e.obj i ∧ g'.pl i = g.pl i ∧ g'.cs i = g.cs i) ∧ (∀ i, i ≠ d → (Env.mk e.slots ((retSlot mds d r).2 ++ e.objs)).obj i = e.obj i) := by
 have frozen : ∀ K x cs, RO (fun b => g.S b ∨ Fr b) w K x cs → VRep K cs v → ∃ g', InvG P B nt ⟨e.slots, e.objs⟩ a w g' ∧ SlotRep0 P g' w e.obj (.v K x) v ∧ (∀ b, g.S b → g'.S b) ∧ (∀ b, g'.S b → g.S b ∨ Fr b) ∧ (∀ i b, g'.has i b → g.has i b ∨ Fr b) ∧
   (∀ i, e.obj i ≠ none → e.obj i = e.obj i ∧ g'.pl i = g.pl i ∧ g'.cs i = g.cs i) := by
  intro K x cs h1 h2
  exact ⟨g.learn Fr, h.learn Fr (fun b hb => ⟨(hfree b hb).1, (hfree b hb).2.2.1, (hfree b hb).2.2.2⟩), ⟨cs, h1, h2⟩, fun _ h => .inl h, fun _ h => h, fun _ _ h => .inl h, fun _ _ => ⟨rfl, rfl, rfl⟩⟩
 cases r with
 | ro K x =>
  obtain ⟨h1, h2, h3⟩ := hr
  obtain ⟨g', k1, k2, k3, k4, k5, k6⟩ := frozen K x cs (h2.mono (fun _ h => .inl h) (fun _ _ _ _ h => h)) h3
  exact ⟨g', k1, k2, rfl, k3, k4, k5, k6, fun _ _ => rfl⟩
 | own K m x =>
  obtain ⟨h1, h2⟩ := hr
  cases hl : look mds d with
  | none =>
   obtain ⟨g', k1, k2, k3, k4, k5, k6⟩ := frozen K x cs (Own.toRO (fun _ h => .inl h) (fun _ h => .inr h) h1) h2
   simp only [retSlot, hl]
   exact ⟨g', k1, k2, rfl, k3, k4, k5, k6, fun _ _ => rfl⟩
  | some md =>
   simp only [retSlot, hl]
   have hobj : ∀ i, (Env.mk e.slots ([(d, some (⟨K, m, x, false, false, [], none⟩ : Obj))] ++ e.objs)).obj i = if i = d then some (some ⟨K, m, x, false, false, [], none⟩) else e.obj i := by
    intro i
    show look ((d, some (⟨K, m, x, false, false, [], none⟩ : Obj)) :: e.objs) i = _
    by_cases hi : i = d
    ·subst hi; rw [look_cons_self, if_pos rfl]
    ·rw [look_cons_ne (fun e => hi e.symm), if_neg hi]; rfl
   refine ⟨g.adopt d Fr none cs, h.adopt hd Fr none cs ⟨K, m, x, false, false, [], none⟩ hfree (fun _ _ h => by cases h) (fun _ _ h => by cases h) h1 rfl rfl rfl, ⟨⟨by rw [hobj, if_pos rfl]; simp, fun _ _ => Nat.zero_le _⟩, fun o2 ho2 _ _ => ?_⟩, rfl, fun _ h => h, fun _ h => .inl h, fun i b hb => ?_, fun i hi => ?_, fun i hi => by rw [hobj, if_neg hi]⟩
   ·rw [hobj, if_pos rfl] at ho2
    cases ho2
    exact ⟨none, cs, K, m, x, getP_nil _ _ _, by simp only [nav, Gh.adopt, if_pos], h2⟩
   ·rcases hb with ⟨off, hb⟩ | hb
    ·simp only [Gh.adopt] at hb
     split at hb
     ·cases hb
     ·exact .inl (.inl ⟨off, hb⟩)
    ·simp only [Gh.adopt] at hb
     split at hb
     ·exact .inr hb
     ·exact .inl (.inr hb)
   ·have hne : i ≠ d := fun e1 => by subst e1; exact hi hd
    exact ⟨by rw [hobj, if_neg hne], by simp [Gh.adopt, hne], by simp [Gh.adopt, hne]⟩
 | bx K m x =>
  obtain ⟨b, off, hb, rfl, h1, h2⟩ := hr
  simp only [retSlot]
  have hobj : ∀ i, (Env.mk e.slots ([(d, some (⟨K, m, x, true, false, [], none⟩ : Obj))] ++ e.objs)).obj i = if i = d then some (some ⟨K, m, x, true, false, [], none⟩) else e.obj i := by
   intro i
   show look ((d, some (⟨K, m, x, true, false, [], none⟩ : Obj)) :: e.objs) i = _
   by_cases hi : i = d
   ·subst hi; rw [look_cons_self, if_pos rfl]
   ·rw [look_cons_ne (fun e => hi e.symm), if_neg hi]; rfl
  refine ⟨g.adopt d (fun b' => Fr b' ∧ b' ≠ b) (some (b, off)) cs, h.adopt hd (fun b' => Fr b' ∧ b' ≠ b) (some (b, off)) cs ⟨K, m, x, true, false, [], none⟩ (fun b' hb' => hfree b' hb'.1) (fun b' off' e1 => by cases e1; exact ⟨hfree b hb, fun hh => hh.2 rfl⟩) h2 h1 rfl rfl rfl, ⟨⟨by rw [hobj, if_pos rfl]; simp, fun _ _ => Nat.zero_le _⟩, fun o2 ho2 _ _ => ?_⟩, rfl, fun _ h => h, fun _ h => .inl h, fun i b' hb' => ?_, fun i hi => ?_, fun i hi => by rw [hobj, if_neg hi]⟩
  ·rw [hobj, if_pos rfl] at ho2
   cases ho2
   exact ⟨b, off, cs, K, m, x, getP_nil _ _ _, by simp only [nav, Gh.adopt, if_pos], rfl⟩
  ·rcases hb' with ⟨off', hb'⟩ | hb'
   ·simp only [Gh.adopt] at hb'
    split at hb'
    ·cases hb'
     exact .inr hb
    ·exact .inl (.inl ⟨off', hb'⟩)
   ·simp only [Gh.adopt] at hb'
    split at hb'
    ·exact .inr hb'.1
    ·exact .inl (.inr hb')
  ·have hne : i ≠ d := fun e1 => by subst e1; exact hi hd
   exact ⟨by rw [hobj, if_neg hne], by simp [Gh.adopt, hne], by simp [Gh.adopt, hne]⟩
theorem sub_inj {d i j : Nat} (h : sub d i = sub d j) : i = j := by unfold sub at h; omega
theorem ret_many {P : Program} {nt : Nat} {a : Act} {w : World} (mds : List (Nat × Md)) {d : Nat} : ∀ (l : List RV) (i : Nat) {e : Env} {g : Gh}, InvG P B nt e a w g → ∀ (vals : List Value) (Fr : Nat → Nat → Prop) (csr : Nat → List Value), vals.length = l.length →
  (∀ k r u, l[k]? = some r → vals[k]? = some u → RetRep g.S w (Fr k) (csr k) r u) → (∀ k, k < l.length → e.obj (sub d (i + k)) = none) → (∀ k b, Fr k b → Free B w g b) → (∀ k k' b, k ≠ k' → Fr k b → ¬ Fr k' b) →
  ∃ g', InvG P B nt ⟨e.slots, (retSlots mds d i l).2 ++ e.objs⟩ a w g' ∧ TupRep P g' w (Env.mk e.slots ((retSlots mds d i l).2 ++ e.objs)).obj (retSlots mds d i l).1 vals ∧
   (∀ b, g.S b → g'.S b) ∧ (∀ b, g'.S b → g.S b ∨ ∃ k, Fr k b) ∧ (∀ j b, g'.has j b → g.has j b ∨ ∃ k, Fr k b) ∧
   (∀ j, (∀ k, k < l.length → j ≠ sub d (i + k)) → (Env.mk e.slots ((retSlots mds d i l).2 ++ e.objs)).obj j = e.obj j)
 | [], i, e, g, h, vals, Fr, csr, hl, _, _, _, _ => by
  have : vals = [] := List.length_eq_zero_iff.1 hl
  subst this
  exact ⟨g, h, rfl, fun _ h => h, fun _ h => .inl h, fun _ _ h => .inl h, fun _ _ => rfl⟩
 | r :: l, i, e, g, h, vals, Fr, csr, hl, hr, hf, hfree, hdis => by
  cases vals with
  | nil => simp at hl
  | cons v vals =>
   obtain ⟨g1, k1, k2, k3, k4, k5, k6⟩ := ret_many mds l (i + 1) h vals (fun k => Fr (k + 1)) (fun k => csr (k + 1)) (by simpa using hl) (fun k r' u h1 h2 => hr (k + 1) r' u (by simpa using h1) (by simpa using h2))
    (fun k hk => by have := hf (k + 1) (by simp; omega); rwa [show i + (k + 1) = i + 1 + k by omega] at this) (fun k b hb => hfree (k + 1) b hb) (fun k k' b hne => hdis (k + 1) (k' + 1) b (by omega))
   have hd0 : (Env.mk e.slots ((retSlots mds d (i + 1) l).2 ++ e.objs)).obj (sub d i) = none := by
    rw [k6 _ (fun k _ e1 => by have := sub_inj e1; omega)]
    have := hf 0 (by simp)
    simpa using this
   have hfree1 : ∀ b, Fr 0 b → Free B w g1 b := by
    intro b hb
    obtain ⟨h1, h2, h3, h4⟩ := hfree 0 b hb
    refine ⟨h1, fun hS => ?_, fun j hj => ?_, h4⟩
    ·rcases k4 b hS with h5 | ⟨k, h5⟩
     ·exact h2 h5
     ·exact hdis 0 (k + 1) b (by omega) hb h5
    ·rcases k5 j b hj with h5 | ⟨k, h5⟩
     ·exact h3 j h5
     ·exact hdis 0 (k + 1) b (by omega) hb h5
   obtain ⟨g2, m1, m2, m3, m4, m5, m6, m7, m8⟩ := ret_one k1 mds hd0 ((hr 0 r v rfl rfl).mono k3) hfree1
   refine ⟨g2, ?_, ?_, fun b hb => m4 b (k3 b hb), fun b hb => ?_, fun j b hj => ?_, fun j hj => ?_⟩
   ·simpa only [retSlots, List.append_assoc] using m1
   ·refine ⟨v, vals, rfl, ?_, ?_⟩
    ·simpa only [retSlots, List.append_assoc] using m2
    ·have := k2.carry (ob' := (Env.mk e.slots ((retSlot mds (sub d i) r).2 ++ ((retSlots mds d (i + 1) l).2 ++ e.objs))).obj) m4 m7
     simpa only [retSlots, List.append_assoc] using this
   ·rcases m5 b hb with h1 | h1
    ·rcases k4 b h1 with h2 | ⟨k, h2⟩
     ·exact .inl h2
     ·exact .inr ⟨k + 1, h2⟩
    ·exact .inr ⟨0, h1⟩
   ·rcases m6 j b hj with h1 | h1
    ·rcases k5 j b h1 with h2 | ⟨k, h2⟩
     ·exact .inl h2
     ·exact .inr ⟨k + 1, h2⟩
    ·exact .inr ⟨0, h1⟩
   ·have h1 := m8 j (by have := hj 0 (by simp); simpa using this)
    have h2 := k6 j (fun k hk => by have := hj (k + 1) (by simp; omega); rwa [show i + (k + 1) = i + 1 + k by omega] at this)
    simp only [retSlots, List.append_assoc]
    exact h1.trans h2
end Go.Abs
namespace Go.Abs
variable {B : Base}
theorem look_of_mem {α : Type} {l : List (Nat × α)} (hn : (l.map (·.1)).Nodup) {i : Nat} {x : α} (h : (i, x) ∈ l) : look l i = some x := mem_look hn h
theorem mem_of_look {α : Type} : ∀ {l : List (Nat × α)} {i : Nat} {x : α}, look l i = some x → (i, x) ∈ l
 | [], _, _, h => by simp [look] at h
 |(j, y) :: l, i, x, h => by
  by_cases hj : j = i
  ·subst hj; rw [look_cons_self] at h; cases h; exact List.mem_cons_self
  ·rw [look_cons_ne hj] at h; exact List.mem_cons_of_mem _ (mem_of_look h)
theorem look_none {α : Type} : ∀ {l : List (Nat × α)} {i : Nat}, i ∉ l.map (·.1) → look l i = none
 | [], _, _ => rfl
 |(j, y) :: l, i, h => by
  simp only [List.map_cons, List.mem_cons, not_or] at h
  rw [look_cons_ne (fun e => h.1 e.symm)]
  exact look_none h.2
theorem takenAt_ro (v : View) : takenAt .ro v = none := by obtain ⟨s, q⟩ := v; cases s <;> rfl
theorem takenAt_rp (v : View) : takenAt .rp v = none := by obtain ⟨s, q⟩ := v; cases s <;> rfl
theorem takenAt_fn (Ks : List Kd) (Kr : Kd) (v : View) : takenAt (.fn Ks Kr) v = none := by obtain ⟨s, q⟩ := v; cases s <;> rfl
theorem takenAt_fc (f : Nat) (Fs Ks : List Kd) (v : View) : takenAt (.fc f Fs Ks) v = none := by obtain ⟨s, q⟩ := v; cases s <;> rfl
theorem called {c : Ctx} {nt : Nat} {e : Env} {a : Act} {w w2 : World} {g : Gh} (hg : InvG c.P B nt e a w g) {ams : List AM} {xs : List Operand} {vs : List View} {args : List Arg} {F : Nat → Nat → Prop} {pl : Nat → Place} {cs : Nat → List Value}
  {g2 : Gh} {res : Res} {v : Value} {outs : List (Nat × Option Obj)}
  (hvs : xs.map (fun x => e.view (e.opd x)) = vs) (hl1 : args.length = xs.length) (hl2 : ams.length = xs.length) (hrest : ∀ j, args.length ≤ j → (∀ b, ¬ F j b) ∧ pl j = none)
  (hlink : ∀ (j : Nat) (am : AM) (v : View) (arg : Arg) (x : Operand), ams[j]? = some am → vs[j]? = some v → args[j]? = some arg → xs[j]? = some x → Link1 c.P (lent ams vs) w g e.obj (F j) (pl j) (cs j) am v arg (a.eval x))
  (hnd : (taken ams vs).Nodup) (hdis : ∀ i, i ∈ lent ams vs → i ∉ taken ams vs) (hd : Done w w2 args ⟨g.lend (lent ams vs), F, pl, cs⟩ g2 res v)
  (hfull : lent ams vs = [] ∨ (res.rets.all rvOk = true ∧ args.all argFull = true)) (ho : outsOf ams vs res.outs = some outs) :
  ∃ g1, InvG c.P B nt ⟨e.slots, outs ++ e.objs⟩ a w2 g1 ∧ (∀ i, look outs i ≠ none → e.obj i ≠ none) ∧ (∀ (r : RV) (F : Nat → Prop) (cs : List Value) (u : Value), r ∈ res.rets → RetRep g2.S w2 F cs r u → RetRep g1.S w2 F cs r u) ∧
   (∀ i b, args.length ≤ i → g2.F i b → Free B w2 g1 b) := by
 have hxl : vs.length = xs.length := by rw [← hvs]; simp
 have at_ : ∀ j, j < xs.length → ∃ am v arg x, ams[j]? = some am ∧ vs[j]? = some v ∧ args[j]? = some arg ∧ xs[j]? = some x := fun j hj =>
  ⟨ams[j]'(by omega), vs[j]'(by omega), args[j]'(by omega), xs[j], by simp, by simp, by simp, by simp⟩
 have atF : ∀ j b, F j b → ∃ id am v, ams[j]? = some am ∧ vs[j]? = some v ∧ takenAt am v = some id ∧ g.F id b := by
  intro j b hF
  by_cases hj : j < xs.length
  ·obtain ⟨am, v, arg, x, a1, a2, a3, a4⟩ := at_ j hj
   obtain ⟨id, h1, h2⟩ := (hlink j am v arg x a1 a2 a3 a4).sub b hF
   exact ⟨id, am, v, a1, a2, h1, h2⟩
  ·exact absurd hF ((hrest j (by omega)).1 b)
 have atP : ∀ j b off, pl j = some (b, off) → ∃ id am v, ams[j]? = some am ∧ vs[j]? = some v ∧ takenAt am v = some id ∧ g.has id b ∧ ¬ F j b := by
  intro j b off hp
  by_cases hj : j < xs.length
  ·obtain ⟨am, v, arg, x, a1, a2, a3, a4⟩ := at_ j hj
   obtain ⟨⟨id, h1, h2⟩, h3⟩ := (hlink j am v arg x a1 a2 a3 a4).place b off hp
   exact ⟨id, am, v, a1, a2, h1, h2, h3⟩
  ·rw [(hrest j (by omega)).2] at hp; cases hp
 have tobj : ∀ id, id ∈ taken ams vs → ∃ o, e.obj id = some (some o) := by
  have : ∀ (ams : List AM) (vs : List View) (xs : List Operand), xs.map (fun x => e.view (e.opd x)) = vs → ams.length = xs.length →
    (∀ (j : Nat) (am : AM) (v : View) (x : Operand), ams[j]? = some am → vs[j]? = some v → xs[j]? = some x → ∀ id, takenAt am v = some id → ∃ o, e.obj id = some (some o)) → ∀ id, id ∈ taken ams vs → ∃ o, e.obj id = some (some o) := by
   intro ams
   induction ams with
   | nil => intro vs xs _ _ _ id h; cases vs <;> simp [taken] at h
   | cons am ams ih =>
    intro vs xs hv hl hk id h
    cases xs with
    | nil => simp at hl
    | cons x xs =>
     cases vs with
     | nil => simp at hv
     | cons v vs =>
      simp only [List.map_cons, List.cons.injEq] at hv
      rw [taken_cons] at h
      have ih' := ih vs xs hv.2 (by simpa using hl) (fun j am' v' x' h1 h2 h3 => hk (j + 1) am' v' x' (by simpa using h1) (by simpa using h2) (by simpa using h3))
      split at h
      ·rename_i id' hid
       rcases List.mem_cons.1 h with rfl | h
       ·exact hk 0 am v x rfl rfl rfl id hid
       ·exact ih' id h
      ·exact ih' id h
  refine this ams vs xs hvs hl2 fun j am v x h1 h2 h3 id h4 => ?_
  have hj : j < xs.length := (List.getElem?_eq_some_iff.1 h3).1
  have hlk := (hlink j am v (args[j]'(by omega)) x h1 h2 (by simp) h3).link
  unfold Link at hlk
  split at hlk
  ·cases h4; exact ⟨_, hlk.1⟩
  ·cases h4; exact ⟨_, hlk.1⟩
  ·cases h4; exact ⟨_, hlk.1⟩
  ·rw [takenAt_ro] at h4; cases h4
  ·rw [takenAt_rp] at h4; cases h4
  ·rw [takenAt_fn] at h4; cases h4
  ·rw [takenAt_fc] at h4; cases h4
  ·exact hlk.elim
 obtain ⟨keys, hat⟩ := outs_at (P := c.P) (S := g.lend (lent ams vs)) (w := w) (w2 := w2) (g := g) (gc := ⟨g.lend (lent ams vs), F, pl, cs⟩) (g2 := g2) (ob := e.obj) ams vs args (xs.map a.eval) res.outs outs 0 ho hd.outs (by omega) (by simp; omega)
  (fun j am v arg x h1 h2 h3 h4 => by
   rw [Nat.zero_add]
   simp only [List.getElem?_map, Option.map_eq_some_iff] at h4
   obtain ⟨y, h5, rfl⟩ := h4
   exact (hlink j am v arg y h1 h2 h3 h5).link)
 have hkn : (outs.map (·.1)).Nodup := by rw [keys]; exact hnd
 have hlk : ∀ i r, look outs i = some r → i ∈ taken ams vs ∧ ∃ (j : Nat) (am : AM) (v : View) (arg : Arg), ams[j]? = some am ∧ vs[j]? = some v ∧ args[j]? = some arg ∧ OutAt w2 ⟨g.lend (lent ams vs), F, pl, cs⟩ g2 j i am v arg r := by
  intro i r h
  have hm := mem_of_look h
  obtain ⟨j, am, v, arg, h1, h2, h3, h4⟩ := hat i r hm
  rw [Nat.zero_add] at h4
  exact ⟨keys ▸ List.mem_map.2 ⟨_, hm, rfl⟩, j, am, v, arg, h1, h2, h3, h4⟩
 have hno : ∀ i, look outs i = none → i ∉ taken ams vs := by
  intro i h hi
  rw [← keys] at hi
  obtain ⟨⟨i', r⟩, h1, rfl⟩ := List.mem_map.1 hi
  rw [look_of_mem hkn h1] at h
  cases h
 have hsome : ∀ i, i ∈ taken ams vs → ∃ r, look outs i = some r := by
  intro i hi
  cases h : look outs i with
  | none => exact absurd hi (hno i h)
  | some r => exact ⟨r, rfl⟩
 have outTaken : ∀ {j i : Nat} {am : AM} {v : View} {arg : Arg} {r : Option Obj}, OutAt w2 ⟨g.lend (lent ams vs), F, pl, cs⟩ g2 j i am v arg r → takenAt am v = some i := by
  intro j i am v arg r h
  cases h <;> rfl
 let Sn : Nat → Prop := fun b => if lent ams vs = [] then g2.S b else g.S b
 have hSn : ∀ b, g.S b → Sn b := by
  intro b hb
  show if lent ams vs = [] then g2.S b else g.S b
  split
  ·exact hd.S b (.inl hb)
  ·exact hb
 have SnS : ∀ b, Sn b → g2.S b := by
  intro b hb
  by_cases hl : lent ams vs = []
  ·simpa only [Sn, if_pos hl] using hb
  ·simp only [Sn, if_neg hl] at hb
   exact hd.S b (.inl hb)
 have noLend : ∀ b, lent ams vs = [] → g.lend (lent ams vs) b → g.S b := by
  intro b hl hb
  rcases hb with hb | ⟨i, hi, _⟩
  ·exact hb
  ·rw [hl] at hi; cases hi
 have hSb : ∀ b, Sn b → g.S b ∨ (∃ j, F j b) ∨ w.heap.size ≤ b := by
  intro b hb
  by_cases hl : lent ams vs = []
  ·simp only [Sn, if_pos hl] at hb
   rcases hd.Sb b hb with h | h | h
   ·exact .inl (noLend b hl h)
   ·exact .inr (.inl h)
   ·exact .inr (.inr h)
  ·simp only [Sn, if_neg hl] at hb
   exact .inl hb
 have conv : ∀ (arg : Arg), arg ∈ args → ∀ (K : Kd) (m : Md) (y : K.T) (cs : List Value) (F' : Nat → Prop), ((∃ z, arg = .mp K m z) ∨ (∃ z, arg = .ms K m z)) → Own g2.S w2 K m y cs F' → Own Sn w2 K m y cs F' := by
  intro arg harg K m y cs F' hk ho
  by_cases hl : lent ams vs = []
  ·simp only [Sn, if_pos hl]; exact ho
  ·simp only [Sn, if_neg hl]
   rcases hfull with h | ⟨_, h⟩
   ·exact absurd h hl
   ·have hf := List.all_eq_true.1 h arg harg
    rcases hk with ⟨z, rfl⟩ | ⟨z, rfl⟩
    ·exact Own.full hf ho
    ·exact Own.full hf ho
 have hW : ∀ b o, Wr args ⟨g.lend (lent ams vs), F, pl, cs⟩ b o → ∃ (j id : Nat) (am : AM) (v : View), ams[j]? = some am ∧ vs[j]? = some v ∧ takenAt am v = some id ∧ g.has id b ∧
   (F j b ∨ ∃ arg off, args[j]? = some arg ∧ pl j = some (b, off) ∧ off ≤ o ∧ o < off + arg.size) := by
  rintro b o (⟨j, hF⟩ | ⟨j, arg, off, h1, h2, h3, h4⟩)
  ·obtain ⟨id, am, v, k1, k2, k3, k4⟩ := atF j b hF
   exact ⟨j, id, am, v, k1, k2, k3, .inr k4, .inl hF⟩
  ·obtain ⟨id, am, v, k1, k2, k3, k4, _⟩ := atP j b off h2
   have hj : j < args.length := by
    have : j < ams.length := (List.getElem?_eq_some_iff.1 k1).1
    omega
   exact ⟨j, id, am, v, k1, k2, k3, k4, .inr ⟨arg, off, h1, h2, h3, h4⟩⟩
 have hF2 : ∀ j b, g2.F j b → (∃ i, F i b) ∨ w.heap.size ≤ b := hd.Fb
 have same : ∀ (j j' id id' b : Nat) (am am' : AM) (v v' : View), ams[j]? = some am → vs[j]? = some v → takenAt am v = some id → g.has id b → ams[j']? = some am' → vs[j']? = some v' → takenAt am' v' = some id' → g.has id' b → j = j' := by
  intro j j' id id' b am am' v v' h1 h2 h3 h4 h5 h6 h7 h8
  have := hg.has_one h4 h8
  subst this
  exact taken_ne hnd h1 h2 h3 h5 h6 h7
 have one : ∀ i, ∃ (p : (Nat → Prop) × List Value), ∀ r, look outs i = some r → ∃ o, e.obj i = some (some o) ∧ ∀ o', r = some o' → OutOk w w2 g Sn i o o' p.1 p.2 ∧
   (∀ b, p.1 b → (g.F i b ∧ ∀ j, ¬ F j b) ∨ ∃ (j : Nat) (am : AM) (v : View), ams[j]? = some am ∧ vs[j]? = some v ∧ takenAt am v = some i ∧ g2.F j b) := by
  intro i
  cases hl : look outs i with
  | none => exact ⟨⟨fun _ => False, []⟩, fun r h => by cases h⟩
  | some r =>
   obtain ⟨hit, j, am, v, arg, h1, h2, h3, h4⟩ := hlk i r hl
   obtain ⟨o0, ho0⟩ := tobj i hit
   have hti := outTaken h4
   have hj : j < xs.length := by
    have : j < ams.length := (List.getElem?_eq_some_iff.1 h1).1
    omega
   cases r with
   | none => exact ⟨⟨fun _ => False, []⟩, fun r h => ⟨o0, ho0, fun o' h' => by cases h; cases h'⟩⟩
   | some o' =>
    have hlk1 := hlink j am v arg xs[j] h1 h2 h3 (by simp)
    obtain ⟨o, csn, k1, k2⟩ := out_ok hg (S := g.lend (lent ams vs)) (Sn := Sn) hlk1.link h4 hSn
     (fun b o v hb hv => hd.ext.same (fun hw => by
      obtain ⟨j', id', am', v', _, _, _, h8, _⟩ := hW b o hw
      exact (hg.has_lt h8).2 hb) hv)
     (fun b o hb hn hq => hd.ext.cell b o (hg.has_lt hb).1 (fun hw => by
      obtain ⟨j', id', am', v', h5, h6, h7, h8, h9⟩ := hW b o hw
      have := same j j' i id' b am am' v v' h1 h2 hti hb h5 h6 h7 h8
      subst this
      rcases h9 with h9 | ⟨arg', off, a1, a2, a3, a4⟩
      ·exact hn h9
      ·rw [h3] at a1
       cases a1
       exact hq ⟨off, a2, a3, a4⟩))
     (conv arg (List.mem_of_getElem? h3))
     (fun b h2F hb => by
      rcases hF2 j b h2F with ⟨i', hi'⟩ | h5
      ·obtain ⟨id', am', v', h5, h6, h7, h8⟩ := atF i' b hi'
       have := same j i' i id' b am am' v v' h1 h2 hti hb h5 h6 h7 (.inr h8)
       subst this
       exact hi'
      ·have := (hg.has_lt hb).1; omega)
    refine ⟨⟨fun b => (g.F i b ∧ ¬ F j b) ∨ g2.F j b, csn⟩, fun r' h => ⟨o, k1, fun o1 h' => ?_⟩⟩
    cases h
    cases h'
    refine ⟨k2, ?_⟩
    rintro b (⟨a1, a2⟩ | a1)
    ·refine .inl ⟨a1, fun j' hF => ?_⟩
     obtain ⟨id', am', v', h5, h6, h7, h8⟩ := atF j' b hF
     have := same j j' i id' b am am' v v' h1 h2 hti (.inr a1) h5 h6 h7 (.inr h8)
     subst this
     exact a2 hF
    ·exact .inr ⟨j, am, v, h1, h2, hti, a1⟩
 obtain ⟨fam, hfam⟩ := Classical.axiomOfChoice one
 have FnOld : ∀ i o' b, look outs i = some (some o') → (fam i).1 b → (g.F i b ∧ ∀ j, ¬ F j b) ∨ ∃ (j : Nat) (am : AM) (v : View), ams[j]? = some am ∧ vs[j]? = some v ∧ takenAt am v = some i ∧ g2.F j b := by
  intro i o' b h hb
  obtain ⟨o, _, hk⟩ := hfam i _ h
  exact (hk o' rfl).2 b hb
 have jlen : ∀ {j : Nat} {am : AM}, ams[j]? = some am → j < args.length := by
  intro j am h
  have : j < ams.length := (List.getElem?_eq_some_iff.1 h).1
  omega
 have hI := hg.called (Sn := Sn) (outs := outs) (Fn := fun i => (fam i).1) (csn := fun i => (fam i).2) hd.ext
  (fun b o hw => by
   obtain ⟨j, id, am, v, h1, h2, h3, h4, h5⟩ := hW b o hw
   have hit := taken_at h1 h2 h3
   obtain ⟨o0, ho0⟩ := tobj id hit
   refine ⟨id, o0, ho0, hsome id hit, ?_⟩
   rcases h5 with h5 | ⟨arg, off, a1, a2, a3, a4⟩
   ·obtain ⟨id', am', v', b1, b2, b3, b4⟩ := atF j b h5
    rw [h1] at b1; cases b1
    rw [h2] at b2; cases b2
    rw [h3] at b3; cases b3
    exact .inr b4
   ·have hj : j < xs.length := by have := jlen h1; omega
    have hl1 := (hlink j am v arg xs[j] h1 h2 a1 (by simp)).link
    unfold Link at hl1
    split at hl1
    ·cases h3
     obtain ⟨c1, _, _, K, m, z, b', off', rfl, c2, _, _, _, f⟩ := hl1
     rw [c1] at ho0
     cases ho0
     rw [a2] at c2
     cases c2
     rcases (f.at_ b off a2).2 with ⟨o1, d1, d2, d3⟩ | d1
     ·have : o < off + K.size := a4
      exact .inl ⟨o1, d1, by omega, by omega⟩
     ·exact .inr d1
    ·obtain ⟨_, _, _, c1, _⟩ := hl1
     rw [a2] at c1; cases c1
    ·obtain ⟨_, _, _, c1, _⟩ := hl1
     rw [a2] at c1; cases c1
    ·rw [a2] at hl1; cases hl1.2.1
    ·rw [a2] at hl1; cases hl1.2.1
    ·rw [a2] at hl1; cases hl1.2.1
    ·rw [a2] at hl1; cases hl1.2.1
    ·exact hl1.elim)
  hSn
  (fun b hb => by
   rcases hSb b hb with h | ⟨j, h⟩ | h
   ·exact .inl h
   ·obtain ⟨id, am, v, k1, k2, k3, k4⟩ := atF j b h
    obtain ⟨r, hr⟩ := hsome id (taken_at k1 k2 k3)
    exact .inr (.inl ⟨id, r, hr, k4⟩)
   ·exact .inr (.inr h))
  (fun b hb => hd.Ssz b (SnS b hb))
  (fun b hb => by
   refine ⟨fun i hi hF => ?_, fun i o' hi hF => ?_, fun i off hp => ?_⟩
   ·rcases hSb b hb with h | ⟨j, h⟩ | h
    ·exact hg.FS i b hF h
    ·obtain ⟨id, am, v, k1, k2, k3, k4⟩ := atF j b h
     have := hg.has_one (.inr hF) (.inr k4)
     subst this
     exact hno i hi (taken_at k1 k2 k3)
    ·have := hg.Fsz i b hF; omega
   ·rcases FnOld i o' b hi hF with ⟨h1, h2⟩ | ⟨j, am, v, _, _, _, h4⟩
    ·rcases hSb b hb with h | ⟨j, h⟩ | h
     ·exact hg.FS i b h1 h
     ·exact h2 j h
     ·have := hg.Fsz i b h1; omega
    ·exact hd.FS j b h4 (SnS b hb)
   ·rcases hSb b hb with h | ⟨j, h⟩ | h
    ·exact (hg.plz i b off hp).2.1 h
    ·obtain ⟨id, am, v, k1, k2, k3, k4⟩ := atF j b h
     exact (hg.plz i b off hp).2.2.1 id k4
    ·have := (hg.plz i b off hp).1; omega)
  (fun i o' hi b hF => by
   refine ⟨?_, ?_, fun k hki o2 hk hF' => ?_⟩
   ·rcases FnOld i o' b hi hF with ⟨h1, _⟩ | ⟨j, am, v, _, _, _, h4⟩
    ·exact .inl ⟨i, _, hi, h1⟩
    ·rcases hF2 j b h4 with ⟨j', h5⟩ | h5
     ·obtain ⟨id, am, v, k1, k2, k3, k4⟩ := atF j' b h5
      obtain ⟨r, hr⟩ := hsome id (taken_at k1 k2 k3)
      exact .inl ⟨id, r, hr, k4⟩
     ·exact .inr h5
   ·rcases FnOld i o' b hi hF with ⟨h1, _⟩ | ⟨j, am, v, _, _, _, h4⟩
    ·exact Nat.lt_of_lt_of_le (hg.Fsz i b h1) hd.ext.size
    ·exact hd.Fsz j b h4
   ·have cross : ∀ i' j', g.F i' b → (∀ j, ¬ F j b) → g2.F j' b → False := by
     intro i' j' h1 h2 h3
     rcases hF2 j' b h3 with ⟨j'', h5⟩ | h5
     ·exact h2 j'' h5
     ·have := hg.Fsz i' b h1; omega
    rcases FnOld i o' b hi hF with ⟨h1, h2⟩ | ⟨j, am, v, h1, h2, h3, h4⟩ <;> rcases FnOld k o2 b hk hF' with ⟨h5, h6⟩ | ⟨j', am', v', h5, h6, h7, h8⟩
    ·exact hki (hg.has_one (.inr h5) (.inr h1))
    ·exact cross i j' h1 h2 h8
    ·exact cross k j h5 h6 h4
    ·by_cases hjj : j = j'
     ·subst hjj
      rw [h1] at h5; cases h5
      rw [h2] at h6; cases h6
      rw [h3] at h7; cases h7
      exact hki rfl
     ·exact hd.FF j j' b hjj h4 h8)
  (fun i r hi => by
   obtain ⟨o, h1, h2⟩ := hfam i r hi
   exact ⟨o, h1, fun o' h3 => (h2 o' h3).1⟩)
 refine ⟨_, hI, fun i hi h0 => ?_, fun r F' cs' u hr hrep => ?_, fun i b hi hF => ?_⟩
 ·cases hl : look outs i with
  | none => exact hi hl
  | some r =>
   obtain ⟨o, h1⟩ := tobj i (hlk i r hl).1
   rw [h0] at h1
   cases h1
 ·show RetRep Sn w2 F' cs' r u
  by_cases hl : lent ams vs = []
  ·have : Sn = g2.S := by funext b; simp only [Sn, if_pos hl]
   rw [this]; exact hrep
  ·rcases hfull with h | ⟨h, _⟩
   ·exact absurd h hl
   ·have hf := List.all_eq_true.1 h r hr
    cases r with
    | ro K x => exact ⟨hrep.1, hrep.2.1.flat hf, hrep.2.2⟩
    | own K m x => exact ⟨Own.full hf hrep.1, hrep.2⟩
    | bx K m x =>
     obtain ⟨b, off, h1, h2, h3, h4⟩ := hrep
     exact ⟨b, off, h1, h2, Own.full hf h3, h4⟩
 ·refine ⟨hd.Fsz i b hF, fun hS => hd.FS i b hF (SnS b hS), fun k hk => ?_, ?_⟩
  ·rcases hk with ⟨off, hk⟩ | hk
   ·simp only [Gh.called] at hk
    have hp : g.pl k = some (b, off) := by
     split at hk
     ·cases hk
     ·exact hk
    rcases hF2 i b hF with ⟨j, h5⟩ | h5
    ·obtain ⟨id, am, v, k1, k2, k3, k4⟩ := atF j b h5
     exact (hg.plz k b off hp).2.2.1 id k4
    ·have := (hg.plz k b off hp).1; omega
   ·simp only [Gh.called] at hk
    split at hk
    ·rename_i o' hl
     rcases FnOld k o' b hl hk with ⟨h1, h2⟩ | ⟨j, am, v, h1, _, _, h4⟩
     ·rcases hF2 i b hF with ⟨j, h5⟩ | h5
      ·exact h2 j h5
      ·have := hg.Fsz k b h1; omega
     ·have : i ≠ j := by have := jlen h1; omega
      exact hd.FF i j b this hF h4
    ·exact hk
    ·rename_i hl
     rcases hF2 i b hF with ⟨j, h5⟩ | h5
     ·obtain ⟨id, am, v, k1, k2, k3, k4⟩ := atF j b h5
      have := hg.has_one (.inr hk) (.inr k4)
      subst this
      exact hno k hl (taken_at k1 k2 k3)
     ·have := hg.Fsz k b hk; omega
  ·rcases hF2 i b hF with ⟨j, h5⟩ | h5
   ·obtain ⟨id, am, v, _, _, _, k4⟩ := atF j b h5
    exact hg.Fb id b k4
   ·have : B.w0.heap.size ≤ w.heap.size := hg.ext.size
    exact .inr (by omega)
end Go.Abs
namespace Go.Abs
variable {B : Base}
theorem entry_of {c : Ctx} {nt : Nat} {e : Env} {a : Act} {w : World} {g : Gh} (hg : InvG c.P B nt e a w g) {ams : List AM} {xs : List Operand} {vs : List View} {args : List Arg} {F : Nat → Nat → Prop} {pl : Nat → Place} {cs : Nat → List Value}
  (hvs : xs.map (fun x => e.view (e.opd x)) = vs) (hl1 : args.length = xs.length) (hl2 : ams.length = xs.length) (hrest : ∀ j, args.length ≤ j → (∀ b, ¬ F j b) ∧ pl j = none)
  (hlink : ∀ (j : Nat) (am : AM) (v : View) (arg : Arg) (x : Operand), ams[j]? = some am → vs[j]? = some v → args[j]? = some arg → xs[j]? = some x → Link1 c.P (lent ams vs) w g e.obj (F j) (pl j) (cs j) am v arg (a.eval x))
  (hnd : (taken ams vs).Nodup) (hdis : ∀ i, i ∈ lent ams vs → i ∉ taken ams vs) :
  Entry c.P w args (xs.map a.eval) ⟨g.lend (lent ams vs), F, pl, cs⟩ := by
 have hxl : vs.length = xs.length := by rw [← hvs]; simp
 have at_ : ∀ j, j < xs.length → ∃ am v arg x, ams[j]? = some am ∧ vs[j]? = some v ∧ args[j]? = some arg ∧ xs[j]? = some x := fun j hj =>
  ⟨ams[j]'(by omega), vs[j]'(by omega), args[j]'(by omega), xs[j], by simp, by simp, by simp, by simp⟩
 have atF : ∀ j b, F j b → ∃ id am v, ams[j]? = some am ∧ vs[j]? = some v ∧ takenAt am v = some id ∧ g.F id b := by
  intro j b hF
  by_cases hj : j < xs.length
  ·obtain ⟨am, v, arg, x, a1, a2, a3, a4⟩ := at_ j hj
   obtain ⟨id, h1, h2⟩ := (hlink j am v arg x a1 a2 a3 a4).sub b hF
   exact ⟨id, am, v, a1, a2, h1, h2⟩
  ·exact absurd hF ((hrest j (by omega)).1 b)
 have atP : ∀ j b off, pl j = some (b, off) → ∃ id am v, ams[j]? = some am ∧ vs[j]? = some v ∧ takenAt am v = some id ∧ g.has id b ∧ ¬ F j b := by
  intro j b off hp
  by_cases hj : j < xs.length
  ·obtain ⟨am, v, arg, x, a1, a2, a3, a4⟩ := at_ j hj
   obtain ⟨⟨id, h1, h2⟩, h3⟩ := (hlink j am v arg x a1 a2 a3 a4).place b off hp
   exact ⟨id, am, v, a1, a2, h1, h2, h3⟩
  ·rw [(hrest j (by omega)).2] at hp; cases hp
 have same : ∀ (j j' id id' b : Nat) (am am' : AM) (v v' : View), ams[j]? = some am → vs[j]? = some v → takenAt am v = some id → g.has id b → ams[j']? = some am' → vs[j']? = some v' → takenAt am' v' = some id' → g.has id' b → j = j' := by
  intro j j' id id' b am am' v v' h1 h2 h3 h4 h5 h6 h7 h8
  have := hg.has_one h4 h8
  subst this
  exact taken_ne hnd h1 h2 h3 h5 h6 h7
 have noL : ∀ (j b : Nat) (am : AM) (v : View) (id : Nat), ams[j]? = some am → vs[j]? = some v → takenAt am v = some id → g.has id b → ¬ g.lend (lent ams vs) b := by
  rintro j b am v id h1 h2 h3 h4 (h5 | ⟨i, h5, h6⟩)
  ·exact (hg.has_lt h4).2 h5
  ·have := hg.has_one h4 h6
   subst this
   exact hdis id h5 (taken_at h1 h2 h3)
 refine ⟨by simp [hl1], fun j arg v h1 h2 => ?_, hrest, ?_, ?_, ?_, ?_, ?_, hg.globw.mono (fun b hb => .inl hb) (fun _ _ => rfl)⟩
 ·have hj : j < args.length := (List.getElem?_eq_some_iff.1 h1).1
  simp only [List.getElem?_map, Option.map_eq_some_iff] at h2
  obtain ⟨x, h3, rfl⟩ := h2
  obtain ⟨am, v, _, _, a1, a2, _, _⟩ := at_ j (by omega)
  exact (hlink j am v arg x a1 a2 h1 h3).link.rep (fun b hb => .inl hb)
 ·rintro b (hb | ⟨i, _, hb⟩)
  ·exact hg.Ssz b hb
  ·exact (hg.has_lt hb).1
 ·intro j b hF
  obtain ⟨id, am, v, _, _, _, h4⟩ := atF j b hF
  exact hg.Fsz id b h4
 ·intro j b hF
  obtain ⟨id, am, v, h1, h2, h3, h4⟩ := atF j b hF
  exact noL j b am v id h1 h2 h3 (.inr h4)
 ·intro i j b hne hF hF'
  obtain ⟨id, am, v, h1, h2, h3, h4⟩ := atF i b hF
  obtain ⟨id', am', v', h5, h6, h7, h8⟩ := atF j b hF'
  exact hne (same i j id id' b am am' v v' h1 h2 h3 (.inr h4) h5 h6 h7 (.inr h8))
 ·intro i b off hp
  obtain ⟨id, am, v, h1, h2, h3, h4, h5⟩ := atP i b off hp
  refine ⟨(hg.has_lt h4).1, noL i b am v id h1 h2 h3 h4, fun j hF => ?_, fun j off' hp' => ?_⟩
  ·obtain ⟨id', am', v', k5, k6, k7, k8⟩ := atF j b hF
   have := same i j id id' b am am' v v' h1 h2 h3 h4 k5 k6 k7 (.inr k8)
   subst this
   exact h5 hF
  ·obtain ⟨id', am', v', k5, k6, k7, k8, _⟩ := atP j b off' hp'
   exact same i j id id' b am am' v v' h1 h2 h3 h4 k5 k6 k7 k8
section
variable {c : Ctx} {nt : Nat} {o : Oper} {Ω : Type} {k : Delta → Option Ω} {out : Ω} {fr : Bool}
theorem put_none (a : Act) (v : Value) : a.put none v = a := rfl
theorem rets_in {w : World} {g : Gh} {n : Nat} {l : List RV} {v : Value} (h : RetsRep w g n l v) (h2 : 2 ≤ l.length) : ∃ vs : Array Value, v = .tuple vs ∧ vs.size = l.length ∧ ∀ i r u, l[i]? = some r → vs[i]? = some u → RetRep g.S w (g.F (n + i)) (g.cs (n + i)) r u := by
 cases l with
 | nil => simp at h2
 | cons r l =>
  cases l with
  | nil => simp at h2
  | cons r2 l => exact h
theorem rets_ok {outs : List (Nat × Option Obj)} {mds : List (Nat × Md)} {rets : List RV} (hk : retsOf nt mds o.dst fr outs rets k = some out) :
  ∃ d, k d = some out ∧ (∀ e : Env, fresh e o.dst = fr → ∀ a w2 g1 g2 n v, InvG c.P B nt ⟨e.slots, outs ++ e.objs⟩ a w2 g1 → (∀ i, look outs i ≠ none → e.obj i ≠ none) →
   RetsRep w2 g2 n rets v → (∀ (r : RV) (F : Nat → Prop) (cs : List Value) (u : Value), r ∈ rets → RetRep g2.S w2 F cs r u → RetRep g1.S w2 F cs r u) → (∀ i b, n ≤ i → g2.F i b → Free B w2 g1 b) →
   (∀ i j b, i ≠ j → g2.F i b → ¬ g2.F j b) → ∃ g', InvG c.P B nt (e.apply d) (a.put o.dst v) w2 g') := by
 have hfreshd : ∀ (e : Env) (d i : Nat) (g1 : Gh), fresh e (some d) = true → (∀ i, look outs i ≠ none → e.obj i ≠ none) → (i = d ∨ ∃ k, k < 4 ∧ i = sub d k) → (Env.mk e.slots (outs ++ e.objs)).obj i = none := by
  intro e d i g1 hf ho hi
  simp only [fresh, Bool.and_eq_true] at hf
  have h0 : e.obj i = none := by
   rcases hi with rfl | ⟨k, hk, rfl⟩
   ·simpa using hf.1.1.1.1
   ·match k, hk with
    | 0, _ => simpa using hf.1.1.1.2
    | 1, _ => simpa using hf.1.1.2
    | 2, _ => simpa using hf.1.2
    | 3, _ => simpa using hf.2
  show look (outs ++ e.objs) i = none
  rw [look_app]
  cases hl : look outs i with
  | some r => exact absurd h0 (ho i (by rw [hl]; simp))
  | none => exact h0
 unfold retsOf at hk
 split at hk
 ·rename_i hdst
  split at hk
  ·refine ⟨_, hk, fun e _ a w2 g1 g2 n v hI _ _ _ _ _ => ⟨g1, ?_⟩⟩
   rw [hdst, put_none]
   exact hI
  ·cases hk
 ·rename_i d hdst
  split at hk
  ·rename_i hc
   rw [Bool.and_eq_true] at hc
   have hlt : d < nt := Nat.le_of_ble_eq_true hc.1
   split at hk
   ·refine ⟨_, hk, fun e _ a w2 g1 g2 n v hI _ _ _ _ _ => ⟨g1, ?_⟩⟩
    rw [hdst]
    exact hI.put hlt (s := .dead) trivial
   ·rename_i r
    refine ⟨_, hk, fun e hfr a w2 g1 g2 n v hI ho hr hconv hfree hFF => ?_⟩
    rw [hdst] at hfr
    obtain ⟨g', k1, k2, k3, _⟩ := ret_one hI mds (hfreshd e d d g1 (hfr.trans hc.2) ho (.inl rfl)) (hconv r _ _ _ (by simp) hr) (fun b hb => hfree n b (Nat.le_refl _) hb)
    refine ⟨g', ?_⟩
    rw [hdst]
    have := k1.put hlt (s := (retSlot mds d r).1) (v := v) ((SlotRep.iff0 k3).2 k2)
    simpa only [Env.apply, Env.put, List.append_assoc, List.singleton_append] using this
   ·rename_i l hne1 hne2
    split at hk
    ·rename_i hl4
     have hl4 := Nat.le_of_ble_eq_true hl4
     refine ⟨_, hk, fun e hfr a w2 g1 g2 n v hI ho hr hconv hfree hFF => ?_⟩
     rw [hdst] at hfr
     have h2 : 2 ≤ rets.length := by
      cases rets with
      | nil => exact absurd rfl hne1
      | cons r l => cases l with
       | nil => exact absurd rfl (hne2 r)
       | cons r2 l => simp
     obtain ⟨vs, rfl, hsz, hvs⟩ := rets_in hr h2
     obtain ⟨g', k1, k2, _⟩ := ret_many mds rets 0 hI vs.toList (fun i => g2.F (n + i)) (fun i => g2.cs (n + i)) (by simpa using hsz) (fun i r u h3 h4 => hconv r _ _ _ (List.mem_of_getElem? h3) (hvs i r u h3 (by simpa using h4)))
      (fun i hi => by rw [Nat.zero_add]; exact hfreshd e d _ g1 (hfr.trans hc.2) ho (.inr ⟨i, by omega, rfl⟩)) (fun i b hb => hfree _ b (by omega) hb) (fun i j b hne => hFF _ _ b (by omega))
     refine ⟨g', ?_⟩
     rw [hdst]
     have := k1.put hlt (s := .tup (retSlots mds d 0 rets).1) (v := .tuple vs) ⟨vs, rfl, k2⟩
     simpa only [Env.apply, Env.put, List.append_assoc, List.singleton_append] using this
    ·cases hk
  ·cases hk
structure Spill (P : Program) (B : Base) (nt : Nat) (e : Env) (a : Act) (w : World) (g : Gh) (nt' : Nat) (e' : Env) (a' : Act) : Prop where
 inv : InvG P B nt' e' a' w g
 objs : e'.objs = e.objs
 back : ∀ objs w2 g1, InvG P B nt' ⟨e'.slots, objs⟩ a' w2 g1 → InvG P B nt ⟨e.slots, objs⟩ a w2 g1
theorem Spill.refl {P : Program} {nt : Nat} {e : Env} {a : Act} {w : World} {g : Gh} (h : InvG P B nt e a w g) : Spill P B nt e a w g nt e a := ⟨h, rfl, fun _ _ _ h => h⟩
theorem look_big {α : Type} : ∀ {l : List (Nat × α)} {i : Nat}, (l.map (·.1)).sum < i → look l i = none
 | [], _, _ => rfl
 |(j, y) :: l, i, h => by
  simp only [List.map_cons, List.sum_cons] at h
  rw [look_cons_ne (by omega)]
  exact look_big (by omega)
def numd {α : Type} (N : Nat) : List α → List (Nat × α)
 | [] => []
 | x :: l => (N, x) :: numd (N + 1) l
theorem look_numd {α : Type} : ∀ {l : List α} {N : Nat} {i : Nat}, look (numd N l) i = if N ≤ i then l[i - N]? else none
 | [], N, i => by simp [numd, look]
 | x :: l, N, i => by
  unfold numd
  by_cases h : N = i
  ·subst h; rw [look_cons_self]; simp
  ·rw [look_cons_ne h, look_numd (l := l)]
   by_cases h2 : N + 1 ≤ i
   ·rw [if_pos h2, if_pos (by omega), show i - N = (i - (N + 1)) + 1 by omega, List.getElem?_cons_succ]
   ·rw [if_neg h2, if_neg (by omega)]
theorem spill {P : Program} {nt : Nat} {e : Env} {a : Act} {w : World} {g : Gh} (hg : InvG P B nt e a w g) (L : List (Slot × Value)) (hL : ∀ q, q ∈ L → SlotRep P g w e.obj q.1 q.2) (ts : List Nat) :
  ∃ N nt' e' a', Spill P B nt e a w g nt' e' a' ∧ (∀ x : Operand, (∀ t, x = .tmp t → t ∈ ts) → e'.opd x = e.opd x ∧ a'.eval x = a.eval x) ∧ ∀ j q, L[j]? = some q → e'.opd (.tmp (N + j)) = q.1 ∧ a'.eval (.tmp (N + j)) = q.2 := by
 obtain ⟨N, hN⟩ : ∃ N, N = nt + (e.slots.map (·.1)).sum + ts.sum + 1 := ⟨_, rfl⟩
 have hts : ∀ t, t ∈ ts → t < N := by
  have : ∀ (ts : List Nat) t, t ∈ ts → t ≤ ts.sum := by
   intro ts
   induction ts with
   | nil => intro t h; cases h
   | cons u ts ih =>
    intro t h
    rw [List.sum_cons]
    rcases List.mem_cons.1 h with rfl | h
    ·omega
    ·have := ih t h; omega
  intro t h
  have := this ts t h
  omega
 let e' : Env := ⟨numd N (L.map (·.1)) ++ e.slots, e.objs⟩
 let a' : Act := { a with tmps := (a.tmps.toList ++ (List.replicate (N - nt) undef ++ L.map (·.2))).toArray }
 have hobj : e'.obj = e.obj := rfl
 have low : ∀ i, i < N → e'.get i = e.get i := by
  intro i hi
  unfold Env.get
  show (match look (numd N (L.map (·.1)) ++ e.slots) i with | some s => s | none => .dead) = _
  rw [look_app, look_numd (N := N), if_neg (by omega)]
  rfl
 have high : ∀ i, N ≤ i → e.get i = .dead := by
  intro i hi
  unfold Env.get
  rw [look_big (by omega)]
 have at_ : ∀ j q, L[j]? = some q → e'.get (N + j) = q.1 := by
  intro j q hq
  unfold Env.get
  show (match look (numd N (L.map (·.1)) ++ e.slots) (N + j) with | some s => s | none => .dead) = _
  rw [look_app, look_numd (N := N), if_pos (by omega), show N + j - N = j by omega, List.getElem?_map, hq]
  rfl
 have past : ∀ j, L[j]? = none → e'.get (N + j) = .dead := by
  intro j hq
  unfold Env.get
  show (match look (numd N (L.map (·.1)) ++ e.slots) (N + j) with | some s => s | none => .dead) = _
  rw [look_app, look_numd (N := N), if_pos (by omega), show N + j - N = j by omega, List.getElem?_map, hq]
  simp only [Option.map_none]
  rw [look_big (by omega)]
 have sz := hg.tmps
 have tlow : ∀ i, i < N → a'.tmps.getD i undef = a.tmps.getD i undef := by
  intro i hi
  show ((a.tmps.toList ++ (List.replicate (N - nt) undef ++ L.map (·.2))).toArray).getD i undef = _
  simp only [Array.getD_eq_getD_getElem?, List.getElem?_toArray]
  by_cases h : i < nt
  ·rw [List.getElem?_append_left (by simp [sz]; exact h)]
   simp
  ·rw [List.getElem?_append_right (by simp [sz]; omega), List.getElem?_append_left (by simp [sz]; omega), List.getElem?_replicate, if_pos (by simp [sz]; omega), Array.getElem?_eq_none (by rw [sz]; omega)]
   rfl
 have tat : ∀ j q, L[j]? = some q → a'.tmps.getD (N + j) undef = q.2 := by
  intro j q hq
  show ((a.tmps.toList ++ (List.replicate (N - nt) undef ++ L.map (·.2))).toArray).getD (N + j) undef = _
  simp only [Array.getD_eq_getD_getElem?, List.getElem?_toArray]
  rw [List.getElem?_append_right (by simp [sz]; omega), List.getElem?_append_right (by simp [sz]; omega), List.getElem?_map]
  have : N + j - a.tmps.toList.length - (List.replicate (N - nt) undef).length = j := by simp [sz]; omega
  rw [this, hq]
  rfl
 refine ⟨N, N + L.length, e', a', ⟨⟨hg.glob, ?_, hg.defers, hg.ext, hg.Ssz, hg.Fsz, hg.S0, hg.Sb, hg.Fb, hg.FS, hg.FF, hg.plz, hg.absent, hg.objs, fun i => ?_⟩, rfl, fun objs w2 g1 h => ?_⟩, ?_, ?_⟩
 ·show ((a.tmps.toList ++ (List.replicate (N - nt) undef ++ L.map (·.2))).toArray).size = _
  simp [sz]; omega
 ·by_cases hi : i < N
  ·rw [low i hi, tlow i hi]; exact hg.slots i
  ·obtain ⟨j, rfl⟩ : ∃ j, i = N + j := ⟨i - N, by omega⟩
   cases hq : L[j]? with
   | none => rw [past j hq]; trivial
   | some q => rw [at_ j q hq, tat j q hq]; exact hL q (List.mem_of_getElem? hq)
 ·refine ⟨h.glob, sz, hg.defers, h.ext, h.Ssz, h.Fsz, h.S0, h.Sb, h.Fb, h.FS, h.FF, h.plz, h.absent, h.objs, fun i => ?_⟩
  by_cases hi : i < N
  ·have := h.slots i
   rw [tlow i hi] at this
   rw [show (Env.mk e.slots objs).get i = (Env.mk e'.slots objs).get i from (low i hi).symm]
   exact this
  ·rw [show (Env.mk e.slots objs).get i = .dead from high i (by omega)]
   trivial
 ·intro x hx
  refine ⟨?_, ?_⟩
  ·unfold Env.opd
   split <;> first | rfl | exact low _ (hts _ (hx _ rfl))
  ·cases x with
   | tmp t => exact tlow t (hts t (hx t rfl))
   | _ => rfl
 ·intro j q hq
  exact ⟨at_ j q hq, tat j q hq⟩
theorem callK_ok (hM : MOk c) {mds : List (Nat × Md)} {f : Nat} {ts : List Nat} {vs V : List View} (hk : callK c nt mds o.dst fr f ts vs k = some out)
  (hexec : ∀ e : Env, e.views o = V → ∀ a w g, InvG c.P B nt e a w g → ∃ nt' e' a', Spill c.P B nt e a w g nt' e' a' ∧ ∃ xs : List Operand, xs.map (fun x => e'.view (e'.opd x)) = vs ∧ (execOp a.eval o).run c.P w = .ok (.enter f (xs.map a'.eval).toArray) w) :
  Step1 c B nt o V fr k out := by
 unfold callK at hk
 split at hk
 ·cases hk
 ·rename_i ams hsg
  split at hk
  ·cases hk
  ·rename_i args hargs
   split at hk
   ·rename_i hcond
    simp only [Bool.and_eq_true] at hcond
    obtain ⟨res, hres, hans⟩ := hM.ans f _ _ _ _ hk
    split at hres
    ·rename_i hfull
     split at hres
     ·cases hres
     ·rename_i outs houts
      have hnd := nodup_ok hcond.1
      have hdis : ∀ i, i ∈ lent ams vs → i ∉ taken ams vs := by
       intro i hi ht
       have := List.all_eq_true.1 hcond.2 i hi
       simp at this
       exact this i ht rfl
      obtain ⟨d, hd, hret⟩ := rets_ok (c := c) (B := B) hres
      refine ⟨d, hd, fun e he a w ⟨g, hg⟩ next Q hn => ?_⟩
      obtain ⟨nt', e', a', hsp, xs, hvs, hrun⟩ := hexec e he.1 a w g hg
      obtain ⟨hl1, hl2, F, pl, cs, hrest, hlink⟩ := links hM hsp.inv ts ams xs vs args hvs hargs (L := lent ams vs) (fun i hi => hi)
      have hE := entry_of hsp.inv hvs hl1 hl2 hrest hlink hnd hdis
      unfold Oper.wp
      rw [hrun, Oper.upon_enter]
      refine (hans w _ _ hE).mono ?_
      rintro ee w2 ⟨v, g2, rfl, hdone⟩
      obtain ⟨g1, hI, hlo, hconv, hfree⟩ := called hsp.inv hvs hl1 hl2 hrest hlink hnd hdis hdone (by
       rw [Bool.or_eq_true, Bool.and_eq_true] at hfull
       rcases hfull with h | h
       ·exact .inl (List.isEmpty_iff.1 h)
       ·exact .inr h) houts
      have hI2 := hsp.back _ _ _ hI
      have hoo : e'.obj = e.obj := by funext i; show look e'.objs i = look e.objs i; rw [hsp.objs]
      rw [hsp.objs] at hI2
      rw [hoo] at hlo
      obtain ⟨g', hI'⟩ := hret e he.2 a w2 g1 g2 _ v hI2 hlo hdone.rets hconv (fun i b hi hF => hfree i b hi hF) hdone.FF
      exact hn _ _ ⟨g', hI'⟩
    ·cases hres
   ·cases hk
end
end Go.Abs
namespace Go.Abs
variable {B : Base}
section
variable {c : Ctx} {nt : Nat} {o : Oper} {Ω : Type} {k : Delta → Option Ω} {out : Ω} {fr : Bool}
theorem exec_enter {P : Program} {f : Nat} {fn : Func} {a : Act} {w : World} {x : Operand} {as : Array Operand} {ts : Array Nat} {fv cv : List Value} (hf : P.funcs[f]? = some fn) (hn : fn.name ≠ "runtime.NumGoroutine") (hb : fn.body.isNone = false)
  (ho : o.op = .call { callee := .value x, args := as, argTypes := ts }) (hx : a.eval x = .func (.func f) fv.toArray cv.toArray) : (execOp a.eval o).run P w = .ok (.enter f (fv ++ (as.toList.map a.eval ++ cv)).toArray) w := by
 have hn' : (fn.name == "runtime.NumGoroutine") = false := by simpa using hn
 have e1 : (fv ++ (as.toList.map a.eval ++ cv)).toArray = fv.toArray ++ as.map a.eval ++ cv.toArray := by apply Array.ext'; simp
 rw [e1]
 simp only [execOp, ho, resolve, hx, Deferred.ofValue, Sem.run_bind, Sem.run_pure, Result.andThen_ok, invoke, callFunc, run_program, hf, hn', hb]
 rfl
theorem ok_call {mds : List (Nat × Md)} {f : Nat} {as : Array Operand} {ts : Array Nat} {v : View} {vs : List View} (hM : MOk c) (ho : o.op = .call { callee := .value (.func f), args := as, argTypes := ts })
  (hk : callK c nt mds o.dst fr f ts.toList vs k = some out) : Step1 c B nt o (v :: vs) fr k out := by
 have hsg : ∃ ams, ams ∈ c.sg f := by
  unfold callK at hk
  split at hk
  ·cases hk
  ·rename_i ams h; exact ⟨ams, List.mem_of_find?_eq_some h⟩
 obtain ⟨ams, hsg⟩ := hsg
 obtain ⟨fn, b1, b2, b3⟩ := hM.body f ams hsg
 refine callK_ok hM hk fun e he a w g hg => ⟨nt, e, a, Spill.refl hg, as.toList, ?_, ?_⟩
 ·have hops : o.op.operands = #[.func f] ++ as := by rw [ho]; simp [Op.operands, Call.operands]
  simp only [Env.views, Oper.opds, hops, Array.toList_append, List.map_append, List.map_cons, List.map_nil, List.singleton_append, List.cons.injEq] at he
  exact he.2
 ·rw [exec_enter (fv := []) (cv := []) b1 b2 b3 ho rfl]
  simp
theorem fs_at {S : Nat → Prop} {w : World} : ∀ {l : List KV} {vs : List Value}, FsRep S w l vs → vs.length = l.length ∧ ∀ (i : Nat) q v, l[i]? = some q → vs[i]? = some v → ∃ cs, RO S w q.1 q.2 cs ∧ VRep q.1 cs v
 | [], _, h => by rw [show _ = _ from h]; exact ⟨rfl, fun i q v h => by simp at h⟩
 | ⟨K, x⟩ :: l, _, ⟨v, r, rfl, h1, h2⟩ => by
  obtain ⟨i1, i2⟩ := fs_at h2
  refine ⟨by simp [i1], fun i q u hq hu => ?_⟩
  cases i with
  | zero => simp at hq hu; subst hq; subst hu; exact h1
  | succ i => exact i2 i q u (by simpa using hq) (by simpa using hu)
def Cap.slot : Cap → Slot
 | .rp K x => .rp K x
 | .pt id n => .pt id n []
theorem caps_at {P : Program} {g : Gh} {w : World} {ob : Nat → Option (Option Obj)} : ∀ {l : List Cap} {vs : List Value}, CapsOk g w ob l vs → vs.length = l.length ∧ ∀ (i : Nat) q v, l[i]? = some q → vs[i]? = some v → SlotRep P g w ob q.slot v
 | [], _, h => by rw [show _ = _ from h]; exact ⟨rfl, fun i q v h => by simp at h⟩
 | c :: l, _, ⟨v, r, rfl, h1, h2⟩ => by
  obtain ⟨i1, i2⟩ := caps_at (P := P) h2
  refine ⟨by simp [i1], fun i q u hq hu => ?_⟩
  cases i with
  | zero =>
   simp at hq hu; subst hq; subst hu
   cases c <;> exact h1
  | succ i => exact i2 i q u (by simpa using hq) (by simpa using hu)
theorem map_idx {α β : Type} {f : Nat → β} {g : α → β} : ∀ {l : List α} {N : Nat}, (∀ (j : Nat) x, l[j]? = some x → f (N + j) = g x) → (List.range' N l.length).map f = l.map g
 | [], _, _ => rfl
 | x :: l, N, h => by
  rw [List.length_cons, List.range'_succ, List.map_cons, List.map_cons]
  congr 1
  ·exact h 0 x rfl
  ·exact map_idx (N := N + 1) fun j y hy => by have := h (j + 1) y (by simpa using hy); rwa [show N + 1 + j = N + (j + 1) by omega]
theorem tmps_mem : ∀ {l : List Operand} {t : Nat}, Operand.tmp t ∈ l → t ∈ tmpsOf l
 | .tmp u :: l, t, h => by
  rcases List.mem_cons.1 h with h | h
  ·cases h; exact List.mem_cons_self
  ·exact List.mem_cons_of_mem _ (tmps_mem h)
 | .const _ :: l, t, h => by
  rcases List.mem_cons.1 h with h | h
  ·cases h
  ·exact tmps_mem (l := l) h
 | .global _ :: l, t, h => by
  rcases List.mem_cons.1 h with h | h
  ·cases h
  ·exact tmps_mem (l := l) h
 | .func _ :: l, t, h => by
  rcases List.mem_cons.1 h with h | h
  ·cases h
  ·exact tmps_mem (l := l) h
theorem ok_callvG {mds : List (Nat × Md)} {f : Nat} {fs : List KV} {l : List CapV} {x : Operand} {as : Array Operand} {ts : Array Nat} {v0 : View} {vs : List View} (hM : MOk c) (ho : o.op = .call { callee := .value x, args := as, argTypes := ts })
  (hv0 : ∀ (e : Env) a w g, InvG c.P B nt e a w g → e.view (e.opd x) = v0 → ∃ caps, l = caps.map e.cap ∧ FvRep g w e.obj f fs caps (a.eval x))
  (hk : callK c nt mds o.dst fr f (fvTs fs ts.toList l) (fvVs fs vs l) k = some out) : Step1 c B nt o (v0 :: vs) fr k out := by
 have hsg : ∃ ams, ams ∈ c.sg f := by
  unfold callK at hk
  split at hk
  ·cases hk
  ·rename_i ams h; exact ⟨ams, List.mem_of_find?_eq_some h⟩
 obtain ⟨ams, hsg⟩ := hsg
 obtain ⟨fn, b1, b2, b3⟩ := hM.body f ams hsg
 refine callK_ok hM hk fun e he a w g hg => ?_
 have hops : o.op.operands = #[x] ++ as := by rw [ho]; simp [Op.operands, Call.operands]
 simp only [Env.views, Oper.opds, hops, Array.toList_append, List.map_append, List.map_cons, List.map_nil, List.singleton_append, List.cons.injEq] at he
 obtain ⟨e1, e2⟩ := he
 obtain ⟨caps, rfl, fv, cv, h1, h2, h3⟩ := hv0 e a w g hg e1
 obtain ⟨f1, f2⟩ := fs_at h2
 obtain ⟨c1, c2⟩ := caps_at (P := c.P) h3
 let L : List (Slot × Value) := (fs.map fun q => Slot.v q.1 q.2).zip fv ++ (caps.map Cap.slot).zip cv
 have L1 : ((fs.map fun q => Slot.v q.1 q.2).zip fv).length = fs.length := by simp [f1]
 have L2 : ((caps.map Cap.slot).zip cv).length = caps.length := by simp [c1]
 have La : ∀ (j : Nat) q, fs[j]? = some q → ∃ v, fv[j]? = some v ∧ L[j]? = some (.v q.1 q.2, v) := by
  intro j q hq
  have hj : j < fs.length := (List.getElem?_eq_some_iff.1 hq).1
  refine ⟨fv[j]'(by omega), by simp, ?_⟩
  show (_ ++ _)[j]? = _
  rw [List.getElem?_append_left (by omega), List.getElem?_zip_eq_some]
  simp [hq]
 have Lb : ∀ (j : Nat) q, caps[j]? = some q → ∃ v, cv[j]? = some v ∧ L[fs.length + j]? = some (q.slot, v) := by
  intro j q hq
  have hj : j < caps.length := (List.getElem?_eq_some_iff.1 hq).1
  refine ⟨cv[j]'(by omega), by simp, ?_⟩
  show (_ ++ _)[fs.length + j]? = _
  rw [List.getElem?_append_right (by omega), L1, show fs.length + j - fs.length = j by omega, List.getElem?_zip_eq_some]
  simp [hq]
 have hL : ∀ q, q ∈ L → SlotRep c.P g w e.obj q.1 q.2 := by
  intro q hq
  rcases List.mem_append.1 hq with hq | hq
  ·obtain ⟨i, hi⟩ := List.getElem?_of_mem hq
   rw [List.getElem?_zip_eq_some] at hi
   rw [List.getElem?_map, Option.map_eq_some_iff] at hi
   obtain ⟨⟨kv, k1, k2⟩, k3⟩ := hi
   rw [← k2]
   exact f2 i kv q.2 k1 k3
  ·obtain ⟨i, hi⟩ := List.getElem?_of_mem hq
   rw [List.getElem?_zip_eq_some] at hi
   rw [List.getElem?_map, Option.map_eq_some_iff] at hi
   obtain ⟨⟨kv, k1, k2⟩, k3⟩ := hi
   rw [← k2]
   exact c2 i kv q.2 k1 k3
 obtain ⟨N, nt', e', a', hsp, s1, s2⟩ := spill hg L hL (tmpsOf as.toList)
 have hview : ∀ s, e'.view s = e.view s := by
  intro s
  have hoo : e'.obj = e.obj := by funext i; show look e'.objs i = look e.objs i; rw [hsp.objs]
  unfold Env.view
  have hcap : e'.cap = e.cap := by funext c; cases c <;> simp [Env.cap, hoo]
  split <;> simp only [hoo, hcap]
 have sa : ∀ y, y ∈ as.toList → e'.opd y = e.opd y ∧ a'.eval y = a.eval y := fun y hy => s1 y fun t ht => tmps_mem (ht ▸ hy)
 refine ⟨nt', e', a', hsp, (List.range' N fs.length).map Operand.tmp ++ (as.toList ++ (List.range' (N + fs.length) caps.length).map Operand.tmp), ?_, ?_⟩
 ·rw [List.map_append, List.map_append, List.map_map, List.map_map]
  show _ = fs.map _ ++ (vs ++ (caps.map e.cap).map capView)
  congr 1
  ·refine map_idx fun j q hq => ?_
   obtain ⟨v, _, k2⟩ := La j q hq
   show e'.view (e'.opd (.tmp (N + j))) = _
   rw [(s2 j _ k2).1]
   rfl
  ·congr 1
   ·rw [← e2]
    exact List.map_congr_left fun y hy => by rw [hview, (sa y hy).1]
   ·rw [List.map_map]
    refine map_idx fun j q hq => ?_
    obtain ⟨v, _, k2⟩ := Lb j q hq
    show e'.view (e'.opd (.tmp (N + fs.length + j))) = _
    rw [Nat.add_assoc, (s2 _ _ k2).1, hview]
    cases q <;> rfl
 ·rw [exec_enter b1 b2 b3 ho h1, List.map_append, List.map_append, List.map_map, List.map_map]
  congr 4
  ·rw [← List.map_id fv, ← f1]
   refine (map_idx fun j v hv => ?_).symm
   obtain ⟨v', k1, k2⟩ := La j (fs[j]'(by have := (List.getElem?_eq_some_iff.1 hv).1; omega)) (by simp)
   rw [hv] at k1
   cases k1
   exact (s2 j _ k2).2
  ·congr 1
   ·exact List.map_congr_left fun y hy => (sa y hy).2.symm
   ·rw [← List.map_id cv, ← c1]
    refine (map_idx fun j v hv => ?_).symm
    obtain ⟨v', k1, k2⟩ := Lb j (caps[j]'(by have := (List.getElem?_eq_some_iff.1 hv).1; omega)) (by simp)
    rw [hv] at k1
    cases k1
    show a'.eval (.tmp (N + fs.length + j)) = _
    rw [Nat.add_assoc]
    exact (s2 _ _ k2).2
theorem ok_callv {mds : List (Nat × Md)} {f : Nat} {fs : List KV} {l : List CapV} {x : Operand} {as : Array Operand} {ts : Array Nat} {q : Option Obj} {vs : List View} (hM : MOk c) (ho : o.op = .call { callee := .value x, args := as, argTypes := ts })
  (hk : callK c nt mds o.dst fr f (fvTs fs ts.toList l) (fvVs fs vs l) k = some out) : Step1 c B nt o ((.fvr f fs l, q) :: vs) fr k out :=
 ok_callvG hM ho (fun _ _ _ _ hg e1 => view_fv hg e1) hk
theorem kvs_ts {P : Program} {e : Env} {a : Act} {w : World} {g : Gh} (hg : InvG P B nt e a w g) : ∀ {xs : List Operand} {vs : List View} {l : List KV} {Ks : List Kd} {r : Kd.Ts Ks}, xs.map (fun x => e.view (e.opd x)) = vs → kvs vs = some l → mkTs Ks l = some r → TsRep g.S w Ks r (xs.map a.eval)
 | [], vs, l, Ks, r, hv, hk, hm => by
  rw [List.map_nil] at hv
  subst hv
  simp only [kvs, Option.some.injEq] at hk
  subst hk
  cases Ks with
  | nil => rfl
  | cons _ _ => simp [mkTs] at hm
 | x :: xs, vs, l, Ks, r, hv, hk, hm => by
  cases vs with
  | nil => cases hv
  | cons v vs =>
   simp only [List.map_cons, List.cons.injEq] at hv
   unfold kvs at hk
   split at hk
   ·rename_i K z q l' h2
    cases hk
    cases Ks with
    | nil => simp [mkTs] at hm
    | cons K0 Ks =>
     unfold mkTs at hm
     split at hm
     ·rename_i hb
      have := Kd.eq_of_beq hb
      subst this
      split at hm
      ·rename_i r' hr'
       cases hm
       obtain ⟨cs, h3, h4⟩ := view_rep hg hv.1
       exact ⟨_, _, cs, rfl, h3, h4, kvs_ts hg hv.2 h2 hr'⟩
      ·cases hm
     ·cases hm
   ·cases hk
theorem ok_clo {Ks : List Kd} {Kr : Kd} {f : Kd.Ts Ks → Option Kr.T} {x : Operand} {as : Array Operand} {ts : Array Nat} {q : Option Obj} {vs : List View} (ho : o.op = .call { callee := .value x, args := as, argTypes := ts })
  (hk : cloK nt o.dst Ks Kr f vs k = some out) : Step1 c B nt o ((.clo Ks Kr f, q) :: vs) fr k out := by
 unfold cloK at hk
 split at hk
 ·cases hk
 ·rename_i l hl
  split at hk
  ·cases hk
  ·rename_i r hr
   cases hf : f r with
   | none => rw [hf] at hk; cases hk
   | some y =>
    rw [hf] at hk
    have hk : put1 nt o.dst (.v Kr y) k = some out := hk
    have key : ∀ e : Env, (e.views o = (.clo Ks Kr f, q) :: vs ∧ fresh e o.dst = fr) → ∀ a w g, InvG c.P B nt e a w g → ∀ (next : Act → World → Prop) (Q : Exit → Act → World → Prop),
      (∀ v w' g', InvG c.P B nt e a w' g' → SlotRep c.P g' w' e.obj (.v Kr y) v → next (a.put o.dst v) w') → o.wp c.P a w next Q := by
     intro e he a w g hg next Q hn
     have hops : o.op.operands = #[x] ++ as := by rw [ho]; simp [Op.operands, Call.operands]
     have he1 := he.1
     simp only [Env.views, Oper.opds, hops, Array.toList_append, List.map_append, List.map_cons, List.map_nil, List.singleton_append, List.cons.injEq] at he1
     obtain ⟨e1, e2⟩ := he1
     obtain ⟨fid, fv, cv, h1, ⟨fn, b1, b2, b3⟩, hcall⟩ := view_rep hg e1
     unfold Oper.wp
     rw [exec_enter b1 b2 b3 ho h1, Oper.upon_enter]
     have hts := kvs_ts hg e2 hl hr
     have := hcall g.S w (fun _ h => h) hg.Ssz (fun _ _ _ _ h => h) hg.globw r y _ hf hts
     refine this.mono ?_
     rintro ee w2 ⟨v, rfl, hx, S', s1, s2, s3, cs, s4, s5⟩
     have hI := hg.grow hx
     refine hn v w2 _ hI ⟨cs, s4.mono (fun b hb => ?_) (fun _ _ _ _ h => h), s5⟩
     rcases s2 b hb with h | h
     ·exact .inl h
     ·exact .inr ⟨h, s3 b hb⟩
    unfold put1 at hk
    split at hk
    ·rename_i hd
     refine ⟨_, hk, fun e he a w ⟨g, hg⟩ next Q hn => key e he a w g hg next Q fun v w' g' hI _ => ?_⟩
     rw [hd]
     exact hn _ _ ⟨g', hI⟩
    ·rename_i d hd
     split at hk
     ·rename_i hlt
      refine ⟨_, hk, fun e he a w ⟨g, hg⟩ next Q hn => key e he a w g hg next Q fun v w' g' hI hs => ?_⟩
      rw [hd]
      exact hn _ _ ⟨g', hI.put (Nat.le_of_ble_eq_true hlt) hs⟩
     ·cases hk
end
end Go.Abs
namespace Go.Abs
variable {B : Base}
def keyD : Kd → TypeDesc
 | .int k => .int k
 | _ => .string
theorem keyD_ok {P : Program} {ty : List (Nat × Kd)} {t : Nat} {k : Kd} (h : TyOk P ty t k) (hk : keyK k = true) : P.underlying t = some (keyD k) := by
 cases k with
 | int i => exact h.int i rfl
 | str => exact h.str rfl
 | _ => cases hk
theorem isKey_ok {k : Kd} {x : k.T} {v : Value} (h : KRep k x v) : MapKept.IsKey (keyD k) v := by
 cases k with
 | int i => rw [show v = _ from h]; exact rfl
 | str => rw [show v = _ from h]; exact trivial
 | _ => exact h.elim
theorem krep_view {k : Kd} {x : k.T} {cs : List Value} {v : Value} {S : Nat → Prop} {w : World} (hk : keyK k = true) (h : RO S w k x cs) (hv : VRep k cs v) : KRep k x v := by
 cases k with
 | int i => rw [show cs = _ from h] at hv; exact hv.1
 | str => rw [show cs = _ from h] at hv; exact hv.1
 | _ => cases hk
theorem sameNow_ok {k : Kd} {x y : k.T} {v u : Value} (h1 : KRep k x v) (h2 : KRep k y u) : Instr.sameNow (keyD k) v u = some (keq k x y) := by
 cases k with
 | int i =>
  rw [show v = _ from h1, show u = _ from h2]
  show (if i = i then some ((x : Int) == y) else none) = _
  rw [if_pos rfl]
  rfl
 | str =>
  rw [show v = _ from h1, show u = _ from h2]
  show some ((x : ByteArray) == y) = some (decide ((x : ByteArray) = y))
  congr 1
  rw [Bool.eq_iff_iff, decide_eq_true_iff]
  exact MapKept.bytes_beq _ _
 | _ => exact h1.elim
theorem findNow_ok {k e : Kd} {x : k.T} {v : Value} (hx : KRep k x v) : ∀ (l : List MapEntry) (xs : List (k.T × e.T)) (i : Nat), l.length = xs.length → (∀ j (h1 : j < l.length) (h2 : j < xs.length), KRep k xs[j].1 l[j].key) →
  Instr.findNow (keyD k) v l i = some ((mIdx k e xs x).map fun j => (i + j, (l.getD j ⟨undef, undef, 0⟩).val))
 | [], [], i, _, _ => rfl
 | [], _ :: _, _, h, _ => by cases h
 | _ :: _, [], _, h, _ => by cases h
 | en :: l, q :: xs, i, hl, hk => by
  have h0 : KRep k q.1 en.key := hk 0 (Nat.zero_lt_succ _) (Nat.zero_lt_succ _)
  have ih := findNow_ok hx l xs (i + 1) (by simpa using hl) (fun j h1 h2 => hk (j + 1) (Nat.succ_lt_succ h1) (Nat.succ_lt_succ h2))
  unfold Instr.findNow
  rw [sameNow_ok hx h0]
  unfold mIdx
  rw [List.findIdx?_cons]
  cases hq : keq k x q.1 with
  | true => simp
  | false =>
   dsimp only
   rw [ih]
   unfold mIdx
   cases xs.findIdx? (fun q => keq k x q.1) with
   | none => rfl
   | some j => simp [Nat.add_assoc, Nat.add_comm 1 j]
theorem mIdx_get {k e : Kd} {xs : List (k.T × e.T)} {x : k.T} {j : Nat} (h : mIdx k e xs x = some j) : ∃ hj : j < xs.length, mget k e xs x = some xs[j].2 ∧ keq k x xs[j].1 = true := by
 unfold mIdx at h
 obtain ⟨hj, h1, h2⟩ := List.findIdx?_eq_some_iff_getElem.1 h
 refine ⟨hj, ?_, h1⟩
 unfold mget
 have : xs.find? (fun q => keq k x q.1) = some xs[j] := by
  rw [List.find?_eq_some_iff_getElem]
  exact ⟨h1, j, hj, rfl, fun i hi => by have := h2 i hi; simpa using this⟩
 rw [this]; rfl
theorem mIdx_none {k e : Kd} {xs : List (k.T × e.T)} {x : k.T} (h : mIdx k e xs x = none) : mget k e xs x = none := by
 unfold mIdx at h
 rw [List.findIdx?_eq_none_iff] at h
 unfold mget
 rw [List.find?_eq_none.2 (fun q hq => by have := h q hq; simp [this])]
 rfl
def MapAt (R : (e : Kd) → e.T → List Value → Nat → Prop) (w : World) (k e : Kd) (xs : List (k.T × e.T)) (r : Nat) (es : Array MapEntry) (c : Nat) : Prop :=
 w.pk r 0 = some (.inr (es, c)) ∧ es.size = xs.length ∧ ∀ i (h : i < xs.length), ∃ en vs, es[i]? = some en ∧ KRep k xs[i].1 en.key ∧ VRep e vs en.val ∧ R e xs[i].2 vs i
theorem MapAt.find {R : (e : Kd) → e.T → List Value → Nat → Prop} {w : World} {k e : Kd} {xs : List (k.T × e.T)} {r : Nat} {es : Array MapEntry} {c : Nat} (h : MapAt R w k e xs r es c) {P : Program} {tk : Nat}
  (ht : P.underlying tk = some (keyD k)) {x : k.T} {v : Value} (hx : KRep k x v) : (Instr.findKey tk v es.toList).run P w = .ok ((mIdx k e xs x).map fun j => (j, (es.toList.getD j ⟨undef, undef, 0⟩).val)) w := by
 refine MapKept.run_findKey ht ?_
 have := findNow_ok hx es.toList xs 0 (by simpa using h.2.1) (fun j h1 h2 => by
  obtain ⟨en, vs, e1, e2, _⟩ := h.2.2 j h2
  have e3 : es.toList[j] = en := by
   have h3 : j < es.size := by simpa using h1
   rw [Array.getElem?_eq_getElem h3] at e1
   simpa using e1
  rw [e3]
  exact e2)
 simpa using this
def MRead (S : Nat → Prop) (w : World) (k e : Kd) (xs : List (k.T × e.T)) (m : Value) : Prop :=
 (m = .map none ∧ xs = []) ∨ ∃ r es c, m = .map (some r) ∧ MapAt (fun e y vs _ => RO S w e y vs) w k e xs r es c
theorem MRead.of_ro {S : Nat → Prop} {w : World} {k e : Kd} {xs : List (k.T × e.T)} {cs : List Value} {v : Value} (h : RO S w (.mp k e) xs cs) (hv : VRep (.mp k e) cs v) : MRead S w k e xs v := by
 rcases h with ⟨rfl, h⟩ | ⟨r, es, c, rfl, _, h⟩
 ·exact .inl ⟨hv.1, h⟩
 ·exact .inr ⟨r, es, c, hv.1, h⟩
theorem MRead.of_own {S : Nat → Prop} {w : World} {k e : Kd} {xs : List (k.T × e.T)} {cs : List Value} {v : Value} {F : Nat → Prop} (h : Own S w (.mp k e) (.own .ro) xs cs F) (hv : VRep (.mp k e) cs v) : MRead S w k e xs v := by
 obtain ⟨r, es, c, rfl, _, h1, h2, G, _, _, _, h3⟩ := h
 refine .inr ⟨r, es, c, hv.1, h1, h2, fun i hi => ?_⟩
 obtain ⟨en, vs, a1, a2, a3, a4⟩ := h3 i hi
 exact ⟨en, vs, a1, a2, a3, Own.ro.1 a4⟩
theorem run_lookup {P : Program} {ty : List (Nat × Kd)} {t : Nat} {k e : Kd} {m : Value} {v : Value} {w : World} {S : Nat → Prop} {xs : List (k.T × e.T)} {x : k.T} (hty : TysOk P ty) (hT : TyOk P ty t (.mp k e))
  (hm : MRead S w k e xs m) (hx : KRep k x v) (ok : Bool) : ∃ u cs, (Instr.lookup t m v ok).run P w = .ok (if ok = true then .tuple #[u, .bool (mget k e xs x).isSome] else u) w ∧
   RO S w e ((mget k e xs x).getD e.zero) cs ∧ VRep e cs u := by
 obtain ⟨tk, te, hu, hk, hlk, hle⟩ := hT.mp k e rfl
 have htk := keyD_ok (hty.get hlk) hk
 obtain ⟨z, hz1, hz2, hz3⟩ := (hty.get hle).zero w
 rcases hm with ⟨rfl, rfl⟩ | ⟨r, es, c, rfl, hM⟩
 ·refine ⟨z, e.zc, ?_, RO.zero e, hz3, hz2⟩
  have hf : (Instr.findKey tk v (#[] : Array MapEntry).toList).run P w = .ok none w := MapKept.run_findKey htk rfl
  unfold Instr.lookup
  simp only [Sem.run_bind, run_underlying hu, Result.andThen_ok, Sem.run_pure, MapKept.run_checkKey htk (isKey_ok hx), hf, hz1]
  rfl
 ·obtain ⟨hp, hl, hx2⟩ := hM
  have hM : MapAt (fun e y vs _ => RO S w e y vs) w k e xs r es c := ⟨hp, hl, hx2⟩
  have hf := hM.find (P := P) htk hx
  cases hi : mIdx k e xs x with
  | none =>
   rw [hi] at hf
   refine ⟨z, e.zc, ?_, ?_, hz3, hz2⟩
   ·unfold Instr.lookup
    simp only [Sem.run_bind, run_underlying hu, Result.andThen_ok, Sem.run_pure, MapKept.run_getObj_map (pk_inr.1 hp), MapKept.run_checkKey htk (isKey_ok hx), hf, Option.map_none, hz1, mIdx_none hi]
    rfl
   ·rw [mIdx_none hi]; exact RO.zero e
  | some j =>
   rw [hi] at hf
   obtain ⟨hj, h1, _⟩ := mIdx_get hi
   obtain ⟨en, vs, e2, e3, e4, e5⟩ := hx2 j hj
   have hen : es.toList.getD j ⟨undef, undef, 0⟩ = en := by
    rw [List.getD_eq_getElem?_getD, Array.getElem?_toList, e2]; rfl
   refine ⟨en.val, vs, ?_, ?_, e4⟩
   ·unfold Instr.lookup
    simp only [Sem.run_bind, run_underlying hu, Result.andThen_ok, Sem.run_pure, MapKept.run_getObj_map (pk_inr.1 hp), MapKept.run_checkKey htk (isKey_ok hx), hf, Option.map_some, hen, h1]
    rfl
   ·rw [h1]; exact e5
theorem own_put {S : Nat → Prop} {w : World} {k e : Kd} {xs : List (k.T × e.T)} {m : Value} {F : Nat → Prop} (ho : Own S w (.mp k e) (.own .ro) xs [m] F) {P : Program} {ty : List (Nat × Kd)} {t : Nat} (hty : TysOk P ty) (hT : TyOk P ty t (.mp k e))
  (hFS : ∀ b, F b → ¬ S b) {x : k.T} {kv : Value} (hx : KRep k x kv) {y : e.T} {cs : List Value} {v : Value} (hy : RO S w e y cs) (hv : VRep e cs v) :
  ∃ r es c es' c', m = .map (some r) ∧ F r ∧ w.heap[r]? = some (.map es c) ∧ (Instr.mapUpdate t m kv v).run P w = .ok () { w with heap := w.heap.setIfInBounds r (.map es' c') } ∧
   Own S { w with heap := w.heap.setIfInBounds r (.map es' c') } (.mp k e) (.own .ro) (mput k e xs x y) [m] F := by
 obtain ⟨tk, te, hu, hk, hlk, hle⟩ := hT.mp k e rfl
 have htk := keyD_ok (hty.get hlk) hk
 obtain ⟨r, es, c, e1, hF, hp, hl, G, hG, hG1, hG2, he⟩ := ho
 simp only [List.cons.injEq, and_true] at e1
 subst e1
 have hb := pk_inr.1 hp
 have hM : MapAt (fun e y vs _ => RO S w e y vs) w k e xs r es c := ⟨hp, hl, fun i hi => by
  obtain ⟨en, vs, a1, a2, a3, a4⟩ := he i hi
  exact ⟨en, vs, a1, a2, a3, Own.ro.1 a4⟩⟩
 have hf := hM.find (P := P) htk hx
 have keep : ∀ (es' : Array MapEntry) (c' : Nat), ∀ b o u, S b → w.pk b o = some u → ({ w with heap := w.heap.setIfInBounds r (.map es' c') } : World).pk b o = some u := by
  intro es' c' b o u hS hu
  have hne : b ≠ r := fun e => hFS r hF (e ▸ hS)
  rw [pk_same (w := w) ((MapKept.heap_set hb).2 b hne)]
  exact hu
 have done : ∀ (es' : Array MapEntry) (c' : Nat) (ys : List (k.T × e.T)), es'.size = ys.length → (∀ i (h : i < ys.length), ∃ en vs, es'[i]? = some en ∧ KRep k ys[i].1 en.key ∧ VRep e vs en.val ∧ RO S w e ys[i].2 vs) →
   Own S { w with heap := w.heap.setIfInBounds r (.map es' c') } (.mp k e) (.own .ro) ys [.map (some r)] F := by
  intro es' c' ys h1 h2
  refine ⟨r, es', c', rfl, hF, pk_inr.2 (MapKept.heap_set hb).1, h1, fun _ _ => False, fun _ _ h => h.elim, fun _ h => h, fun _ _ _ _ h => h.elim, fun i hi => ?_⟩
  obtain ⟨en, vs, a1, a2, a3, a4⟩ := h2 i hi
  exact ⟨en, vs, a1, a2, a3, Own.ro.2 (a4.mono (fun _ h => h) (keep es' c'))⟩
 cases hi : mIdx k e xs x with
 | none =>
  refine ⟨r, es, c, es.push { key := kv, val := v, born := c }, c + 1, rfl, hF, hb, ?_, ?_⟩
  ·rw [hi] at hf
   simp [Instr.mapUpdate, run_underlying hu, MapKept.run_getObj_map hb, MapKept.run_checkKey htk (isKey_ok hx), hf, MapKept.run_setObj_map _ hb, Result.andThen]
  ·unfold mput
   rw [hi]
   refine done _ _ _ (by simp [hl]) fun i h => ?_
   by_cases hlt : i < xs.length
   ·obtain ⟨en, vs, a1, a2, a3, a4⟩ := hM.2.2 i hlt
    refine ⟨en, vs, ?_, ?_, a3, ?_⟩
    ·rw [Array.getElem?_push, if_neg (by omega)]; exact a1
    ·simp only [List.getElem_append_left hlt]; exact a2
    ·simp only [List.getElem_append_left hlt]; exact a4
   ·have hie : i = xs.length := by simp at h; omega
    subst hie
    refine ⟨{ key := kv, val := v, born := c }, cs, ?_, ?_, hv, ?_⟩
    ·rw [Array.getElem?_push, if_pos (by omega)]
    ·simp; exact hx
    ·simp; exact hy
 | some j =>
  obtain ⟨hj, h1, h2⟩ := mIdx_get hi
  obtain ⟨en, vs, a1, a2, a3, a4⟩ := hM.2.2 j hj
  have hkk : en.key = kv := by
   have h3 := sameNow_ok hx a2
   rw [h2] at h3
   obtain ⟨r9, h4, h5⟩ := MapKept.sameNow_of_keys (isKey_ok hx) (isKey_ok a2)
   rw [h4] at h3
   simp only [Option.some.injEq] at h3
   exact (h5.1 h3).symm
  refine ⟨r, es, c, es.modify j fun q => { q with key := kv, val := v }, c, rfl, hF, hb, ?_, ?_⟩
  ·rw [hi] at hf
   simp [Instr.mapUpdate, run_underlying hu, MapKept.run_getObj_map hb, MapKept.run_checkKey htk (isKey_ok hx), hf, MapKept.run_setObj_map _ hb, Result.andThen, a1, hkk, MapKept.run_keyThatStays (isKey_ok hx)]
  ·unfold mput
   rw [hi]
   refine done _ _ _ (by simp [hl]) fun i h => ?_
   rw [List.length_set] at h
   obtain ⟨en', vs', b1, b2, b3, b4⟩ := hM.2.2 i h
   by_cases hij : j = i
   ·subst hij
    refine ⟨{ en with key := kv, val := v }, cs, ?_, ?_, hv, ?_⟩
    ·rw [Array.getElem?_modify, if_pos rfl, a1]; rfl
    ·simp; exact hx
    ·simp; exact hy
   ·refine ⟨en', vs', ?_, ?_, b3, ?_⟩
    ·rw [Array.getElem?_modify, if_neg hij]; exact b1
    ·simp only [List.getElem_set_ne hij]; exact b2
    ·simp only [List.getElem_set_ne hij]; exact b4
theorem rdm_rep {P : Program} {nt : Nat} {e : Env} {a : Act} {w : World} {g : Gh} (h : InvG P B nt e a w g) {x : Operand} {v : View} {kk el : Kd} {xs : List (kk.T × el.T)}
  (hv : e.view (e.opd x) = v) (hr : rdm v = some ⟨.mp kk el, xs⟩) : MRead g.S w kk el xs (a.eval x) := by
 unfold rdm at hr
 split at hr
 ·rename_i K z q
  simp only [Option.some.injEq, Sigma.mk.injEq] at hr
  obtain ⟨rfl, hz⟩ := hr
  cases hz
  obtain ⟨cs, r1, r2⟩ : ∃ cs, RO g.S w (.mp kk el) xs cs ∧ VRep (.mp kk el) cs (a.eval x) := view_rep h hv
  exact .of_ro r1 r2
 ·rename_i id n p o
  split at hr
  ·rename_i hc
   rw [Bool.and_eq_true] at hc
   split at hr
   ·rename_i k e' z hg
    simp only [Option.some.injEq, Sigma.mk.injEq, Kd.mp.injEq] at hr
    obtain ⟨⟨rfl, rfl⟩, hz⟩ := hr
    cases hz
    obtain ⟨q, cs', K', m', x', F', h1, h2, h3, f⟩ := al_focus h hv hc.1 hc.2
    rw [h1] at hg
    cases hg
    exact .of_own f.own h3
   ·cases hr
  ·cases hr
 ·cases hr
section
variable {c : Ctx} {nt : Nat} {o : Oper} {Ω : Type} {k : Delta → Option Ω} {out : Ω} {fr : Bool}
theorem ok_makeMap {t : Nat} {kk e : Kd} {m : Md} (ho : o.op = .makeMap t none)
  (hk : putNew nt o.dst fr ⟨.mp kk e, .own m, [], false, false, [], none⟩ false [] k = some out) : Step1 c B nt o [] fr k out := by
 refine step_new (mv := []) hk rfl rfl rfl fun e0 he a w g hg => ?_
 refine ⟨.map (some w.heap.size), w.alloc (.map #[] 0), fun b => b = w.heap.size, none, [.map (some w.heap.size)], ?_, Ext.alloc _ _ _, (fun i h => by cases h),
  fun b hb => .inl ⟨by omega, by rw [World.size_alloc]; omega⟩, (fun b off h => by cases h), ⟨?_, (fun b off h => by cases h)⟩, rfl, rfl, rfl⟩
 ·simp [execOp, ho, Instr.makeMap, Result.andThen]
 ·exact ⟨w.heap.size, #[], 0, rfl, rfl, pk_inr.2 (MapKept.heap_alloc w _).1, rfl, fun _ _ => False, fun _ _ h => h.elim, fun _ h => h, fun _ _ _ _ h => h.elim, fun i h => absurd h (Nat.not_lt_zero _)⟩
theorem ok_lookup {t : Nat} {x y : Operand} {ok : Bool} {kk e : Kd} {xs : List (kk.T × e.T)} {z : kk.T} {v : View} {q : Option Obj} (hc : CtxOk c) (ho : o.op = .lookup t x y ok) (ht : tyIs c t (.mp kk e) = true) (hv : rdm v = some ⟨.mp kk e, xs⟩)
  (hk : put1 nt o.dst (if ok = true then .tup [.v e ((mget kk e xs z).getD e.zero), .v .bool (mget kk e xs z).isSome] else .v e ((mget kk e xs z).getD e.zero)) k = some out) : Step1 c B nt o [v, (.v kk z, q)] fr k out := by
 obtain ⟨hT, _⟩ := tyIs_ok hc.ty ht
 obtain ⟨tk, te, hu, hkk, hlk, hle⟩ := hT.mp kk e rfl
 refine stepOk_pure hk fun e0 he a w g hg => ?_
 obtain ⟨v1, v2⟩ := views_two he.1 (x := x) (y := y) (by rw [ho]; rfl)
 obtain ⟨cs2, r1, r2⟩ : ∃ cs, RO g.S w kk z cs ∧ VRep kk cs (a.eval y) := view_rep hg v2
 have hm := rdm_rep hg v1 hv
 obtain ⟨u, cs, h1, h2, h3⟩ := run_lookup hc.ty hT hm (krep_view hkk r1 r2) ok
 refine ⟨if ok = true then .tuple #[u, .bool (mget kk e xs z).isSome] else u, ?_, ?_⟩
 ·simp only [execOp, ho, Sem.run_bind, h1, Result.andThen_ok, Sem.run_pure]
 ·cases ok with
  | true => exact ⟨#[u, .bool (mget kk e xs z).isSome], rfl, u, _, rfl, ⟨cs, h2, h3⟩, _, _, rfl, ⟨_, rfl, rfl, rfl⟩, rfl⟩
  | false => exact ⟨cs, h2, h3⟩
theorem ok_lenmap {ts : Array Nat} {t : Nat} {v : View} {kk e : Kd} {xs : List (kk.T × e.T)} (hc : CtxOk c) (ho : ∃ as, o.op = .call { callee := .builtin .len, args := as, argTypes := ts }) (hv : rdv v = some ⟨.mp kk e, xs⟩) (hts : ts.toList = [t])
  (ht : tyIs c t (.mp kk e) = true) (h : put1 nt o.dst (.v (.int .i64) (List.length xs : Int)) k = some out) : Step1 c B nt o [v] fr k out := by
 obtain ⟨as, ho⟩ := ho
 refine stepOk_pure h fun e0 he a w g hg => ⟨.int .i64 (List.length xs : Int), ?_, rep_mk_int _ _ _ _ _ _⟩
 have hvs := he.1
 have hops : o.op.operands = as := by rw [ho]; simp [Op.operands, Call.operands]
 obtain ⟨x, has⟩ : ∃ x, as = #[x] := by
  simp only [Env.views, Oper.opds, hops] at hvs
  have hl : as.toList.length = 1 := by have := congrArg List.length hvs; simpa using this
  obtain ⟨x, hx⟩ := List.length_eq_one_iff.1 hl
  exact ⟨x, by apply Array.ext'; simpa using hx⟩
 subst has
 have v1 := views_one hvs (x := x) hops
 obtain ⟨cs, r1, r2⟩ := rdv_rep hg v1 hv
 have hts' : ts = #[t] := by apply Array.ext'; simpa using hts
 obtain ⟨hT, _⟩ := tyIs_ok hc.ty ht
 obtain ⟨tk, te, hu, _⟩ := hT.mp kk e rfl
 have key : (Builtin.len_ ts o.type #[a.eval x]).run c.P w = .ok (.int .i64 (List.length xs : Int)) w := by
  rcases r1 with ⟨rfl, e2⟩ | ⟨r, es, cl, rfl, _, hp, hl, _⟩
  ·have e1 : a.eval x = .map none := r2.1
   rw [hts', e1, show xs = [] from e2]
   simp [Builtin.len_, run_underlying hu, Result.andThen]
   rfl
  ·have e1 : a.eval x = .map (some r) := r2.1
   rw [hts', e1]
   simp [Builtin.len_, run_underlying hu, Result.andThen, MapKept.run_getObj_map (pk_inr.1 hp), hl]
   rfl
 have e4 : (#[x] : Array Operand).map a.eval = #[a.eval x] := by simp
 simp only [execOp, ho, resolve, e4, Sem.run_bind, Sem.run_pure, Result.andThen_ok, invoke, builtin, key]
theorem ok_mapUpdate {t id n : Nat} {x y z : Operand} {p : Path} {o2 : Obj} {kk e : Kd} {xs : List (kk.T × e.T)} {ky : kk.T} {vl : e.T} {m2 : Md} {x2 : o2.K.T} {q1 q2 : Option Obj} (hc : CtxOk c) (ho : o.op = .mapUpdate t x y z) (hd : o.dst = none)
  (ht : tyIs c t (.mp kk e) = true) (hh : noHole o2 = true) (hok : okAl o2 n p = true) (hg0 : getP o2.K o2.m o2.x p = some ⟨.mp kk e, .own .ro, xs⟩)
  (hm : setM o2.m p (.own .ro) = some m2) (hs : setP o2.K o2.x p (.mp kk e) (mput kk e xs ky vl) = some x2)
  (hk : k ⟨[], [(id, some { o2 with m := m2, x := x2, log := none :: o2.log })]⟩ = some out) : Step1 c B nt o [(.al id n p, some o2), (.v kk ky, q1), (.v e vl, q2)] fr k out := by
 obtain ⟨hT, _⟩ := tyIs_ok hc.ty ht
 obtain ⟨tk, te, hu, hkk, hlk, hle⟩ := hT.mp kk e rfl
 refine ⟨_, hk, fun e0 he => stepOk_skip hd fun a w g hg => ?_⟩
 obtain ⟨v1, v2, v3⟩ := views_three he.1 (x := x) (y := y) (z := z) (by rw [ho]; rfl)
 obtain ⟨cs2, r1, r2⟩ : ∃ cs, RO g.S w kk ky cs ∧ VRep kk cs (a.eval y) := view_rep hg v2
 obtain ⟨cs3, r3, r4⟩ : ∃ cs, RO g.S w e vl cs ∧ VRep e cs (a.eval z) := view_rep hg v3
 have hobj := view_al v1
 obtain ⟨q, cs', K', m', x', F', h1, h2, h3, f⟩ := al_focus hg v1 hh hok
 rw [h1] at hg0
 cases hg0
 have hcs : cs' = [a.eval x] := by
  obtain ⟨r, es, cl, rfl, _⟩ := f.own
  have := h3.1
  rw [this]; rfl
 have hFS : ∀ b, F' b → ¬ g.S b := fun b hb => hg.FS id b (f.sub b hb)
 have hown : Own g.S w (.mp kk e) (.own .ro) xs [a.eval x] F' := by rw [← hcs]; exact f.own
 obtain ⟨r, es, cl, es', cl', e1, hFr, hb, hrun, hnew⟩ := own_put hown (P := c.P) (t := t) hc.ty hT hFS (krep_view hkk r1 r2) r3 r4
 generalize hw2 : ({ w with heap := w.heap.setIfInBounds r (.map es' cl') } : World) = w2 at hrun hnew
 have hsz : w2.heap.size = w.heap.size := by rw [← hw2]; simp
 have hother : ∀ b, b ≠ r → w2.heap[b]? = w.heap[b]? := fun b hne => by rw [← hw2]; exact (MapKept.heap_set hb).2 b hne
 have hfz : ∀ b o, b ≠ r → w2.frozen? ⟨b, o, none⟩ = w.frozen? ⟨b, o, none⟩ := fun b o hne => by unfold World.frozen?; rw [hother b hne]
 have hx : Ext w w2 (fun b _ => b = r) :=
  ⟨by rw [← hw2], by rw [← hw2], by rw [← hw2], by rw [hsz]; exact Nat.le_refl _, fun b _ hne => hother b (hne 0), fun b o _ hne => ⟨pk_same (hother b hne), hfz b o hne⟩⟩
 have hgr : g.F id r := f.sub r hFr
 let gc : Gh := ⟨g.S, fun _ => F', fun _ => none, fun _ => cs'⟩
 have hlink : Link c.P g.S w g e0.obj (gc.F 0) (gc.pl 0) (gc.cs 0) .ms (.al id n p, some o2) (.ms (.mp kk e) (.own .ro) xs) (a.eval x) :=
  ⟨hobj, noHole_ok hh, hok, rfl, _, _, _, q, rfl, rfl, h3, h1, h2, f⟩
 have hout : OutAt w2 gc gc 0 id .ms (.al id n p, some o2) (.ms (.mp kk e) (.own .ro) xs) (some { o2 with m := m2, x := x2, log := none :: o2.log }) :=
  OutAt.ms (K := .mp kk e) (m := .own .ro) (z := xs) (y := mput kk e xs ky vl) h1 hm hs (by show Own g.S w2 _ _ _ cs' F'; rw [hcs]; exact hnew)
 obtain ⟨o9, csn, ho9, hO⟩ := out_ok hg hlink hout (Sn := g.S) (fun _ h => h) (fun b o v hS hv => by rw [pk_same (hother b fun e => hFS r hFr (e ▸ hS))]; exact hv)
  (fun b o _ hn _ => ⟨pk_same (hother b fun e => hn (e ▸ hFr)), hfz b o fun e => hn (e ▸ hFr)⟩) (fun _ _ _ _ _ _ h => h) (fun b h _ => h)
 refine ⟨w2, _, ?_, hg.called (outs := [(id, some { o2 with m := m2, x := x2, log := none :: o2.log })]) (Sn := g.S) (Fn := fun _ b => (g.F id b ∧ ¬ F' b) ∨ F' b) (csn := fun _ => csn) (W := fun b _ => b = r) hx ?_ (fun _ h => h) (fun _ h => .inl h) (fun b h => by rw [hsz]; exact hg.Ssz b h) ?_ ?_ ?_⟩
 ·simp only [execOp, ho, Sem.run_bind, hrun, Result.andThen_ok, Sem.run_pure]
 ·intro b o hbr
  exact ⟨id, o2, hobj, ⟨_, look_cons_self _ _ _⟩, .inr (hbr ▸ hgr)⟩
 ·intro b hS
  refine ⟨fun i _ hF => hg.FS i b hF hS, fun i o' _ hF => ?_, fun i off hp => (hg.plz i b off hp).2.1 hS⟩
  rcases hF with ⟨hF, _⟩ | hF
  ·exact hg.FS id b hF hS
  ·exact hFS b hF hS
 ·intro i o' hi b hF
  have hid : i = id := by
   by_cases h : i = id
   ·exact h
   ·rw [look_cons_ne (fun e => h e.symm)] at hi; cases hi
  have hgb : g.F id b := by
   rcases hF with ⟨hF, _⟩ | hF
   ·exact hF
   ·exact f.sub b hF
  refine ⟨.inl ⟨id, _, look_cons_self _ _ _, hgb⟩, by rw [hsz]; exact hg.Fsz id b hgb, fun j hj o3 h3 => ?_⟩
  rw [look_cons_ne (fun e => hj (by rw [← e, hid]))] at h3
  cases h3
 ·intro i r' hi
  have hid : i = id := by
   by_cases h : i = id
   ·exact h
   ·rw [look_cons_ne (fun e => h e.symm)] at hi; cases hi
  subst hid
  rw [look_cons_self] at hi
  cases hi
  exact ⟨o9, ho9, fun o' h => by cases h; exact hO⟩
end
end Go.Abs
namespace Go.Abs
variable {B : Base}
section
variable {c : Ctx} {nt : Nat} {o : Oper} {Ω : Type} {k : Delta → Option Ω} {out : Ω} {fr : Bool}
theorem ok_box_par {t id n d : Nat} {x : Operand} {ob : Obj} (hc : CtxOk c) (ho : o.op = .box t x) (hd : o.dst = some d) (hlt : Nat.blt d nt = true) (ht : (tyIs c t ob.K && noHole ob && okAl ob n [] && ob.par && !ob.box && stK ob.K) = true)
  (hk : k ⟨[(d, .pt id (ob.log.length + 1) [.inn])], [(id, some ⟨.st ob.K, ob.m, ob.x, true, true, none :: ob.log, none⟩)]⟩ = some out) : Step1 c B nt o [(.al id n [], some ob)] fr k out := by
 simp only [Bool.and_eq_true] at ht
 obtain ⟨⟨⟨⟨⟨h1, h2⟩, h3⟩, h4⟩, h5⟩, h6⟩ := ht
 have hbx : ob.box = false := by simpa using h5
 obtain ⟨kk, hKk⟩ : ∃ kk, ob.K = .st kk := by
  cases hK : ob.K with
  | st kk => exact ⟨kk, rfl⟩
  | _ => rw [hK] at h6; cases h6
 refine ⟨_, hk, fun e he => stepOk_value hd (Nat.le_of_ble_eq_true hlt) fun a w g hg => ?_⟩
 obtain ⟨r1, r2, r3⟩ := al_root hg (views_one he.1 (x := x) (by rw [ho]; rfl)) h2 h3
 obtain ⟨n1, n2⟩ := new_cells w (a.eval x).cells t
 have hx := Ext.alloc w (.cells (a.eval x).cells t) (fun _ _ => False)
 have O := hg.objs id ob r1
 have hpl : g.pl id = none := by
  have := O.box
  cases hq : g.pl id with
  | none => rfl
  | some q => rw [hq, hbx] at this; cases this
 have hpar : (B.hd id).1 = none ∧ g.cs id = (B.hd id).2 := by
  have := O.par h4
  unfold ParOk at this
  rw [hbx, Bool.false_and, if_neg (by simp)] at this
  exact ⟨by rw [← this.1, hpl], this.2 rfl⟩
 let ob' : Obj := ⟨.st ob.K, ob.m, ob.x, true, true, none :: ob.log, none⟩
 let g' : Gh := { g with pl := fun i => if i = id then some (w.heap.size, 0) else g.pl i }
 have hobj : ∀ i, (Env.mk e.slots ([(id, some ob')] ++ e.objs)).obj i = if i = id then some (some ob') else e.obj i := by
  intro i
  show look ((id, some ob') :: e.objs) i = _
  by_cases hi : i = id
  ·subst hi; rw [look_cons_self, if_pos rfl]
  ·rw [look_cons_ne (fun e => hi e.symm), if_neg hi]; rfl
 have eobj : (Env.mk e.slots ([(id, some ob')] ++ e.objs)).obj id = some (some ob') := by rw [hobj, if_pos rfl]
 have gp : g'.pl id = some (w.heap.size, 0) := if_pos rfl
 have gne : ∀ i, i ≠ id → g'.pl i = g.pl i := fun i hi => if_neg hi
 refine ⟨.pointer (some ⟨w.heap.size, 0, none⟩), w.alloc (.cells (a.eval x).cells t), g', ?_, ?_, ?_⟩
 ·simp only [execOp, ho, Instr.box, Sem.run_bind, newVar, newRow, run_newObj, Result.andThen_ok, Sem.run_pure]
  rfl
 ·refine hg.change (fun i => i = id) rfl (hg.ext.step hx (fun _ _ _ h => h.elim)) (fun _ h => h) (fun b o v _ hv => hx.same (fun h => h) hv)
   (fun b hb => Nat.lt_of_lt_of_le (hg.Ssz b hb) hx.size) (fun i b hb => Nat.lt_of_lt_of_le (hg.Fsz i b hb) hx.size) hg.Sb hg.Fb hg.FS hg.FF ?_ ?_ ?_ ?_ ?_ ?_
  ·intro i b off hp
   by_cases hi : i = id
   ·subst hi
    rw [gp] at hp
    cases hp
    refine ⟨by rw [World.size_alloc]; omega, fun hS => by have := hg.Ssz _ hS; omega, fun j hF => by have := hg.Fsz j _ hF; omega, fun j off' hp' => ?_⟩
    by_cases hj : j = i
    ·exact hj.symm
    ·rw [gne j hj] at hp'
     have := (hg.plz j _ off' hp').1
     omega
   ·rw [gne i hi] at hp
    obtain ⟨a1, a2, a3, a4⟩ := hg.plz i b off hp
    refine ⟨Nat.lt_of_lt_of_le a1 hx.size, a2, a3, fun j off' hp' => ?_⟩
    by_cases hj : j = id
    ·subst hj
     rw [gp] at hp'
     cases hp'
     omega
    ·exact a4 j off' (by rw [gne j hj] at hp'; exact hp')
  ·intro i hi
   exact ⟨by rw [hobj, if_neg hi], rfl, gne i hi, rfl, fun b o hF => hx.cell b o (hg.Fsz i b hF) (fun h => h), fun b off hp o => hx.cell b o (hg.plz i b off hp).1 (fun h => h)⟩
  ·rintro i rfl hno
   exact absurd eobj (hno ob')
  ·rintro i o' rfl ho'
   rw [eobj] at ho'
   cases ho'
   refine ⟨fun _ => ⟨Own.st.2 (r3.ext hx (fun b hb => hg.Fsz i b hb)), ?_⟩, (fun p hp => by cases hp), (by rw [gp]; rfl), (fun _ => ?_), (fun b off hp => ?_), fun q off hq => no_que rfl hq⟩
   ·rw [gp]
    rw [r2.2] at n1 n2 ⊢
    exact PlOk.mk n1 (fun j _ => (n2 j).2)
   ·unfold ParOk
    rw [if_pos (by show (true && fxK (.st ob.K)) = true; rw [hKk]; rfl)]
    exact ⟨fun hn => absurd hpar.1 hn, fun _ => hpar.2⟩
   ·rw [gp] at hp
    cases hp
    exact .inl (.inr hg.ext.size)
  ·rintro i rfl n' p' v hs
   have hle := hs.1.2 ob r1
   refine ⟨⟨by rw [eobj]; simp, fun o3 ho3 => by rw [eobj] at ho3; cases ho3; exact Nat.le_trans hle (Nat.le_succ _)⟩, fun o3 ho3 hk3 _ => ?_⟩
   rw [eobj] at ho3
   cases ho3
   unfold okAl at hk3
   simp only [ob', since_cons hle, List.all_cons, Bool.and_eq_true] at hk3
   have hp0 : p' = [] := by
    cases p' with
    | nil => rfl
    | cons s p' => exact absurd hk3.1 (by simp)
   subst hp0
   obtain ⟨q, cs', K', m', x', q1, q2, q3⟩ := hs.2 ob r1 hk3.2 (.inr rfl)
   rw [getP_nil] at q1
   cases q1
   simp only [nav, Option.some.injEq, Prod.mk.injEq] at q2
   refine ⟨g'.pl i, g'.cs i, .st ob.K, ob.m, ob.x, getP_nil _ _ _, by simp only [nav], ?_⟩
   show VRep (.st ob.K) (g.cs i) v
   rw [q2.2]
   have q3' : VRep ob.K cs' v := q3
   rw [hKk] at q3'
   exact ⟨q3'.1, q3'.2⟩
  ·rintro i rfl n' p' v hs
   have hle := hs.1.2 ob r1
   refine ⟨⟨by rw [eobj]; simp, fun o3 ho3 => by rw [eobj] at ho3; cases ho3; exact Nat.le_trans hle (Nat.le_succ _)⟩, fun o3 ho3 hk3 _ => ?_⟩
   rw [eobj] at ho3
   cases ho3
   unfold okPt at hk3
   simp only [ob', since_cons hle, List.all_cons, Bool.and_eq_true] at hk3
   have hi : hasIdx p' = false := by simpa using hk3.1
   obtain ⟨b, off, cs', K', m', x', q1, q2, q3⟩ := hs.2 ob r1 hk3.2 (.inl (noHole_ok h2))
   rw [hpl] at q2
   exact absurd (nav_none p' hi q2) (by simp)
 ·refine ⟨⟨by rw [eobj]; simp, fun o3 ho3 => by rw [eobj] at ho3; cases ho3; exact Nat.le_refl _⟩, fun o3 ho3 _ _ => ?_⟩
  rw [eobj] at ho3
  cases ho3
  refine ⟨w.heap.size, 0, g.cs id, ob.K, ob.m, ob.x, ?_, ?_, rfl⟩
  ·show getP (.st ob.K) ob.m ob.x [.inn] = _
   simp only [getP]
  ·show nav _ [.inn] (.st ob.K) (g'.pl id) (g.cs id) = _
   rw [gp]
   simp only [nav]
theorem ok_nil_ro {x : Operand} {e : Kd} {q : Option Obj} (ho : o.op = .assign x) (hk : put1 nt o.dst (.v (.sl e) []) k = some out) : Step1 c B nt o [(.nils, q)] fr k out := by
 refine stepOk_pure hk fun e0 he a w g hg => ?_
 have hr : a.eval x = .slice none 0 0 := view_rep hg (views_one he.1 (x := x) (by rw [ho]; rfl))
 refine ⟨.slice none 0 0, ?_, [.slice none 0 0], ⟨none, 0, rfl, Nat.le_refl _, fun i hi => absurd hi (Nat.not_lt_zero i)⟩, rfl, rfl⟩
 simp only [execOp, ho, hr]
 rfl
theorem sameP_ok : ∀ {q p : Path} {k : Option Ω}, sameP q p k = some out → q = p ∧ k = some out
 | [], [], k, h => ⟨rfl, h⟩
 | .inn :: p, .inn :: q, k, h => by obtain ⟨rfl, h2⟩ := sameP_ok (q := p) (p := q) h; exact ⟨rfl, h2⟩
 | .fst :: p, .fst :: q, k, h => by obtain ⟨rfl, h2⟩ := sameP_ok (q := p) (p := q) h; exact ⟨rfl, h2⟩
 | .snd :: p, .snd :: q, k, h => by obtain ⟨rfl, h2⟩ := sameP_ok (q := p) (p := q) h; exact ⟨rfl, h2⟩
 | .idx i :: p, .idx j :: q, k, h => by
  unfold sameP at h
  split at h
  ·rename_i hij
   obtain ⟨rfl, h2⟩ := sameP_ok (q := p) (p := q) h
   exact ⟨by rw [hij], h2⟩
  ·cases h
 | [], _ :: _, k, h => by simp [sameP] at h
 | s :: _, [], k, h => by cases s <;> simp [sameP] at h
 | .inn :: _, .fst :: _, _, h | .inn :: _, .snd :: _, _, h | .inn :: _, .idx _ :: _, _, h | .fst :: _, .inn :: _, _, h | .fst :: _, .snd :: _, _, h | .fst :: _, .idx _ :: _, _, h
 | .snd :: _, .inn :: _, _, h | .snd :: _, .fst :: _, _, h | .snd :: _, .idx _ :: _, _, h | .idx _ :: _, .inn :: _, _, h | .idx _ :: _, .fst :: _, _, h | .idx _ :: _, .snd :: _, _, h => by simp [sameP] at h
theorem bnds_ok {lo hi : Option Operand} {bs : List View} {l h : Option Int} (hb : bndsOf lo hi bs = some (l, h)) (n : Nat) : Bnds lo hi bs n (orI l 0) (orI h n) := by
 unfold bndsOf at hb
 split at hb
 ·cases hb
  exact ⟨fun _ _ => ⟨.inl ⟨rfl, rfl⟩, .inl ⟨rfl, rfl⟩⟩⟩
 ·cases hb
  refine ⟨fun hg hv => ?_⟩
  simp at hv
  exact ⟨.inr ⟨_, congrArg some (rep_int (view_rep hg hv))⟩, .inl ⟨rfl, rfl⟩⟩
 ·cases hb
  refine ⟨fun hg hv => ?_⟩
  simp at hv
  exact ⟨.inl ⟨rfl, rfl⟩, .inr ⟨_, congrArg some (rep_int (view_rep hg hv))⟩⟩
 ·cases hb
  refine ⟨fun hg hv => ?_⟩
  simp at hv
  exact ⟨.inr ⟨_, congrArg some (rep_int (view_rep hg hv.1))⟩, .inr ⟨_, congrArg some (rep_int (view_rep hg hv.2))⟩⟩
 ·cases hb
theorem old_ok {o2 : Obj} {p : Path} {old : Option Obj} (h : oldOf o2 p = some old) : (old = none ∧ o2.box = false ∧ p = [] ∧ o2.par = false) ∨ (old = some { o2 with hl := some p } ∧ isQ p = false) := by
 unfold oldOf at h
 split at h
 ·cases h
 ·rename_i hq
  have hq : isQ p = false := by simpa using hq
  split at h
  ·cases h; exact .inr ⟨rfl, hq⟩
  ·rename_i hb
   split at h
   ·split at h
    ·cases h
    ·rename_i hp
     cases h
     exact .inl ⟨rfl, by simpa using hb, rfl, by simpa using hp⟩
   ·cases h; exact .inr ⟨rfl, hq⟩
theorem ok_load {x : Operand} {t : Nat} {vs : List View} (hc : CtxOk c) (ho : o.op = .load t x) (h : (match vs with
  | [(.rp K x, _)] => if tyIs c t K = true then put1 nt o.dst (.v K x) k else none
  | [(.pt id n p, some o2)] => if (noHole o2 && okPt o2 n p) = true then (match partSlot id o2 p with
   | some (K, s) => if tyIs c t K = true then put1 nt o.dst s k else none
   | none => none) else none
  | _ => none) = some out) : Step1 c B nt o vs fr k out := by
 split at h
 ·split at h
  ·exact ok_load_rp hc ho (by assumption) h
  ·cases h
 ·split at h
  ·split at h
   ·split at h
    ·exact ok_load_pt hc ho (by assumption) (by assumption) (by assumption) h
    ·cases h
   ·cases h
  ·cases h
 ·cases h
theorem aop0_ok {mds : List (Nat × Md)} {vs : List View} (hc : CtxOk c) (hM : MOk c) (h : aop0 c nt mds o vs fr k = some out) : Step1 c B nt o vs fr k out := by
 unfold aop0 at h
 split at h
 ·exact ok_move (v := (.nils, _)) (.inl (by assumption)) h
 ·exact ok_move (v := (_, _)) (.inl (by assumption)) h
 ·-- assign nil
  split at h
  ·split at h
   ·exact ok_nil_own (by assumption) h
   ·cases h
   ·exact ok_nil_ro (by assumption) h
  ·cases h
 ·exact ok_move (v := (_, _)) (.inr (by assumption)) h
 ·exact ok_pick (v := (_, _)) (u := (_, _)) (by assumption) h
 ·-- alloc
  split at h
  ·split at h
   ·split at h
    ·exact ok_alloc hc (by assumption) (by assumption) (by assumption) h
    ·cases h
   ·exact ok_alloc hc (by assumption) (by assumption) (by cases ‹Kd› <;> rfl) h
  ·cases h
 ·split at h
  ·exact ok_box_v hc (by assumption) (by assumption) h
  ·cases h
 ·split at h
  ·exact ok_box_al hc (by assumption) (by assumption) h
  ·split at h
   ·split at h
    ·split at h
     ·exact ok_box_par hc (by assumption) (by assumption) (by assumption) (by assumption) h
     ·cases h
    ·cases h
   ·cases h
 ·-- build
  split at h
  ·split at h
   ·split at h
    ·split at h
     ·split at h
      ·exact ok_build_own hc (by assumption) (by assumption) (by assumption) (by assumption) (by assumption) h
      ·cases h
     ·cases h
    ·split at h
     ·split at h
      ·exact ok_build_ro hc (by assumption) (by assumption) (by assumption) (by assumption) (by assumption) h
      ·cases h
     ·cases h
   ·cases h
  ·cases h
 ·-- buildSlice
  split at h
  ·split at h
   ·split at h
    ·split at h
     ·split at h
      ·exact ok_buildSlice_own hc (by assumption) (by assumption) (by assumption) (by assumption) (by assumption) h
      ·cases h
     ·cases h
    ·cases h
    ·split at h
     ·split at h
      ·exact ok_buildSlice_ro hc (by assumption) (by assumption) (by assumption) (by assumption) (by assumption) h
      ·cases h
     ·cases h
   ·cases h
  ·cases h
 ·-- load
  split at h
  ·exact ok_load_rp hc (by assumption) (by assumption) h
  ·cases h
 ·split at h
  ·rename_i hcond
   split at h
   ·split at h
    ·exact ok_load_frz hc (by assumption) hcond (by assumption) (by assumption) h
    ·cases h
   ·cases h
  split at h
  ·split at h
   ·split at h
    ·exact ok_load_pt hc (by assumption) (by assumption) (by assumption) (by assumption) h
    ·cases h
   ·cases h
  ·split at h
   ·split at h
    ·split at h
     ·split at h
      ·exact ok_load_take hc (by assumption) (by assumption) (by assumption) (by assumption) (by assumption) (by assumption) h
      ·cases h
     ·cases h
    ·cases h
   ·cases h
 ·-- store
  split at h
  ·split at h
   ·split at h
    ·split at h
     ·split at h
      ·split at h
       ·cases h
       ·exact ok_store hc (by assumption) (by assumption) (by assumption) (by assumption) (by assumption) (by assumption) (by assumption) (by assumption) (by assumption) (.inl (by assumption)) h
       ·split at h
        ·cases h
        ·rename_i hnq
         obtain ⟨rfl, h2⟩ := sameP_ok h
         exact ok_store hc (by assumption) (by assumption) (by assumption) (by assumption) (by assumption) (by assumption) (by assumption) (by assumption) (by assumption) (.inr ⟨by assumption, by simpa using hnq⟩) h2
      ·cases h
     ·cases h
    ·cases h
   ·cases h
  ·cases h
 ·-- fieldAddr
  split at h
  ·split at h
   ·rename_i hcond
    rw [Bool.and_eq_true] at hcond
    split at h
    ·exact ok_fieldAddr_rp hc (by assumption) (by assumption) hcond.1 (Nat.le_of_ble_eq_true hcond.2) (by assumption) h
    ·cases h
   ·cases h
  ·cases h
 ·split at h
  ·split at h
   ·split at h
    ·rename_i hcond
     simp only [Bool.and_eq_true] at hcond
     exact ok_fieldAddr_pt hc (by assumption) (by assumption) (by assumption) hcond.1.1.1 (Nat.le_of_ble_eq_true hcond.1.1.2) hcond.1.2 hcond.2 h
    ·cases h
   ·cases h
  ·cases h
 ·split at h
  ·split at h
   ·split at h
    ·exact ok_field_al hc (by assumption) (by assumption) (by assumption) (by assumption) (by assumption) h
    ·cases h
   ·cases h
  ·cases h
 ·split at h
  ·split at h
   ·rename_i hcond
    rw [Bool.and_eq_true] at hcond
    split at h
    ·exact ok_field_v hc (by assumption) (by assumption) hcond.1 (Nat.le_of_ble_eq_true hcond.2) (by assumption) h
    ·cases h
   ·cases h
  ·cases h
 ·split at h
  ·split at h
   ·exact ok_indexAddr_v hc (by assumption) (by assumption) (by assumption) h
   ·cases h
  ·cases h
 ·split at h
  ·split at h
   ·split at h
    ·split at h
     ·have hq := ‹((noHole _ || (queAt _ _).isSome) && okAl _ _ _) = true›
      rw [Bool.and_eq_true, Bool.or_eq_true] at hq
      split at h
      ·split at h
       ·split at h
        ·split at h
         ·exact ok_indexAddr_mark hc (by assumption) hq.2 (by assumption) (by assumption) (by assumption) (by assumption) (by assumption) (by assumption) h
         ·cases h
        ·cases h
       ·cases h
      rcases hq.1 with hq1 | hq1
      ·exact ok_indexAddr_al hc (by assumption) (by rw [hq1, hq.2]; rfl) (by assumption) (by assumption) (by assumption) h
      ·obtain ⟨off, hoff⟩ := Option.isSome_iff_exists.1 hq1
       exact ok_indexAddr_que hc (by assumption) hoff hq.2 (by assumption) (by assumption) (by assumption) h
     ·cases h
    ·cases h
   ·cases h
  ·split at h
   ·split at h
    ·exact ok_indexAddr_hole hc (by assumption) (by assumption) (by assumption) (by assumption) h
    ·cases h
   ·cases h
 ·split at h
  ·split at h
   ·exact ok_index hc (by assumption) (by assumption) (by assumption) h
   ·cases h
  ·cases h
 ·-- slice
  split at h
  ·rename_i K x hrd
   split at h
   ·rename_i hty
    split at h
    ·cases h
    ·rename_i l hh hb
     split at h
     ·split at h
      ·exact ok_slice_str hc (by assumption) hty hrd (bnds_ok hb _) (by assumption) h
      ·cases h
     ·split at h
      ·cases hrd
       exact ok_slice_ro hc (by assumption) hty (bnds_ok hb _) (by assumption) h
      ·cases h
     ·split at h
      ·split at h
       ·split at h
        ·rename_i id n o2 _ _ m hm hbd
         simp only [rdv] at hrd
         split at hrd
         ·rename_i hcond
          rw [Bool.and_eq_true] at hcond
          rw [getP_nil] at hrd
          cases o2 with
          | mk K2 m2 x2 b2 p2 l2 h2 =>
           simp only at hrd hm
           subst hm
           cases hrd
           exact ok_slice_sub hc (by assumption) hty (getP_nil _ _ _) hcond.1 hcond.2 (bnds_ok hb _) hbd h
         ·cases hrd
        ·cases h
       ·cases h
      ·split at h
       ·split at h
        ·split at h
         ·rename_i id n o2 _ hpb _ m hm hbd
          simp only [rdv] at hrd
          split at hrd
          ·rename_i hcond
           rw [Bool.and_eq_true] at hcond
           rw [getP_nil] at hrd
           cases o2 with
           | mk K2 m2 x2 b2 p2 l2 h2 =>
            simp only at hrd hm
            subst hm
            cases hrd
            exact ok_slice_al hc (by assumption) hty (getP_nil _ _ _) hcond.1 hcond.2 hpb (bnds_ok hb _) hbd h
          ·cases hrd
         ·cases h
        ·cases h
       ·cases h
     ·cases h
   ·cases h
  ·cases h
 ·-- makeSlice
  split at h
  ·split at h
   ·split at h
    ·split at h
     ·split at h
      ·exact ok_make_own hc (by assumption) (by assumption) (by assumption) (by assumption) h
      ·cases h
     ·cases h
     ·exact ok_make_ro hc (by assumption) (by assumption) (by assumption) h
    ·cases h
   ·cases h
  ·cases h
 ·-- makeMap
  split at h
  ·split at h
   ·exact ok_makeMap (by assumption) h
   ·cases h
  ·cases h
 ·-- lookup
  split at h
  ·split at h
   ·rename_i hb
    have := Kd.eq_of_beq hb
    subst this
    split at h
    ·exact ok_lookup hc (by assumption) (by assumption) (by assumption) h
    ·cases h
   ·cases h
  ·cases h
 ·-- mapUpdate
  split at h
  ·split at h
   ·rename_i hb
    have := Kd.eq_of_beq hb
    subst this
    split at h
    ·rename_i hb2
     have := Kd.eq_of_beq hb2
     subst this
     split at h
     ·rename_i hcond
      simp only [Bool.and_eq_true] at hcond
      dsimp only at h
      split at h
      ·exact ok_mapUpdate hc (by assumption) (by assumption) hcond.1.1 hcond.1.2 hcond.2 (by assumption) (by assumption) (by assumption) h
      ·cases h
     ·cases h
    ·cases h
   ·cases h
  ·cases h
 ·exact ok_abin hc (by assumption) h
 ·exact ok_not (by assumption) h
 ·exact ok_neg (by assumption) h
 ·split at h
  ·exact ok_convert hc (by assumption) ⟨_, by assumption⟩ (by assumption) h
  ·cases h
 ·split at h
  ·exact ok_convert_bytes hc (by assumption) (by assumption) (by assumption) (by assumption) h
  ·cases h
 ·split at h
  ·cases h
  ·exact ok_extract (by assumption) (by assumption) (by
    rename_i s hn _
    cases s <;> first | rfl | exact absurd rfl (hn _)) h
  ·cases h
 ·exact ok_nilCheck (by assumption) (.inl ⟨_, _, rfl⟩) h
 ·split at h
  ·exact ok_nilCheck (by assumption) (.inr ⟨_, _, _, _, rfl, rfl, by assumption⟩) h
  ·cases h
 ·-- makeFunc
  split at h
  ·exact ok_makeFunc (by assumption) (by assumption) (by assumption) h
  ·cases h
 ·-- len
  split at h
  ·split at h
   ·split at h
    ·split at h
     ·split at h
      ·split at h
       ·exact ok_len_que hc ⟨_, by assumption⟩ (by assumption) (by assumption) (by assumption) (by assumption) (by assumption) (by assumption) h
       ·cases h
      ·cases h
     ·cases h
    ·exact ok_len (x := .tmp 0) hc ⟨_, by assumption⟩ (by assumption) (by assumption) (.inl ⟨_, _, rfl, by assumption, rfl⟩) h
   ·cases h
  ·split at h
   ·exact ok_len (x := .tmp 0) hc ⟨_, by assumption⟩ (by assumption) (by assumption) (.inr ⟨_, rfl, by assumption, rfl⟩) h
   ·cases h
  ·split at h
   ·exact ok_lenmap hc ⟨_, by assumption⟩ (by assumption) (by assumption) (by assumption) h
   ·cases h
  ·cases h
 ·-- append
  split at h
  ·rename_i e m xs t t2 hg0 hts
   split at h
   ·rename_i hcond
    simp only [Bool.and_eq_true] at hcond
    have hts' := arr_two hts
    split at h
    ·cases h
    ·rename_i old hold
     split at h
     ·split at h
      ·rename_i hK
       split at h
       ·have := Kd.eq_of_beq hK
        subst this
        dsimp only at h
        split at h
        ·exact ok_append_v hc (by rw [← hts']; assumption) hcond.1.1.1 hcond.1.1.2 hg0 hcond.1.2 hcond.2 (old_ok hold) (by assumption) (by assumption) h
        ·cases h
       ·cases h
      ·cases h
     ·split at h
      ·exact ok_append_nils hc (by rw [← hts']; assumption) hcond.1.1.1 hcond.1.1.2 hg0 hcond.1.2 hcond.2 (old_ok hold) (by assumption) h
      ·cases h
     ·split at h
      ·rename_i e3 m3 ys hz
       split at h
       ·rename_i hK
        split at h
        ·rename_i h3
         simp only [Bool.and_eq_true] at h3
         dsimp only at h
         split at h
         ·have e1 := Kd.eq_of_beq hK
          have e2 := Kd.eq_of_beq h3.1.1.1.1
          have e3 := Md.eq_of_beq h3.1.1.1.2
          simp only [Kd.sl.injEq] at e1
          subst e1 e2 e3
          exact ok_append_sub hc (by rw [← hts']; assumption) hcond.1.1.1 hcond.1.1.2 hg0 hcond.1.2 hcond.2 (old_ok hold) h3.1.1.2 (by assumption) (by rw [h3.1.2, h3.2]; rfl) hz h
         ·cases h
        ·cases h
       ·cases h
      ·cases h
     ·split at h
      ·rename_i o3 hK
       split at h
       ·rename_i h3
        dsimp only at h
        split at h
        ·rename_i hlen
         have h3' := h3
         simp only [Bool.and_eq_true] at h3'
         have hm3 := Md.eq_of_beq h3'.1.1.1.1
         cases o3 with
         | mk K3 m3 x3 b3 p3 l3 hl3 =>
          have := Kd.eq_of_beq hK
          simp only at this hm3
          subst this
          subst hm3
          exact ok_append_al hc (by rw [← hts']; assumption) hcond.1.1.1 hcond.1.1.2 hg0 hcond.1.2 hcond.2 (old_ok hold) hlen h3 (getP_nil _ _ _) h
        ·cases h
       ·cases h
      ·cases h
     ·cases h
   ·cases h
  ·cases h
 ·-- clear
  split at h
  ·split at h
   ·rename_i hcond
    simp only [Bool.and_eq_true] at hcond
    obtain ⟨⟨⟨⟨⟨he, h1⟩, h2⟩, h3⟩, h4⟩, h5⟩ := hcond
    have := Kd.eq_of_beq he
    subst this
    split at h
    ·exact ok_clear hc ⟨_, by assumption⟩ (by assumption) (by assumption) (by assumption) (by simp only [h1, h2, h3, h4, h5, Bool.and_self]) (by assumption) h
    ·cases h
   ·cases h
  ·cases h
 ·exact ok_call hM (by assumption) h
 ·exact ok_callv hM (by assumption) h
 ·exact ok_clo (by assumption) h
 ·cases h
end
end Go.Abs
namespace Go.Abs
variable {B : Base}
theorem InvG.freezeW {P : Program} {nt : Nat} {e : Env} {a : Act} {w w' : World} {g : Gh} {X : Nat → Nat → Prop} (h : InvG P B nt e a w g) (ids : List Nat) (hids : ∀ i, i ∈ ids → ∃ o, e.obj i = some (some o) ∧ o.par = false)
  (hx : Ext w w' X) (hX : ∀ b o, X b o → ∃ i, i ∈ ids ∧ (g.F i b ∨ ∃ off, g.pl i = some (b, off))) : InvG P B nt ⟨e.slots, gone ids ++ e.objs⟩ a w' (g.freeze ids) := by
 have hobj : ∀ i, (Env.mk e.slots (gone ids ++ e.objs)).obj i = if i ∈ ids then some none else e.obj i := by
  intro i
  show look (gone ids ++ e.objs) i = _
  rw [look_app, look_gone]
  by_cases hm : i ∈ ids
  ·rw [if_pos hm, if_pos hm]
  ·rw [if_neg hm, if_neg hm]; rfl
 have Fnew : ∀ i b, (g.freeze ids).F i b → i ∉ ids ∧ g.F i b := by
  intro i b hF
  simp only [Gh.freeze] at hF
  split at hF
  ·exact hF.elim
  ·exact ⟨by assumption, hF⟩
 have plnew : ∀ i b off, (g.freeze ids).pl i = some (b, off) → i ∉ ids ∧ g.pl i = some (b, off) := by
  intro i b off hF
  simp only [Gh.freeze] at hF
  split at hF
  ·cases hF
  ·exact ⟨by assumption, hF⟩
 have hXS : ∀ b o, X b o → ¬ g.S b := by
  intro b o hb hS
  obtain ⟨i, _, hF | ⟨off, hp⟩⟩ := hX b o hb
  ·exact h.FS i b hF hS
  ·exact (h.plz i b off hp).2.1 hS
 have hXB : ∀ b o, X b o → B.Fx b ∨ B.w0.heap.size ≤ b := by
  intro b o hb
  obtain ⟨i, hi, hF | ⟨off, hp⟩⟩ := hX b o hb
  ·exact h.Fb i b hF
  ·obtain ⟨o', ho, hpar⟩ := hids i hi
   rcases (h.objs i o' ho).plx b off hp with h1 | h1
   ·exact h1
   ·rw [hpar] at h1; cases h1.1
 have hXF : ∀ i b o, i ∉ ids → g.F i b → ¬ X b o := by
  intro i b o hi hF hb
  obtain ⟨j, hj, hF' | ⟨off, hp⟩⟩ := hX b o hb
  ·exact h.FF i j b (fun e => hi (e ▸ hj)) hF hF'
  ·exact (h.plz j b off hp).2.2.1 i hF
 have hXp : ∀ i b off o, i ∉ ids → g.pl i = some (b, off) → ¬ X b o := by
  intro i b off o hi hp hb
  obtain ⟨j, hj, hF' | ⟨off', hp'⟩⟩ := hX b o hb
  ·exact (h.plz i b off hp).2.2.1 j hF'
  ·exact hi ((h.plz i b off hp).2.2.2 j off' hp' ▸ hj)
 refine h.change (fun i => i ∈ ids) rfl (h.ext.step hx fun i o hi hb => ?_) (fun _ h => .inl h) (fun b o v hS hv => hx.same (fun hb => hXS b o hb hS) hv) ?_ (fun i b hF => Nat.lt_of_lt_of_le (h.Fsz i b (Fnew i b hF).2) hx.size) ?_ (fun i b hF => h.Fb i b (Fnew i b hF).2) ?_ (fun i j b hne h1 h2 => h.FF i j b hne (Fnew i b h1).2 (Fnew j b h2).2) ?_ ?_ ?_ ?_ ?_ ?_
 ·rcases hXB i o hb with h1 | h1
  ·exact .inl h1
  ·omega
 ·rintro b (hb | ⟨i, _, hF | ⟨off, hp⟩⟩)
  ·exact Nat.lt_of_lt_of_le (h.Ssz b hb) hx.size
  ·exact Nat.lt_of_lt_of_le (h.Fsz i b hF) hx.size
  ·exact Nat.lt_of_lt_of_le (h.plz i b off hp).1 hx.size
 ·rintro b (hb | ⟨i, hi, hF | ⟨off, hp⟩⟩)
  ·exact h.Sb b hb
  ·rcases h.Fb i b hF with h1 | h1
   ·exact .inr (.inl h1)
   ·exact .inr (.inr h1)
  ·obtain ⟨o, ho, hpar⟩ := hids i hi
   rcases (h.objs i o ho).plx b off hp with (h1 | h1) | h1
   ·exact .inr (.inl h1)
   ·exact .inr (.inr h1)
   ·rw [hpar] at h1; cases h1.1
 ·rintro i b hF hS
  obtain ⟨h1, h2⟩ := Fnew i b hF
  rcases hS with hS | ⟨j, hj, hF' | ⟨off, hp⟩⟩
  ·exact h.FS i b h2 hS
  ·exact h.FF j i b (fun e => h1 (e ▸ hj)) hF' h2
  ·exact (h.plz j b off hp).2.2.1 i h2
 ·intro i b off hp
  obtain ⟨h1, h2⟩ := plnew i b off hp
  obtain ⟨h3, h4, h5, h6⟩ := h.plz i b off h2
  refine ⟨Nat.lt_of_lt_of_le h3 hx.size, ?_, fun j hF => h5 j (Fnew j b hF).2, fun j off' hp' => h6 j off' (plnew j b off' hp').2⟩
  rintro (hS | ⟨j, hj, hF' | ⟨off', hp'⟩⟩)
  ·exact h4 hS
  ·exact h5 j hF'
  ·exact h1 (h6 j off' hp' ▸ hj)
 ·intro i hi
  refine ⟨by rw [hobj, if_neg hi], ?_, ?_, rfl, fun b o hF => hx.cell b o (h.Fsz i b hF) (hXF i b o hi hF), fun b off hp o => hx.cell b o (h.plz i b off hp).1 (hXp i b off o hi hp)⟩
  ·funext b; simp [Gh.freeze, hi]
  ·simp [Gh.freeze, hi]
 ·intro i hi _
  exact ⟨fun b hF => (Fnew i b hF).1 hi, by simp [Gh.freeze, hi]⟩
 ·intro i o' hi ho'
  rw [hobj, if_pos hi] at ho'
  cases ho'
 ·intro i hi n p v hs
  have e1 : (Env.mk e.slots (gone ids ++ e.objs)).obj i = some none := by rw [hobj, if_pos hi]
  exact ⟨⟨by rw [e1]; simp, (fun o ho => by rw [e1] at ho; cases ho)⟩, (fun o ho => by rw [e1] at ho; cases ho)⟩
 ·intro i hi n p v hs
  have e1 : (Env.mk e.slots (gone ids ++ e.objs)).obj i = some none := by rw [hobj, if_pos hi]
  exact ⟨⟨by rw [e1]; simp, (fun o ho => by rw [e1] at ho; cases ho)⟩, (fun o ho => by rw [e1] at ho; cases ho)⟩
section
variable {c : Ctx} {nt : Nat} {o : Oper} {Ω : Type} {k : Delta → Option Ω} {out : Ω} {fr : Bool}
theorem ok_move_frz {x : Operand} {id n d : Nat} {ob : Obj} (ho : o.op = .move x) (hcond : (noHole ob && okAl ob n [] && !ob.par && !ob.box && ob.K.np) = true)
  (hd : o.dst = some d) (hlt : Nat.blt d nt = true) (hk : k ⟨[(d, .v ob.K ob.x)], [(id, none)]⟩ = some out) : Step1 c B nt o [(.al id n [], some ob)] fr k out := by
 simp only [Bool.and_eq_true, Bool.not_eq_true'] at hcond
 obtain ⟨⟨⟨⟨hh, hok⟩, hpar⟩, hbx⟩, hnp⟩ := hcond
 refine ⟨_, hk, fun e0 he a w ⟨g, hg⟩ next Q hn => ?_⟩
 obtain ⟨r1, r2, r3⟩ := al_root hg (views_one he.1 (x := x) (by rw [ho]; rfl)) hh hok
 have hro := freeze_ro hg (ids := [id]) List.mem_cons_self r1 (noHole_ok hh)
 have hfz := hg.freeze [id] (fun i hi => by rw [List.mem_singleton] at hi; subst hi; exact ⟨ob, r1, hpar⟩)
 have hrun : (execOp a.eval o).run c.P w = .ok (.value (a.eval x)) w := by
  simp only [execOp, ho]; rfl
 unfold Oper.wp
 rw [hrun, Oper.upon_value, hd]
 exact hn _ _ ⟨_, hfz.put (Nat.blt_eq.mp hlt) (s := .v ob.K ob.x) ⟨_, hro, r2⟩⟩
theorem ok_box_frz {t d : Nat} {x : Operand} {K : Kd} {z : K.T} {q : Option Obj} (hc : CtxOk c) (ho : o.op = .box t x) (ht : tyIs c t K = true)
  (hd : o.dst = some d) (hlt : Nat.blt d nt = true) (hk : k ⟨[(d, .rp K z)], []⟩ = some out) : Step1 c B nt o [(.v K z, q)] fr k out := by
 refine ⟨_, hk, fun e0 he a w ⟨g, hg⟩ next Q hn => ?_⟩
 obtain ⟨cs, hro, hv⟩ := view_rep hg (views_one he.1 (x := x) (by rw [ho]; rfl))
 obtain ⟨n1, n2⟩ := new_cells w (a.eval x).cells t
 have hx := Ext.alloc w (.cells (a.eval x).cells t) (fun _ _ => False)
 have hrun : (execOp a.eval o).run c.P w = .ok (.value (.pointer (some ⟨w.heap.size, 0, none⟩))) (w.alloc (.cells (a.eval x).cells t)) := by
  simp only [execOp, ho, Instr.box, Sem.run_bind, newVar, newRow, run_newObj, Result.andThen_ok, Sem.run_pure]
  rfl
 have hI := hg.grow hx
 unfold Oper.wp
 rw [hrun, Oper.upon_value, hd]
 refine hn _ _ ⟨_, hI.put (Nat.blt_eq.mp hlt) (s := .rp K z) ⟨w.heap.size, 0, cs, rfl, ?_, ?_, hro.mono (fun b hb => .inl hb) (fun b o v hS hv => hx.same (fun h => h) hv)⟩⟩
 ·exact .inr ⟨Nat.le_refl _, by rw [World.size_alloc]; omega⟩
 ·rw [hv.2] at n1 ⊢
  exact n1
theorem ok_nilmap {kk e : Kd} {v : View} (ho : o.op = .assign (.const (.map none))) (hk : put1 nt o.dst (.v (.mp kk e) []) k = some out) : Step1 c B nt o [v] fr k out := by
 refine stepOk_pure hk fun e0 he a w g hg => ?_
 refine ⟨.map none, ?_, [.map none], .inl ⟨rfl, rfl⟩, rfl, rfl⟩
 simp only [execOp, ho]
 rfl
theorem caps3 {e : Env} {Ka Kb : Kd} {xa : Ka.T} {xb : Kb.T} {id n : Nat} {q : Option Obj} {caps : List Cap} (h : [CapV.rp Ka xa, .rp Kb xb, .pt id n q] = caps.map e.cap) : caps = [.rp Ka xa, .rp Kb xb, .pt id n] ∧ q = (e.obj id).join := by
 have one : ∀ (cp : Cap) (K : Kd) (x : K.T), CapV.rp K x = e.cap cp → cp = .rp K x := by
  intro cp K x h
  cases cp with
  | rp K' x' => simp only [Env.cap, CapV.rp.injEq] at h; obtain ⟨rfl, h⟩ := h; cases h; rfl
  | pt _ _ => simp [Env.cap] at h
 match caps, h with
 | [c1, c2, c3], h =>
  simp only [List.map_cons, List.map_nil, List.cons.injEq, and_true] at h
  obtain ⟨h1, h2, h3⟩ := h
  rw [one _ _ _ h1, one _ _ _ h2]
  cases c3 with
  | rp _ _ => simp [Env.cap] at h3
  | pt id' n' => simp only [Env.cap, CapV.pt.injEq] at h3; obtain ⟨rfl, rfl, h4⟩ := h3; exact ⟨rfl, h4⟩
 | [], h => simp at h
 | [_], h => simp at h
 | [_, _], h => simp at h
 | _ :: _ :: _ :: _ :: _, h => simp at h
theorem ok_store_self {t id n n2 f p : Nat} {y : Operand} {m : Md} {bx pr : Bool} {lg : List (Option Path)} {hl : Option Path} {o3 : Obj} {Ka Kb : Kd} {z : (Kd.fcell f Ka Kb).T} {xa : Ka.T} {xb : Kb.T} {q1 : Option Obj} (hc : CtxOk c) (ho : o.op = .store t (.tmp p) y) (hd : o.dst = none)
  (hcond : (tyIs c t (.fcell f Ka Kb) && noHole ⟨.fcell f Ka Kb, m, z, bx, pr, lg, hl⟩ && okPt ⟨.fcell f Ka Kb, m, z, bx, pr, lg, hl⟩ n [] && !pr && noHole o3 && okPt o3 n2 []) = true)
  (hk : k ⟨[(p, .rp (.fcell f Ka Kb) (some (xa, xb)))], [(id, none)]⟩ = some out) : Step1 c B nt o [(.pt id n [], some ⟨.fcell f Ka Kb, m, z, bx, pr, lg, hl⟩), (.fvr f [] [.rp Ka xa, .rp Kb xb, .pt id n2 (some o3)], q1)] fr k out := by
 simp only [Bool.and_eq_true, Bool.not_eq_true'] at hcond
 obtain ⟨⟨⟨⟨⟨ht, hh⟩, hok⟩, hpar⟩, hh3⟩, hok3⟩ := hcond
 obtain ⟨hT, _⟩ := tyIs_ok hc.ty ht
 refine ⟨_, hk, fun e0 he a w ⟨g, hg⟩ next Q hn => ?_⟩
 obtain ⟨v1, v2⟩ := views_two he.1 (x := .tmp p) (y := y) (by rw [ho]; rfl)
 have hob := view_pt v1
 have hhl := noHole_ok hh
 obtain ⟨b, off, cs', K', m', x', h1, h2, h3⟩ := (view_rep hg v1).2 _ hob hok (.inl hhl)
 rw [getP_nil] at h1
 cases h1
 simp only [nav, Option.some.injEq, Prod.mk.injEq] at h2
 obtain ⟨w1, w2⟩ := (hg.objs id _ hob).own hhl
 obtain ⟨caps, hcaps, fv, cv, e1, e2, e3⟩ := view_fv hg v2
 obtain ⟨rfl, hj⟩ := caps3 hcaps
 rw [hob] at hj
 cases hj
 obtain ⟨u1, _, rfl, p1, u2, _, rfl, p2, u3, _, rfl, p3, rfl⟩ := e3
 rw [show fv = [] from e2] at e1
 obtain ⟨b1, q1, c1, rfl, s1, k1, r1⟩ := p1
 obtain ⟨b2, q2, c2, rfl, s2, k2, r2⟩ := p2
 obtain ⟨b3, off3, cs3, K3, m3, x3, a1, a2, rfl⟩ := p3.2 _ hob hok3 (.inl hhl)
 simp only [nav, Option.some.injEq, Prod.mk.injEq] at a2
 rw [h2.1] at a2
 obtain ⟨a2, _⟩ := a2
 cases a2
 have hval : a.eval y = selfFn f b1 q1 b2 q2 b off := e1
 have hlen : (g.cs id).length = 1 := w1.length
 have hpl := w2 b off h2.1
 have hx := Ext.setCells w b off [selfFn f b1 q1 b2 q2 b off]
 have hrun := run_storeAt (P := c.P) hT (w := w) (b := b) (o := off) (v := a.eval y) (by rw [hval]; rfl) (fun j hj => by
  have hj : j < (g.cs id).length := by rw [hlen]; exact hj
  exact ⟨by rw [hpl.1 j hj]; rfl, hpl.2 j hj⟩) (by rw [hval]; intro u hu; simp [selfFn, Value.cells] at hu; subst hu; rfl)
 rw [hval] at hrun
 have hcl : (selfFn f b1 q1 b2 q2 b off).cells.toList = [selfFn f b1 q1 b2 q2 b off] := rfl
 rw [hcl] at hrun
 have hfz := hg.freezeW [id] (fun i hi => by rw [List.mem_singleton] at hi; subst hi; exact ⟨_, hob, hpar⟩) hx (fun b' o' h => ⟨id, List.mem_cons_self, .inr ⟨off, by rw [h.1]; exact h2.1⟩⟩)
 have hS : (g.freeze [id]).S b := .inr ⟨id, List.mem_cons_self, .inr ⟨off, h2.1⟩⟩
 have hkeep : ∀ b' o' v, g.S b' → w.pk b' o' = some v → (w.setCells b off [selfFn f b1 q1 b2 q2 b off]).pk b' o' = some v := fun b' o' v hs hv =>
  hx.same (fun h => (hg.plz id b off h2.1).2.1 (h.1 ▸ hs)) hv
 have hcell : CellsAt (w.setCells b off [selfFn f b1 q1 b2 q2 b off]) b off [selfFn f b1 q1 b2 q2 b off] := fun j hj =>
  World.cell?_setCells_in b [selfFn f b1 q1 b2 q2 b off] off w (fun i hi => by
   have hi : i < (g.cs id).length := by rw [hlen]; exact hi
   rw [hpl.1 i hi]; rfl) j hj
 have hslot : SlotRep c.P (g.freeze [id]) (w.setCells b off [selfFn f b1 q1 b2 q2 b off]) (Env.mk e0.slots (gone [id] ++ e0.objs)).obj (.rp (.fcell f Ka Kb) (some (xa, xb))) (a.tmps.getD p undef) := by
  refine ⟨b, off, [selfFn f b1 q1 b2 q2 b off], h3, hS, hcell, .inr ⟨(xa, xb), b1, q1, b2, q2, b, off, c1, c2, rfl, rfl, ⟨.inl s1, k1.of_same (fun o' v => hkeep _ o' v s1), r1.mono (fun _ h => .inl h) hkeep⟩, ⟨.inl s2, k2.of_same (fun o' v => hkeep _ o' v s2), r2.mono (fun _ h => .inl h) hkeep⟩, hS, hcell⟩⟩
 unfold Oper.wp
 have hex : (execOp a.eval o).run c.P w = .ok .skip (w.setCells b off [selfFn f b1 q1 b2 q2 b off]) := by
  have h3' : a.eval (.tmp p) = .pointer (some ⟨b, off, none⟩) := h3
  simp only [execOp, ho, h3', hval, Sem.run_bind, hrun, Result.andThen_ok, Sem.run_pure]
 rw [hex, Oper.upon_skip, hd]
 exact hn _ _ ⟨_, hfz.reslot hslot⟩
theorem ok_call_self {mds : List (Nat × Md)} {f : Nat} {Ka Kb : Kd} {z : (Kd.fcell f Ka Kb).T} {x : Operand} {as : Array Operand} {ts : Array Nat} {q : Option Obj} {vs : List View} (hM : MOk c) (ho : o.op = .call { callee := .value x, args := as, argTypes := ts })
  (hk : selfK c nt mds o.dst fr f Ka Kb z ts.toList vs k = some out) : Step1 c B nt o ((.v (.fcell f Ka Kb) z, q) :: vs) fr k out := by
 have hz : ∃ p : Ka.T × Kb.T, z = some p ∧ callK c nt mds o.dst fr f (fvTs [] ts.toList [.rp Ka p.1, .rp Kb p.2, .rp (.fcell f Ka Kb) (some p)]) (fvVs [] vs [.rp Ka p.1, .rp Kb p.2, .rp (.fcell f Ka Kb) (some p)]) k = some out := by
  unfold selfK at hk
  cases z with
  | none => cases hk
  | some p => exact ⟨p, rfl, hk⟩
 obtain ⟨p, rfl, hk⟩ := hz
 refine ok_callvG hM ho (fun e a w g hg e1 => ?_) hk
 refine ⟨[.rp Ka p.1, .rp Kb p.2, .rp (.fcell f Ka Kb) (some p)], rfl, ?_⟩
 obtain ⟨cs, h1, h2⟩ : ∃ cs, RO g.S w (.fcell f Ka Kb) (some p) cs ∧ VRep (.fcell f Ka Kb) cs (a.eval x) := view_rep hg e1
 have h1' := h1
 rcases h1 with ⟨h, _⟩ | ⟨p', b1, o1, b2, o2, cb, oc, c1, c2, h, rfl, ⟨s1, k1, r1⟩, ⟨s2, k2, r2⟩, s3, k3⟩
 ·cases h
 ·cases h
  exact ⟨[], [_, _, _], h2.1, rfl, _, _, rfl, ⟨b1, o1, c1, rfl, s1, k1, r1⟩, _, _, rfl, ⟨b2, o2, c2, rfl, s2, k2, r2⟩, _, _, rfl, ⟨cb, oc, _, rfl, s3, k3, h1'⟩, rfl⟩
theorem aopX_ok {mds : List (Nat × Md)} {vs : List View} (hc : CtxOk c) (hM : MOk c) (h : aopX c nt mds o vs fr k = some out) : Step1 c B nt o vs fr k out := by
 unfold aopX at h
 split at h
 ·split at h
  ·split at h
   ·split at h
    ·exact ok_move_frz (by assumption) (by assumption) (by assumption) (by assumption) h
    ·cases h
   ·cases h
  ·cases h
 ·split at h
  ·exact ok_nilmap (by assumption) h
  ·cases h
 ·split at h
  ·split at h
   ·split at h
    ·exact ok_box_frz hc (by assumption) (by assumption) (by assumption) (by assumption) h
    ·cases h
   ·cases h
  ·cases h
 ·split at h
  ·rename_i id n o2 f Ka xa Kb xb id2 n2 o3 q1 ho _ _ g ka kb hK hd
   split at h
   ·rename_i hk2
    split at h
    ·rename_i hcond
     simp only [Bool.and_eq_true] at hk2
     obtain ⟨⟨k1, k2⟩, k3⟩ := hk2
     have k1 : g = f := by simpa using k1
     subst k1
     have := Kd.eq_of_beq k2
     subst this
     have := Kd.eq_of_beq k3
     subst this
     simp only [Bool.and_eq_true] at hcond
     obtain ⟨⟨⟨⟨⟨⟨⟨c1, c2⟩, c3⟩, c4⟩, c5⟩, c6⟩, c7⟩, c8⟩ := hcond
     have := Nat.eq_of_beq_eq_true c5
     subst this
     obtain ⟨K, m, x, bx, pr, lg, hl⟩ := o2
     have hK' : K = _ := hK
     subst hK'
     exact ok_store_self hc ho hd (by simp only [Bool.and_eq_true]; exact ⟨⟨⟨⟨⟨c1, c2⟩, c3⟩, c4⟩, c6⟩, c7⟩) h
    ·cases h
   ·cases h
  ·cases h
 ·exact ok_call_self hM (by assumption) h
 ·cases h
theorem aop_ok {mds : List (Nat × Md)} {vs : List View} (hc : CtxOk c) (hM : MOk c) (h : aop c nt mds o vs fr k = some out) : Step1 c B nt o vs fr k out := by
 unfold aop at h
 split at h
 ·exact aopX_ok hc hM h
 ·exact aop0_ok hc hM h
end
end Go.Abs
namespace Go.Abs
variable {B : Base}
section
variable {c : Ctx} {nt : Nat} {Ω : Type} {out : Ω}
theorem tmp_bool {P : Program} {e : Env} {a : Act} {w : World} {g : Gh} (hg : InvG P B nt e a w g) {t : Nat} {b : Bool} (h : e.get t = .v .bool b) : a.tmps[t]? = some (.bool b) := by
 have h1 := hg.slots t
 rw [h] at h1
 obtain ⟨cs, h2, h3⟩ := h1
 rw [show cs = [.bool b] from h2] at h3
 have h4 : a.tmps.getD t undef = .bool b := h3.1
 rw [Array.getD_eq_getD_getElem?] at h4
 cases hq : a.tmps[t]? with
 | none => rw [hq] at h4; cases h4
 | some v => rw [hq] at h4; simp only [Option.getD_some] at h4; rw [h4]
theorem tmp_un {P : Program} {e : Env} {a : Act} {w : World} {g : Gh} (hg : InvG P B nt e a w g) {t : Nat} (h : e.get t = .un) : a.tmps[t]? = some undef ∨ a.tmps[t]? = none := by
 have h1 := hg.slots t
 rw [h] at h1
 have h4 : a.tmps.getD t undef = undef := h1
 rw [Array.getD_eq_getD_getElem?] at h4
 cases hq : a.tmps[t]? with
 | none => exact .inr rfl
 | some v => rw [hq] at h4; simp only [Option.getD_some] at h4; rw [h4]; exact .inl rfl
theorem Inv.reslot {P : Program} {e : Env} {a : Act} {w : World} (h : Inv P B nt e a w) {t : Nat} {b : Bool} (ht : e.get t = .v .bool b) : Inv P B nt (e.put t (.v .bool b)) a w := by
 obtain ⟨g, hg⟩ := h
 exact ⟨g, hg.reslot (ht ▸ hg.slots t)⟩
theorem Inv.skip {P : Program} {e : Env} {a : Act} {w : World} (h : Inv P B nt e a w) {d : Nat} (hd : d < nt) : Inv P B nt (e.put d .un) (a.put (some d) undef) w := by
 obtain ⟨g, hg⟩ := h
 exact ⟨g, hg.put hd (s := .un) rfl⟩
theorem aops_ok (hc : CtxOk c) (hM : MOk c) {mds : List (Nat × Md)} {ops : Array Oper} : ∀ (l : List Nat) (rest : List Oper) (e : Env) (k : Env → Option Ω), l.map (fun i => ops[i]?) = rest.map some → aops c nt mds ops.toList rest e k = some out →
  ∃ e', k e' = some out ∧ ∀ a w, Inv c.P B nt e a w → ∀ Q : Exit → Act → World → Prop, (∀ a' w', Inv c.P B nt e' a' w' → Q .normal a' w') → wpOps c.P ops Q l a w
 | [], rest, e, k, hl, h => by
  cases rest with
  | cons _ _ => simp at hl
  | nil => exact ⟨e, h, fun a w hi Q hQ => hQ a w hi⟩
 | i :: l, rest, e, k, hl, h => by
  cases rest with
  | nil => simp at hl
  | cons o rest =>
   simp only [List.map_cons, List.cons.injEq] at hl
   unfold aops at h
   have run : ∀ e1 : Env, aopE c nt mds o e1 (fun d => aops c nt mds ops.toList rest (e1.apply d) k) = some out → ∃ e', k e' = some out ∧ ∀ a w, Inv c.P B nt e1 a w → ∀ Q : Exit → Act → World → Prop, (∀ a' w', Inv c.P B nt e' a' w' → Q .normal a' w') →
     o.wp c.P a w (wpOps c.P ops Q l) Q := by
    intro e1 h1
    obtain ⟨d, h2, h3⟩ := aop_ok (B := B) hc hM h1
    obtain ⟨e', h4, h5⟩ := aops_ok hc hM l rest (e1.apply d) k hl.2 h2
    exact ⟨e', h4, fun a w hi Q hQ => h3 e1 ⟨rfl, rfl⟩ a w hi _ _ fun a' w' hi' => h5 a' w' hi' Q hQ⟩
   have skip : ∀ e1 : Env, aops c nt mds ops.toList rest e1 k = some out → ∃ e', k e' = some out ∧ ∀ a w, Inv c.P B nt e1 a w → ∀ Q : Exit → Act → World → Prop, (∀ a' w', Inv c.P B nt e' a' w' → Q .normal a' w') → wpOps c.P ops Q l a w :=
    fun e1 h1 => aops_ok hc hM l rest e1 k hl.2 h1
   split at h
   ·rename_i hgd
    obtain ⟨e', h4, h5⟩ := run e h
    refine ⟨e', h4, fun a w hi Q hQ => ?_⟩
    simp only [wpOps, hl.1, Region.wanted, hgd, if_true]
    exact .inl (h5 a w hi Q hQ)
   ·rename_i j want hgd
    split at h
    ·cases h
    ·rename_i t ht
     have hyield : ∀ tmps : Array Value, yielded ops tmps j = match tmps[t]? with | some (.bool b) => some b | _ => none := by
      intro tmps
      have : (ops[j]?).bind (·.dst) = some t := by
       unfold dstAt at ht
       split at ht
       ·rename_i o' ho'
        have : ops[j]? = some o' := by simpa using ho'
        rw [this]; exact ht
       ·cases ht
      unfold yielded
      rw [this]
      rfl
     split at h
     ·rename_i b hb
      split at h
      ·rename_i hw
       subst hw
       obtain ⟨e', h4, h5⟩ := run _ h
       refine ⟨e', h4, fun a w hi Q hQ => ?_⟩
       have hy : yielded ops a.tmps j = some b := by obtain ⟨g, hg⟩ := hi; rw [hyield, tmp_bool hg hb]
       simp only [wpOps, hl.1, Region.wanted, hgd, hy, beq_self_eq_true, if_true]
       exact .inl (h5 a w (hi.reslot hb) Q hQ)
      ·rename_i hw
       have hnb : (some b == some want) = false := by simp [hw]
       have hbn : b = !want := by cases b <;> cases want <;> simp_all
       split at h
       ·rename_i d hd
        split at h
        ·rename_i hlt
         obtain ⟨e', h4, h5⟩ := skip _ h
         refine ⟨e', h4, fun a w hi Q hQ => ?_⟩
         have hy : yielded ops a.tmps j = some b := by obtain ⟨g, hg⟩ := hi; rw [hyield, tmp_bool hg hb]
         simp only [wpOps, hl.1, Region.wanted, hgd, hy, hnb, Bool.false_eq_true, if_false, hd]
         exact h5 _ _ ((hbn ▸ hi.reslot hb : Inv c.P B nt (e.put t (.v .bool (!want))) a w).skip (Nat.le_of_ble_eq_true hlt)) Q hQ
        ·cases h
       ·rename_i hd
        obtain ⟨e', h4, h5⟩ := skip _ h
        refine ⟨e', h4, fun a w hi Q hQ => ?_⟩
        have hy : yielded ops a.tmps j = some b := by obtain ⟨g, hg⟩ := hi; rw [hyield, tmp_bool hg hb]
        simp only [wpOps, hl.1, Region.wanted, hgd, hy, hnb, Bool.false_eq_true, if_false, hd, put_none]
        exact h5 _ _ (hbn ▸ hi.reslot hb) Q hQ
     ·rename_i hun
      have hy : ∀ {a : Act} {w : World}, Inv c.P B nt e a w → yielded ops a.tmps j = none := by
       rintro a w ⟨g, hg⟩
       rw [hyield]
       rcases tmp_un hg hun with h | h <;> rw [h] <;> rfl
      have hnb : ((none : Option Bool) == some want) = false := rfl
      split at h
      ·rename_i d hd
       split at h
       ·rename_i hlt
        obtain ⟨e', h4, h5⟩ := skip _ h
        refine ⟨e', h4, fun a w hi Q hQ => ?_⟩
        simp only [wpOps, hl.1, Region.wanted, hgd, hy hi, hnb, Bool.false_eq_true, if_false, hd]
        exact h5 _ _ (hi.skip (Nat.le_of_ble_eq_true hlt)) Q hQ
       ·cases h
      ·rename_i hd
       obtain ⟨e', h4, h5⟩ := skip _ h
       refine ⟨e', h4, fun a w hi Q hQ => ?_⟩
       simp only [wpOps, hl.1, Region.wanted, hgd, hy hi, hnb, Bool.false_eq_true, if_false, hd, put_none]
       exact h5 _ _ hi Q hQ
     ·cases h
theorem range_map {ops : Array Oper} : (List.range ops.size).map (fun i => ops[i]?) = ops.toList.map some := by
 apply List.ext_getElem
 ·simp
 ·intro i h1 h2
  have h3 : i < ops.size := by simpa using h1
  simp [h3]
end
end Go.Abs
namespace Go.Abs
variable {B : Base}
def Slot.plain : Slot → Bool
 | .al _ _ _ => false
 | .pt _ _ _ => false
 | .tup _ => false
 | .dead => false
 | .fv _ _ _ => false
 | .fvr _ _ _ => false
 | .sub _ _ _ _ _ => false
 | _ => true
def CapKept (e : Env) (R : List (Nat × Nat)) (ren : List (Nat × Nat)) : List Cap → List Cap → Prop
 | [], l => l = []
 | .rp K x :: c, l => ∃ r, l = .rp K x :: r ∧ CapKept e R ren c r
 | .pt id n :: c, l => ∃ r o j, l = .pt j 0 :: r ∧ e.obj id = some (some o) ∧ o.hl = none ∧ okPt o n [] = true ∧ ((id, j) ∈ R ∨ renT ren id = some j) ∧ CapKept e R ren c r
theorem CapKept.imp {e : Env} {R R' ren ren' : List (Nat × Nat)} (h : ∀ id j, (id, j) ∈ R ∨ renT ren id = some j → (id, j) ∈ R' ∨ renT ren' id = some j) : ∀ {c l : List Cap}, CapKept e R ren c l → CapKept e R' ren' c l
 | [], _, k => k
 | .rp _ _ :: _, _, ⟨r, e1, k⟩ => ⟨r, e1, CapKept.imp h k⟩
 | .pt _ _ :: _, _, ⟨r, o, j, e1, k1, k2, k3, k4, k⟩ => ⟨r, o, j, e1, k1, k2, k3, h _ _ k4, CapKept.imp h k⟩
def Kept (e : Env) (R : List (Nat × Nat)) (ren : List (Nat × Nat)) (s : Nat) (x : Slot) : Prop :=
 (x = e.get s ∧ x.plain = true) ∨
 (∃ id n p o j, e.get s = .al id n p ∧ x = .al j 0 p ∧ e.obj id = some (some o) ∧ (o.hl = none ∨ ∃ off, queAt o p = some off) ∧ okAl o n p = true ∧ ((id, j) ∈ R ∨ renT ren id = some j)) ∨
 (∃ id n p o j, e.get s = .pt id n p ∧ x = .pt j 0 p ∧ e.obj id = some (some o) ∧ o.hl = none ∧ okPt o n p = true ∧ ((id, j) ∈ R ∨ renT ren id = some j)) ∨
 (∃ f fs caps cs, e.get s = .fv f fs caps ∧ x = .fv f fs cs ∧ CapKept e R ren caps cs)
def aliasOf (e : Env) (s id : Nat) : Prop := ∃ n p, e.get s = .al id n p ∨ e.get s = .pt id n p
theorem aliasOf_one {e : Env} {s id id' : Nat} (h : aliasOf e s id) (h' : aliasOf e s id') : id = id' := by
 obtain ⟨n, p, h⟩ := h
 obtain ⟨n', p', h'⟩ := h'
 rcases h with h | h <;> rcases h' with h' | h' <;> rw [h] at h' <;> cases h' <;> rfl
theorem join_obj {e : Env} {id : Nat} {o : Obj} (h : (e.obj id).join = some o) : e.obj id = some (some o) := by
 cases hq : e.obj id with
 | none => rw [hq] at h; cases h
 | some r => rw [hq] at h; cases r with
  | none => cases h
  | some o' => cases h; rfl
structure KeepOk (e : Env) (l : List Nat) (ren : List (Nat × Nat)) (z : List (Nat × Slot) × List (Nat × Option Obj)) (R : List (Nat × Nat)) : Prop where
 objs : ∀ j r, (j, r) ∈ z.2 → ∃ id o, (id, j) ∈ R ∧ e.obj id = some (some o) ∧ r = some { o with log := [] }
 back : ∀ q, q ∈ R → ∃ o, (q.2, some { o with log := [] }) ∈ z.2 ∧ e.obj q.1 = some (some o) ∧ (o.hl = none ∨ ∃ p off, queAt o p = some off) ∧ (o.par = true → q.2 = q.1) ∧ renT ren q.1 = none ∧ aliasOf e q.2 q.1
 ids : ∀ q q', q ∈ R → q' ∈ R → q.1 = q'.1 → q = q'
 slots : ∀ s x, (s, x) ∈ z.1 → Kept e R ren s x
theorem KeepOk.id_ {e : Env} {l : List Nat} {s : Nat} {ren : List (Nat × Nat)} {z : List (Nat × Slot) × List (Nat × Option Obj)} {R : List (Nat × Nat)} (h : KeepOk e l ren z R) : KeepOk e (s :: l) ren z R := ⟨h.objs, h.back, h.ids, h.slots⟩
theorem KeepOk.slot {e : Env} {l : List Nat} {s : Nat} {x : Slot} {ren : List (Nat × Nat)} {z : List (Nat × Slot) × List (Nat × Option Obj)} {R : List (Nat × Nat)} (h : KeepOk e l ren z R) (hk : Kept e R ren s x) :
  KeepOk e (s :: l) ren ((s, x) :: z.1, z.2) R :=
 ⟨h.objs, h.back, h.ids, fun s' x' hm => by
  rcases List.mem_cons.1 hm with hm | hm
  ·cases hm; exact hk
  ·exact h.slots s' x' hm⟩
theorem KeepOk.new {e : Env} {l : List Nat} {s id : Nat} {x : Slot} {o : Obj} {ren : List (Nat × Nat)} {z : List (Nat × Slot) × List (Nat × Option Obj)} {R : List (Nat × Nat)} (h : KeepOk e l ((id, s) :: ren) z R) (hren : renT ren id = none)
  (ho : e.obj id = some (some o)) (hh : o.hl = none ∨ ∃ p off, queAt o p = some off) (hp : o.par = true → s = id) (ha : aliasOf e s id) (hk : Kept e ((id, s) :: R) ren s x) :
  KeepOk e (s :: l) ren ((s, x) :: z.1, (s, some { o with log := [] }) :: z.2) ((id, s) :: R) := by
 have conv : ∀ {i j : Nat}, renT ((id, s) :: ren) i = some j → (i = id ∧ j = s) ∨ renT ren i = some j := by
  intro i j hr
  unfold renT at hr
  split at hr
  ·rename_i hb
   cases hr
   exact .inl ⟨(Nat.eq_of_beq_eq_true hb).symm, rfl⟩
  ·exact .inr hr
 have convn : ∀ {i : Nat}, renT ((id, s) :: ren) i = none → i ≠ id ∧ renT ren i = none := by
  intro i hr
  unfold renT at hr
  split at hr
  ·cases hr
  ·rename_i hb
   exact ⟨fun e1 => hb (by subst e1; exact Nat.beq_refl _), hr⟩
 refine ⟨fun j r hm => ?_, fun q hq => ?_, fun q q' hq hq' he => ?_, fun s' x' hm => ?_⟩
 ·rcases List.mem_cons.1 hm with hm | hm
  ·cases hm; exact ⟨id, o, List.mem_cons_self, ho, rfl⟩
  ·obtain ⟨id', o', h1, h2, h3⟩ := h.objs j r hm
   exact ⟨id', o', List.mem_cons_of_mem _ h1, h2, h3⟩
 ·rcases List.mem_cons.1 hq with rfl | hq
  ·exact ⟨o, List.mem_cons_self, ho, hh, hp, hren, ha⟩
  ·obtain ⟨o', h1, h2, h3, h4, h5, h6⟩ := h.back q hq
   exact ⟨o', List.mem_cons_of_mem _ h1, h2, h3, h4, (convn h5).2, h6⟩
 ·rcases List.mem_cons.1 hq with rfl | hq <;> rcases List.mem_cons.1 hq' with rfl | hq'
  ·rfl
  ·obtain ⟨_, _, _, _, _, h5, _⟩ := h.back q' hq'
   exact absurd he.symm (convn h5).1
  ·obtain ⟨_, _, _, _, _, h5, _⟩ := h.back q hq
   exact absurd he (convn h5).1
  ·exact h.ids q q' hq hq' he
 ·rcases List.mem_cons.1 hm with hm | hm
  ·cases hm; exact hk
  ·rcases h.slots s' x' hm with h1 | ⟨i, n, p, o', j, a1, a2, a3, a4, a5, a6⟩ | ⟨i, n, p, o', j, a1, a2, a3, a4, a5, a6⟩ | ⟨f, fs, caps, cs, a1, a2, a3⟩
   ·exact .inl h1
   ·refine .inr (.inl ⟨i, n, p, o', j, a1, a2, a3, a4, a5, ?_⟩)
    rcases a6 with a6 | a6
    ·exact .inl (List.mem_cons_of_mem _ a6)
    ·rcases conv a6 with ⟨rfl, rfl⟩ | a6
     ·exact .inl List.mem_cons_self
     ·exact .inr a6
   ·refine .inr (.inr (.inl ⟨i, n, p, o', j, a1, a2, a3, a4, a5, ?_⟩))
    rcases a6 with a6 | a6
    ·exact .inl (List.mem_cons_of_mem _ a6)
    ·rcases conv a6 with ⟨rfl, rfl⟩ | a6
     ·exact .inl List.mem_cons_self
     ·exact .inr a6
   ·refine .inr (.inr (.inr ⟨f, fs, caps, cs, a1, a2, a3.imp fun i j a6 => ?_⟩))
    rcases a6 with a6 | a6
    ·exact .inl (List.mem_cons_of_mem _ a6)
    ·rcases conv a6 with ⟨rfl, rfl⟩ | a6
     ·exact .inl List.mem_cons_self
     ·exact .inr a6
theorem keepCaps_ok {e : Env} {ren R : List (Nat × Nat)} : ∀ {c l : List Cap}, keepCaps e ren c = some l → CapKept e R ren c l
 | [], l, h => by simp only [keepCaps, Option.some.injEq] at h; exact h.symm
 | .rp K x :: c, l, h => by
  unfold keepCaps at h
  split at h
  ·cases h; exact ⟨_, rfl, keepCaps_ok (by assumption)⟩
  ·cases h
 | .pt id n :: c, l, h => by
  unfold keepCaps at h
  split at h
  ·rename_i o j r h1 h2 h3
   split at h
   ·rename_i hc
    rw [Bool.and_eq_true] at hc
    cases h
    exact ⟨_, o, j, rfl, join_obj h1, noHole_ok hc.1, hc.2, .inr h2, keepCaps_ok h3⟩
   ·cases h
  ·cases h
theorem keep_ok (e : Env) : ∀ (l : List Nat) (ren : List (Nat × Nat)), ∃ R, KeepOk e l ren (keep e l ren) R
 | [], ren => ⟨[], fun j r h => by simp [keep] at h, fun q h => by simp at h, fun q q' h => by simp at h, fun s x h => by simp [keep] at h⟩
 | s :: l, ren => by
  unfold keep
  split
  ·rename_i id n p hs
   split
   ·rename_i o ho
    have ho' := join_obj ho
    split
    ·rename_i hc
     rw [Bool.and_eq_true, Bool.or_eq_true] at hc
     have hh1 : o.hl = none ∨ ∃ off, queAt o p = some off := by
      rcases hc.1 with h | h
      ·exact .inl (noHole_ok h)
      ·exact .inr (Option.isSome_iff_exists.1 h)
     have hh2 : o.hl = none ∨ ∃ p off, queAt o p = some off := hh1.imp (fun h => h) (fun ⟨off, h⟩ => ⟨p, off, h⟩)
     split
     ·rename_i j hj
      obtain ⟨R, h⟩ := keep_ok e l ren
      exact ⟨R, h.slot (.inr (.inl ⟨id, n, p, o, j, hs, rfl, ho', hh1, hc.2, .inr hj⟩))⟩
     ·rename_i hj
      split
      ·rename_i hp
       obtain ⟨R, h⟩ := keep_ok e l ((id, s) :: ren)
       refine ⟨(id, s) :: R, h.new hj ho' hh2 (fun hpar => ?_) ⟨n, p, .inl hs⟩ (.inr (.inl ⟨id, n, p, o, s, hs, rfl, ho', hh1, hc.2, .inl List.mem_cons_self⟩))⟩
       rw [hpar] at hp
       exact Nat.eq_of_beq_eq_true (by simpa using hp)
      ·obtain ⟨R, h⟩ := keep_ok e l ren
       exact ⟨R, h.id_⟩
    ·obtain ⟨R, h⟩ := keep_ok e l ren
     exact ⟨R, h.id_⟩
   ·obtain ⟨R, h⟩ := keep_ok e l ren
    exact ⟨R, h.id_⟩
  ·rename_i id n p hs
   split
   ·rename_i o ho
    have ho' := join_obj ho
    split
    ·rename_i hc
     rw [Bool.and_eq_true] at hc
     split
     ·rename_i j hj
      obtain ⟨R, h⟩ := keep_ok e l ren
      exact ⟨R, h.slot (.inr (.inr (.inl ⟨id, n, p, o, j, hs, rfl, ho', noHole_ok hc.1, hc.2, .inr hj⟩)))⟩
     ·rename_i hj
      split
      ·rename_i hp
       obtain ⟨R, h⟩ := keep_ok e l ((id, s) :: ren)
       refine ⟨(id, s) :: R, h.new hj ho' (.inl (noHole_ok hc.1)) (fun hpar => ?_) ⟨n, p, .inr hs⟩ (.inr (.inr (.inl ⟨id, n, p, o, s, hs, rfl, ho', noHole_ok hc.1, hc.2, .inl List.mem_cons_self⟩)))⟩
       rw [hpar] at hp
       exact Nat.eq_of_beq_eq_true (by simpa using hp)
      ·obtain ⟨R, h⟩ := keep_ok e l ren
       exact ⟨R, h.id_⟩
    ·obtain ⟨R, h⟩ := keep_ok e l ren
     exact ⟨R, h.id_⟩
   ·obtain ⟨R, h⟩ := keep_ok e l ren
    exact ⟨R, h.id_⟩
  ·rename_i f fs caps hs
   obtain ⟨R, h⟩ := keep_ok e l ren
   split
   ·rename_i cs hcs
    exact ⟨R, h.slot (.inr (.inr (.inr ⟨f, fs, caps, cs, hs, rfl, keepCaps_ok hcs⟩)))⟩
   ·exact ⟨R, h.id_⟩
  ·obtain ⟨R, h⟩ := keep_ok e l ren
   exact ⟨R, h.id_⟩
  ·obtain ⟨R, h⟩ := keep_ok e l ren
   exact ⟨R, h.id_⟩
  ·obtain ⟨R, h⟩ := keep_ok e l ren
   exact ⟨R, h.id_⟩
  ·obtain ⟨R, h⟩ := keep_ok e l ren
   exact ⟨R, h.id_⟩
  ·rename_i x h1 h2 h5 h6 h7 h3 h4
   obtain ⟨R, h⟩ := keep_ok e l ren
   refine ⟨R, h.slot (.inl ⟨rfl, ?_⟩)⟩
   cases hx : e.get s with
   | al id n p => exact absurd hx (h1 id n p)
   | pt id n p => exact absurd hx (h2 id n p)
   | tup l => exact absurd hx (h3 l)
   | dead => exact absurd hx h4
   | fv f fs l => exact absurd hx (h5 f fs l)
   | fvr f fs l => exact absurd hx (h6 f fs l)
   | sub e' id n l r => exact absurd hx (h7 e' id n l r)
   | _ => rfl
theorem plain_rep {P : Program} {g g' : Gh} {w : World} {ob ob' : Nat → Option (Option Obj)} (hS : ∀ b, g.S b → g'.S b) {s : Slot} {v : Value} (hp : s.plain = true) (h : SlotRep P g w ob s v) : SlotRep P g' w ob' s v := by
 cases s with
 | al _ _ _ => cases hp
 | pt _ _ _ => cases hp
 | tup _ => cases hp
 | dead => cases hp
 | un => exact h
 | nils => exact h
 | v K x => obtain ⟨cs, h1, h2⟩ := h; exact ⟨cs, h1.mono hS (fun _ _ _ _ h => h), h2⟩
 | rp K x => exact PtrRO.mono hS (fun _ _ _ _ h => h) h
 | fv => cases hp
 | fvr => cases hp
 | sub => cases hp
 | clo Ks Kr f => exact CloRep.mono hS (fun _ _ _ _ h => h) h
theorem inv_forget {P : Program} {nt : Nat} {e : Env} {a : Act} {w : World} (h : Inv P B nt e a w) (live : List Nat) : Inv P B nt (forget e live) a w := by
 obtain ⟨g, hg⟩ := h
 obtain ⟨R, hk⟩ := keep_ok e live []
 have uniq : ∀ q q', q ∈ R → q' ∈ R → q.2 = q'.2 → q = q' := by
  intro q q' h1 h2 h3
  obtain ⟨_, _, _, _, _, _, a1⟩ := hk.back q h1
  obtain ⟨_, _, _, _, _, _, a2⟩ := hk.back q' h2
  rw [h3] at a1
  exact hk.ids q q' h1 h2 (aliasOf_one a1 a2)
 let bk : Nat → Option Nat := fun j => look (R.map fun q => (q.2, q.1)) j
 have bk1 : ∀ {j id : Nat}, bk j = some id → (id, j) ∈ R := by
  intro j id hb
  obtain ⟨q, h1, h2⟩ := List.mem_map.1 (mem_of_look hb)
  cases h2
  exact h1
 have bk2 : ∀ {j id : Nat}, (id, j) ∈ R → bk j = some id := by
  intro j id hm
  cases hb : bk j with
  | some id' =>
   have := uniq _ _ hm (bk1 hb) rfl
   cases this
   rfl
  | none =>
   exfalso
   have : ∀ (R : List (Nat × Nat)), (id, j) ∈ R → look (R.map fun q => (q.2, q.1)) j ≠ none := by
    intro R
    induction R with
    | nil => intro h; cases h
    | cons q R ih =>
     intro h hn
     rw [List.map_cons] at hn
     by_cases hq : q.2 = j
     ·rw [hq, look_cons_self] at hn; cases hn
     ·rw [look_cons_ne hq] at hn
      rcases List.mem_cons.1 h with h | h
      ·rw [← h] at hq; exact hq rfl
      ·exact ih h hn
   exact this R hm hb
 let g' : Gh := { S := g.S, F := fun j b => match bk j with | some id => g.F id b | none => False, pl := fun j => match bk j with | some id => g.pl id | none => none, cs := fun j => match bk j with | some id => g.cs id | none => [] }
 have Fg : ∀ {j b : Nat}, g'.F j b → ∃ id, bk j = some id ∧ g.F id b := by
  intro j b hF
  show ∃ id, bk j = some id ∧ g.F id b
  have hF : (match bk j with | some id => g.F id b | none => False) := hF
  split at hF
  ·exact ⟨_, by assumption, hF⟩
  ·exact hF.elim
 have plg : ∀ {j : Nat} {q : Nat × Nat}, g'.pl j = some q → ∃ id, bk j = some id ∧ g.pl id = some q := by
  intro j q hp
  have hp : (match bk j with | some id => g.pl id | none => none) = some q := hp
  split at hp
  ·exact ⟨_, by assumption, hp⟩
  ·cases hp
 have inj : ∀ {i j id : Nat}, bk i = some id → bk j = some id → i = j := by
  intro i j id h1 h2
  have := hk.ids _ _ (bk1 h1) (bk1 h2) rfl
  cases this
  rfl
 have obj' : ∀ {j : Nat} {r : Option Obj}, (forget e live).obj j = some r → ∃ id o, bk j = some id ∧ e.obj id = some (some o) ∧ r = some { o with log := [] } ∧ (o.par = true → j = id) := by
  intro j r hr
  have hm : (j, r) ∈ (keep e live []).2 := mem_of_look hr
  obtain ⟨id, o, h1, h2, h3⟩ := hk.objs j r hm
  obtain ⟨o', _, h4, h5, h6, _⟩ := hk.back _ h1
  rw [h2] at h4
  cases h4
  exact ⟨id, o, bk2 h1, h2, h3, h6⟩
 have known : ∀ {id j : Nat}, (id, j) ∈ R → ∃ r, (forget e live).obj j = some r := by
  intro id j hm
  obtain ⟨o, h1, _⟩ := hk.back _ hm
  have : ∀ (l : List (Nat × Option Obj)), (j, some { o with log := [] }) ∈ l → ∃ r, look l j = some r := by
   intro l
   induction l with
   | nil => intro h; cases h
   | cons q l ih =>
    intro h
    by_cases hq : q.1 = j
    ·exact ⟨q.2, by rw [← hq]; exact look_cons_self _ _ _⟩
    ·obtain ⟨r, hr⟩ := ih (by
      rcases List.mem_cons.1 h with h | h
      ·rw [← h] at hq; exact absurd rfl hq
      ·exact h)
     exact ⟨r, by rw [look_cons_ne hq]; exact hr⟩
  exact this _ h1
 refine ⟨g', hg.glob, hg.tmps, hg.defers, hg.ext, hg.Ssz, fun j b hF => ?_, hg.S0, hg.Sb, fun j b hF => ?_, fun j b hF hS => ?_, fun i j b hne h1 h2 => ?_, fun i b off hp => ?_, fun i hno => ?_, fun i o' ho' => ?_, fun i => ?_⟩
 ·obtain ⟨id, _, h2⟩ := Fg hF; exact hg.Fsz id b h2
 ·obtain ⟨id, _, h2⟩ := Fg hF; exact hg.Fb id b h2
 ·obtain ⟨id, _, h2⟩ := Fg hF; exact hg.FS id b h2 hS
 ·obtain ⟨id, k1, k2⟩ := Fg h1
  obtain ⟨id', k3, k4⟩ := Fg h2
  exact hg.FF id id' b (fun e1 => hne (inj k1 (e1 ▸ k3))) k2 k4
 ·obtain ⟨id, k1, k2⟩ := plg hp
  obtain ⟨h3, h4, h5, h6⟩ := hg.plz id b off k2
  refine ⟨h3, h4, fun j hF => ?_, fun j off' hp' => ?_⟩
  ·obtain ⟨id', _, k4⟩ := Fg hF
   exact h5 id' k4
  ·obtain ⟨id', k3, k4⟩ := plg hp'
   have := h6 id' off' k4
   subst this
   exact inj k1 k3
 ·have hb : bk i = none := by
   cases hq : bk i with
   | none => rfl
   | some id =>
    obtain ⟨r, hr⟩ := known (bk1 hq)
    obtain ⟨id', o, _, _, rfl, _⟩ := obj' hr
    exact absurd hr (hno _)
  refine ⟨fun b hF => ?_, ?_⟩
  ·obtain ⟨id, h1, _⟩ := Fg hF
   rw [hb] at h1; cases h1
  ·show (match bk i with | some id => g.pl id | none => none) = none
   rw [hb]
 ·obtain ⟨id, o, h1, h2, h3, h5⟩ := obj' ho'
  cases h3
  have O := hg.objs id o h2
  have gF : g'.F i = g.F id := by funext b; show (match bk i with | some id => g.F id b | none => False) = _; rw [h1]
  have gp : g'.pl i = g.pl id := by show (match bk i with | some id => g.pl id | none => none) = _; rw [h1]
  have gc : g'.cs i = g.cs id := by show (match bk i with | some id => g.cs id | none => []) = _; rw [h1]
  refine ⟨fun hh => by rw [gF, gp, gc]; exact O.own hh, (fun p hp hq => by rw [gF, gp, gc]; exact O.hole p hp hq), (by rw [gp]; exact O.box), (fun hp => ?_), (fun b off hp => O.plx b off (by rw [← gp]; exact hp)), fun q off hq => by rw [gF, gp, gc]; exact O.que q off hq⟩
  rw [gp, gc]
  have := h5 hp
  subst this
  exact O.par hp
 ·cases hl : look (keep e live []).1 i with
  | none =>
   have : (forget e live).get i = .dead := by show (match look (keep e live []).1 i with | some s => s | none => Slot.dead) = _; rw [hl]
   rw [this]
   trivial
  | some x =>
   have hx : (forget e live).get i = x := by show (match look (keep e live []).1 i with | some s => s | none => Slot.dead) = _; rw [hl]
   rw [hx]
   have hs := hg.slots i
   have hpt : ∀ {id n : Nat} {p : Path} {o : Obj} {j : Nat} {v : Value}, PtRep g w e.obj id n p v → e.obj id = some (some o) → o.hl = none → okPt o n p = true → (id, j) ∈ R → PtRep g' w (forget e live).obj j 0 p v := by
    intro id n p o j v hs a3 a4 a5 a6
    obtain ⟨b, off, c1, K1, m1, x1, b1, b2, b3⟩ := hs.2 o a3 a5 (.inl a4)
    obtain ⟨r, hr⟩ := known a6
    refine ⟨⟨by rw [hr]; simp, fun _ _ => Nat.zero_le _⟩, fun o2 ho2 _ _ => ?_⟩
    obtain ⟨id', o', k1, k2, k3, _⟩ := obj' ho2
    rw [bk2 a6] at k1
    cases k1
    rw [a3] at k2
    cases k2
    cases k3
    refine ⟨b, off, c1, K1, m1, x1, b1, ?_, b3⟩
    have gp : g'.pl j = g.pl id := by show (match bk j with | some id => g.pl id | none => none) = _; rw [bk2 a6]
    have gc : g'.cs j = g.cs id := by show (match bk j with | some id => g.cs id | none => []) = _; rw [bk2 a6]
    rw [gp, gc]; exact b2
   rcases hk.slots i x (mem_of_look hl) with ⟨rfl, hp⟩ | ⟨id, n, p, o, j, a1, rfl, a3, a4, a5, a6⟩ | ⟨id, n, p, o, j, a1, rfl, a3, a4, a5, a6⟩ | ⟨f, fs, caps, cs, a1, rfl, a3⟩
   ·exact plain_rep (g := g) (g' := g') (ob := e.obj) (fun _ h => h) hp hs
   ·have a6 : (id, j) ∈ R := by
     rcases a6 with h | h
     ·exact h
     ·simp [renT] at h
    rw [a1] at hs
    obtain ⟨q, c1, K1, m1, x1, b1, b2, b3⟩ := hs.2 o a3 a5 (a4.imp (fun h => h) (fun ⟨off, h⟩ => (queAt_ok h).1))
    obtain ⟨r, hr⟩ := known a6
    refine ⟨⟨by rw [hr]; simp, fun _ _ => Nat.zero_le _⟩, fun o2 ho2 _ _ => ?_⟩
    obtain ⟨id', o', k1, k2, k3, _⟩ := obj' ho2
    rw [bk2 a6] at k1
    cases k1
    rw [a3] at k2
    cases k2
    cases k3
    refine ⟨q, c1, K1, m1, x1, b1, ?_, b3⟩
    have gp : g'.pl j = g.pl id := by show (match bk j with | some id => g.pl id | none => none) = _; rw [bk2 a6]
    have gc : g'.cs j = g.cs id := by show (match bk j with | some id => g.cs id | none => []) = _; rw [bk2 a6]
    rw [gp, gc]; exact b2
   ·have a6 : (id, j) ∈ R := by
     rcases a6 with h | h
     ·exact h
     ·simp [renT] at h
    rw [a1] at hs
    exact hpt hs a3 a4 a5 a6
   ·rw [a1] at hs
    obtain ⟨fv, cv, e1, h1, h2⟩ := hs
    refine ⟨fv, cv, e1, h1, ?_⟩
    have : ∀ (caps cs : List Cap) (cv : List Value), CapKept e R [] caps cs → CapsOk g w e.obj caps cv → CapsOk g' w (forget e live).obj cs cv := by
     intro caps
     induction caps with
     | nil => intro cs cv hk hc; rw [show cs = [] from hk]; exact hc
     | cons c caps ih =>
      intro cs cv hk hc
      obtain ⟨v, r, rfl, c1, c2⟩ := hc
      cases c with
      | rp K x =>
       obtain ⟨r', rfl, k⟩ := hk
       exact ⟨v, r, rfl, c1, ih _ _ k c2⟩
      | pt id n =>
       obtain ⟨r', o, j, rfl, k1, k2, k3, k4, k⟩ := hk
       refine ⟨v, r, rfl, ?_, ih _ _ k c2⟩
       have k4 : (id, j) ∈ R := by
        rcases k4 with h | h
        ·exact h
        ·simp [renT] at h
       exact hpt c1 k1 k2 k3 k4
    exact this _ _ _ a3 h2
end Go.Abs
namespace Go.Abs
variable {B : Base}
theorem InvG.congr {P : Program} {nt : Nat} {e e' : Env} {a : Act} {w : World} {g : Gh} (h : InvG P B nt e a w g) (h1 : ∀ i, e'.get i = e.get i) (h2 : e'.obj = e.obj) : InvG P B nt e' a w g :=
 ⟨h.glob, h.tmps, h.defers, h.ext, h.Ssz, h.Fsz, h.S0, h.Sb, h.Fb, h.FS, h.FF, h.plz, fun i hi => h.absent i (by rw [← h2]; exact hi), fun i o ho => h.objs i o (by rw [← h2]; exact ho), fun i => by rw [h1, h2]; exact h.slots i⟩
theorem Inv.congr {P : Program} {nt : Nat} {e e' : Env} {a : Act} {w : World} (h : Inv P B nt e a w) (h1 : ∀ i, look e'.slots i = look e.slots i) (h2 : ∀ i, look e'.objs i = look e.objs i) : Inv P B nt e' a w := by
 obtain ⟨g, hg⟩ := h
 exact ⟨g, hg.congr (fun i => by unfold Env.get; rw [h1]) (by funext i; exact h2 i)⟩
def runL (e : Env) (L : List (Rec × Delta)) : Env := L.foldl (fun e q => e.apply q.2) e
def runE (D : Nat → Delta) (e : Env) (l : List Nat) : Env := l.foldl (fun e i => e.apply (D i)) e
theorem natIn_iff {n : Nat} : ∀ {l : List Nat}, natIn n l = true ↔ n ∈ l
 | [] => by simp [natIn]
 | m :: l => by
  simp only [natIn, Bool.or_eq_true, List.mem_cons, natIn_iff (l := l)]
  refine or_congr ⟨fun h => (Nat.eq_of_beq_eq_true h).symm, fun h => by subst h; exact Nat.beq_refl _⟩ Iff.rfl
theorem anyIn_false : ∀ {l r : List Nat}, anyIn l r = false → ∀ x, x ∈ l → x ∉ r
 | [], _, _, x, hx => by cases hx
 | a :: l, r, h, x, hx => by
  simp only [anyIn, Bool.or_eq_false_iff] at h
  rcases List.mem_cons.1 hx with rfl | hx
  ·intro hr
   have := natIn_iff.2 hr
   rw [h.1] at this
   cases this
  ·exact anyIn_false h.2 x hx
theorem run_look {α : Type} (pe : Env → List (Nat × α)) (pd : Delta → List (Nat × α)) (hp : ∀ e d, pe (e.apply d) = pd d ++ pe e) (D : Nat → Delta) (κ : Nat) : ∀ (l : List Nat) (e e' : Env), look (pe e) κ = look (pe e') κ →
  look (pe (runE D e l)) κ = look (pe (runE D e' (l.filter fun i => natIn κ ((pd (D i)).map (·.1))))) κ
 | [], e, e', h => h
 | i :: l, e, e', h => by
  have key : look (pe (e.apply (D i))) κ = match look (pd (D i)) κ with | some x => some x | none => look (pe e) κ := by
   rw [hp, look_app]
   cases look (pd (D i)) κ <;> rfl
  by_cases hw : natIn κ ((pd (D i)).map (·.1)) = true
  ·simp only [List.filter_cons, hw, if_true]
   refine run_look pe pd hp D κ l _ _ ?_
   rw [key, hp, look_app, h]
   cases look (pd (D i)) κ <;> rfl
  ·simp only [List.filter_cons, hw]
   refine run_look pe pd hp D κ l _ _ ?_
   rw [key, look_none (fun hm => hw (natIn_iff.2 hm))]
   exact h
structure Ent (c : Ctx) (B : Base) (nt : Nat) (ops : Array Oper) (i : Nat) (r : Rec) (d : Delta) (e0 : Env) : Prop where
 ok : ∀ e' : Env, (∀ κ, κ ∈ r.rs → look e'.slots κ = look e0.slots κ) → (∀ κ, κ ∈ r.ro → look e'.objs κ = look e0.objs κ) → ∀ a w, Inv c.P B nt e' a w → ∀ (K : Act → World → Prop) (Q : Exit → Act → World → Prop),
  (∀ a' w', Inv c.P B nt (e'.apply d) a' w' → K a' w') → wpOp c.P ops Q i K a w
 ws : r.ws = d.slots.map (·.1)
 wo : r.wo = d.objs.map (·.1)
theorem opd_const (e e' : Env) (v : Value) : e.opd (.const v) = e'.opd (.const v) := by
 cases v with
 | slice A n cap =>
  cases A with
  | some _ => rfl
  | none =>
   cases n with
   | zero => cases cap <;> rfl
   | succ _ => rfl
 | _ => rfl
theorem opd_same {e e' : Env} {l : List Operand} (h : ∀ κ, κ ∈ tmpsOf l → look e'.slots κ = look e.slots κ) : ∀ x, x ∈ l → e'.opd x = e.opd x := by
 induction l with
 | nil => intro x hx; cases hx
 | cons y l ih =>
  intro x hx
  rcases List.mem_cons.1 hx with rfl | hx
  ·cases x with
   | tmp t =>
    show e'.get t = e.get t
    unfold Env.get
    rw [h t (by simp [tmpsOf])]
   | const v => exact opd_const _ _ v
   | _ => rfl
  ·refine ih (fun κ hκ => h κ ?_) x hx
   cases y <;> simp [tmpsOf, hκ]
theorem ids_mem : ∀ {vs : List View} {v : View} {id : Nat}, v ∈ vs → ((∃ n p, v.1 = .al id n p) ∨ (∃ n p, v.1 = .pt id n p) ∨ (∃ f fs l, v.1 = .fvr f fs l ∧ id ∈ capIds l) ∨ ∃ e n l r, v.1 = .sub e id n l r) → id ∈ idsOf vs
 | [], _, _, h, _ => by cases h
 | u :: vs, v, id, h, hv => by
  rcases List.mem_cons.1 h with rfl | h
  ·obtain ⟨s, q⟩ := v
   rcases hv with ⟨n, p, hs⟩ | ⟨n, p, hs⟩ | ⟨f, fs, l, hs, hi⟩ | ⟨e, n, l, r, hs⟩
   ·simp only at hs; subst hs; simp [idsOf]
   ·simp only at hs; subst hs; simp [idsOf]
   ·simp only at hs; subst hs; simp [idsOf, hi]
   ·simp only at hs; subst hs; simp [idsOf]
  ·have := ids_mem h hv
   obtain ⟨s, q⟩ := u
   cases s <;> simp [idsOf, this]
theorem views_same {e e' : Env} {o : Oper} (h1 : ∀ κ, κ ∈ tmpsOf (Oper.opds o) → look e'.slots κ = look e.slots κ) (h2 : ∀ κ, κ ∈ idsOf (e.views o) → look e'.objs κ = look e.objs κ) : e'.views o = e.views o := by
 unfold Env.views
 refine List.map_congr_left fun x hx => ?_
 have e1 := opd_same h1 x hx
 rw [e1]
 have hm : e.view (e.opd x) ∈ e.views o := List.mem_map.2 ⟨x, hx, rfl⟩
 cases hs : e.opd x with
 | al id n p =>
  rw [hs] at hm
  show ((Slot.al id n p, (e'.obj id).join) : View) = (Slot.al id n p, (e.obj id).join)
  have : e'.obj id = e.obj id := h2 id (ids_mem hm (.inl ⟨n, p, rfl⟩))
  rw [this]
 | pt id n p =>
  rw [hs] at hm
  show ((Slot.pt id n p, (e'.obj id).join) : View) = (Slot.pt id n p, (e.obj id).join)
  have : e'.obj id = e.obj id := h2 id (ids_mem hm (.inr (.inl ⟨n, p, rfl⟩)))
  rw [this]
 | fv f fs l =>
  rw [hs] at hm
  show ((Slot.fvr f fs (l.map e'.cap), none) : View) = (Slot.fvr f fs (l.map e.cap), none)
  have key : ∀ i, i ∈ capIds (l.map e.cap) → e'.obj i = e.obj i := fun i hi => h2 i (ids_mem hm (.inr (.inr (.inl ⟨f, fs, _, rfl, hi⟩))))
  have : ∀ l : List Cap, (∀ i, i ∈ capIds (l.map e.cap) → e'.obj i = e.obj i) → l.map e'.cap = l.map e.cap := by
   intro l
   induction l with
   | nil => intro _; rfl
   | cons c l ih =>
    intro hk
    cases c with
    | rp K x => rw [List.map_cons, List.map_cons, ih hk]; rfl
    | pt id n =>
     rw [List.map_cons, List.map_cons, ih (fun i hi => hk i (List.mem_cons_of_mem _ hi))]
     show CapV.pt id n (e'.obj id).join :: _ = CapV.pt id n (e.obj id).join :: _
     rw [hk id List.mem_cons_self]
  rw [this l key]
 | sub e0 id n l r =>
  rw [hs] at hm
  show ((Slot.sub e0 id n l r, (e'.obj id).join) : View) = (Slot.sub e0 id n l r, (e.obj id).join)
  have : e'.obj id = e.obj id := h2 id (ids_mem hm (.inr (.inr (.inr ⟨e0, n, l, r, rfl⟩))))
  rw [this]
 | _ => rfl
theorem fresh_same {e e' : Env} {dst : Option Nat} (h : ∀ κ, κ ∈ freshKeys dst → look e'.objs κ = look e.objs κ) : fresh e' dst = fresh e dst := by
 cases dst with
 | none => rfl
 | some d =>
  simp only [fresh, Env.obj]
  rw [h d (by simp [freshKeys]), h (sub d 0) (by simp [freshKeys]), h (sub d 1) (by simp [freshKeys]), h (sub d 2) (by simp [freshKeys]), h (sub d 3) (by simp [freshKeys])]
section
variable {c : Ctx} {nt : Nat} {Ω : Type} {out : Ω}
theorem view_unv_same (e e' : Env) (s : Slot) : (e'.view s).1.unv = (e.view s).1.unv := by
 cases s with
 | fv f fs l => show Slot.fv f fs _ = Slot.fv f fs _; rw [cap_un, cap_un]
 | _ => rfl
theorem put1_some {dst : Option Nat} {s : Slot} {k : Delta → Option Ω} (h : put1 nt dst s k = some out) : ∃ d, put1 nt dst s some = some d ∧ k d = some out := by
 unfold put1 at h ⊢
 split at h
 ·exact ⟨_, rfl, h⟩
 ·split at h
  ·rename_i hlt; exact ⟨_, by rw [if_pos hlt], h⟩
  ·cases h
theorem mv_run {mds : List (Nat × Md)} {o : Oper} {e : Env} {k : Delta → Option Ω} (hmv : isMv o.op = true) (h : aop0 c nt mds o ((Oper.opds o).map fun x => e.view (e.opd x)) (fresh e o.dst) k = some out) :
  (∃ d, d.objs.isEmpty = true ∧ k d = some out ∧ ∀ e' : Env, (∀ x, x ∈ Oper.opds o → e'.opd x = e.opd x) → StepOk c.P B nt o e' (e'.apply d)) ∨ idsOf (e.views o) = [] := by
 obtain ⟨x, hx⟩ : ∃ x, o.op = .move x ∨ o.op = .assign x := by
  cases ho : o.op with
  | move x => exact ⟨x, .inl rfl⟩
  | assign x => exact ⟨x, .inr rfl⟩
  | _ => rw [ho] at hmv; cases hmv
 have hops : Oper.opds o = [x] := by rcases hx with hx | hx <;> (unfold Oper.opds; rw [hx]; rfl)
 by_cases hn : e.opd x = .nils
 ·refine .inr ?_
  show idsOf ((Oper.opds o).map fun x => e.view (e.opd x)) = []
  rw [hops, List.map_cons, hn]
  rfl
 ·refine .inl ?_
  have hv : ((Oper.opds o).map fun x => e.view (e.opd x)) = [e.view (e.opd x)] := by rw [hops]; rfl
  have h1 : put1 nt o.dst (e.view (e.opd x)).1.unv k = some out := by
   have hne : (e.view (e.opd x)).1 ≠ .nils := by
    cases hs : e.opd x <;> first | (rw [hs] at hn; exact absurd rfl hn) | (intro h; cases h)
   rw [hv] at h
   generalize hq : e.view (e.opd x) = v at h hne
   obtain ⟨s, q⟩ := v
   unfold aop0 at h
   rcases hx with hx | hx
   ·rw [hx] at h
    cases s <;> first | exact absurd rfl hne | exact h
   ·rw [hx] at h
    cases s <;> first | exact absurd rfl hne | exact h
  obtain ⟨d, h2, h3⟩ := put1_some h1
  have hemp : d.objs.isEmpty = true := by
   unfold put1 at h2
   split at h2
   ·cases h2; rfl
   ·split at h2
    ·cases h2; rfl
    ·cases h2
  refine ⟨d, hemp, h3, fun e' hs => ?_⟩
  have e1 : e'.opd x = e.opd x := hs x (by rw [hops]; exact List.mem_singleton_self _)
  obtain ⟨d', h4, h5⟩ := ok_move (c := c) (B := B) (nt := nt) (o := o) (fr := fresh e' o.dst) (x := x) (v := e'.view (e'.opd x)) (k := some) (out := d) hx (by rw [e1, view_unv_same e e']; exact h2)
  cases h4
  exact h5 e' ⟨by show ((Oper.opds o).map fun x => e'.view (e'.opd x)) = _; rw [hops]; rfl, rfl⟩
theorem aopX_mv {mds : List (Nat × Md)} {o : Oper} {e : Env} {fr : Bool} {k : Delta → Option Ω} (hmv : isMv o.op = true) (h : aopX c nt mds o (e.views o) fr k = some out) :
  aopX c nt mds o (e.views o) fr (fun d => if d.objs.isEmpty = true then none else k d) = some out ∨ idsOf (e.views o) = [] := by
 by_cases hx : o.op = .assign (.const (.map none))
 ·refine .inr ?_
  have hops : Oper.opds o = [.const (.map none)] := by unfold Oper.opds; rw [hx]; rfl
  show idsOf ((Oper.opds o).map fun x => e.view (e.opd x)) = []
  rw [hops]
  rfl
 ·refine .inl ?_
  generalize e.views o = vs at h ⊢
  unfold aopX at h ⊢
  split at h
  ·split at h
   ·rename_i h1
    split at h
    ·split at h
     ·rename_i h2
      rw [if_pos h1, if_pos h2]
      exact h
     ·cases h
    ·cases h
   ·cases h
  ·rename_i ho; exact absurd ho hx
  ·rename_i ho; rw [ho] at hmv; cases hmv
  ·rename_i ho; rw [ho] at hmv; cases hmv
  ·rename_i ho; rw [ho] at hmv; cases hmv
  ·cases h
theorem ent_run (hc : CtxOk c) (hM : MOk c) {mds : List (Nat × Md)} {ops : Array Oper} {i : Nat} {o : Oper} {e : Env} {k : Delta → Option Ω} (ho : ops[i]? = some o) (gs : List Nat)
  (hw : ∀ e' : Env, (∀ κ, κ ∈ gs → look e'.slots κ = look e.slots κ) → ∀ a w, Inv c.P B nt e' a w → Region.wanted o (yielded ops a.tmps) = true) (h : aopE c nt mds o e k = some out) :
  ∃ d, k d = some out ∧ Ent c B nt ops i (recOf gs o (e.views o) d) d e := by
 have gen : (∃ d, (isMv o.op && d.objs.isEmpty) = false ∧ k d = some out ∧ ∀ e' : Env, (e'.views o = e.views o ∧ fresh e' o.dst = fresh e o.dst) → StepOk c.P B nt o e' (e'.apply d)) ∨ (idsOf (e.views o) = []) ∨ (isMv o.op = true ∧ ∃ d, d.objs.isEmpty = true ∧ k d = some out ∧ ∀ e' : Env, (∀ x, x ∈ Oper.opds o → e'.opd x = e.opd x) → StepOk c.P B nt o e' (e'.apply d)) := by
  by_cases hmv : isMv o.op = true
  ·have h' : aop c nt mds o (e.views o) (fresh e o.dst) k = some out := h
   unfold aop at h'
   split at h'
   ·rcases aopX_mv hmv h' with h1 | h1
    ·obtain ⟨d, h2, h3⟩ := aopX_ok (B := B) hc hM h1
     have h2 : (if d.objs.isEmpty = true then none else k d) = some out := h2
     split at h2
     ·cases h2
     ·rename_i hne
      exact .inl ⟨d, by rw [Bool.eq_false_iff.2 hne, Bool.and_false], h2, h3⟩
    ·exact .inr (.inl h1)
   ·rcases mv_run (B := B) hmv h' with h1 | h1
    ·exact .inr (.inr ⟨hmv, h1⟩)
    ·exact .inr (.inl h1)
  ·obtain ⟨d, h1, h2⟩ := aop_ok (B := B) hc hM h
   exact .inl ⟨d, by rw [Bool.eq_false_iff.2 hmv, Bool.false_and], h1, h2⟩
 have main : ∃ d, k d = some out ∧ (((isMv o.op && d.objs.isEmpty) = true ∧ ∀ e' : Env, (∀ x, x ∈ Oper.opds o → e'.opd x = e.opd x) → StepOk c.P B nt o e' (e'.apply d)) ∨
   ((if (isMv o.op && d.objs.isEmpty) = true then [] else idsOf (e.views o)) = idsOf (e.views o) ∧ ∀ e' : Env, (e'.views o = e.views o ∧ fresh e' o.dst = fresh e o.dst) → StepOk c.P B nt o e' (e'.apply d))) := by
  rcases gen with ⟨d, h1, h2, h3⟩ | h1 | ⟨h0, d, h1, h2, h3⟩
  ·exact ⟨d, h2, .inr ⟨by rw [h1]; rfl, h3⟩⟩
  ·obtain ⟨d, h2, h3⟩ := aop_ok (B := B) hc hM h
   exact ⟨d, h2, .inr ⟨by rw [h1]; split <;> rfl, h3⟩⟩
  ·exact ⟨d, h2, .inl ⟨by rw [h0, h1]; rfl, h3⟩⟩
 obtain ⟨d, h1, ⟨hmv, h2⟩ | ⟨hids, h2⟩⟩ := main
 ·refine ⟨d, h1, ⟨fun e' hs hobj a w hi K Q hK => ?_, rfl, rfl⟩⟩
  unfold wpOp
  rw [ho]
  simp only [hw e' (fun κ hκ => hs κ (List.mem_append_left _ hκ)) a w hi, if_true]
  exact .inl (h2 e' (opd_same (fun κ hκ => hs κ (List.mem_append_right _ hκ))) a w hi _ _ hK)
 ·refine ⟨d, h1, ⟨fun e' hs hobj a w hi K Q hK => ?_, rfl, rfl⟩⟩
  have hv : e'.views o = e.views o := views_same (fun κ hκ => hs κ (List.mem_append_right _ hκ)) (fun κ hκ => hobj κ (List.mem_append_left _ (by rw [hids]; exact hκ)))
  have hf : fresh e' o.dst = fresh e o.dst := fresh_same (fun κ hκ => hobj κ (List.mem_append_right _ hκ))
  unfold wpOp
  rw [ho]
  simp only [hw e' (fun κ hκ => hs κ (List.mem_append_left _ hκ)) a w hi, if_true]
  exact .inl (h2 e' ⟨hv, hf⟩ a w hi _ _ hK)
theorem skip_inv {P : Program} {e : Env} {a : Act} {w : World} (h : Inv P B nt e a w) {dst : Option Nat} (hd : skipOk nt dst = true) : Inv P B nt (e.apply (skipD dst)) (a.put dst undef) w := by
 cases dst with
 | none => exact h
 | some d => exact h.skip (Nat.le_of_ble_eq_true hd)
theorem ent_skip {ops : Array Oper} {i t : Nat} {o : Oper} {e : Env} (ho : ops[i]? = some o) (hd : skipOk nt o.dst = true)
  (hw : ∀ e' : Env, (∀ κ, κ ∈ [t] → look e'.slots κ = look e.slots κ) → ∀ a w, Inv c.P B nt e' a w → Region.wanted o (yielded ops a.tmps) = false) : Ent c B nt ops i ⟨[t], [], o.dst.toList, []⟩ (skipD o.dst) e := by
 refine ⟨fun e' hs hobj a w hi K Q hK => ?_, ?_, ?_⟩
 ·unfold wpOp
  rw [ho]
  simp only [hw e' hs a w hi, Bool.false_eq_true, if_false]
  exact hK _ _ (skip_inv hi hd)
 ·cases o.dst <;> rfl
 ·cases o.dst <;> rfl
theorem get_same {e e' : Env} {t : Nat} (h : ∀ κ, κ ∈ [t] → look e'.slots κ = look e.slots κ) : e'.get t = e.get t := by
 unfold Env.get
 rw [h t (by simp)]
theorem aopsD_ok (hc : CtxOk c) (hM : MOk c) {mds : List (Nat × Md)} {ops : Array Oper} : ∀ (rest : List Oper) (i : Nat) (e : Env) (tr : List Rec) (k : List Rec → Env → Option Ω), (∀ (j : Nat) (o : Oper), rest[j]? = some o → ops[i + j]? = some o) →
  aopsD c nt mds ops.toList rest e tr k = some out →
  ∃ L : List (Rec × Delta), L.length = rest.length ∧ k ((L.map (·.1)).reverse ++ tr) (runL e L) = some out ∧ ∀ (j : Nat) (q : Rec × Delta), L[j]? = some q → Ent c B nt ops (i + j) q.1 q.2 (runL e (L.take j))
 | [], i, e, tr, k, _, h => ⟨[], rfl, h, fun j q hq => by simp at hq⟩
 | o :: rest, i, e, tr, k, hr, h => by
  have ho := hr 0 o rfl
  rw [Nat.add_zero] at ho
  have step : ∀ (r : Rec) (d : Delta), Ent c B nt ops i r d e → aopsD c nt mds ops.toList rest (e.apply d) (r :: tr) k = some out →
    ∃ L : List (Rec × Delta), L.length = (o :: rest).length ∧ k ((L.map (·.1)).reverse ++ tr) (runL e L) = some out ∧ ∀ (j : Nat) (q : Rec × Delta), L[j]? = some q → Ent c B nt ops (i + j) q.1 q.2 (runL e (L.take j)) := by
   intro r d he h1
   obtain ⟨L, l1, l2, l3⟩ := aopsD_ok hc hM rest (i + 1) (e.apply d) (r :: tr) k (fun j o' ho' => by
    have := hr (j + 1) o' (by simpa using ho')
    rwa [show i + 1 + j = i + (j + 1) by omega]) h1
   refine ⟨(r, d) :: L, by simp [l1], ?_, fun j q hq => ?_⟩
   ·simpa [runL] using l2
   ·cases j with
    | zero =>
     simp only [List.getElem?_cons_zero, Option.some.injEq] at hq
     subst hq
     exact he
    | succ j =>
     have := l3 j q (by simpa using hq)
     rw [show i + (j + 1) = i + 1 + j by omega]
     exact this
  unfold aopsD at h
  split at h
  ·rename_i hgd
   obtain ⟨d, h1, h2⟩ := ent_run (B := B) hc hM (i := i) ho [] (fun e' _ a w _ => by simp [Region.wanted, hgd]) h
   exact step _ d h2 h1
  ·rename_i j want hgd
   split at h
   ·cases h
   ·rename_i t ht
    have hyield : ∀ tmps : Array Value, yielded ops tmps j = match tmps[t]? with | some (.bool b) => some b | _ => none := by
     intro tmps
     have : (ops[j]?).bind (·.dst) = some t := by
      unfold dstAt at ht
      split at ht
      ·rename_i o' ho'
       have : ops[j]? = some o' := by simpa using ho'
       rw [this]; exact ht
      ·cases ht
     unfold yielded
     rw [this]
     rfl
    split at h
    ·rename_i b hb
     have hy : ∀ e' : Env, (∀ κ, κ ∈ [t] → look e'.slots κ = look e.slots κ) → ∀ a w, Inv c.P B nt e' a w → yielded ops a.tmps j = some b := by
      rintro e' hs a w ⟨g, hg⟩
      rw [hyield, tmp_bool hg (by rw [get_same hs]; exact hb)]
     split at h
     ·rename_i hbw
      obtain ⟨d, h1, h2⟩ := ent_run (B := B) hc hM (i := i) ho [t] (fun e' hs a w hi => by simp [Region.wanted, hgd, hy e' hs a w hi, hbw]) h
      exact step _ d h2 h1
     ·rename_i hbw
      split at h
      ·rename_i hsk
       exact step _ _ (ent_skip ho hsk (fun e' hs a w hi => by simp [Region.wanted, hgd, hy e' hs a w hi, hbw])) h
      ·cases h
    ·rename_i hun
     split at h
     ·rename_i hsk
      refine step _ _ (ent_skip ho hsk (fun e' hs a w hi => ?_)) h
      obtain ⟨g, hg⟩ := hi
      have : yielded ops a.tmps j = none := by
       rw [hyield]
       rcases tmp_un hg (by rw [get_same hs]; exact hun) with h | h <;> rw [h] <;> rfl
      simp [Region.wanted, hgd, this]
     ·cases h
    ·cases h
end
theorem nthL_eq : ∀ (l : List (List Nat)) (n : Nat), nthL l n = (l[n]?).getD []
 | [], n => by cases n <;> rfl
 | a :: l, 0 => rfl
 | a :: l, n + 1 => by rw [nthL, nthL_eq l n]; simp
theorem ancs_eq : ∀ (l : List Oper) (acc : List (List Nat)), ∃ M, ancs l acc = acc ++ M ∧ M.length = l.length ∧ ∀ (j : Nat) (o : Oper), l[j]? = some o → M[j]? = some (ancOne (acc ++ M.take j) o.after.toList)
 | [], acc => ⟨[], by simp [ancs], rfl, fun j o h => by simp at h⟩
 | o :: l, acc => by
  obtain ⟨M, h1, h2, h3⟩ := ancs_eq l (acc ++ [ancOne acc o.after.toList])
  refine ⟨ancOne acc o.after.toList :: M, by rw [ancs, h1]; simp, by simp [h2], fun j o' ho => ?_⟩
  cases j with
  | zero =>
   simp only [List.getElem?_cons_zero, Option.some.injEq] at ho
   subst ho
   simp
  | succ j =>
   have := h3 j o' (by simpa using ho)
   simpa using this
theorem ancOne_mem {acc : List (List Nat)} : ∀ {es : List Edge} {m : Nat}, m ∈ ancOne acc es ↔ ∃ e, e ∈ es ∧ Region.binds .any e = true ∧ (m = e.on ∨ m ∈ nthL acc e.on)
 | [], m => by simp [ancOne]
 | e :: es, m => by
  unfold ancOne
  split
  ·rename_i hb
   simp only [List.cons_append, List.mem_cons, List.mem_append, ancOne_mem (es := es)]
   constructor
   ·rintro (h | h | ⟨e', h1, h2, h3⟩)
    ·exact ⟨e, .inl rfl, hb, .inl h⟩
    ·exact ⟨e, .inl rfl, hb, .inr h⟩
    ·exact ⟨e', .inr h1, h2, h3⟩
   ·rintro ⟨e', h1 | h1, h2, h3⟩
    ·subst h1
     rcases h3 with h3 | h3
     ·exact .inl h3
     ·exact .inr (.inl h3)
    ·exact .inr (.inr ⟨e', h1, h2, h3⟩)
  ·rename_i hb
   rw [ancOne_mem (es := es)]
   constructor
   ·rintro ⟨e', h1, h2, h3⟩; exact ⟨e', List.mem_cons_of_mem _ h1, h2, h3⟩
   ·rintro ⟨e', h1, h2, h3⟩
    rcases List.mem_cons.1 h1 with rfl | h1
    ·exact absurd h2 hb
    ·exact ⟨e', h1, h2, h3⟩
theorem edgesLow_ok {n : Nat} : ∀ {es : List Edge}, edgesLow n es = true → ∀ e, e ∈ es → Region.binds .any e = true → e.on < n
 | [], _, e, he, _ => by cases he
 | e0 :: es, h, e, he, hb => by
  simp only [edgesLow, Bool.and_eq_true, Bool.or_eq_true] at h
  rcases List.mem_cons.1 he with rfl | he
  ·rcases h.1 with h1 | h1
   ·rw [hb] at h1; cases h1
   ·exact Nat.le_of_ble_eq_true h1
  ·exact edgesLow_ok h.2 e he hb
theorem allLow_ok : ∀ {l : List Oper} {n : Nat}, allLow n l = true → ∀ (j : Nat) (o : Oper), l[j]? = some o → ∀ e, e ∈ o.after.toList → Region.binds .any e = true → e.on < n + j
 | [], _, _, j, o, ho, _, _, _ => by simp at ho
 | o0 :: l, n, h, j, o, ho, e, he, hb => by
  simp only [allLow, Bool.and_eq_true] at h
  cases j with
  | zero =>
   simp only [List.getElem?_cons_zero, Option.some.injEq] at ho
   subst ho
   exact edgesLow_ok h.1 e he hb
  | succ j =>
   have := allLow_ok h.2 j o (by simpa using ho) e he hb
   omega
structure Ancs (ops : Array Oper) (A : Nat → List Nat) : Prop where
 mem : ∀ (j : Nat) (o : Oper), ops[j]? = some o → ∀ m, m ∈ A j ↔ ∃ e, e ∈ o.after.toList ∧ Region.binds .any e = true ∧ (m = e.on ∨ m ∈ A e.on)
 low : ∀ (j : Nat) (o : Oper), ops[j]? = some o → ∀ e, e ∈ o.after.toList → Region.binds .any e = true → e.on < j
theorem ancs_ok {ops : Array Oper} (h : allLow 0 ops.toList = true) : Ancs ops (nthL (ancs ops.toList [])) := by
 obtain ⟨M, h1, h2, h3⟩ := ancs_eq ops.toList []
 rw [List.nil_append] at h1
 have low : ∀ (j : Nat) (o : Oper), ops[j]? = some o → ∀ e, e ∈ o.after.toList → Region.binds .any e = true → e.on < j := fun j o ho e he hb => by
  have := allLow_ok h j o (by simpa using ho) e he hb
  omega
 refine ⟨fun j o ho m => ?_, low⟩
 have h4 := h3 j o (by simpa using ho)
 rw [List.nil_append] at h4
 rw [h1, nthL_eq, h4, Option.getD_some, ancOne_mem]
 refine exists_congr fun e => and_congr_right fun he => and_congr_right fun hb => or_congr Iff.rfl ?_
 have hlt := low j o ho e he hb
 rw [nthL_eq, nthL_eq, List.getElem?_take, if_pos hlt]
theorem Ancs.lt {ops : Array Oper} {A : Nat → List Nat} (h : Ancs ops A) : ∀ (j : Nat) (o : Oper), ops[j]? = some o → ∀ m, m ∈ A j → m < j := by
 intro j
 induction j using Nat.strongRecOn with
 | _ j ih =>
  intro o ho m hm
  obtain ⟨e, he, hb, h1⟩ := (h.mem j o ho m).1 hm
  have hl := h.low j o ho e he hb
  rcases h1 with rfl | h1
  ·exact hl
  ·have hlt : e.on < ops.size := by
    have : j < ops.size := (Array.getElem?_eq_some_iff.1 ho).1
    omega
   have := ih e.on hl ops[e.on] (by simp [hlt]) m h1
   omega
theorem freeOf_ok {an : List Nat} {y : Rec} : ∀ {l : List Rec} {i : Nat}, freeOf an y i l = true → ∀ (j : Nat) (x : Rec), l[j]? = some x → i + j ∈ an ∨ clash x y = false
 | [], _, _, j, x, hx => by simp at hx
 | x0 :: l, i, h, j, x, hx => by
  simp only [freeOf, Bool.and_eq_true, Bool.or_eq_true] at h
  cases j with
  | zero =>
   simp only [List.getElem?_cons_zero, Option.some.injEq] at hx
   subst hx
   rcases h.1 with h1 | h1
   ·exact .inl (by simpa using natIn_iff.1 h1)
   ·exact .inr (by simpa using h1)
  | succ j =>
   have := freeOf_ok h.2 j x (by simpa using hx)
   rwa [show i + 1 + j = i + (j + 1) by omega] at this
theorem indepL_ok {an : List (List Nat)} {all : List Rec} : ∀ {l : List Rec} {j : Nat}, indepL an all j l = true → ∀ (k : Nat) (y : Rec), l[k]? = some y → ∀ (i : Nat) (x : Rec), i < j + k → all[i]? = some x → i ∈ nthL an (j + k) ∨ clash x y = false
 | [], _, _, k, y, hy, _, _, _, _ => by simp at hy
 | y0 :: l, j, h, k, y, hy, i, x, hi, hx => by
  simp only [indepL, Bool.and_eq_true] at h
  cases k with
  | zero =>
   simp only [List.getElem?_cons_zero, Option.some.injEq] at hy
   subst hy
   have := freeOf_ok h.1 i x (by rw [List.getElem?_take, if_pos (by omega)]; exact hx)
   simpa using this
  | succ k =>
   have := indepL_ok h.2 k y (by simpa using hy) i x (by omega) hx
   rwa [show j + 1 + k = j + (k + 1) by omega] at this
end Go.Abs
namespace Go.Abs
variable {B : Base}
theorem sorted_ext : ∀ (l r : List Nat), l.Pairwise (· < ·) → r.Pairwise (· < ·) → (∀ x, x ∈ l ↔ x ∈ r) → l = r
 | [], [], _, _, _ => rfl
 | [], b :: r, _, _, h => by have := (h b).2 List.mem_cons_self; cases this
 | a :: l, [], _, _, h => by have := (h a).1 List.mem_cons_self; cases this
 | a :: l, b :: r, hl, hr, h => by
  have hl' := List.pairwise_cons.1 hl
  have hr' := List.pairwise_cons.1 hr
  have hab : a = b := by
   rcases List.mem_cons.1 ((h a).1 List.mem_cons_self) with h1 | h1
   ·exact h1
   ·rcases List.mem_cons.1 ((h b).2 List.mem_cons_self) with h2 | h2
    ·exact h2.symm
    ·have := hr'.1 a h1
     have := hl'.1 b h2
     omega
  subst hab
  rw [sorted_ext l r hl'.2 hr'.2 fun x => ⟨fun hx => ?_, fun hx => ?_⟩]
  ·rcases List.mem_cons.1 ((h x).1 (List.mem_cons_of_mem _ hx)) with h1 | h1
   ·have := hl'.1 x hx; omega
   ·exact h1
  ·rcases List.mem_cons.1 ((h x).2 (List.mem_cons_of_mem _ hx)) with h1 | h1
   ·have := hr'.1 x hx; omega
   ·exact h1
structure Good (A : Nat → List Nat) (n : Nat) (l : List Nat) : Prop where
 lt : ∀ x, x ∈ l → x < n
 one : ∀ (p q i : Nat), l[p]? = some i → l[q]? = some i → p = q
 anc : ∀ (p i : Nat), l[p]? = some i → ∀ m, m ∈ A i → ∃ r, r < p ∧ l[r]? = some m
theorem Good.sorted {A : Nat → List Nat} {n : Nat} {l : List Nat} (h : Good A n l) (wr : Nat → Bool) (hw : ∀ i j, i < j → j < n → wr i = true → wr j = true → i ∈ A j) : (l.filter wr).Pairwise (· < ·) := by
 have h1 : l.Pairwise (fun i j => wr i = true → wr j = true → i < j) := by
  rw [List.pairwise_iff_getElem]
  intro p q hp hq hpq hi hj
  have ep : l[p]? = some l[p] := by simp [hp]
  have eq : l[q]? = some l[q] := by simp [hq]
  rcases Nat.lt_trichotomy l[p] l[q] with h2 | h2 | h2
  ·exact h2
  ·rw [h2] at ep
   have := h.one p q _ ep eq
   omega
  ·have := hw l[q] l[p] h2 (h.lt _ (List.getElem_mem hp)) hj hi
   obtain ⟨r, hr, hr2⟩ := h.anc p _ ep _ this
   have := h.one r q _ hr2 eq
   omega
 have h2 := h1.filter wr
 refine h2.imp_of_mem ?_
 intro a b ha hb hab
 exact hab (List.mem_filter.1 ha).2 (List.mem_filter.1 hb).2
theorem Good.mem_anc {A : Nat → List Nat} {n : Nat} {l : List Nat} (h : Good A n l) {i : Nat} (hi : i ∈ l) : ∀ m, m ∈ A i → m ∈ l := by
 intro m hm
 obtain ⟨p, hp, rfl⟩ := List.mem_iff_getElem.1 hi
 obtain ⟨r, _, hr⟩ := h.anc p _ (by simp [hp]) m hm
 exact List.mem_of_getElem? hr
theorem Good.snoc {A : Nat → List Nat} {n : Nat} {l : List Nat} (h : Good A n l) {i : Nat} (hi : i < n) (hn : i ∉ l) (ha : ∀ m, m ∈ A i → m ∈ l) : Good A n (l ++ [i]) := by
 have at_ : ∀ (p j : Nat), (l ++ [i])[p]? = some j → (l[p]? = some j ∧ p < l.length) ∨ (p = l.length ∧ j = i) := by
  intro p j hp
  by_cases hlt : p < l.length
  ·rw [List.getElem?_append_left hlt] at hp
   exact .inl ⟨hp, hlt⟩
  ·rw [List.getElem?_append_right (by omega)] at hp
   by_cases h0 : p - l.length = 0
   ·rw [h0] at hp
    simp at hp
    exact .inr ⟨by omega, hp.symm⟩
   ·rw [List.getElem?_eq_none (by simp; omega)] at hp
    cases hp
 refine ⟨fun x hx => ?_, fun p q j hp hq => ?_, fun p j hp m hm => ?_⟩
 ·rcases List.mem_append.1 hx with h1 | h1
  ·exact h.lt x h1
  ·simp at h1; omega
 ·rcases at_ p j hp with ⟨h1, h1'⟩ | ⟨h1, h2⟩ <;> rcases at_ q j hq with ⟨h3, h3'⟩ | ⟨h3, h4⟩
  ·exact h.one p q j h1 h3
  ·subst h4; exact absurd (List.mem_of_getElem? h1) hn
  ·subst h2; exact absurd (List.mem_of_getElem? h3) hn
  ·omega
 ·rcases at_ p j hp with ⟨h1, h1'⟩ | ⟨h1, h2⟩
  ·obtain ⟨r, hr, hr2⟩ := h.anc p j h1 m hm
   exact ⟨r, hr, by rw [List.getElem?_append_left (by omega)]; exact hr2⟩
  ·subst h2
   obtain ⟨r, hr, hr2⟩ := List.mem_iff_getElem.1 (ha m hm)
   exact ⟨r, by omega, by rw [List.getElem?_append_left hr]; simp [hr, hr2]⟩
theorem Good.range {A : Nat → List Nat} {n j : Nat} (hj : j ≤ n) (hA : ∀ i m, i < n → m ∈ A i → m < i) : Good A n (List.range j) := by
 have at_ : ∀ (p i : Nat), (List.range j)[p]? = some i → p = i ∧ i < j := by
  intro p i hp
  obtain ⟨h1, h2⟩ := List.getElem?_eq_some_iff.1 hp
  simp at h1 h2
  omega
 refine ⟨fun x hx => by have := List.mem_range.1 hx; omega, fun p q i hp hq => ?_, fun p i hp m hm => ?_⟩
 ·have := at_ p i hp; have := at_ q i hq; omega
 ·obtain ⟨h1, h2⟩ := at_ p i hp
  have := hA i m (by omega) hm
  exact ⟨m, by omega, List.getElem?_range (by omega)⟩
theorem Good.nodup {A : Nat → List Nat} {n : Nat} {l : List Nat} (h : Good A n l) : l.Nodup := by
 refine List.pairwise_iff_getElem.2 fun p q hp hq hpq heq => ?_
 have := h.one p q l[p] (by simp [hp]) (by simp [hq, heq])
 omega
theorem nodup_le : ∀ (n : Nat) (l : List Nat), l.Nodup → (∀ x, x ∈ l → x < n) → l.length ≤ n
 | 0, l, _, h => by
  cases l with
  | nil => simp
  | cons a l => have := h a List.mem_cons_self; omega
 | n + 1, l, hn, h => by
  by_cases hm : n ∈ l
  ·have h1 := nodup_le n (l.erase n) (hn.erase n) (fun x hx => by
    have := (hn.mem_erase_iff).1 hx
    have := h x this.2
    omega)
   rw [List.length_erase_of_mem hm] at h1
   omega
  ·have := nodup_le n l hn (fun x hx => by
    have := h x hx
    have : x ≠ n := fun e => hm (e ▸ hx)
    omega)
   omega
theorem look_run {α : Type} (pe : Env → List (Nat × α)) (pd : Delta → List (Nat × α)) (hp : ∀ e d, pe (e.apply d) = pd d ++ pe e) {D : Nat → Delta} {A : Nat → List Nat} {n κ : Nat} {l l' : List Nat} (h : Good A n l) (h' : Good A n l')
  (hw : ∀ i j, i < j → j < n → κ ∈ (pd (D i)).map (·.1) → κ ∈ (pd (D j)).map (·.1) → i ∈ A j) (hm : ∀ i, κ ∈ (pd (D i)).map (·.1) → (i ∈ l ↔ i ∈ l')) (e : Env) : look (pe (runE D e l)) κ = look (pe (runE D e l')) κ := by
 rw [run_look pe pd hp D κ l e e rfl, run_look pe pd hp D κ l' e e rfl]
 have hw' : ∀ i j, i < j → j < n → natIn κ ((pd (D i)).map (·.1)) = true → natIn κ ((pd (D j)).map (·.1)) = true → i ∈ A j := fun i j h1 h2 h3 h4 => hw i j h1 h2 (natIn_iff.1 h3) (natIn_iff.1 h4)
 rw [sorted_ext _ _ (h.sorted _ hw') (h'.sorted _ hw') fun x => ?_]
 rw [List.mem_filter, List.mem_filter]
 exact ⟨fun ⟨h1, h2⟩ => ⟨(hm x (natIn_iff.1 h2)).1 h1, h2⟩, fun ⟨h1, h2⟩ => ⟨(hm x (natIn_iff.1 h2)).2 h1, h2⟩⟩
theorem runL_take {e : Env} {L : List (Rec × Delta)} : ∀ (j : Nat), j ≤ L.length → runL e (L.take j) = runE (fun i => match L[i]? with | some q => q.2 | none => ⟨[], []⟩) e (List.range j)
 | 0, _ => rfl
 | j + 1, hj => by
  have ih := runL_take (e := e) (L := L) j (by omega)
  rw [List.range_succ, List.take_add_one]
  have hq : L[j]? = some (L[j]'(by omega)) := List.getElem?_eq_getElem (by omega)
  rw [hq]
  simp only [runL, runE, List.foldl_append] at ih ⊢
  rw [ih]
  simp [hq]
section
variable {c : Ctx} {nt : Nat} {Ω : Type} {out : Ω}
theorem drawn_ok (hc : CtxOk c) (hM : MOk c) {mds : List (Nat × Md)} {ops : Array Oper} {e : Env} {k : Env → Option Ω}
  (h : aopsD c nt mds ops.toList ops.toList e [] (fun tr e' => if indep ops.toList tr = true then k e' else none) = some out) :
  ∃ e', k e' = some out ∧ ∀ a w, Inv c.P B nt e a w → ∀ Q : Exit → Act → World → Prop, (∀ a' w', Inv c.P B nt e' a' w' → Q .normal a' w') → wpAny c.P .any ops Q ops.size (Array.replicate ops.size false) a w := by
 obtain ⟨L, l1, l2, l3⟩ := aopsD_ok (B := B) hc hM ops.toList 0 e [] _ (fun j o ho => by rw [Nat.zero_add]; simpa using ho) h
 rw [List.append_nil] at l2
 have hn : L.length = ops.size := by simpa using l1
 split at l2
 case isFalse => cases l2
 rename_i hind
 unfold indep at hind
 rw [List.reverse_reverse, Bool.and_eq_true] at hind
 have hA := ancs_ok hind.1
 generalize hAA : nthL (ancs ops.toList []) = A at hA
 have hAlt : ∀ i m, i < ops.size → m ∈ A i → m < i := fun i m hi hm => hA.lt i ops[i] (by simp [hi]) m hm
 let D : Nat → Delta := fun i => match L[i]? with | some q => q.2 | none => ⟨[], []⟩
 have hD : ∀ {i : Nat} {q : Rec × Delta}, L[i]? = some q → D i = q.2 := by
  intro i q hq
  show (match L[i]? with | some q => q.2 | none => (⟨[], []⟩ : Delta)) = q.2
  rw [hq]
 have Lget : ∀ i, i < ops.size → ∃ q, L[i]? = some q := fun i hi => ⟨L[i]'(by omega), by simp⟩
 have hent : ∀ i q, L[i]? = some q → Ent c B nt ops i q.1 q.2 (runE D e (List.range i)) := by
  intro i q hq
  have := l3 i q hq
  rw [Nat.zero_add, runL_take i (by have := (List.getElem?_eq_some_iff.1 hq).1; omega)] at this
  exact this
 have hcl : ∀ i j p q, i < j → L[i]? = some p → L[j]? = some q → i ∈ A j ∨ clash p.1 q.1 = false := by
  intro i j p q hij hp hq
  have := indepL_ok hind.2 j q.1 (by simp [hq]) i p.1 (by omega) (by simp [hp])
  rw [Nat.zero_add] at this
  rw [← hAA]
  exact this
 have clash_ws : ∀ {x y : Rec}, clash x y = false → (∀ κ, κ ∈ x.ws → κ ∉ y.rs ∧ κ ∉ y.ws) ∧ (∀ κ, κ ∈ y.ws → κ ∉ x.rs) ∧ (∀ κ, κ ∈ x.wo → κ ∉ y.ro ∧ κ ∉ y.wo) ∧ (∀ κ, κ ∈ y.wo → κ ∉ x.ro) := by
  intro x y h
  simp only [clash, Bool.or_eq_false_iff] at h
  refine ⟨fun κ hκ => ?_, fun κ hκ => anyIn_false h.1.1.2 κ hκ, fun κ hκ => ?_, fun κ hκ => anyIn_false h.2 κ hκ⟩
  ·have := anyIn_false h.1.1.1 κ hκ
   exact ⟨fun h => this (List.mem_append_left _ h), fun h => this (List.mem_append_right _ h)⟩
  ·have := anyIn_false h.1.2 κ hκ
   exact ⟨fun h => this (List.mem_append_left _ h), fun h => this (List.mem_append_right _ h)⟩
 have wsD : ∀ {i : Nat} {q : Rec × Delta}, L[i]? = some q → q.1.ws = (D i).slots.map (·.1) ∧ q.1.wo = (D i).objs.map (·.1) := by
  intro i q hq
  rw [hD hq]
  exact ⟨(hent i q hq).ws, (hent i q hq).wo⟩
 have writers : ∀ {i κ : Nat}, (κ ∈ (D i).slots.map (·.1) ∨ κ ∈ (D i).objs.map (·.1)) → i < ops.size := by
  intro i κ h
  refine Nat.lt_of_not_le fun hle => ?_
  have : D i = ⟨[], []⟩ := by
   show (match L[i]? with | some q => q.2 | none => (⟨[], []⟩ : Delta)) = ⟨[], []⟩
   rw [List.getElem?_eq_none (by omega)]
  rw [this] at h
  rcases h with h | h <;> cases h
 have wS : ∀ κ i j, i < j → j < ops.size → κ ∈ (D i).slots.map (·.1) → κ ∈ (D j).slots.map (·.1) → i ∈ A j := by
  intro κ i j hij hj h1 h2
  obtain ⟨p, hp⟩ := Lget i (by omega)
  obtain ⟨q, hq⟩ := Lget j hj
  rcases hcl i j p q hij hp hq with h3 | h3
  ·exact h3
  ·rw [← (wsD hp).1] at h1
   rw [← (wsD hq).1] at h2
   exact absurd h2 ((clash_ws h3).1 κ h1).2
 have wO : ∀ κ i j, i < j → j < ops.size → κ ∈ (D i).objs.map (·.1) → κ ∈ (D j).objs.map (·.1) → i ∈ A j := by
  intro κ i j hij hj h1 h2
  obtain ⟨p, hp⟩ := Lget i (by omega)
  obtain ⟨q, hq⟩ := Lget j hj
  rcases hcl i j p q hij hp hq with h3 | h3
  ·exact h3
  ·rw [← (wsD hp).2] at h1
   rw [← (wsD hq).2] at h2
   exact absurd h2 ((clash_ws h3).2.2.1 κ h1).2
 have before : ∀ (l : List Nat) (i : Nat) (q : Rec × Delta), Good A ops.size l → L[i]? = some q → i ∉ l → (∀ m, m ∈ A i → m ∈ l) → ∀ κ j, ((κ ∈ q.1.rs ∧ κ ∈ (D j).slots.map (·.1)) ∨ (κ ∈ q.1.ro ∧ κ ∈ (D j).objs.map (·.1))) → j ≠ i → (j ∈ l ↔ j < i) := by
  intro l i q hG hq hil hanc κ j hk hne
  have hj : j < ops.size := by
   rcases hk with h | h
   ·exact writers (.inl h.2)
   ·exact writers (.inr h.2)
  have hi : i < ops.size := by have := (List.getElem?_eq_some_iff.1 hq).1; omega
  obtain ⟨p, hp⟩ := Lget j hj
  rw [← (wsD hp).1, ← (wsD hp).2] at hk
  rcases Nat.lt_or_gt_of_ne hne with hlt | hgt
  ·refine ⟨fun _ => hlt, fun _ => ?_⟩
   rcases hcl j i p q hlt hp hq with h3 | h3
   ·exact hanc j h3
   ·rcases hk with ⟨h1, h2⟩ | ⟨h1, h2⟩
    ·exact absurd h1 ((clash_ws h3).1 κ h2).1
    ·exact absurd h1 ((clash_ws h3).2.2.1 κ h2).1
  ·refine ⟨fun hjl => ?_, fun h => by omega⟩
   rcases hcl i j q p hgt hq hp with h3 | h3
   ·exact absurd (hG.mem_anc hjl i h3) hil
   ·rcases hk with ⟨h1, h2⟩ | ⟨h1, h2⟩
    ·exact absurd h1 ((clash_ws h3).2.1 κ h2)
    ·exact absurd h1 ((clash_ws h3).2.2.2 κ h2)
 refine ⟨runL e L, l2, fun a w hI Q hQ => ?_⟩
 have hfin : runL e L = runE D e (List.range ops.size) := by
  have := runL_take (e := e) (L := L) L.length (Nat.le_refl _)
  rw [List.take_length] at this
  rw [this, hn]
 rw [hfin] at hQ
 have ready : ∀ (listed : Array Bool) (i : Nat), i ∈ Region.ready .any ops listed ↔ ∃ o, ops[i]? = some o ∧ listed.getD i true = false ∧ ∀ ed, ed ∈ o.after.toList → Region.binds .any ed = true → listed.getD ed.on false = true := by
  intro listed i
  unfold Region.ready
  rw [List.mem_filter, List.mem_range]
  constructor
  ·rintro ⟨h1, h2⟩
   have ho : ops[i]? = some ops[i] := by simp [h1]
   rw [ho] at h2
   simp only [Option.map_some, Option.getD_some, Bool.and_eq_true] at h2
   refine ⟨ops[i], ho, by simpa using h2.1, fun ed hed hb => ?_⟩
   have h3 := (Array.all_eq_true_iff_forall_mem.1 h2.2) ed (by simpa using hed)
   rw [hb] at h3
   simpa using h3
  ·rintro ⟨o, ho, h1, h2⟩
   refine ⟨(Array.getElem?_eq_some_iff.1 ho).1, ?_⟩
   rw [ho]
   simp only [Option.map_some, Option.getD_some, Bool.and_eq_true]
   refine ⟨by simpa using h1, Array.all_eq_true_iff_forall_mem.2 fun ed hed => ?_⟩
   cases hb : Region.binds .any ed with
   | false => rfl
   | true => simpa using h2 ed (by simpa using hed) hb
 have main : ∀ (fuel : Nat) (l : List Nat) (listed : Array Bool) (a : Act) (w : World), fuel + l.length = ops.size → Good A ops.size l → listed.size = ops.size → (∀ i, i < ops.size → (listed.getD i true = true ↔ i ∈ l)) →
   Inv c.P B nt (runE D e l) a w → wpAny c.P .any ops Q fuel listed a w := by
  intro fuel
  induction fuel with
  | zero =>
   intro l listed a w hlen hG hsz hlisted hI
   have full : ∀ i, i < ops.size → i ∈ l := by
    intro i hi
    refine Classical.byContradiction fun hni => ?_
    have := nodup_le ops.size (i :: l) (List.nodup_cons.2 ⟨hni, hG.nodup⟩) (fun x hx => by
     rcases List.mem_cons.1 hx with rfl | hx
     ·exact hi
     ·exact hG.lt x hx)
    simp at this
    omega
   refine ⟨?_, hQ _ _ (hI.congr ?_ ?_)⟩
   ·refine List.eq_nil_iff_forall_not_mem.2 fun i hi => ?_
    obtain ⟨o, ho, h1, _⟩ := (ready listed i).1 hi
    have hlt := (Array.getElem?_eq_some_iff.1 ho).1
    rw [(hlisted i hlt).2 (full i hlt)] at h1
    cases h1
   ·intro κ
    exact look_run (fun e => e.slots) (fun d => d.slots) (fun _ _ => rfl) (Good.range (Nat.le_refl _) hAlt) hG (wS κ) (fun i hi => ⟨fun _ => full i (writers (.inl hi)), fun _ => List.mem_range.2 (writers (.inl hi))⟩) e
   ·intro κ
    exact look_run (fun e => e.objs) (fun d => d.objs) (fun _ _ => rfl) (Good.range (Nat.le_refl _) hAlt) hG (wO κ) (fun i hi => ⟨fun _ => full i (writers (.inr hi)), fun _ => List.mem_range.2 (writers (.inr hi))⟩) e
  | succ fuel ih =>
   intro l listed a w hlen hG hsz hlisted hI
   refine ⟨fun hempty => ?_, fun i hi => ?_⟩
   ·exfalso
    have hex : ∃ i, i < ops.size ∧ i ∉ l := by
     refine Classical.byContradiction fun hno => ?_
     have full : ∀ i, i < ops.size → i ∈ l := fun i hi => Classical.byContradiction fun h => hno ⟨i, hi, h⟩
     have h1 : (List.range ops.size).length ≤ l.length := by
      have : ∀ (r l : List Nat), r.Nodup → (∀ x, x ∈ r → x ∈ l) → r.length ≤ l.length := by
       intro r
       induction r with
       | nil => intro l _ _; simp
       | cons x r ih =>
        intro l hn hs
        have hn' := List.nodup_cons.1 hn
        have := ih (l.erase x) hn'.2 (fun y hy => (List.mem_erase_of_ne (by intro e1; subst e1; exact hn'.1 hy)).2 (hs y (List.mem_cons_of_mem _ hy)))
        rw [List.length_erase_of_mem (hs x List.mem_cons_self)] at this
        have hpos : 0 < l.length := List.length_pos_of_mem (hs x List.mem_cons_self)
        simp
        omega
      exact this _ _ List.nodup_range (fun x hx => full x (List.mem_range.1 hx))
     simp at h1
     omega
    have least : ∀ (i : Nat), i < ops.size → i ∉ l → ∃ j, j < ops.size ∧ j ∉ l ∧ ∀ m, m < j → m ∈ l := by
     intro i
     induction i using Nat.strongRecOn with
     | _ i ihi =>
      intro hi hil
      by_cases hall : ∀ m, m < i → m ∈ l
      ·exact ⟨i, hi, hil, hall⟩
      ·obtain ⟨m, hm⟩ := Classical.not_forall.1 hall
       obtain ⟨hm1, hm2⟩ := Classical.not_imp.1 hm
       exact ihi m hm1 (by omega) hm2
    obtain ⟨i, hi, hil⟩ := hex
    obtain ⟨j, hj, hjl, hjm⟩ := least i hi hil
    have : j ∈ Region.ready .any ops listed := by
     refine (ready listed j).2 ⟨ops[j], by simp [hj], ?_, fun ed hed hb => ?_⟩
     ·cases hb : listed.getD j true with
      | false => rfl
      | true => exact absurd ((hlisted j hj).1 hb) hjl
     ·have hlt := hA.low j ops[j] (by simp [hj]) ed hed hb
      have := (hlisted ed.on (by omega)).2 (hjm _ hlt)
      have hlt2 : ed.on < listed.size := by omega
      simpa [Array.getD, hlt2] using this
    rw [hempty] at this
    cases this
   ·obtain ⟨o, ho, h1, h2⟩ := (ready listed i).1 hi
    have hlt := (Array.getElem?_eq_some_iff.1 ho).1
    have hil : i ∉ l := fun h => by rw [(hlisted i hlt).2 h] at h1; cases h1
    have hanc : ∀ m, m ∈ A i → m ∈ l := by
     intro m hm
     obtain ⟨ed, hed, hb, h3⟩ := (hA.mem i o ho m).1 hm
     have hel := hA.low i o ho ed hed hb
     have hin : ed.on ∈ l := by
      refine (hlisted ed.on (by omega)).1 ?_
      have := h2 ed hed hb
      have hlt2 : ed.on < listed.size := by omega
      simpa [Array.getD, hlt2] using this
     rcases h3 with rfl | h3
     ·exact hin
     ·exact hG.mem_anc hin m h3
    obtain ⟨q, hq⟩ := Lget i hlt
    have hE := hent i q hq
    have hGr : Good A ops.size (List.range i) := Good.range (by omega) hAlt
    have selfl : ∀ j, j = i → (j ∈ l ↔ j ∈ List.range i) := fun j hj => by
     subst hj
     exact ⟨fun h => absurd h hil, fun h => by simp at h⟩
    have sm : ∀ κ, κ ∈ q.1.rs → look (runE D e l).slots κ = look (runE D e (List.range i)).slots κ := fun κ hκ =>
     look_run (fun e => e.slots) (fun d => d.slots) (fun _ _ => rfl) hG hGr (wS κ) (fun j hj => by
      by_cases hji : j = i
      ·exact selfl j hji
      ·rw [before l i q hG hq hil hanc κ j (.inl ⟨hκ, hj⟩) hji, List.mem_range]) e
    have om : ∀ κ, κ ∈ q.1.ro → look (runE D e l).objs κ = look (runE D e (List.range i)).objs κ := fun κ hκ =>
     look_run (fun e => e.objs) (fun d => d.objs) (fun _ _ => rfl) hG hGr (wO κ) (fun j hj => by
      by_cases hji : j = i
      ·exact selfl j hji
      ·rw [before l i q hG hq hil hanc κ j (.inr ⟨hκ, hj⟩) hji, List.mem_range]) e
    refine hE.ok (runE D e l) sm om a w hI _ Q fun a' w' hI' => ?_
    refine ih (l ++ [i]) (listed.setIfInBounds i true) a' w' (by simp; omega) (hG.snoc hlt hil hanc) (by simp [hsz]) (fun j hj => ?_) ?_
    ·have hjs : j < listed.size := by omega
     by_cases hji : i = j
     ·subst hji
      simp [Array.getD, hjs]
     ·have e1 : (listed.setIfInBounds i true).getD j true = listed.getD j true := by
       simp [Array.getD, hjs, Array.getElem_setIfInBounds_ne, hji]
      rw [e1, hlisted j hj]
      simp only [List.mem_append, List.mem_singleton]
      exact ⟨fun h => .inl h, fun h => h.elim (fun h => h) (fun h => absurd h.symm hji)⟩
    ·rw [← hD hq] at hI'
     simpa [runE] using hI'
 exact main ops.size [] _ a w (by simp) ⟨(fun x hx => by cases hx), (fun p q i hp => by simp at hp), (fun p i hp => by simp at hp)⟩ (by simp) (fun i hi => by simp [Array.getD, hi]) hI
end
end Go.Abs
namespace Go.Abs
variable {B : Base}
section
variable {c : Ctx} {nt n : Nat} {Ω : Type} {out : Ω}
def Fine (P : Program) (B : Base) (nt : Nat) (k : Env → Option Ω) (out : Ω) (Q : Act → World → Prop) : Prop := ∀ e, k e = some out → ∀ a w, Inv P B nt e a w → Q a w
theorem Fine.meet {P : Program} {k : Env → Option Ω} {Q : Act → World → Prop} (h : Fine P B nt k out Q) (l : Option (List Nat)) : Fine P B nt (meet l k) out Q := by
 cases l with
 | none => exact h
 | some l => exact fun e he a w hi => h (forget e l) he a w (inv_forget hi l)
end
end Go.Abs
namespace Go.Abs
def MUni (c : Ctx) : Prop := ∀ (f : Nat) (args : List Arg) (Ω : Type) (K : Res → Option Ω), c.M f args K = (c.M f args some).bind K
theorem put1_uni {Ω : Type} (nt : Nat) (dst : Option Nat) (s : Slot) (k : Delta → Option Ω) : put1 nt dst s k = (put1 nt dst s some).bind k := by
 unfold put1
 repeat' split
 all_goals rfl
theorem putNew_uni {Ω : Type} (nt : Nat) (dst : Option Nat) (fr : Bool) (o : Obj) (b : Bool) (more : List (Nat × Option Obj)) (k : Delta → Option Ω) : putNew nt dst fr o b more k = (putNew nt dst fr o b more some).bind k := by
 unfold putNew
 repeat' split
 all_goals rfl
theorem sameP_uni {Ω Ω' : Type} : ∀ (p q : Path) (x : Option Ω) (f : Ω → Option Ω'), sameP p q (x.bind f) = (sameP p q x).bind f
 | [], [], _, _ => rfl
 | .inn :: p, .inn :: q, x, f => sameP_uni p q x f
 | .fst :: p, .fst :: q, x, f => sameP_uni p q x f
 | .snd :: p, .snd :: q, x, f => sameP_uni p q x f
 | .idx i :: p, .idx j :: q, x, f => by
  unfold sameP
  split
  ·exact sameP_uni p q x f
  ·rfl
 | [], _ :: _, _, _ => rfl
 | .inn :: _, [], _, _ | .fst :: _, [], _, _ | .snd :: _, [], _, _ | .idx _ :: _, [], _, _ => rfl
 | .inn :: _, .fst :: _, _, _ | .inn :: _, .snd :: _, _, _ | .inn :: _, .idx _ :: _, _, _ | .fst :: _, .inn :: _, _, _ | .fst :: _, .snd :: _, _, _ | .fst :: _, .idx _ :: _, _, _
 | .snd :: _, .inn :: _, _, _ | .snd :: _, .fst :: _, _, _ | .snd :: _, .idx _ :: _, _, _ | .idx _ :: _, .inn :: _, _, _ | .idx _ :: _, .fst :: _, _, _ | .idx _ :: _, .snd :: _, _, _ => rfl
theorem prefP_uni {Ω Ω' : Type} : ∀ (p q : Path) (x : Option Ω) (f : Ω → Option Ω'), prefP p q (x.bind f) = (prefP p q x).bind f
 | [], q, _, _ => by cases q <;> rfl
 | .inn :: p, .inn :: q, x, f => prefP_uni p q x f
 | .fst :: p, .fst :: q, x, f => prefP_uni p q x f
 | .snd :: p, .snd :: q, x, f => prefP_uni p q x f
 | .idx i :: p, .idx j :: q, x, f => by
  unfold prefP
  split
  ·exact prefP_uni p q x f
  ·rfl
 | .inn :: _, [], _, _ | .fst :: _, [], _, _ | .snd :: _, [], _, _ | .idx _ :: _, [], _, _ => rfl
 | .inn :: _, .fst :: _, _, _ | .inn :: _, .snd :: _, _, _ | .inn :: _, .idx _ :: _, _, _ | .fst :: _, .inn :: _, _, _ | .fst :: _, .snd :: _, _, _ | .fst :: _, .idx _ :: _, _, _
 | .snd :: _, .inn :: _, _, _ | .snd :: _, .fst :: _, _, _ | .snd :: _, .idx _ :: _, _, _ | .idx _ :: _, .inn :: _, _, _ | .idx _ :: _, .fst :: _, _, _ | .idx _ :: _, .snd :: _, _, _ => rfl
theorem divI_uni {Ω Ω' : Type} (op : BinOp) (i : IntKind) (a b : Int) (k : KV → Option Ω) (f : Ω → Option Ω') : divI op i a b (fun r => (k r).bind f) = (divI op i a b k).bind f := by
 unfold divI
 repeat' split
 all_goals rfl
theorem binS_uni {Ω Ω' : Type} (op : BinOp) (a b : ByteArray) (k : KV → Option Ω) (f : Ω → Option Ω') : binS op a b (fun r => (k r).bind f) = (binS op a b k).bind f := by
 unfold binS
 repeat' split
 all_goals rfl
theorem shiftI_uni {Ω Ω' : Type} (op : BinOp) (i : IntKind) (a b : Int) (k : KV → Option Ω) (f : Ω → Option Ω') : shiftI op i a b (fun r => (k r).bind f) = (shiftI op i a b k).bind f := by
 unfold shiftI
 repeat' split
 all_goals rfl
theorem abin_uni {Ω Ω' : Type} (c : Ctx) (op : BinOp) (t : Nat) (cst : Bool) (a b : KV) (k : KV → Option Ω) (f : Ω → Option Ω') : abin c op t cst a b (fun r => (k r).bind f) = (abin c op t cst a b k).bind f := by
 unfold abin
 repeat' split
 all_goals first | rfl | exact divI_uni _ _ _ _ _ _ | exact binS_uni _ _ _ _ _ | exact shiftI_uni _ _ _ _ _ _
theorem retsOf_uni {Ω : Type} (nt : Nat) (mds : List (Nat × Md)) (dst : Option Nat) (fr : Bool) (outs : List (Nat × Option Obj)) (rets : List RV) (k : Delta → Option Ω) : retsOf nt mds dst fr outs rets k = (retsOf nt mds dst fr outs rets some).bind k := by
 unfold retsOf
 repeat' split
 all_goals rfl
theorem callK_uni {c : Ctx} (hU : MUni c) {Ω : Type} (nt : Nat) (mds : List (Nat × Md)) (dst : Option Nat) (fr : Bool) (f : Nat) (ts : List Nat) (vs : List View) (k : Delta → Option Ω) :
  callK c nt mds dst fr f ts vs k = (callK c nt mds dst fr f ts vs some).bind k := by
 unfold callK
 split
 ·rfl
 ·split
  ·rfl
  ·split
   ·rw [hU f _ Ω, hU f _ Delta]
    cases c.M f _ some with
    | none => rfl
    | some res =>
     simp only [Option.bind_some]
     split
     ·split
      ·rfl
      ·exact retsOf_uni _ _ _ _ _ _ _
     ·rfl
   ·rfl
theorem cloK_uni {Ω : Type} (nt : Nat) (dst : Option Nat) (Ks : List Kd) (Kr : Kd) (f : Kd.Ts Ks → Option Kr.T) (vs : List View) (k : Delta → Option Ω) : cloK nt dst Ks Kr f vs k = (cloK nt dst Ks Kr f vs some).bind k := by
 unfold cloK
 split
 ·rfl
 ·split
  ·rfl
  ·rename_i a ha
   cases f a with
   | none => rfl
   | some y => exact put1_uni _ _ _ _
theorem aop0_uni {c : Ctx} (hU : MUni c) {Ω : Type} (nt : Nat) (mds : List (Nat × Md)) (o : Oper) (vs : List View) (fr : Bool) (k : Delta → Option Ω) : aop0 c nt mds o vs fr k = (aop0 c nt mds o vs fr some).bind k := by
 unfold aop0
 split
 all_goals repeat' (first | rfl | exact put1_uni _ _ _ _ | exact putNew_uni _ _ _ _ _ _ _ | exact callK_uni hU _ _ _ _ _ _ _ _ | exact cloK_uni _ _ _ _ _ _ _ | (rw [← abin_uni]; congr 1; funext q; exact put1_uni _ _ _ _) | (rw [← sameP_uni]; rfl) | (rw [← prefP_uni]; congr 1; exact put1_uni _ _ _ _) | split | (dsimp only; split))
theorem aopX_uni {c : Ctx} (hU : MUni c) {Ω : Type} (nt : Nat) (mds : List (Nat × Md)) (o : Oper) (vs : List View) (fr : Bool) (k : Delta → Option Ω) : aopX c nt mds o vs fr k = (aopX c nt mds o vs fr some).bind k := by
 unfold aopX
 split
 all_goals repeat' (first | rfl | exact put1_uni _ _ _ _ | split | (dsimp only; split))
 rename_i f a b z vs' _ _
 unfold selfK
 cases (show Option (a.T × b.T) from z) with
 | none => rfl
 | some q => exact callK_uni hU _ _ _ _ _ _ _ _
theorem aop_uni {c : Ctx} (hU : MUni c) {Ω : Type} (nt : Nat) (mds : List (Nat × Md)) (o : Oper) (vs : List View) (fr : Bool) (k : Delta → Option Ω) : aop c nt mds o vs fr k = (aop c nt mds o vs fr some).bind k := by
 unfold aop
 split
 ·exact aopX_uni hU nt mds o vs fr k
 ·exact aop0_uni hU nt mds o vs fr k
end Go.Abs
namespace Go.Abs
def slotOf (j : Nat) : Arg → Slot
 | .ro K x => .v K x
 | .rp K x => .rp K x
 | .mp _ _ _ => .pt j 0 []
 | .ms _ _ _ => .al j 0 []
 | .mv _ _ _ => .al j 0 []
 | .fn Ks Kr f => .clo Ks Kr f
 | .fc f fs caps => .fv f fs (caps.map fun q => .rp q.1 q.2)
def objOf : Arg → Option Obj
 | .mp K m x => some ⟨K, m, x, true, true, [], none⟩
 | .ms K m x => some ⟨K, m, x, false, true, [], none⟩
 | .mv K m x => some ⟨K, m, x, false, false, [], none⟩
 | _ => none
def slotsOf : Nat → List Arg → List (Nat × Slot)
 | _, [] => []
 | j, a :: l => (j, slotOf j a) :: slotsOf (j + 1) l
def objsOf : Nat → List Arg → List (Nat × Option Obj)
 | _, [] => []
 | j, a :: l => match objOf a with
  | some o => (j, some o) :: objsOf (j + 1) l
  | none => objsOf (j + 1) l
def start (args : List Arg) : Env := ⟨slotsOf 0 args, objsOf 0 args⟩
theorem slotsOf_look : ∀ (l : List Arg) (j i : Nat), look (slotsOf j l) i = if j ≤ i then (l[i - j]?).map (slotOf i) else none
 | [], j, i => by simp [slotsOf, look]
 | a :: l, j, i => by
  unfold slotsOf
  by_cases h : j = i
  ·subst h
   rw [look_cons_self, if_pos (Nat.le_refl _), Nat.sub_self]
   rfl
  ·rw [look_cons_ne h, slotsOf_look l (j + 1) i]
   by_cases hlt : j < i
   ·rw [if_pos (by omega), if_pos (by omega), show i - j = (i - (j + 1)) + 1 by omega, List.getElem?_cons_succ]
   ·rw [if_neg (by omega), if_neg (by omega)]
theorem objsOf_look : ∀ (l : List Arg) (j i : Nat), look (objsOf j l) i = if j ≤ i then (l[i - j]?).bind (fun a => (objOf a).map some) else none
 | [], j, i => by simp [objsOf, look]
 | a :: l, j, i => by
  have tail : j ≠ i → look (objsOf (j + 1) l) i = if j ≤ i then ((a :: l)[i - j]?).bind (fun a => (objOf a).map some) else none := by
   intro h
   rw [objsOf_look l (j + 1) i]
   by_cases hlt : j < i
   ·rw [if_pos (by omega), if_pos (by omega), show i - j = (i - (j + 1)) + 1 by omega, List.getElem?_cons_succ]
   ·rw [if_neg (by omega), if_neg (by omega)]
  unfold objsOf
  by_cases h : j = i
  ·subst h
   rw [if_pos (Nat.le_refl _), Nat.sub_self]
   split
   ·rename_i o ho
    rw [look_cons_self]
    simp [ho]
   ·rename_i ho
    rw [objsOf_look l (j + 1) j, if_neg (by omega)]
    simp [ho]
  ·split
   ·rw [look_cons_ne h]; exact tail h
   ·exact tail h
def baseOf (w : World) (args : List Arg) (g : Gh) : Base where
 w0 := w
 S0 := g.S
 Fx := fun b => ∃ j, g.F j b
 Rx := fun b o => ∃ j a off, args[j]? = some a ∧ g.pl j = some (b, off) ∧ off ≤ o ∧ o < off + a.size
 hd := fun j => (g.pl j, g.cs j)
theorem start_inv {P : Program} {w : World} {args : List Arg} {vals : List Value} {g : Gh} {nt : Nat} (h : Entry P w args vals g) (hnt : args.length ≤ nt) :
  Inv P (baseOf w args g) nt (start args) { tmps := vals.toArray ++ Array.replicate (nt - vals.toArray.size) undef, defers := [] } w := by
 have hl := h.len
 have obj : ∀ i, (start args).obj i = (args[i]?).bind fun a => (objOf a).map some := by
  intro i
  show look (objsOf 0 args) i = _
  rw [objsOf_look, if_pos (Nat.zero_le _), Nat.sub_zero]
 have get : ∀ i, (start args).get i = match args[i]? with | some a => slotOf i a | none => .dead := by
  intro i
  show (match look (slotsOf 0 args) i with | some s => s | none => Slot.dead) = _
  rw [slotsOf_look, if_pos (Nat.zero_le _), Nat.sub_zero]
  cases args[i]? <;> rfl
 have argAt : ∀ i a, args[i]? = some a → ∃ v, vals[i]? = some v ∧ ArgRep P g.S w (g.F i) (g.pl i) (g.cs i) a v := by
  intro i a ha
  have hi : i < vals.length := by have := (List.getElem?_eq_some_iff.1 ha).1; omega
  exact ⟨vals[i], by simp, h.arg i a vals[i] ha (by simp)⟩
 have hX : ∀ b o, g.S b → ¬ (baseOf w args g).X b o := by
  rintro b o hS (⟨j, hF⟩ | ⟨j, a, off, _, hp, _, _⟩)
  ·exact h.FS j b hF hS
  ·exact (h.plz j b off hp).2.1 hS
 refine ⟨g, ⟨h.glob, hX⟩, ?_, rfl, Ext.refl _ _, h.Ssz, h.Fsz, fun _ h => h, fun _ h => .inl h, fun i b hF => .inl ⟨i, hF⟩, h.FS, h.FF, h.plz, fun i hno => ?_, fun i o ho => ?_, fun i => ?_⟩
 ·simp only [Array.size_append, Array.size_replicate, List.size_toArray]
  omega
 ·cases ha : args[i]? with
  | none => exact h.rest i (by have := List.getElem?_eq_none_iff.1 ha; omega)
  | some a =>
   obtain ⟨v, _, hr⟩ := argAt i a ha
   have : objOf a = none := by
    cases ho : objOf a with
    | none => rfl
    | some o => exact absurd (by rw [obj, ha]; simp [ho]) (hno o)
   cases a with
   | ro K x => exact ⟨hr.1, hr.2.1⟩
   | rp K x => exact ⟨hr.1, hr.2.1⟩
   | fn Ks Kr f => exact ⟨hr.1, hr.2.1⟩
   | fc f fs caps => exact ⟨hr.1, hr.2.1⟩
   | mp K m x => simp [objOf] at this
   | ms K m x => simp [objOf] at this
   | mv K m x => simp [objOf] at this
 ·rw [obj] at ho
  cases ha : args[i]? with
  | none => rw [ha] at ho; cases ho
  | some a =>
   rw [ha] at ho
   obtain ⟨v, _, hr⟩ := argAt i a ha
   cases a with
   | ro K x => cases ho
   | rp K x => cases ho
   | fn Ks Kr f => cases ho
   | fc f fs caps => cases ho
   | mp K m x =>
    cases ho
    obtain ⟨b, off, hp, rfl, h1, h2⟩ := hr
    exact ⟨fun _ => ⟨h1, h2⟩, (fun p hp => by cases hp), by rw [hp]; rfl, fun _ => by
     unfold ParOk
     split
     ·exact ⟨fun _ => rfl, fun hn => by rw [show (baseOf w args g).hd i = (g.pl i, g.cs i) from rfl, hp] at hn; cases hn⟩
     ·exact ⟨rfl, fun hb => by cases hb⟩, (fun b' off' hp' => .inr ⟨rfl, fun o' h3 h4 => ⟨i, _, off', ha, hp', h3, h4⟩⟩), fun q off hq => no_que rfl hq⟩
   | ms K m x =>
    cases ho
    obtain ⟨hp, h1, h2⟩ := hr
    exact ⟨fun _ => ⟨h1, fun b off hq => by rw [hp] at hq; cases hq⟩, (fun p hp => by cases hp), by rw [hp]; rfl, fun _ => by
     unfold ParOk
     rw [if_neg (by simp)]
     exact ⟨rfl, fun _ => rfl⟩, (fun b' off' hp' => by rw [hp] at hp'; cases hp'), fun q off hq => no_que rfl hq⟩
   | mv K m x =>
    cases ho
    obtain ⟨hp, h1, h2⟩ := hr
    exact ⟨fun _ => ⟨h1, fun b off hq => by rw [hp] at hq; cases hq⟩, (fun p hp => by cases hp), by rw [hp]; rfl, (fun hp => by cases hp), (fun b' off' hp' => by rw [hp] at hp'; cases hp'), fun q off hq => no_que rfl hq⟩
 ·rw [get]
  cases ha : args[i]? with
  | none => trivial
  | some a =>
   obtain ⟨v, hv, hr⟩ := argAt i a ha
   have hi : i < vals.length := (List.getElem?_eq_some_iff.1 hv).1
   have ht : (vals.toArray ++ Array.replicate (nt - vals.toArray.size) undef).getD i undef = v := by
    rw [Array.getD_eq_getD_getElem?, Array.getElem?_append_left (by simpa using hi)]
    simp [hv]
   show SlotRep P g w (start args).obj (slotOf i a) ((vals.toArray ++ Array.replicate (nt - vals.toArray.size) undef).getD i undef)
   rw [ht]
   have hob : (start args).obj i = (objOf a).map some := by rw [obj, ha]; rfl
   cases a with
   | ro K x => exact hr.2.2
   | rp K x => exact hr.2.2
   | fn Ks Kr f => exact hr.2.2
   | fc f fs caps =>
    obtain ⟨_, _, fv, cv, e1, h1, h2⟩ := hr
    refine ⟨fv, cv, e1, h1, ?_⟩
    have : ∀ (l : List KV) (vs : List Value), CapsRep g.S w l vs → CapsOk g w (start args).obj (l.map fun q => .rp q.1 q.2) vs := by
     intro l
     induction l with
     | nil => intro vs h; exact h
     | cons q l ih => intro vs h; obtain ⟨v, r, e, k1, k2⟩ := h; exact ⟨v, r, e, k1, ih _ k2⟩
    exact this _ _ h2
   | mp K m x =>
    obtain ⟨b, off, hp, rfl, h1, h2⟩ := hr
    refine ⟨⟨by rw [hob]; simp [objOf], fun _ _ => Nat.zero_le _⟩, fun o ho _ _ => ?_⟩
    rw [hob] at ho
    cases ho
    exact ⟨b, off, g.cs i, K, m, x, getP_nil _ _ _, by simp only [nav, hp], rfl⟩
   | ms K m x =>
    obtain ⟨hp, h1, h2⟩ := hr
    refine ⟨⟨by rw [hob]; simp [objOf], fun _ _ => Nat.zero_le _⟩, fun o ho _ _ => ?_⟩
    rw [hob] at ho
    cases ho
    exact ⟨none, g.cs i, K, m, x, getP_nil _ _ _, by simp only [nav, hp], h2⟩
   | mv K m x =>
    obtain ⟨hp, h1, h2⟩ := hr
    refine ⟨⟨by rw [hob]; simp [objOf], fun _ _ => Nat.zero_le _⟩, fun o ho _ _ => ?_⟩
    rw [hob] at ho
    cases ho
    exact ⟨none, g.cs i, K, m, x, getP_nil _ _ _, by simp only [nav, hp], h2⟩
end Go.Abs
namespace Go.Abs
structure FnD where
 code : Code
 nt : Nat
 ann : Ann
 res : List (ResultVar × Kd × Md)
def retVal (K : Kd) (m : Md) : View → Option (RV × List Nat × List Nat)
 |(.v K' x, _) => if (K'.beq K && m.beq .ro) = true then some (.ro K' x, [], []) else none
 |(.nils, _) => match K with
  | .sl e => if m.beq .ro = true then some (.ro (.sl e) [], [], []) else (match m with | .own m' => some (.own (.sl e) (.own m') [], [], []) | _ => none)
  | _ => none
 |(.al id n [], some o) => if (noHole o && okAl o n [] && !o.par && o.K.beq K) = true then (if m.beq .ro = true then some (.ro o.K o.x, [id], []) else if o.m.beq m = true then some (.own o.K o.m o.x, [], [id]) else none) else none
 |(.pt id n [], some o) => if (noHole o && okPt o n [] && !o.par && o.K.beq K && o.m.beq m) = true then some (.bx o.K o.m o.x, [], [id]) else none
 | _ => none
def retCell (c : Ctx) (t : Nat) (K : Kd) (m : Md) : View → Option (RV × List Nat × List Nat)
 |(.rp K' x, _) => if (K'.beq K && m.beq .ro && tyIs c t K') = true then some (.ro K' x, [], []) else none
 |(.pt id n [], some o) => if (noHole o && okPt o n [] && !o.par && o.K.beq K && tyIs c t o.K) = true then (if m.beq .ro = true then some (.ro o.K o.x, [id], []) else if o.m.beq m = true then some (.own o.K o.m o.x, [], [id]) else none) else none
 | _ => none
def retOne (c : Ctx) (e : Env) : ResultVar × Kd × Md → Option (RV × List Nat × List Nat)
 |(.tmp t, K, m) => retVal K m (e.view (e.get t))
 |(.cell a t, K, m) => retCell c t K m (e.view (e.get a))
def retsAt (c : Ctx) (e : Env) : List (ResultVar × Kd × Md) → Option (List RV × List Nat × List Nat)
 | [] => some ([], [], [])
 | q :: l => match retOne c e q, retsAt c e l with
  | some (r, a1, a2), some (rs, b1, b2) => some (r :: rs, a1 ++ b1, a2 ++ b2)
  | _, _ => none
def outsAt (e : Env) : Nat → List Arg → Option (List KV)
 | _, [] => some []
 | j, .mp K m _ :: l => match e.obj j with
  | some (some o) => if (noHole o && o.par && o.box && o.K.beq K && o.m.beq m) = true then (match outsAt e (j + 1) l with | some r => some (⟨o.K, o.x⟩ :: r) | none => none) else none
  | _ => none
 | j, .ms K m _ :: l => match e.obj j with
  | some (some o) => if (noHole o && o.par && !o.box && o.K.beq K && o.m.beq m) = true then (match outsAt e (j + 1) l with | some r => some (⟨o.K, o.x⟩ :: r) | none => none)
   else if h : o.K.beq (.st K) = true then (if (noHole o && o.par && o.box && fxK o.K && o.m.beq m) = true then (match outsAt e (j + 1) l with | some r => some (⟨K, (Kd.eq_of_beq h ▸ o.x : (Kd.st K).T)⟩ :: r) | none => none) else none) else none
  | _ => none
 | j, .ro _ _ :: l => outsAt e (j + 1) l
 | j, .rp _ _ :: l => outsAt e (j + 1) l
 | j, .mv _ _ _ :: l => outsAt e (j + 1) l
 | j, .fn _ _ _ :: l => outsAt e (j + 1) l
 | j, .fc _ _ _ :: l => outsAt e (j + 1) l
def endK {Ω : Type} (c : Ctx) (d : FnD) (args : List Arg) (K : Res → Option Ω) (e : Env) : Option Ω := match retsAt c e d.res, outsAt e 0 args with
 | some (rs, fz, ow), some outs => if nodup (fz ++ ow) = true then K ⟨rs, outs⟩ else none
 | _, _ => none
theorem endK_uni {Ω : Type} (c : Ctx) (d : FnD) (args : List Arg) (K : Res → Option Ω) (e : Env) : endK c d args K e = (endK c d args some e).bind K := by
 unfold endK
 repeat' split
 all_goals rfl
theorem retOne_ok {c : Ctx} (hc : CtxOk c) {B : Base} {nt : Nat} {e : Env} {a : Act} {w : World} {g : Gh} (hg : InvG c.P B nt e a w g) {q : ResultVar × Kd × Md} {r : RV} {fz ow : List Nat} (h : retOne c e q = some (r, fz, ow)) (FZ : List Nat) (hF : ∀ i, i ∈ fz → i ∈ FZ) :
  ∃ v cs, ((match q.1 with | .tmp t => pure (a.tmps.getD t undef) | .cell t ty => (do loadVar ty (← asAddr (a.tmps.getD t undef))) : Sem Value)).run c.P w = .ok v w ∧
   RetRep (g.freeze FZ).S w (fun b => ∃ i, i ∈ ow ∧ g.has i b) cs r v ∧ ∀ i, i ∈ fz ++ ow → ∃ o, e.obj i = some (some o) ∧ o.par = false := by
 obtain ⟨rv, K, m⟩ := q
 have S1 : ∀ b, g.S b → (g.freeze FZ).S b := fun b hb => .inl hb
 have noF : ∀ b, ¬ ∃ i, i ∈ ([] : List Nat) ∧ g.has i b := fun b ⟨i, hi, _⟩ => by cases hi
 cases rv with
 | tmp t =>
  have hv : e.view (e.opd (.tmp t)) = e.view (e.get t) := rfl
  have h : retVal K m (e.view (e.get t)) = some (r, fz, ow) := h
  generalize hw : e.view (e.get t) = vw at h hv
  have hrep := view_rep hg hv
  refine ⟨a.tmps.getD t undef, ?_⟩
  unfold retVal at h
  split at h
  ·split at h
   ·cases h
    obtain ⟨cs, h1, h2⟩ := hrep
    exact ⟨cs, rfl, ⟨noF, h1.mono S1 (fun _ _ _ _ h => h), h2⟩, fun i hi => by cases hi⟩
   ·cases h
  ·split at h
   ·split at h
    ·cases h
     refine ⟨[.slice none 0 0], rfl, ⟨noF, ⟨none, 0, rfl, Nat.le_refl _, fun i hi => absurd hi (Nat.not_lt_zero i)⟩, ?_⟩, fun i hi => by cases hi⟩
     have h1 : a.tmps.getD t undef = .slice none 0 0 := hrep
     rw [h1]
     exact ⟨rfl, rfl⟩
    ·split at h
     ·cases h
      refine ⟨[.slice none 0 0], rfl, ⟨⟨none, 0, rfl, Nat.le_refl _, fun _ => rfl, (fun ad had => by cases had), fun _ _ => False, (fun _ _ h => h.elim), (fun _ ad had => by cases had), (fun _ _ _ _ h => h.elim), fun i hi => absurd hi (Nat.not_lt_zero i)⟩, ?_⟩, fun i hi => by cases hi⟩
      have h1 : a.tmps.getD t undef = .slice none 0 0 := hrep
      rw [h1]
      exact ⟨rfl, rfl⟩
     ·cases h
   ·cases h
  ·rename_i id n o
   split at h
   ·rename_i hcond
    simp only [Bool.and_eq_true] at hcond
    obtain ⟨r1, r2, r3⟩ := al_root hg hv hcond.1.1.1 hcond.1.1.2
    have hpar : o.par = false := by simpa using hcond.1.2
    split at h
    ·cases h
     refine ⟨g.cs id, rfl, ⟨noF, freeze_ro hg (hF id (by simp)) r1 (noHole_ok hcond.1.1.1), r2⟩, fun i hi => ?_⟩
     simp at hi
     subst hi
     exact ⟨o, r1, hpar⟩
    ·split at h
     ·cases h
      refine ⟨g.cs id, rfl, ⟨r3.mono S1 (fun _ _ _ _ h => h) (fun b hb => ⟨id, by simp, .inr hb⟩) (fun _ _ _ => ⟨rfl, rfl⟩), r2⟩, fun i hi => ?_⟩
      simp at hi
      subst hi
      exact ⟨o, r1, hpar⟩
     ·cases h
   ·cases h
  ·rename_i id n o
   split at h
   ·rename_i hcond
    simp only [Bool.and_eq_true] at hcond
    have hpar : o.par = false := by simpa using hcond.1.1.2
    have hh := noHole_ok hcond.1.1.1.1
    have hob := view_pt hv
    cases h
    obtain ⟨b, off, cs', K', m', x', a1, a2, a3⟩ := hrep.2 o hob hcond.1.1.1.2 (.inl hh)
    simp only [nav, Option.some.injEq, Prod.mk.injEq] at a2
    obtain ⟨o1, o2⟩ := (hg.objs id o hob).own hh
    rw [a2.1] at o2
    refine ⟨g.cs id, rfl, ⟨b, off, ⟨id, by simp, .inl ⟨off, a2.1⟩⟩, a3, o1.mono S1 (fun _ _ _ _ h => h) (fun b' hb' => ⟨⟨id, by simp, .inr hb'⟩, fun e1 => (hg.plz id b off a2.1).2.2.1 id (e1 ▸ hb')⟩) (fun _ _ _ => ⟨rfl, rfl⟩), o2⟩, fun i hi => ?_⟩
    simp at hi
    subst hi
    exact ⟨o, hob, hpar⟩
   ·cases h
  ·cases h
 | cell t ty =>
  have hv : e.view (e.opd (.tmp t)) = e.view (e.get t) := rfl
  have h : retCell c ty K m (e.view (e.get t)) = some (r, fz, ow) := h
  generalize hw : e.view (e.get t) = vw at h hv
  have hrep := view_rep hg hv
  have he : a.eval (.tmp t) = a.tmps.getD t undef := rfl
  rw [he] at hrep
  unfold retCell at h
  split at h
  ·split at h
   ·rename_i hcond
    simp only [Bool.and_eq_true] at hcond
    cases h
    obtain ⟨b, off, cs, h1, h2, h3, h4⟩ := hrep
    obtain ⟨hT, _⟩ := tyIs_ok hc.ty hcond.2
    refine ⟨_, cs, ?_, ⟨noF, h4.mono S1 (fun _ _ _ _ h => h), h4.vrep hT.np⟩, fun i hi => by cases hi⟩
    simp only [h1, asAddr, Sem.run_bind, Sem.run_pure, Result.andThen_ok]
    exact run_loadVar hT h4.length h3
   ·cases h
  ·rename_i id n o
   split at h
   ·rename_i hcond
    simp only [Bool.and_eq_true] at hcond
    have hpar : o.par = false := by simpa using hcond.1.1.2
    have hh := noHole_ok hcond.1.1.1.1
    have hob := view_pt hv
    obtain ⟨b, off, cs', K', m', x', a1, a2, a3⟩ := hrep.2 o hob hcond.1.1.1.2 (.inl hh)
    rw [getP_nil] at a1
    cases a1
    simp only [nav, Option.some.injEq, Prod.mk.injEq] at a2
    obtain ⟨o1, o2⟩ := (hg.objs id o hob).own hh
    obtain ⟨hT, _⟩ := tyIs_ok hc.ty hcond.2
    have hld : (do loadVar ty (← asAddr (a.tmps.getD t undef)) : Sem Value).run c.P w = .ok (o.K.val (g.cs id)) w := by
     simp only [a3, asAddr, Sem.run_bind, Sem.run_pure, Result.andThen_ok]
     exact run_loadVar hT o1.length (o2 b off a2.1).1
    have hro := freeze_ro hg (ids := id :: FZ) (i := id) List.mem_cons_self hob hh
    split at h
    ·cases h
     refine ⟨_, g.cs id, hld, ⟨noF, freeze_ro hg (hF id (by simp)) hob hh, hro.vrep hT.np⟩, fun i hi => ?_⟩
     simp at hi
     subst hi
     exact ⟨o, hob, hpar⟩
    ·split at h
     ·cases h
      refine ⟨_, g.cs id, hld, ⟨o1.mono S1 (fun _ _ _ _ h => h) (fun b hb => ⟨id, by simp, .inr hb⟩) (fun _ _ _ => ⟨rfl, rfl⟩), hro.vrep hT.np⟩, fun i hi => ?_⟩
      simp at hi
      subst hi
      exact ⟨o, hob, hpar⟩
     ·cases h
   ·cases h
  ·cases h
end Go.Abs
