/- The abstract interpreter of the elaborated code, and that what it answers is what the machine does: part 4. Conditions: none. -/
import Derived.Below
import Derived.Sort.Grow
import Derived.Deep.Draws
import Derived.Test.YtpgedieoancjkaaDoorA3
set_option linter.unusedVariables false
set_option linter.unusedSimpArgs false
namespace Go.Abs
def castK {K K' : Kd} (h : K'.beq K = true) (x : K'.T) : K.T := Kd.eq_of_beq h ▸ x
theorem castK_self {K K' : Kd} (h : K'.beq K = true) (x : K'.T) : (⟨K', x⟩ : KV) = ⟨K, castK h x⟩ := by
 have e := Kd.eq_of_beq h
 subst e
 rfl
inductive PS where
 | inn
 | fst
 | snd
 | idx
@[reducible] def PS.Is : List PS → Type
 | [] => Unit
 | .idx :: l => Int × PS.Is l
 | _ :: l => PS.Is l
def PS.enc : (l : List PS) → PS.Is l → Path
 | [], _ => []
 | .idx :: l, i => .idx i.1 :: PS.enc l i.2
 | .inn :: l, i => .inn :: PS.enc l i
 | .fst :: l, i => .fst :: PS.enc l i
 | .snd :: l, i => .snd :: PS.enc l i
def PS.dec : (l : List PS) → Path → Option (PS.Is l)
 | [], [] => some ()
 | .idx :: l, .idx i :: p => match PS.dec l p with | some r => some ((i, r) : Int × PS.Is l) | none => none
 | .inn :: l, .inn :: p => PS.dec l p
 | .fst :: l, .fst :: p => PS.dec l p
 | .snd :: l, .snd :: p => PS.dec l p
 | _, _ => none
theorem PS.dec_enc : ∀ (l : List PS) (p : Path) {i : PS.Is l}, PS.dec l p = some i → p = PS.enc l i
 | [], [], _, _ => rfl
 | .idx :: l, .idx j :: p, i, h => by
  have h' : (match PS.dec l p with | some r => some ((j, r) : Int × PS.Is l) | none => none) = some i := h
  split at h'
  ·rename_i r hr
   cases h'
   show _ = Step.idx j :: PS.enc l r
   rw [← PS.dec_enc l p hr]
  ·cases h'
 | .inn :: l, .inn :: p, i, h => by show _ = Step.inn :: PS.enc l i; rw [← PS.dec_enc l p (show PS.dec l p = some i from h)]
 | .fst :: l, .fst :: p, i, h => by show _ = Step.fst :: PS.enc l i; rw [← PS.dec_enc l p (show PS.dec l p = some i from h)]
 | .snd :: l, .snd :: p, i, h => by show _ = Step.snd :: PS.enc l i; rw [← PS.dec_enc l p (show PS.dec l p = some i from h)]
 | [], _ :: _, _, h => by cases h
 | .idx :: _, [], _, h | .idx :: _, .inn :: _, _, h | .idx :: _, .fst :: _, _, h | .idx :: _, .snd :: _, _, h => by cases h
 | .inn :: _, [], _, h | .inn :: _, .idx _ :: _, _, h | .inn :: _, .fst :: _, _, h | .inn :: _, .snd :: _, _, h => by cases h
 | .fst :: _, [], _, h | .fst :: _, .idx _ :: _, _, h | .fst :: _, .inn :: _, _, h | .fst :: _, .snd :: _, _, h => by cases h
 | .snd :: _, [], _, h | .snd :: _, .idx _ :: _, _, h | .snd :: _, .inn :: _, _, h | .snd :: _, .fst :: _, _, h => by cases h
inductive CSh where
 | rp (K : Kd)
 | pt (id : Nat)
@[reducible] def CVs : List CSh → Type
 | [] => Unit
 | .rp K :: l => K.T × CVs l
 | .pt _ :: l => CVs l
def cvEnc : (l : List CSh) → CVs l → List Cap
 | [], _ => []
 | .rp K :: l, x => .rp K x.1 :: cvEnc l x.2
 | .pt id :: l, x => .pt id 0 :: cvEnc l x
def cvDec : (l : List CSh) → List Cap → Option (CVs l)
 | [], [] => some ()
 | .rp K :: l, .rp K' x :: r => if h : K'.beq K = true then (match cvDec l r with | some y => some ((castK h x, y) : K.T × CVs l) | none => none) else none
 | .pt id :: l, .pt id' n :: r => if (Nat.beq id' id && Nat.beq n 0) = true then cvDec l r else none
 | _, _ => none
theorem cv_dec : ∀ (l : List CSh) (r : List Cap) {x : CVs l}, cvDec l r = some x → r = cvEnc l x
 | [], [], _, _ => rfl
 | .rp K :: l, .rp K' y :: r, x, h => by
  have h' : (if h : K'.beq K = true then (match cvDec l r with | some z => some ((castK h y, z) : K.T × CVs l) | none => none) else none) = some x := h
  split at h'
  ·rename_i hk
   split at h'
   ·rename_i z hz
    cases h'
    show _ = Cap.rp K (castK hk y) :: cvEnc l z
    rw [← cv_dec l r hz]
    have e := Kd.eq_of_beq hk
    subst e
    rfl
   ·cases h'
  ·cases h'
 | .pt id :: l, .pt id' n :: r, x, h => by
  have h' : (if (Nat.beq id' id && Nat.beq n 0) = true then cvDec l r else none) = some x := h
  split at h'
  ·rename_i hb
   rw [Bool.and_eq_true] at hb
   show _ = Cap.pt id 0 :: cvEnc l x
   rw [← cv_dec l r h', Nat.eq_of_beq_eq_true hb.1, Nat.eq_of_beq_eq_true hb.2]
  ·cases h'
 | [], _ :: _, _, h => by cases h
 | .rp _ :: _, [], _, h => by cases h
 | .rp _ :: _, .pt _ _ :: _, _, h => by cases h
 | .pt _ :: _, [], _, h => by cases h
 | .pt _ :: _, .rp _ _ :: _, _, h => by cases h
inductive Sh where
 | un
 | nils
 | v (K : Kd)
 | rp (K : Kd)
 | al (id : Nat) (p : List PS)
 | pt (id : Nat) (p : List PS)
 | fv (f : Nat) (Fs : List Kd) (cs : List CSh)
 | clo (Ks : List Kd) (Kr : Kd)
@[reducible] def Sh.V : Sh → Type
 | .un => Unit
 | .nils => Unit
 | .v K => K.T
 | .rp K => K.T
 | .al _ p => PS.Is p
 | .pt _ p => PS.Is p
 | .fv _ Fs cs => Kd.Ts Fs × CVs cs
 | .clo Ks Kr => Kd.Ts Ks → Option Kr.T
def kvsOf : (Ks : List Kd) → Kd.Ts Ks → List KV
 | [], _ => []
 | K :: Ks, x => ⟨K, x.1⟩ :: kvsOf Ks x.2
def kvsDec : (Ks : List Kd) → List KV → Option (Kd.Ts Ks)
 | [], [] => some ()
 | K :: Ks, ⟨K', x⟩ :: l => if h : K'.beq K = true then (match kvsDec Ks l with | some r => some ((castK h x, r) : K.T × Kd.Ts Ks) | none => none) else none
 | _, _ => none
theorem kvs_dec : ∀ (Ks : List Kd) (l : List KV) {x : Kd.Ts Ks}, kvsDec Ks l = some x → l = kvsOf Ks x
 | [], [], _, _ => rfl
 | K :: Ks, ⟨K', y⟩ :: l, x, h => by
  have h' : (if h : K'.beq K = true then (match kvsDec Ks l with | some r => some ((castK h y, r) : K.T × Kd.Ts Ks) | none => none) else none) = some x := h
  split at h'
  ·split at h'
   ·rename_i hk _ r hr
    cases h'
    show _ = (⟨K, castK hk y⟩ : KV) :: kvsOf Ks r
    rw [← kvs_dec Ks l hr, castK_self hk y]
   ·cases h'
  ·cases h'
 | [], _ :: _, _, h => by cases h
 | _ :: _, [], _, h => by cases h
def Sh.enc : (s : Sh) → s.V → Slot
 | .un, _ => .un
 | .nils, _ => .nils
 | .v K, x => .v K x
 | .rp K, x => .rp K x
 | .al id p, i => .al id 0 (PS.enc p i)
 | .pt id p, i => .pt id 0 (PS.enc p i)
 | .fv f Fs cs, x => .fv f (kvsOf Fs x.1) (cvEnc cs x.2)
 | .clo Ks Kr, f => .clo Ks Kr f
def castC {Ks Ls : List Kd} {Kr Lr : Kd} (h : (Kd.beqs Ls Ks && Lr.beq Kr) = true) (f : Kd.Ts Ls → Option Lr.T) : Kd.Ts Ks → Option Kr.T := by
 rw [Bool.and_eq_true] at h
 rw [← Kd.eq_of_beqs h.1, ← Kd.eq_of_beq h.2]
 exact f
theorem castC_self {Ks Ls : List Kd} {Kr Lr : Kd} (h : (Kd.beqs Ls Ks && Lr.beq Kr) = true) (f : Kd.Ts Ls → Option Lr.T) : Slot.clo Ls Lr f = Slot.clo Ks Kr (castC h f) := by
 have h' := h
 rw [Bool.and_eq_true] at h'
 have e1 := Kd.eq_of_beqs h'.1
 have e2 := Kd.eq_of_beq h'.2
 subst e1
 subst e2
 rfl
theorem castC_arg {Ks Ls : List Kd} {Kr Lr : Kd} (h : (Kd.beqs Ls Ks && Lr.beq Kr) = true) (f : Kd.Ts Ls → Option Lr.T) : Arg.fn Ls Lr f = Arg.fn Ks Kr (castC h f) := by
 have h' := h
 rw [Bool.and_eq_true] at h'
 have e1 := Kd.eq_of_beqs h'.1
 have e2 := Kd.eq_of_beq h'.2
 subst e1
 subst e2
 rfl
def Sh.dec : (s : Sh) → Slot → Option s.V
 | .un, .un => some ()
 | .nils, .nils => some ()
 | .v K, .v K' x => if h : K'.beq K = true then some (castK h x) else none
 | .rp K, .rp K' x => if h : K'.beq K = true then some (castK h x) else none
 | .al id p, .al id' n q => if (Nat.beq id' id && Nat.beq n 0) = true then PS.dec p q else none
 | .pt id p, .pt id' n q => if (Nat.beq id' id && Nat.beq n 0) = true then PS.dec p q else none
 | .fv f Fs cs, .fv f' l r => if Nat.beq f' f = true then (match kvsDec Fs l, cvDec cs r with | some x, some y => some ((x, y) : Kd.Ts Fs × CVs cs) | _, _ => none) else none
 | .clo Ks Kr, .clo Ls Lr f => if h : (Kd.beqs Ls Ks && Lr.beq Kr) = true then some (castC h f) else none
 | _, _ => none
theorem Sh.dec_enc {s : Sh} {t : Slot} {x : s.V} (h : s.dec t = some x) : t = s.enc x := by
 have two : ∀ {id id' n : Nat} {p : List PS} {q : Path} {x : PS.Is p}, (if (Nat.beq id' id && Nat.beq n 0) = true then PS.dec p q else none) = some x → id' = id ∧ n = 0 ∧ q = PS.enc p x := by
  intro id id' n p q x h
  split at h
  ·rename_i hb
   rw [Bool.and_eq_true] at hb
   exact ⟨Nat.eq_of_beq_eq_true hb.1, Nat.eq_of_beq_eq_true hb.2, PS.dec_enc _ _ h⟩
  ·cases h
 unfold Sh.dec at h
 split at h
 ·rfl
 ·rfl
 ·split at h
  ·rename_i K K' y hk
   cases h
   have := castK_self hk y
   have e := Kd.eq_of_beq hk
   subst e
   rfl
  ·cases h
 ·split at h
  ·rename_i K K' y hk
   cases h
   have e := Kd.eq_of_beq hk
   subst e
   rfl
  ·cases h
 ·obtain ⟨h1, h2, h3⟩ := two h
  subst h1 h2 h3
  rfl
 ·obtain ⟨h1, h2, h3⟩ := two h
  subst h1 h2 h3
  rfl
 ·split at h
  ·rename_i hb
   split at h
   ·rename_i y z hy hz
    cases h
    rw [Nat.eq_of_beq_eq_true hb, kvs_dec _ _ hy, cv_dec _ _ hz]
    rfl
   ·cases h
  ·cases h
 ·split at h
  ·rename_i hb
   cases h
   exact castC_self hb _
  ·cases h
 ·cases h
@[reducible] def SVs : List (Nat × Sh) → Type
 | [] => Unit
 |(_, s) :: l => s.V × SVs l
def svEnc : (l : List (Nat × Sh)) → SVs l → List (Nat × Slot)
 | [], _ => []
 |(t, s) :: l, x => (t, s.enc x.1) :: svEnc l x.2
def svDec : (l : List (Nat × Sh)) → List (Nat × Slot) → Option (SVs l)
 | [], [] => some ()
 |(t, s) :: l, (u, z) :: r => if Nat.beq u t = true then (match s.dec z, svDec l r with | some x, some y => some ((x, y) : s.V × SVs l) | _, _ => none) else none
 | _, _ => none
theorem sv_dec : ∀ (l : List (Nat × Sh)) (r : List (Nat × Slot)) {x : SVs l}, svDec l r = some x → r = svEnc l x
 | [], [], _, _ => rfl
 |(t, s) :: l, (u, z) :: r, x, h => by
  have h' : (if Nat.beq u t = true then (match s.dec z, svDec l r with | some x, some y => some ((x, y) : s.V × SVs l) | _, _ => none) else none) = some x := h
  split at h'
  ·rename_i hb
   split at h'
   ·rename_i a b ha hb2
    cases h'
    show _ = (t, s.enc a) :: svEnc l b
    rw [← sv_dec l r hb2, ← Sh.dec_enc ha, Nat.eq_of_beq_eq_true hb]
   ·cases h'
  ·cases h'
 | [], _ :: _, _, h => by cases h
 |(_, _) :: _, [], _, h => by cases h
structure OS where
 id : Nat
 K : Kd
 m : Md
 box : Bool
 par : Bool
 qu : Option (List PS)
@[reducible] def OS.V (o : OS) : Type := match o.qu with
 | none => o.K.T
 | some _ => o.K.T × Int
@[reducible] def OVs : List OS → Type
 | [] => Unit
 | o :: l => o.V × OVs l
def qEnc : List PS → Path
 | [] => []
 | .idx :: l => .idx 0 :: qEnc l
 | .inn :: l => .inn :: qEnc l
 | .fst :: l => .fst :: qEnc l
 | .snd :: l => .snd :: qEnc l
def OS.enc : (o : OS) → o.V → Obj
 | ⟨_, K, m, box, par, none⟩, x => ⟨K, m, x, box, par, [], none⟩
 | ⟨_, K, m, box, par, some q⟩, x => ⟨K, m, x.1, box, par, [], some (queP (qEnc q) x.2)⟩
def noLog (l : List (Option Path)) : Bool := match l with | [] => true | _ => false
def noHl (l : Option Path) : Bool := match l with | none => true | _ => false
def offOf (b : Obj) (q : List PS) : Option Int := match b.hl with
 | some h => (match qOf h with | some (q', off) => if eqF q' (qEnc q) = true then some off else none | none => none)
 | none => none
def OS.dec : (o : OS) → Obj → Option o.V
 | ⟨_, K, m, box, par, none⟩, b => if h : b.K.beq K = true then (if (b.m.beq m && (b.box == box) && (b.par == par) && noLog b.log && noHl b.hl) = true then some (castK h b.x) else none) else none
 | ⟨_, K, m, box, par, some q⟩, b => if h : b.K.beq K = true then (if (b.m.beq m && (b.box == box) && (b.par == par) && noLog b.log) = true then (match offOf b q with | some off => some ((castK h b.x, off) : K.T × Int) | none => none) else none) else none
theorem qOf_inv : ∀ {h q : Path} {off : Int}, qOf h = some (q, off) → h = queP q off
 | [], _, _, h => by cases h
 | [.idx i, .fst], q, off, h => by cases h; rfl
 | [.idx i], _, _, h => by cases h
 | [.inn], _, _, h => by cases h
 | [.fst], _, _, h => by cases h
 | [.snd], _, _, h => by cases h
 | .inn :: s :: p, q, off, h => by
  have h' : (match qOf (s :: p) with | some (q, i) => some (Step.inn :: q, i) | none => none) = some (q, off) := h
  split at h'
  ·rename_i q' i' hr; cases h'; rw [qOf_inv hr]; rfl
  ·cases h'
 | .fst :: s :: p, q, off, h => by
  have h' : (match qOf (s :: p) with | some (q, i) => some (Step.fst :: q, i) | none => none) = some (q, off) := h
  split at h'
  ·rename_i q' i' hr; cases h'; rw [qOf_inv hr]; rfl
  ·cases h'
 | .snd :: s :: p, q, off, h => by
  have h' : (match qOf (s :: p) with | some (q, i) => some (Step.snd :: q, i) | none => none) = some (q, off) := h
  split at h'
  ·rename_i q' i' hr; cases h'; rw [qOf_inv hr]; rfl
  ·cases h'
 | .idx j :: s :: s2 :: p, q, off, h => by
  have h' : (match qOf (s :: s2 :: p) with | some (q, i) => some (Step.idx j :: q, i) | none => none) = some (q, off) := by
   cases s <;> exact h
  split at h'
  ·rename_i q' i' hr; cases h'; rw [qOf_inv hr]; rfl
  ·cases h'
 | [.idx j, .inn], q, off, h => by cases h
 | [.idx j, .snd], q, off, h => by cases h
 | [.idx j, .idx _], q, off, h => by cases h
theorem OS.dec_enc : ∀ {o : OS} {b : Obj} {x : o.V}, o.dec b = some x → b = o.enc x
 | ⟨id, oK, om, obox, opar, none⟩, b, x, h => by
  have h' : (if h : b.K.beq oK = true then (if (b.m.beq om && (b.box == obox) && (b.par == opar) && noLog b.log && noHl b.hl) = true then some (castK h b.x) else none) else none) = some x := h
  split at h'
  ·rename_i hk
   split at h'
   ·rename_i hb
    cases h'
    simp only [Bool.and_eq_true] at hb
    obtain ⟨⟨⟨⟨h2, h3⟩, h4⟩, h5⟩, h6⟩ := hb
    obtain ⟨K, m, z, box, par, log, hl⟩ := b
    have e := Kd.eq_of_beq hk
    have e2 := Md.eq_of_beq h2
    have e3 := eq_of_beq h3
    have e4 := eq_of_beq h4
    dsimp only at e e2 e3 e4
    subst e e2 e3 e4
    cases log with
    | cons _ _ => cases h5
    | nil =>
     cases hl with
     | some _ => cases h6
     | none => rfl
   ·cases h'
  ·cases h'
 | ⟨id, oK, om, obox, opar, some q⟩, b, x, h => by
  have h' : (if h : b.K.beq oK = true then (if (b.m.beq om && (b.box == obox) && (b.par == opar) && noLog b.log) = true then (match offOf b q with | some off => some ((castK h b.x, off) : oK.T × Int) | none => none) else none) else none) = some x := h
  split at h'
  ·rename_i hk
   split at h'
   ·rename_i hb
    split at h'
    ·rename_i off ho
     cases h'
     simp only [Bool.and_eq_true] at hb
     obtain ⟨⟨⟨h2, h3⟩, h4⟩, h5⟩ := hb
     obtain ⟨K, m, z, box, par, log, hl⟩ := b
     have e := Kd.eq_of_beq hk
     have e2 := Md.eq_of_beq h2
     have e3 := eq_of_beq h3
     have e4 := eq_of_beq h4
     dsimp only at e e2 e3 e4
     subst e e2 e3 e4
     cases log with
     | cons _ _ => cases h5
     | nil =>
      cases hl with
      | none => cases ho
      | some hh =>
       have ho' : (match qOf hh with | some (q', off) => if eqF q' (qEnc q) = true then some off else none | none => none) = some off := ho
       split at ho'
       ·rename_i q' off' hq
        split at ho'
        ·rename_i he
         cases ho'
         rw [qOf_inv hq, (eqF_ok he).1]
         rfl
        ·cases ho'
       ·cases ho'
    ·cases h'
   ·cases h'
  ·cases h'
def ovEnc : (l : List OS) → OVs l → List (Nat × Option Obj)
 | [], _ => []
 | o :: l, x => (o.id, some (o.enc x.1)) :: ovEnc l x.2
def ovDec : (l : List OS) → List (Nat × Option Obj) → Option (OVs l)
 | [], [] => some ()
 | o :: l, (u, some b) :: r => if Nat.beq u o.id = true then (match o.dec b, ovDec l r with | some x, some y => some ((x, y) : o.V × OVs l) | _, _ => none) else none
 | _, _ => none
theorem ov_dec : ∀ (l : List OS) (r : List (Nat × Option Obj)) {x : OVs l}, ovDec l r = some x → r = ovEnc l x
 | [], [], _, _ => rfl
 | o :: l, (u, some b) :: r, x, h => by
  have h' : (if Nat.beq u o.id = true then (match o.dec b, ovDec l r with | some x, some y => some ((x, y) : o.V × OVs l) | _, _ => none) else none) = some x := h
  split at h'
  ·rename_i hb
   split at h'
   ·rename_i z y hz hy
    cases h'
    show _ = (o.id, some (o.enc z)) :: ovEnc l y
    rw [← ov_dec l r hy, ← OS.dec_enc hz, Nat.eq_of_beq_eq_true hb]
   ·cases h'
  ·cases h'
 | [], _ :: _, _, h => by cases h
 | _ :: _, [], _, h => by cases h
 | _ :: _, (_, none) :: _, _, h => by cases h
structure ES where
 s : List (Nat × Sh)
 o : List OS
@[reducible] def ES.V (S : ES) : Type := SVs S.s × OVs S.o
def ES.enc (S : ES) (x : S.V) : Env := ⟨svEnc S.s x.1, ovEnc S.o x.2⟩
def ES.dec (S : ES) (e : Env) : Option S.V := match svDec S.s e.slots, ovDec S.o e.objs with | some a, some b => some (a, b) | _, _ => none
theorem ES.dec_enc {S : ES} {e : Env} {x : S.V} (h : S.dec e = some x) : e = S.enc x := by
 unfold ES.dec at h
 split at h
 ·rename_i a b ha hb
  cases h
  obtain ⟨es, eo⟩ := e
  show _ = (⟨svEnc S.s a, ovEnc S.o b⟩ : Env)
  rw [← sv_dec _ _ ha, ← ov_dec _ _ hb]
 ·cases h
def ES.on {α : Type} (S : ES) (e : Env) (k : S.V → Option α) : Option α := match S.dec e with | some x => k x | none => none
theorem ES.on_inv {α : Type} {S : ES} {e : Env} {k : S.V → Option α} {out : α} (h : S.on e k = some out) : ∃ x, e = S.enc x ∧ k x = some out := by
 unfold ES.on at h
 split at h
 ·rename_i x hx
  exact ⟨x, ES.dec_enc hx, h⟩
 ·cases h
inductive ASh where
 | ro (K : Kd)
 | rp (K : Kd)
 | mp (K : Kd) (m : Md)
 | ms (K : Kd) (m : Md)
 | mv (K : Kd) (m : Md)
 | fn (Ks : List Kd) (Kr : Kd)
 | fc (f : Nat) (Fs Ks : List Kd)
def ASh.am : ASh → AM
 | .ro _ => .ro
 | .rp _ => .rp
 | .mp _ _ => .mp
 | .ms _ _ => .ms
 | .mv _ _ => .mv
 | .fn Ks Kr => .fn Ks Kr
 | .fc f Fs Ks => .fc f Fs Ks
@[reducible] def ASh.V : ASh → Type
 | .ro K => K.T
 | .rp K => K.T
 | .mp K _ => K.T
 | .ms K _ => K.T
 | .mv K _ => K.T
 | .fn Ks Kr => Kd.Ts Ks → Option Kr.T
 | .fc _ Fs Ks => Kd.Ts Fs × Kd.Ts Ks
def ASh.enc : (s : ASh) → s.V → Arg
 | .ro K, x => .ro K x
 | .rp K, x => .rp K x
 | .mp K m, x => .mp K m x
 | .ms K m, x => .ms K m x
 | .mv K m, x => .mv K m x
 | .fn Ks Kr, x => .fn Ks Kr x
 | .fc f Fs Ks, x => .fc f (kvsOf Fs x.1) (kvsOf Ks x.2)
def ASh.dec : (s : ASh) → Arg → Option s.V
 | .ro K, .ro K' x => if h : K'.beq K = true then some (castK h x) else none
 | .rp K, .rp K' x => if h : K'.beq K = true then some (castK h x) else none
 | .mp K m, .mp K' m' x => if h : K'.beq K = true then (if m'.beq m = true then some (castK h x) else none) else none
 | .ms K m, .ms K' m' x => if h : K'.beq K = true then (if m'.beq m = true then some (castK h x) else none) else none
 | .mv K m, .mv K' m' x => if h : K'.beq K = true then (if m'.beq m = true then some (castK h x) else none) else none
 | .fn Ks Kr, .fn Ls Lr f => if h : (Kd.beqs Ls Ks && Lr.beq Kr) = true then some (castC h f) else none
 | .fc f Fs Ks, .fc g l r => if Nat.beq g f = true then (match kvsDec Fs l, kvsDec Ks r with | some x, some y => some ((x, y) : Kd.Ts Fs × Kd.Ts Ks) | _, _ => none) else none
 | _, _ => none
theorem ASh.dec_enc {s : ASh} {a : Arg} {x : s.V} (h : s.dec a = some x) : a = s.enc x := by
 unfold ASh.dec at h
 split at h
 ·split at h
  ·rename_i K K' y hk
   cases h
   have e := Kd.eq_of_beq hk
   subst e
   rfl
  ·cases h
 ·split at h
  ·rename_i K K' y hk
   cases h
   have e := Kd.eq_of_beq hk
   subst e
   rfl
  ·cases h
 ·split at h
  ·rename_i K m K' m' y hk
   split at h
   ·rename_i hm
    cases h
    have e := Kd.eq_of_beq hk
    have e2 := Md.eq_of_beq hm
    subst e e2
    rfl
   ·cases h
  ·cases h
 ·split at h
  ·rename_i K m K' m' y hk
   split at h
   ·rename_i hm
    cases h
    have e := Kd.eq_of_beq hk
    have e2 := Md.eq_of_beq hm
    subst e e2
    rfl
   ·cases h
  ·cases h
 ·split at h
  ·rename_i K m K' m' y hk
   split at h
   ·rename_i hm
    cases h
    have e := Kd.eq_of_beq hk
    have e2 := Md.eq_of_beq hm
    subst e e2
    rfl
   ·cases h
  ·cases h
 ·split at h
  ·rename_i hb
   cases h
   exact castC_arg hb _
  ·cases h
 ·split at h
  ·rename_i hb
   split at h
   ·rename_i y z hy hz
    cases h
    rw [Nat.eq_of_beq_eq_true hb, kvs_dec _ _ hy, kvs_dec _ _ hz]
    rfl
   ·cases h
  ·cases h
 ·cases h
@[reducible] def AVs : List ASh → Type
 | [] => Unit
 | s :: l => s.V × AVs l
def avEnc : (l : List ASh) → AVs l → List Arg
 | [], _ => []
 | s :: l, x => s.enc x.1 :: avEnc l x.2
def avDec : (l : List ASh) → List Arg → Option (AVs l)
 | [], [] => some ()
 | s :: l, a :: r => match s.dec a, avDec l r with | some x, some y => some ((x, y) : s.V × AVs l) | _, _ => none
 | _, _ => none
theorem av_dec : ∀ (l : List ASh) (r : List Arg) {x : AVs l}, avDec l r = some x → r = avEnc l x
 | [], [], _, _ => rfl
 | s :: l, a :: r, x, h => by
  have h' : (match s.dec a, avDec l r with | some x, some y => some ((x, y) : s.V × AVs l) | _, _ => none) = some x := h
  split at h'
  ·rename_i y z hy hz
   cases h'
   show _ = s.enc y :: avEnc l z
   rw [← av_dec l r hz, ← ASh.dec_enc hy]
  ·cases h'
 | [], _ :: _, _, h => by cases h
 | _ :: _, [], _, h => by cases h
inductive RSh where
 | ro (K : Kd)
 | own (K : Kd) (m : Md)
 | out (K : Kd)
 | bx (K : Kd) (m : Md)
@[reducible] def RSh.K : RSh → Kd
 | .ro K => K
 | .own K _ => K
 | .out K => K
 | .bx K _ => K
@[reducible] def RVs : List RSh → Type
 | [] => Unit
 | [s] => s.K.T
 | s :: s2 :: l => s.K.T × RVs (s2 :: l)
def addR (s : RSh) (x : s.K.T) (r : Res) : Res := match s, x with
 | .ro K, x => ⟨.ro K x :: r.rets, r.outs⟩
 | .own K m, x => ⟨.own K m x :: r.rets, r.outs⟩
 | .out K, x => ⟨r.rets, ⟨K, x⟩ :: r.outs⟩
 | .bx K m, x => ⟨.bx K m x :: r.rets, r.outs⟩
def rvEnc : (l : List RSh) → RVs l → Res
 | [], _ => ⟨[], []⟩
 | [s], x => addR s x ⟨[], []⟩
 | s :: s2 :: l, x => addR s x.1 (rvEnc (s2 :: l) x.2)
def offR {α : Type} (s : RSh) (r : Res) (k : s.K.T → Res → Option α) : Option α := match s, k with
 | .ro K, k => match r with
  | ⟨.ro K' x :: l, o⟩ => if h : K'.beq K = true then k (castK h x) ⟨l, o⟩ else none
  | _ => none
 | .own K m, k => match r with
  | ⟨.own K' m' x :: l, o⟩ => if h : K'.beq K = true then (if m'.beq m = true then k (castK h x) ⟨l, o⟩ else none) else none
  | _ => none
 | .out K, k => match r with
  | ⟨l, ⟨K', x⟩ :: o⟩ => if h : K'.beq K = true then (if l.isEmpty = true then k (castK h x) ⟨l, o⟩ else none) else none
  | _ => none
 | .bx K m, k => match r with
  | ⟨.bx K' m' x :: l, o⟩ => if h : K'.beq K = true then (if m'.beq m = true then k (castK h x) ⟨l, o⟩ else none) else none
  | _ => none
theorem offR_inv {α : Type} {s : RSh} {r : Res} {k : s.K.T → Res → Option α} {out : α} (h : offR s r k = some out) : ∃ x r2, r = addR s x r2 ∧ k x r2 = some out := by
 unfold offR at h
 split at h
 ·split at h
  ·split at h
   ·rename_i K k0 K' x l o hk
    refine ⟨_, _, ?_, h⟩
    have e := Kd.eq_of_beq hk
    subst e
    rfl
   ·cases h
  ·cases h
 ·split at h
  ·split at h
   ·rename_i K m k0 K' m' x l o hk
    split at h
    ·rename_i hm
     refine ⟨_, _, ?_, h⟩
     have e := Kd.eq_of_beq hk
     have e2 := Md.eq_of_beq hm
     subst e e2
     rfl
    ·cases h
   ·cases h
  ·cases h
 ·split at h
  ·split at h
   ·rename_i K k0 l K' x o hk
    split at h
    ·refine ⟨_, _, ?_, h⟩
     have e := Kd.eq_of_beq hk
     subst e
     rfl
    ·cases h
   ·cases h
  ·cases h
 ·split at h
  ·split at h
   ·rename_i K m k0 K' m' x l o hk
    split at h
    ·rename_i hm
     refine ⟨_, _, ?_, h⟩
     have e := Kd.eq_of_beq hk
     have e2 := Md.eq_of_beq hm
     subst e e2
     rfl
    ·cases h
   ·cases h
  ·cases h
def emptyR {α : Type} (r : Res) (x : α) : Option α := match r with | ⟨[], []⟩ => some x | _ => none
def rvDec : (l : List RSh) → Res → Option (RVs l)
 | [], r => emptyR r ()
 | [s], r => offR s r fun x r => emptyR r x
 | s :: s2 :: l, r => offR s r fun x r => match rvDec (s2 :: l) r with | some y => some ((x, y) : s.K.T × RVs (s2 :: l)) | none => none
theorem emptyR_inv {α : Type} {r : Res} {x y : α} (h : emptyR r x = some y) : r = ⟨[], []⟩ ∧ x = y := by
 unfold emptyR at h
 split at h
 ·cases h; exact ⟨rfl, rfl⟩
 ·cases h
theorem rv_dec : ∀ (l : List RSh) (r : Res) {x : RVs l}, rvDec l r = some x → r = rvEnc l x
 | [], r, x, h => (emptyR_inv (show emptyR r () = some x from h)).1
 | [s], r, x, h => by
  obtain ⟨y, r2, h1, h2⟩ := offR_inv (show offR s r (fun x r => emptyR r x) = some x from h)
  obtain ⟨h3, h4⟩ := emptyR_inv h2
  rw [h1, h3, h4]
  rfl
 | s :: s2 :: l, r, x, h => by
  obtain ⟨y, r2, h1, h2⟩ := offR_inv (show offR s r (fun x r => match rvDec (s2 :: l) r with | some y => some ((x, y) : s.K.T × RVs (s2 :: l)) | none => none) = some x from h)
  split at h2
  ·rename_i z hz
   cases h2
   rw [h1, rv_dec (s2 :: l) r2 hz]
   rfl
  ·cases h2
structure FEnt where
 a : List ASh
 r : List RSh
 F : AVs a → Option (RVs r)
def allE : List (Nat × FEnt) → Nat → List FEnt
 | [], _ => []
 |(i, x) :: l, n => if Nat.beq i n = true then x :: allE l n else allE l n
theorem allE_mem : ∀ {l : List (Nat × FEnt)} {n : Nat} {e : FEnt}, e ∈ allE l n → (n, e) ∈ l
 |(i, x) :: l, n, e, h => by
  have h' : e ∈ (if Nat.beq i n = true then x :: allE l n else allE l n) := h
  split at h'
  ·rename_i hb
   rcases List.mem_cons.1 h' with rfl | h'
   ·rw [Nat.eq_of_beq_eq_true hb]
    exact List.mem_cons_self
   ·exact List.mem_cons_of_mem _ (allE_mem h')
  ·exact List.mem_cons_of_mem _ (allE_mem h')
 | [], n, e, h => by cases h
def entE {Ω : Type} : List FEnt → List Arg → (Res → Option Ω) → Option Ω
 | [], _, _ => none
 | e :: l, args, K => match avDec e.a args with
  | some v => (e.F v).bind fun r => K (rvEnc e.r r)
  | none => entE l args K
def mkM (tb : List (Nat × FEnt)) : Meaning := fun f args {_} K => entE (allE tb f) args K
def mkCtx (P : Program) (ty : List (Nat × Kd)) (tb : List (Nat × FEnt)) : Ctx := ⟨P, ty, fun f => (allE tb f).map fun e => e.a.map ASh.am, mkM tb⟩
structure EntOk (P : Program) (f : Nat) (e : FEnt) : Prop where
 body : ∃ fn, P.funcs[f]? = some fn ∧ fn.name ≠ "runtime.NumGoroutine" ∧ fn.body.isNone = false
 ans : ∀ v r, e.F v = some r → Ans P f (avEnc e.a v) (rvEnc e.r r)
theorem entE_uni {Ω : Type} : ∀ (l : List FEnt) (args : List Arg) (K : Res → Option Ω), entE l args K = (entE l args some).bind K
 | [], _, _ => rfl
 | e :: l, args, K => by
  unfold entE
  cases avDec e.a args with
  | none => exact entE_uni l args K
  | some v =>
   dsimp only
   cases e.F v <;> rfl
theorem entE_ok {P : Program} {f : Nat} {Ω : Type} : ∀ {l : List FEnt} {args : List Arg} {K : Res → Option Ω} {out : Ω}, (∀ e, e ∈ l → EntOk P f e) → entE l args K = some out → ∃ res, K res = some out ∧ Ans P f args res
 | [], _, _, _, _, h => by cases h
 | e :: l, args, K, out, hl, h => by
  unfold entE at h
  split at h
  ·rename_i v hv
   cases hr : e.F v with
   | none => rw [hr] at h; cases h
   | some r =>
    rw [hr] at h
    refine ⟨rvEnc e.r r, h, ?_⟩
    rw [av_dec _ _ hv]
    exact (hl e List.mem_cons_self).ans v r hr
  ·exact entE_ok (fun e he => hl e (List.mem_cons_of_mem _ he)) h
theorem mkCtx_ok {P : Program} {ty : List (Nat × Kd)} {tb : List (Nat × FEnt)} (h : ∀ q, q ∈ tb → EntOk P q.1 q.2) : MOk (mkCtx P ty tb) where
 uni := fun f args Ω K => entE_uni _ _ _
 body := by
  intro f ams hs
  obtain ⟨e, he, _⟩ := List.mem_map.1 hs
  exact (h _ (allE_mem he)).body
 ans := fun f args Ω K out hm => entE_ok (fun e he => h _ (allE_mem he)) hm
theorem ent_ok {c : Ctx} (hc : CtxOk c) (hM : MOk c) (hmix : c.P.follows .mixedOrders = true) {f : Nat} {e : FEnt} {d : FnD} {an : An} {fn : Func} (hf : c.P.funcs[f]? = some fn) (hb : fn.body = some d.code) (hn : (fn.name == "runtime.NumGoroutine") = false)
  (hnt : fn.ntmps = d.nt) (hres : fn.results.toList = d.res.map (·.1)) (T : (v : AVs e.a) → Tab (RVs e.r))
  (hU : ∀ v q, q ∈ units d.code an → UnitOk c d.nt (T v) (endK c d (avEnc e.a v) (rvDec e.r)) q.1 q.2)
  (h : ∀ v, fnEvT c d an (T v) (avEnc e.a v) (rvDec e.r) = e.F v) : EntOk c.P f e where
 body := ⟨fn, hf, (by intro h1; rw [h1] at hn; exact absurd hn (by simp)), by rw [hb]; rfl⟩
 ans := by
  intro v r hr
  rw [← h v] at hr
  exact fn_okT hc hM hmix hf hb hnt hres (hU v) (fun q hq => rv_dec _ _ hq) hr
end Go.Abs
namespace Go.Abs
def Code.l : Code → Code
 | .seq a _ => a
 | .block _ a => a
 | .loop a => a
 | .cond _ a _ => a
 | c => c
def Code.r : Code → Code
 | .seq _ b => b
 | .cond _ _ b => b
 | c => c
universe u
theorem mem_nil {α : Type u} {p : α → Prop} : ∀ q, q ∈ ([] : List α) → p q := fun _ h => by cases h
theorem mem_cons {α : Type u} {p : α → Prop} {a : α} {l : List α} (h : p a) (h2 : ∀ q, q ∈ l → p q) : ∀ q, q ∈ a :: l → p q := fun q hq => by
 cases hq with
 | head => exact h
 | tail _ hq => exact h2 q hq
theorem units_of {p : Nat × Code → Prop} {x : Code} {a : An} {l : List (Nat × Code)} (h : units x a = l) (h2 : ∀ q, q ∈ l → p q) : ∀ q, q ∈ units x a → p q := by rw [h]; exact h2
theorem mkCtx_cok {P : Program} {ty : List (Nat × Kd)} {tb : List (Nat × FEnt)} (h : TysOk P ty) : CtxOk (mkCtx P ty tb) := ⟨h⟩
theorem ent_none {P : Program} {f : Nat} {e : FEnt} (fn : Func) (hf : P.funcs[f]? = some fn) (hb : fn.body.isNone = false) (hn : (fn.name == "runtime.NumGoroutine") = false) (h : ∀ v, e.F v = none) : EntOk P f e where
 body := ⟨fn, hf, (by intro h1; rw [h1] at hn; exact absurd hn (by simp)), hb⟩
 ans := by intro v r hr; rw [h v] at hr; cases hr
end Go.Abs
namespace Go.Abs
def Kd.pv : (K : Kd) → K.T → Value
 | .int k, n => .int k n
 | .bool, b => .bool b
 | .str, s => .string s
 | _, _ => undef
def Kd.plain : Kd → Bool
 | .int _ => true
 | .bool => true
 | .str => true
 | _ => false
theorem RO.pv {S : Nat → Prop} {w : World} {K : Kd} {x : K.T} {cs : List Value} {v : Value} (hK : K.plain = true) (h : RO S w K x cs) (hv : VRep K cs v) : v = K.pv x := by
 cases K with
 | int k => rw [show cs = [.int k x] from h] at hv; exact hv.1
 | bool => rw [show cs = [.bool x] from h] at hv; exact hv.1
 | str => rw [show cs = [.string x] from h] at hv; exact hv.1
 | _ => cases hK
@[reducible] def roA (Ks : List Kd) : List ASh := Ks.map ASh.ro
@[reducible] def roR (Ks : List Kd) : List RSh := Ks.map RSh.ro
def pvals : (Ks : List Kd) → AVs (roA Ks) → List Value
 | [], _ => []
 | K :: Ks, x => K.pv x.1 :: pvals Ks x.2
theorem outs_ro {w2 : World} {g g2 : Gh} : ∀ (Ks : List Kd) (v : AVs (roA Ks)) (j : Nat), OutsRep w2 g g2 j (avEnc (roA Ks) v) []
 | [], _, _ => trivial
 | _ :: Ks, v, j => outs_ro Ks v.2 (j + 1)
def Rep0 (K : Kd) (x : K.T) (v : Value) : Prop := ∃ cs, (∀ (S : Nat → Prop) (w : World), RO S w K x cs) ∧ VRep K cs v
theorem Rep0.int {k : IntKind} {n : Int} : Rep0 (.int k) n (.int k n) := ⟨_, fun _ _ => rfl, rfl, rfl⟩
theorem Rep0.bool {b : Bool} : Rep0 .bool b (.bool b) := ⟨_, fun _ _ => rfl, rfl, rfl⟩
theorem Rep0.str {s : ByteArray} : Rep0 .str s (.string s) := ⟨_, fun _ _ => rfl, rfl, rfl⟩
def Rets0 : (Rs : List Kd) → RVs (roR Rs) → Value → Prop
 | [K], x, v => Rep0 K x v
 | [K, L], x, v => ∃ a b, v = .tuple #[a, b] ∧ Rep0 K x.1 a ∧ Rep0 L x.2 b
 | [K, L, M], x, v => ∃ a b c, v = .tuple #[a, b, c] ∧ Rep0 K x.1 a ∧ Rep0 L x.2.1 b ∧ Rep0 M x.2.2 c
 | _, _, _ => False
theorem rets0 {w2 : World} {g : Gh} {n : Nat} : ∀ (Rs : List Kd) (r : RVs (roR Rs)) (v : Value), Rets0 Rs r v → (∀ i b, ¬ g.F (n + i) b) → ∃ cs, RetsRep w2 { g with cs := cs } n (rvEnc (roR Rs) r).rets v
 | [], _, _, h, _ => h.elim
 | [K], x, v, h, hrest => by
  obtain ⟨cs, h1, h2⟩ := h
  exact ⟨fun _ => cs, hrest 0, h1 _ _, h2⟩
 | [K, L], x, v, h, hrest => by
  obtain ⟨a, b, rfl, ⟨c1, p1, p2⟩, c2, q1, q2⟩ := h
  refine ⟨fun i => if i = n then c1 else c2, _, rfl, rfl, fun i rr u hi hu => ?_⟩
  match i, hi, hu with
  | 0, hi, hu =>
   cases hi; cases hu
   refine ⟨hrest 0, ?_, ?_⟩
   ·simp only [Nat.add_zero, if_true]; exact p1 _ _
   ·simp only [Nat.add_zero, if_true]; exact p2
  | 1, hi, hu =>
   cases hi; cases hu
   refine ⟨hrest 1, ?_, ?_⟩
   ·dsimp only; rw [if_neg (by omega)]; exact q1 _ _
   ·dsimp only; rw [if_neg (by omega)]; exact q2
  | i + 2, hi, hu => cases hi
 | [K, L, M], x, v, h, hrest => by
  obtain ⟨a, b, c, rfl, ⟨c1, p1, p2⟩, ⟨c2, q1, q2⟩, c3, s1, s2⟩ := h
  refine ⟨fun i => if i = n then c1 else if i = n + 1 then c2 else c3, _, rfl, rfl, fun i rr u hi hu => ?_⟩
  match i, hi, hu with
  | 0, hi, hu =>
   cases hi
   obtain rfl : a = u := by simpa using hu
   refine ⟨hrest 0, ?_, ?_⟩
   ·dsimp only; rw [if_pos (by omega)]; exact p1 _ _
   ·dsimp only; rw [if_pos (by omega)]; exact p2
  | 1, hi, hu =>
   cases hi
   obtain rfl : b = u := by simpa using hu
   refine ⟨hrest 1, ?_, ?_⟩
   ·dsimp only; rw [if_neg (by omega), if_pos (by omega)]; exact q1 _ _
   ·dsimp only; rw [if_neg (by omega), if_pos (by omega)]; exact q2
  | 2, hi, hu =>
   cases hi
   obtain rfl : c = u := by simpa using hu
   refine ⟨hrest 2, ?_, ?_⟩
   ·dsimp only; rw [if_neg (by omega), if_neg (by omega)]; exact s1 _ _
   ·dsimp only; rw [if_neg (by omega), if_neg (by omega)]; exact s2
  | i + 3, hi, hu => cases hi
 | _ :: _ :: _ :: _ :: _, _, _, h, _ => h.elim
def ArgsRO (S : Nat → Prop) (w : World) : (Ks : List Kd) → AVs (roA Ks) → List Value → Prop
 | [], _, vs => vs = []
 | K :: Ks, x, vs => ∃ v r cs, vs = v :: r ∧ RO S w K x.1 cs ∧ VRep K cs v ∧ ArgsRO S w Ks x.2 r
theorem entry_args {P : Program} {w : World} {S : Nat → Prop} : ∀ (Ks : List Kd) (v : AVs (roA Ks)) (vals : List Value), vals.length = (avEnc (roA Ks) v).length →
  (∀ (j : Nat) a x, (avEnc (roA Ks) v)[j]? = some a → vals[j]? = some x → ∃ F pl cs, ArgRep P S w F pl cs a x) → ArgsRO S w Ks v vals
 | [], _, [], _, _ => rfl
 | [], _, _ :: _, h, _ => by cases h
 | K :: Ks, v, [], h, _ => by cases h
 | K :: Ks, v, x :: vals, hl, h => by
  obtain ⟨F, pl, cs, _, _, cs', h1, h2⟩ := h 0 (.ro K v.1) x rfl rfl
  exact ⟨x, vals, cs', rfl, h1, h2, entry_args Ks v.2 vals (Nat.succ.inj hl) (fun j a y ha hy => h (j + 1) a y ha (by simpa using hy))⟩
theorem ent_gen {P : Program} {f : Nat} {Ks Rs : List Kd} {F : AVs (roA Ks) → Option (RVs (roR Rs))} (fn : Func) (hf : P.funcs[f]? = some fn) (hb : fn.body.isNone = false) (hn : (fn.name == "runtime.NumGoroutine") = false)
  (h : ∀ v r, F v = some r → ∀ (S : Nat → Prop) (w : World) (vals : List Value), (∀ b, S b → b < w.heap.size) → GlobOk P S w → ArgsRO S w Ks v vals →
   Calls P f vals.toArray w fun e w' => (∃ ret, e = .returned ret ∧ Rets0 Rs r ret) ∧ Ext w w' (fun _ _ => False)) :
  EntOk P f ⟨roA Ks, roR Rs, F⟩ where
 body := ⟨fn, hf, (by intro h1; rw [h1] at hn; exact absurd hn (by simp)), hb⟩
 ans := by
  intro v r hr w vals g hE
  refine (h v r hr g.S w vals hE.Ssz hE.glob (entry_args (P := P) Ks v vals hE.len (fun j a x ha hx => ⟨_, _, _, hE.arg j a x ha hx⟩))).mono fun e w2 ⟨⟨ret, he, hret⟩, hx⟩ => ?_
  have hrest : ∀ i, (∀ b, ¬ g.F ((avEnc (roA Ks) v).length + i) b) := fun i => (hE.rest _ (Nat.le_add_right _ _)).1
  obtain ⟨cs, hcs⟩ := rets0 (w2 := w2) Rs r ret hret hrest
  refine ⟨ret, { g with cs := cs }, he, ⟨hx.mono (fun _ _ _ h => h.elim), fun _ h => h, fun _ h => .inl h, fun b hb => Nat.lt_of_lt_of_le (hE.Ssz b hb) hx.size,
   fun j b hF => .inl ⟨j, hF⟩, fun j b hF => Nat.lt_of_lt_of_le (hE.Fsz j b hF) hx.size, hE.FS, hE.FF, ?_, hcs⟩⟩
  have : ∀ (Rs : List Kd) (r : RVs (roR Rs)), (rvEnc (roR Rs) r).outs = [] := by
   intro Rs
   induction Rs with
   | nil => intro r; rfl
   | cons K Rs ih =>
    intro r
    cases Rs with
    | nil => rfl
    | cons L Rs => exact ih r.2
  rw [this]
  exact outs_ro Ks v 0
theorem argsRO_vals {S : Nat → Prop} {w : World} : ∀ (Ks : List Kd) (v : AVs (roA Ks)) (vals : List Value), Ks.all Kd.plain = true → ArgsRO S w Ks v vals → vals = pvals Ks v
 | [], _, _, _, h => h
 | K :: Ks, v, vals, hK, h => by
  rw [List.all_cons, Bool.and_eq_true] at hK
  obtain ⟨x, r, cs, rfl, h1, h2, h3⟩ := h
  show x :: r = K.pv v.1 :: pvals Ks v.2
  rw [RO.pv hK.1 h1 h2, argsRO_vals Ks v.2 r hK.2 h3]
theorem Ext.below {w w' : World} {X : Nat → Nat → Prop} (h : RowKit.Below w.heap.size w w') : Ext w w' X :=
 ⟨h.os, h.tape, h.output, h.size, fun b hb _ => h.block b hb, fun b o hb _ => ⟨by unfold World.cell?; rw [h.block b hb], by unfold World.frozen?; rw [h.block b hb]⟩⟩
theorem Ext.grow (w : World) (k : Nat) (os : Array Go.Obj) (X : Nat → Nat → Prop) : Ext w (Go.Sort.grow (w.drewN k) os) X := by
 have hb : ∀ b, b < w.heap.size → (w.heap ++ os)[b]? = w.heap[b]? := fun b hb => by rw [Array.getElem?_append, if_pos hb]
 have hs : w.heap.size ≤ (w.heap ++ os).size := by rw [Array.size_append]; omega
 exact Ext.below ⟨rfl, rfl, rfl, hs, hb⟩
theorem ent_lib {P : Program} {f : Nat} {Ks Rs : List Kd} {F : AVs (roA Ks) → Option (RVs (roR Rs))} (fn : Func) (hf : P.funcs[f]? = some fn) (hb : fn.body.isNone = false) (hn : (fn.name == "runtime.NumGoroutine") = false)
  (hK : Ks.all Kd.plain = true)
  (h : ∀ v r, F v = some r → ∀ (S : Nat → Prop) (w : World), GlobOk P S w → Calls P f (pvals Ks v).toArray w fun e w' => (∃ ret, e = .returned ret ∧ Rets0 Rs r ret) ∧ Ext w w' (fun _ _ => False)) :
  EntOk P f ⟨roA Ks, roR Rs, F⟩ :=
 ent_gen fn hf hb hn fun v r hr S w vals _ hG hA => by rw [argsRO_vals Ks v vals hK hA]; exact h v r hr S w hG
end Go.Abs
namespace Go.Abs
theorem VRep.raw {k : Kd} {cs : List Value} {v : Value} (h : VRep (.raw (.st k)) cs v) : VRep (.st k) cs v := h
open Classical in
abbrev KN (r : List RSh) : Type := Env → Option (RVs r)
abbrev KX (r : List RSh) : Type := Nat → Env → Option (RVs r)
theorem loop_u {c : Ctx} {nt : Nat} {Ω : Type} {T : Tab Ω} {kr : Env → Option Ω} (hc : CtxOk c) (hM : MOk c) (hmix : c.P.follows .mixedOrders = true) {j n : Nat} {x : Code} (a : An) (lv : Lv) (live : List Nat) (S : ES)
  (G : Nat → S.V → (Env → Option Ω) → (Nat → Env → Option Ω) → Option Ω) (hT : ∀ e kn kx, T j e kn kx = ES.on S e fun x => G n x kn kx) (h0 : ∀ x kn kx, G 0 x kn kx = none)
  (hs : ∀ m x' kn kx, aevT c nt T kr x a lv (meet (some live) fun e => ES.on S e fun x => G m x kn kx) kx (S.enc x') = G (m + 1) x' kn kx) {l : List (Nat × Code)} (hl : units x a = l)
  (hU : ∀ q, q ∈ l → UnitOk c nt T kr q.1 q.2) : UnitOk c nt T kr j (.loop x) :=
 loop_unit (n := n) hc hM hmix a lv live (fun m e kn kx => ES.on S e fun x => G m x kn kx) hT
  (fun e kn kx out h => by obtain ⟨x, _, h2⟩ := ES.on_inv h; rw [h0] at h2; cases h2) (fun m e kn kx out h => by obtain ⟨x, e1, h2⟩ := ES.on_inv h; rw [e1]; exact (hs m x kn kx).trans h2) (units_of hl hU)
theorem join_u {c : Ctx} {nt : Nat} {Ω : Type} {T : Tab Ω} {kr : Env → Option Ω} (hc : CtxOk c) (hM : MOk c) (hmix : c.P.follows .mixedOrders = true) {j : Nat} {x : Code} (a : An) (lv : Lv) (live : List Nat) (S : ES)
  (G : S.V → (Env → Option Ω) → (Nat → Env → Option Ω) → Option Ω) (hT : ∀ e kn kx, T j e kn kx = ES.on S e fun x => G x kn kx)
  (hs : ∀ x' kn kx, aevT c nt T kr x a lv (meet (some live) kn) kx (S.enc x') = G x' kn kx) {l : List (Nat × Code)} (hl : units x a = l)
  (hU : ∀ q, q ∈ l → UnitOk c nt T kr q.1 q.2) : UnitOk c nt T kr j x :=
 join_unit hc hM hmix a lv (some live) (fun e kn kx out h => by rw [hT] at h; obtain ⟨x, e1, h2⟩ := ES.on_inv h; rw [e1]; exact (hs x kn kx).trans h2) (units_of hl hU)
def fnQ (fn : Func) : Option Code × Nat × List ResultVar × Bool := (fn.body, fn.ntmps, fn.results.toList, fn.name == "runtime.NumGoroutine")
def fnR (d : FnD) : Option Code × Nat × List ResultVar × Bool := (some d.code, d.nt, d.res.map (·.1), false)
theorem ent_okU {c : Ctx} (hc : CtxOk c) (hM : MOk c) (hmix : c.P.follows .mixedOrders = true) {f : Nat} {e : FEnt} {d : FnD} (an : An) {fn : Func} (hf : c.P.funcs[f]? = some fn) (hq : fnQ fn = fnR d) (T : Tab (RVs e.r)) {l : List (Nat × Code)} (hl : units d.code an = l)
  (hU : ∀ v q, q ∈ l → UnitOk c d.nt T (endK c d (avEnc e.a v) (rvDec e.r)) q.1 q.2) (h : ∀ v, fnEvT c d an T (avEnc e.a v) (rvDec e.r) = e.F v) : EntOk c.P f e := by
 simp only [fnQ, fnR, Prod.mk.injEq] at hq
 exact ent_ok hc hM hmix hf hq.1 hq.2.2.2 hq.2.1 hq.2.2.1 (fun _ => T) (fun v => units_of hl (hU v)) h
theorem ent_ok0 {c : Ctx} (hc : CtxOk c) (hM : MOk c) (hmix : c.P.follows .mixedOrders = true) {f : Nat} {e : FEnt} {d : FnD} (an : An) {fn : Func} (hf : c.P.funcs[f]? = some fn) (hq : fnQ fn = fnR d) (hl : units d.code an = [])
  (h : ∀ v, fnEvT c d an (fun _ _ _ _ => none) (avEnc e.a v) (rvDec e.r) = e.F v) : EntOk c.P f e :=
 ent_okU hc hM hmix an hf hq _ hl (fun _ => mem_nil) h
end Go.Abs
