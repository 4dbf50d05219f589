/- slices.SortFunc over a known comparison: the entry. Conditions: none. -/
import Derived.Test.YtgdlicpmbgodjaaGreatDoorA4
import Derived.Shelf.SlSortCmp.WholeK
import Derived.Shelf.SlSortCmp.NoneTotal
namespace Go.Abs
open Go.Shelf Go.Sort Go.Proofs
structure OrdL {α : Type} (P : α → Prop) (f : α → α → Int) : Prop where
 zero : ∀ a b, P a → P b → (f a b = 0 ↔ a = b)
 neg : ∀ a b, P a → P b → f b a = - f a b
 trans : ∀ a b c, P a → P b → P c → f a b < 0 → f b c < 0 → f a c < 0
def ins1 {α : Type} (c : α → α → Int) (x : α) : List α → List α
 | [] => [x]
 | y :: r => if c x y ≤ 0 then x :: y :: r else y :: ins1 c x r
def isort {α : Type} (c : α → α → Int) : List α → List α
 | [] => []
 | x :: r => ins1 c x (isort c r)
theorem ins1_perm {α : Type} (c : α → α → Int) (x : α) : ∀ l : List α, (ins1 c x l).Perm (x :: l)
 | [] => List.Perm.refl _
 | y :: r => by
  unfold ins1
  split
  ·exact List.Perm.refl _
  ·exact ((ins1_perm c x r).cons y).trans (List.Perm.swap x y r)
theorem isort_perm {α : Type} (c : α → α → Int) : ∀ l : List α, (isort c l).Perm l
 | [] => List.Perm.refl _
 | x :: r => (ins1_perm c x _).trans ((isort_perm c r).cons x)
section
variable {α : Type} {P : α → Prop} {c : α → α → Int} (h : OrdL P c)
include h
theorem OrdL.le_trans {a b d : α} (ha : P a) (hb : P b) (hd : P d) (h1 : c a b ≤ 0) (h2 : c b d ≤ 0) : c a d ≤ 0 := by
 by_cases e1 : c a b = 0
 ·rw [(h.zero a b ha hb).1 e1]; exact h2
 ·by_cases e2 : c b d = 0
  ·rw [← (h.zero b d hb hd).1 e2]; exact h1
  ·have := h.trans a b d ha hb hd (by omega) (by omega)
   omega
theorem ins1_sorted (x : α) (hx : P x) : ∀ l : List α, (∀ y ∈ l, P y) → l.Pairwise (fun a b => c a b ≤ 0) → (ins1 c x l).Pairwise (fun a b => c a b ≤ 0)
 | [], _, _ => List.pairwise_singleton _ _
 | y :: r, hl, hp => by
  have hy := hl y List.mem_cons_self
  obtain ⟨p1, p2⟩ := List.pairwise_cons.1 hp
  unfold ins1
  split
  ·rename_i hc
   refine List.pairwise_cons.2 ⟨fun z hz => ?_, hp⟩
   rcases List.mem_cons.1 hz with rfl | hz
   ·exact hc
   ·exact h.le_trans hx hy (hl z (List.mem_cons_of_mem _ hz)) hc (p1 z hz)
  ·rename_i hc
   refine List.pairwise_cons.2 ⟨fun z hz => ?_, ins1_sorted x hx r (fun z hz => hl z (List.mem_cons_of_mem _ hz)) p2⟩
   rcases List.mem_cons.1 ((ins1_perm c x r).mem_iff.1 hz) with rfl | hz
   ·have := h.neg z y hx hy
    omega
   ·exact p1 z hz
theorem isort_sorted : ∀ l : List α, (∀ y ∈ l, P y) → (isort c l).Pairwise (fun a b => c a b ≤ 0)
 | [], _ => List.Pairwise.nil
 | x :: r, hl => ins1_sorted h x (hl x List.mem_cons_self) _ (fun y hy => hl y (List.mem_cons_of_mem _ ((isort_perm c r).mem_iff.1 hy))) (isort_sorted r (fun y hy => hl y (List.mem_cons_of_mem _ hy)))
theorem isort_eq {l ys : List α} (hl : ∀ y ∈ l, P y) (hp : ys.Perm l) (hs : ys.Pairwise (fun a b => c a b ≤ 0)) : ys = isort c l :=
 List.Perm.eq_of_pairwise (le := fun a b => c a b ≤ 0) (fun a b ha hb h1 h2 => by
  have Pa := hl a (hp.mem_iff.1 ha)
  have Pb := hl b ((isort_perm c l).mem_iff.1 hb)
  have := h.neg a b Pa Pb
  exact (h.zero a b Pa Pb).1 (by omega)) hs (isort_sorted h l hl) (hp.trans (isort_perm c l).symm)
end
def cvF {α : Type} (cF : α × α × Unit → Option Int) (x y : α) : Int := (cF (x, y, ())).getD 0
open Classical in
noncomputable def sortF {α : Type} (cF : α × α × Unit → Option Int) (xs : List α) : Option (List α) :=
 if (∀ x ∈ xs, ∀ y ∈ xs, (cF (x, y, ())).isSome = true) ∧ OrdL (· ∈ xs) (cvF cF) ∧ xs.length ≤ 1152921504606846976 then some (isort (cvF cF) xs) else none
theorem Ext.isGrow {W w : World} (h : Ext W w (fun _ _ => False)) : ∃ q os, w = Go.Sort.grow (W.drewN q) os := by
 refine ⟨w.drawn - W.drawn, w.heap.extract W.heap.size w.heap.size, ?_⟩
 have hd := h.drawn
 have e1 : w.heap = W.heap ++ w.heap.extract W.heap.size w.heap.size := by
  apply Array.ext_getElem?
  intro i
  rw [Array.getElem?_append]
  split
  ·rename_i hi
   exact h.block i hi (fun _ h => h)
  ·rename_i hi
   rw [Array.getElem?_extract]
   have := h.size
   by_cases hi2 : i < w.heap.size
   ·rw [if_pos (by omega)]
    congr 1
    omega
   ·rw [if_neg (by omega), Array.getElem?_eq_none (by omega)]
 cases w with
 | mk heap tape drawn os output =>
  have e2 := h.tape; have e3 := h.os; have e4 := h.output
  dsimp only at e1 e2 e3 e4 hd ⊢
  unfold Go.Sort.grow World.drewN
  dsimp only
  rw [← e1, e2, e3, e4, show W.drawn + (drawn - W.drawn) = drawn by omega]
section
variable {α : Type} [Inhabited α] (enc : α → List Value) (k : Nat) (w : World) (blk off m : Nat) (d : Array α) (os : Array Go.Obj)
theorem sortWorld_block {b : Nat} (hb : b < w.heap.size) (hne : b ≠ blk) : (sortWorldK enc k w blk off m d os).heap[b]? = w.heap[b]? := by
 show ((w.heap.modify blk _) ++ os)[b]? = _
 rw [Array.getElem?_append, if_pos (by simpa using hb), Array.getElem?_modify, if_neg (fun e => hne e.symm)]
theorem sortWorld_cell {b : Nat} (hb : b < w.heap.size) (hne : b ≠ blk) (o : Nat) : (sortWorldK enc k w blk off m d os).cell? ⟨b, o, none⟩ = w.cell? ⟨b, o, none⟩ ∧ (sortWorldK enc k w blk off m d os).frozen? ⟨b, o, none⟩ = w.frozen? ⟨b, o, none⟩ := by
 have := sortWorld_block enc k w blk off m d os hb hne
 constructor
 ·unfold World.cell?; rw [this]
 ·unfold World.frozen?; rw [this]
theorem sortWorld_room {o : Nat} (hb : blk < w.heap.size) (h : (∃ v, w.cell? ⟨blk, o, none⟩ = some v) ∧ w.frozen? ⟨blk, o, none⟩ = false) :
  (∃ v, (sortWorldK enc k w blk off m d os).cell? ⟨blk, o, none⟩ = some v) ∧ (sortWorldK enc k w blk off m d os).frozen? ⟨blk, o, none⟩ = false := by
 obtain ⟨⟨v, hv⟩, hf⟩ := h
 have hh : (sortWorldK enc k w blk off m d os).heap[blk]? = (putRowK enc k (Go.Sort.ahead w m) blk off d).heap[blk]? := by
  show (_ ++ os)[blk]? = _
  rw [Array.getElem?_append, if_pos (by simpa [putRowK, putRow, mapBlock, Go.Sort.ahead] using hb)]
 refine ⟨?_, ?_⟩
 ·have : ∃ v, (putRowK enc k (Go.Sort.ahead w m) blk off d).cell? ⟨blk, o, none⟩ = some v := by
   have hv' : (Go.Sort.ahead w m).cell? ⟨blk, o, none⟩ = some v := hv
   unfold World.cell? at hv'
   split at hv'
   ·rename_i c e fr hb'
    rw [if_neg (by simp)] at hv'
    unfold putRowK putRow
    rw [cell?_mapBlock _ _ _ _ hb']
    have hlt : o < c.size := (Array.getElem?_eq_some_iff.1 hv').1
    exact ⟨_, Array.getElem?_eq_getElem (by simpa [putCells] using hlt)⟩
   ·cases hv'
  obtain ⟨v', hv'⟩ := this
  exact ⟨v', by unfold World.cell? at hv' ⊢; rw [hh]; exact hv'⟩
 ·have : (putRowK enc k (Go.Sort.ahead w m) blk off d).frozen? ⟨blk, o, none⟩ = false := by
   unfold putRowK
   rw [frozen?_putRow]
   exact hf
  unfold World.frozen? at this ⊢
  rw [hh]
  exact this
end
@[reducible] def soA (e : Kd) (m : Md) (g : Nat) : List ASh := [.ms (.sl e) (.own m), .fc g [] []]
@[reducible] def soR (e : Kd) : List RSh := [.out (.sl e)]
theorem ent_sort {P : Program} {ρ : Ren} (L : SlLaysF0.n6 P ρ) (k : Kd) (m : Md) (aE : ∀ w, (isAgg (ρ.t 24)).run P w = .ok true w) (zE : ∀ w, (Go.sizeOf (ρ.t 24)).run P w = .ok k.size w) {g : Nat} {cF : k.T × k.T × Unit → Option Int}
  (hg : EntOk P g ⟨roA [.st k, .st k], roR [.int .i64], cF⟩) (eg : ∀ args w, (callFunc g args).run P w = .ok (.enter g args) w) (fn : Func) (hf : P.funcs[ρ.f 6]? = some fn) (hb : fn.body.isNone = false) (hn : (fn.name == "runtime.NumGoroutine") = false) :
  EntOk P (ρ.f 6) ⟨soA (.st k) m g, soR (.st k), fun v => sortF cF v.1⟩ where
 body := ⟨fn, hf, (by intro h1; rw [h1] at hn; exact absurd hn (by simp)), hb⟩
 ans := by
  rintro ⟨xs, u⟩ ys hr w vals g0 hE
  have hr : sortF cF xs = some ys := hr
  match vals, hE with
  | [], hE => have := hE.len; cases this
  | [_], hE => have := hE.len; cases this
  | _ :: _ :: _ :: _, hE => have := hE.len; cases this
  | [v0, v1], hE =>
  obtain ⟨hp0, hown, hv0⟩ := hE.arg 0 _ v0 rfl rfl
  obtain ⟨hF1, hp1, fv, cv, hv1, hfs, hcs⟩ := hE.arg 1 _ v1 rfl rfl
  obtain rfl : fv = [] := hfs
  obtain rfl : cv = [] := hcs
  have hrest : ∀ j, (∀ b, j ≠ 0 → ¬ g0.F j b) ∧ g0.pl j = none := by
   intro j
   match j with
   | 0 => exact ⟨fun _ h => absurd rfl h, hp0⟩
   | 1 => exact ⟨fun b _ => hF1 b, hp1⟩
   | j + 2 => obtain ⟨a, b⟩ := hE.rest (j + 2) (by show 2 ≤ j + 2; omega); exact ⟨fun b _ => a b, b⟩
  obtain ⟨A, cap, hcells, hl, hnil, hroom, G, hG1, hG2, hG3, hel⟩ := (show Own g0.S w (.sl (.st k)) (.own m) xs (g0.cs 0) (g0.F 0) from hown)
  have hv0' : v0 = .slice A xs.length cap := by rw [hv0.1, hcells]; rfl
  have hys : ((∀ x ∈ xs, ∀ y ∈ xs, (cF (x, y, ())).isSome = true) ∧ OrdL (· ∈ xs) (cvF cF) ∧ xs.length ≤ 1152921504606846976) ∧ ys = isort (cvF cF) xs := by
   unfold sortF at hr
   split at hr
   ·rename_i hc
    exact ⟨hc, (Option.some.inj hr).symm⟩
   ·cases hr
  obtain ⟨⟨hdef, hord, hlen⟩, rfl⟩ := hys
  subst hv0' hv1
  match hxs : xs, hdef, hord, hlen, hcells, hl, hel with
  | [], _, _, _, hcells, hl, _ =>
   refine (AnyF.slices_SortFunc_none L A cap _ w).mono fun e w2 ⟨he, hw⟩ => ?_
   subst hw
   refine ⟨_, g0, he, ⟨Ext.refl _ _, fun _ h => h, fun _ h => .inl h, hE.Ssz, fun j b h => .inl ⟨j, h⟩, hE.Fsz, hE.FS, hE.FF, ?_, trivial⟩⟩
   exact ⟨⟨[], rfl, ⟨A, cap, hcells, hl, hnil, hroom, fun _ _ => False, fun _ _ h => h.elim, fun _ _ _ h => h, fun _ _ _ _ h => h.elim, fun i hi => absurd hi (Nat.not_lt_zero i)⟩⟩, trivial⟩
  | x0 :: r0, hdef, hord, hlen, hcells, hl, hel =>
   obtain ⟨xs, hxs2⟩ : ∃ l, l = x0 :: r0 := ⟨_, rfl⟩
   obtain ⟨n, hn1⟩ : ∃ n, xs.length = n + 1 := ⟨r0.length, by rw [hxs2]; rfl⟩
   rw [← hxs2] at hdef hord hlen hcells hl hel ⊢
   have hel' : ∀ i : Fin (n + 1), ∃ vs, (∃ b o, A = some ⟨b, o, none⟩ ∧ CellsAt w b (o + i.val * k.size) vs) ∧ Own g0.S w (.st k) m (xs[i.val]'(by have := i.isLt; omega)) vs (G i) := fun i => by
    obtain ⟨b, o, vs, h1, h2, h3⟩ := hel i.val (by have := i.isLt; omega)
    exact ⟨vs, ⟨b, o, h1, h2⟩, h3⟩
   obtain ⟨enc, henc⟩ := Classical.axiomOfChoice hel'
   obtain ⟨⟨blk, off, hA, _⟩, _⟩ := henc 0
   subst hA
   have hblkF : g0.F 0 blk := (hroom _ rfl).2.1
   have hblk : blk < w.heap.size := hE.Fsz 0 blk hblkF
   have hcel : ∀ i : Fin (n + 1), CellsAt w blk (off + i.val * k.size) (enc i) := fun i => by
    obtain ⟨⟨b, o, h1, h2⟩, _⟩ := henc i
    cases h1
    exact h2
   have hk : ∀ i, (enc i).length = k.size := fun i => (henc i).2.length
   have h1c : ∀ i, ∀ v ∈ enc i, v.oneCell' = true := fun i => Own.one (henc i).2
   let S' : Nat → Prop := fun b => g0.S b ∨ ∃ i : Fin (n + 1), G i b
   have hS'ne : ∀ b, S' b → b ≠ blk := by
    rintro b (h | ⟨i, h⟩) rfl
    ·exact hE.FS 0 _ hblkF h
    ·exact hG2 i _ rfl h
   have hS'sz : ∀ b, S' b → b < w.heap.size := by
    rintro b (h | ⟨i, h⟩)
    ·exact hE.Ssz b h
    ·exact hE.Fsz 0 b (hG1 i b h)
   let xe : Fin (n + 1) → k.T := fun i => xs[i.val]'(by have := i.isLt; omega)
   have hmem : ∀ i, xe i ∈ xs := fun i => List.getElem_mem _
   have hro : ∀ i, RO S' w (.st k) (xe i) (enc i) := fun i => Own.toRO (S := g0.S) (fun b hb => .inl hb) (fun b hb => .inr ⟨i, hb⟩) (henc i).2
   let cf : Fin (n + 1) → Fin (n + 1) → Int := fun i j => cvF cF (xe i) (xe j)
   have hO : SWO (Go.Proofs.ltOf cf) := by
    refine ⟨fun i => ?_, fun i j l h1 h2 => ?_, fun i j l h1 h2 => ?_⟩
    ·have := (hord.zero (xe i) (xe i) (hmem i) (hmem i)).2 rfl
     simp [Go.Proofs.ltOf, cf, this]
    ·simp only [Go.Proofs.ltOf, decide_eq_true_eq, cf] at h1 h2 ⊢
     exact hord.trans _ _ _ (hmem i) (hmem j) (hmem l) h1 h2
    ·simp only [Go.Proofs.ltOf, decide_eq_false_iff_not, cf] at h1 h2 ⊢
     have a1 := hord.neg (xe i) (xe j) (hmem i) (hmem j)
     have a2 := hord.neg (xe j) (xe l) (hmem j) (hmem l)
     have a3 := hord.neg (xe i) (xe l) (hmem i) (hmem l)
     have := hord.le_trans (hmem l) (hmem j) (hmem i) (by omega) (by omega)
     omega
   let d0 : Array (Fin (n + 1)) := Array.ofFn (fun i : Fin (n + 1) => i)
   have hd0 : d0.size = n + 1 := Array.size_ofFn
   have hd0g : ∀ i (h : i < n + 1), d0[i]! = ⟨i, h⟩ := fun i h => by
    rw [getElem!_pos d0 i (by omega)]
    simp [d0]
   have hsp := k.size_pos
   have hH : HoldsK enc k.size w blk off d0 := by
    intro t ht
    rw [size_flatK] at ht
    rw [get_flatK _ _ _ _ ht]
    have hq : t / k.size < n + 1 := by rw [← hd0]; exact Nat.div_lt_of_lt_mul (by rw [Nat.mul_comm]; exact ht)
    have hc := hcel ⟨t / k.size, hq⟩ (t % k.size) (by rw [hk]; exact Nat.mod_lt _ hsp)
    have e1 : off + t / k.size * k.size + t % k.size = off + t := by
     have := Nat.div_add_mod t k.size
     rw [Nat.mul_comm] at this
     omega
    rw [hd0g _ hq]
    refine ⟨?_, ?_⟩
    ·show w.cell? ⟨blk, off + t, none⟩ = some ((enc ⟨t / k.size, hq⟩)[t % k.size]!)
     rw [getElem!_pos (enc ⟨t / k.size, hq⟩) _ (by rw [hk]; exact Nat.mod_lt _ hsp), ← hc, ← e1]
    ·refine ((hroom _ rfl).2.2 t ?_).2
     have h3 : (n + 1) * k.size ≤ cap * k.size := Nat.mul_le_mul_right _ (by omega)
     rw [hd0] at ht
     show t < cap * k.size
     omega
   have hcmp : Go.Proofs.CmpLays P g #[] enc k.size cf blk off d0.size w := by
    intro m' os dk hs i j
    have hkeep : ∀ b o v, S' b → w.cell? ⟨b, o, none⟩ = some v → (sortWorldK enc k.size w blk off m' dk os).cell? ⟨b, o, none⟩ = some v := fun b o v hb hv => by
     rw [(sortWorld_cell enc k.size w blk off m' dk os (hS'sz b hb) (hS'ne b hb) o).1]; exact hv
    have hargs : ROArgs P S' (sortWorldK enc k.size w blk off m' dk os) (avEnc (roA [.st k, .st k]) (xe i, xe j, ())) [.agg (enc i).toArray, .agg (enc j).toArray] :=
     ⟨_, _, rfl, .inl ⟨_, _, rfl, enc i, (hro i).mono (fun _ h => h) hkeep, rfl, rfl⟩, _, _, rfl, .inl ⟨_, _, rfl, enc j, (hro j).mono (fun _ h => h) hkeep, rfl, rfl⟩, rfl⟩
    have hsz : w.heap.size ≤ (sortWorldK enc k.size w blk off m' dk os).heap.size := by
     show _ ≤ ((w.heap.modify blk _) ++ os).size
     rw [Array.size_append, Array.size_modify]; omega
    have hent := ro_entry hargs (fun b hb => Nat.lt_of_lt_of_le (hS'sz b hb) hsz) (hE.glob.mono (fun b hb => .inl hb) (fun b hb => sortWorld_block enc k.size w blk off m' dk os (hE.Ssz b hb) (hS'ne b (.inl hb))))
    obtain ⟨rv, hrv⟩ := Option.isSome_iff_exists.1 (hdef (xe i) (hmem i) (xe j) (hmem j))
    have hcf : cf i j = rv := by show (cF (xe i, xe j, ())).getD 0 = rv; rw [hrv]; rfl
    have := hg.ans (xe i, xe j, ()) rv hrv _ _ _ hent
    rw [show (#[.agg (enc i).toArray, .agg (enc j).toArray] ++ #[] : Array Value) = [Value.agg (enc i).toArray, .agg (enc j).toArray].toArray by simp]
    refine this.mono fun e w2 ⟨v, g2, he, hD⟩ => ?_
    have hx : Ext (sortWorldK enc k.size w blk off m' dk os) w2 (fun _ _ => False) := hD.ext.mono fun b o _ hW => by
     rcases hW with ⟨_, h⟩ | ⟨_, _, _, _, h, _⟩
     ·exact h
     ·cases h
    have hret : RetRep g2.S w2 (g2.F 2) (g2.cs 2) (.ro (.int .i64) rv) v := hD.rets
    obtain ⟨_, h2, h3⟩ := hret
    refine ⟨?_, hx.isGrow⟩
    rw [he, h3.1, show g2.cs 2 = [.int .i64 rv] from h2, hcf]
    rfl
   have key := Go.Proofs.AnyQ.slices_SortFunc L k.size aE zE enc hk h1c cf hO g #[] blk off cap d0 w eg hcmp hH hblk (by rw [hd0]; omega)
   rw [hd0] at key
   have ecall : [Value.slice (some ⟨blk, off, none⟩) xs.length cap, .func (.func g) ([] : List Value).toArray ([] : List Value).toArray].toArray = #[.slice (some ⟨blk, off, none⟩) (n + 1) cap, .func (.func g) #[] #[]] := by rw [hn1]
   rw [ecall]
   refine key.mono fun e w2 ⟨he, d', q, os, hperm, hsort, hw⟩ => ?_
   have hd's : d'.size = n + 1 := hperm.1.trans hd0
   have hpl : d'.toList.Perm d0.toList := by
    have := hperm.2.2
    have ex : ∀ (a : Array (Fin (n + 1))) (N : Nat), a.size = N → a.extract 0 N = a := fun a N h => by subst h; exact Array.extract_size
    rw [ex d' _ hd's, ex d0 _ hd0] at this
    exact this
   have hx0 : d0.toList.map xe = xs := by
    apply List.ext_getElem
    ·simp [d0, hn1]
    ·intro i h1 h2
     simp only [List.getElem_map, Array.getElem_toList, d0, Array.getElem_ofFn, xe]
   have hy : d'.toList.map xe = isort (cvF cF) xs := by
    refine isort_eq hord (fun y hy => hy) (by rw [← hx0] ; exact hpl.map xe) ?_
    rw [List.pairwise_map, List.pairwise_iff_getElem]
    intro i j hi hj hij
    have hj' : j < d'.size := by simpa using hj
    have := hsort i j (Nat.zero_le _) hij (by omega)
    rw [getElem!_pos d' i (by omega), getElem!_pos d' j hj'] at this
    simp only [Go.Proofs.ltOf, decide_eq_false_iff_not, cf] at this
    have a1 := hord.neg (xe d'[j]) (xe d'[i]) (hmem _) (hmem _)
    simp only [Array.getElem_toList]
    omega
   rw [← hy]
   have hnd : d'.toList.Nodup := hpl.nodup_iff.2 (by
    rw [List.nodup_iff_pairwise_ne, List.pairwise_iff_getElem]
    intro i j hi hj hij e
    have e' : (d0.toList[i]).val = (d0.toList[j]).val := by rw [e]
    simp only [Array.getElem_toList, d0, Array.getElem_ofFn] at e'
    omega)
   have hd'l : d'.toList.length = n + 1 := by simpa using hd's
   have hH2 := holdsK_sortWorldK_c enc k.size w blk off d0 d' q os hH hblk (hd's.trans hd0.symm)
   rw [← hw] at hH2
   have hother : ∀ b, b < w.heap.size → b ≠ blk → w2.heap[b]? = w.heap[b]? := fun b h1 h2 => by rw [hw]; exact sortWorld_block enc k.size w blk off q d' os h1 h2
   have hcell2 : ∀ b, b < w.heap.size → b ≠ blk → ∀ o, w2.cell? ⟨b, o, none⟩ = w.cell? ⟨b, o, none⟩ ∧ w2.frozen? ⟨b, o, none⟩ = w.frozen? ⟨b, o, none⟩ := fun b h1 h2 o => by rw [hw]; exact sortWorld_cell enc k.size w blk off q d' os h1 h2 o
   have hsz2 : w.heap.size ≤ w2.heap.size := by
    rw [hw]
    show _ ≤ ((w.heap.modify blk _) ++ os).size
    rw [Array.size_append, Array.size_modify]; omega
   refine ⟨_, g0, he, ⟨⟨by rw [hw]; rfl, by rw [hw]; rfl, by rw [hw]; rfl, by rw [hw]; exact Nat.le_add_right _ _, hsz2, fun b h1 h2 => hother b h1 (fun e => h2 0 (by subst e; exact .inl ⟨0, hblkF⟩)), fun b o h1 h2 => hcell2 b h1 (fun e => h2 (by subst e; exact .inl ⟨0, hblkF⟩)) o⟩,
    fun _ h => h, fun _ h => .inl h, fun b hb => Nat.lt_of_lt_of_le (hE.Ssz b hb) hsz2, fun j b h => .inl ⟨j, h⟩, fun j b h => Nat.lt_of_lt_of_le (hE.Fsz j b h) hsz2, hE.FS, hE.FF, ?_, trivial⟩⟩
   have hyl : (d'.toList.map xe).length = n + 1 := by rw [List.length_map, hd'l]
   refine ⟨⟨d'.toList.map xe, rfl, ⟨some ⟨blk, off, none⟩, cap, by rw [hcells, hyl, hn1], by rw [hyl]; omega, hnil, fun ad e => ?_, fun i b => ∃ h : i < d'.toList.length, G (d'.toList[i]).val b, ?_, ?_, ?_, ?_⟩⟩, trivial⟩
   ·cases e
    refine ⟨rfl, hblkF, fun j hj => ?_⟩
    rw [hw]
    exact sortWorld_room enc k.size w blk off q d' os hblk ((hroom _ rfl).2.2 j hj)
   ·rintro i b ⟨_, h⟩
    exact hG1 _ b h
   ·rintro i ad e ⟨_, h⟩
    exact hG2 _ ad e h
   ·rintro i j b hij ⟨h1, h2⟩ ⟨h3, h4⟩
    refine hG3 _ _ b (fun e => hij ?_) h2 h4
    exact (List.getElem_inj hnd).1 (Fin.ext e)
   ·intro i hi
    have hi' : i < d'.toList.length := by simpa using hi
    have his : i < d'.size := by simpa using hi'
    have e1 : (d'.toList.map xe)[i] = xe d'.toList[i] := List.getElem_map ..
    refine ⟨blk, off, enc d'.toList[i], rfl, fun c hc => ?_, ?_⟩
    ·have hc' : c < k.size := by rw [hk] at hc; exact hc
     have h3 := (hH2.cell his hc').1
     rw [getElem!_pos d' i his] at h3
     show w2.cell? ⟨blk, off + i * k.size + c, none⟩ = _
     rw [h3, getElem!_pos (enc d'[i]) c (by rw [hk]; exact hc')]
     simp only [Array.getElem_toList]
    ·show Own g0.S w2 (.st k) m (d'.toList.map xe)[i] _ _
     rw [e1]
     refine (henc d'.toList[i]).2.mono (fun _ h => h) (fun b o v hb hv => ?_) (fun b hb => ⟨hi', hb⟩) (fun b o hb => ?_)
     ·rw [(hcell2 b (hE.Ssz b hb) (hS'ne b (.inl hb)) o).1]; exact hv
     ·exact hcell2 b (hS'sz b (.inr ⟨_, hb⟩)) (hS'ne b (.inr ⟨_, hb⟩)) o
end Go.Abs
