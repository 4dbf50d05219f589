/- The abstract interpreter of the elaborated code, and that what it answers is what the machine does: part 4. Conditions: none. -/
import Derived.Test.YtgdlicpmbgodjaaGreatDoorA3
set_option linter.unusedVariables false
set_option linter.unusedSimpArgs false
namespace Go.Abs
theorem RO.uniq {S : Nat → Prop} {w : World} : ∀ {K : Kd} {x y : K.T} {cs : List Value}, RO S w K x cs → RO S w K y cs → x = y
 | .int k, x, y, cs, h, h' => by
  have e : [Value.int k x] = [Value.int k y] := (show cs = _ from h).symm.trans h'
  cases e; rfl
 | .bool, x, y, cs, h, h' => by
  have e : [Value.bool x] = [Value.bool y] := (show cs = _ from h).symm.trans h'
  cases e; rfl
 | .str, x, y, cs, h, h' => by
  have e : [Value.string x] = [Value.string y] := (show cs = _ from h).symm.trans h'
  cases e; rfl
 | .err, x, y, cs, h, h' => by
  obtain ⟨v, rfl, h⟩ := h
  obtain ⟨v', e, h'⟩ := h'
  cases e
  rcases h with ⟨rfl, rfl⟩ | ⟨rfl, t, p, rfl⟩
  ·rcases h' with ⟨rfl, _⟩ | ⟨_, t, p, e⟩
   ·rfl
   ·cases e
  ·rcases h' with ⟨_, e⟩ | ⟨rfl, _⟩
   ·cases e
   ·rfl
 | .raw _, x, y, cs, h, h' => h.1.symm.trans h'.1
 | .sl e, xs, ys, cs, h, h' => by
  obtain ⟨A, cap, rfl, hl, hx⟩ := h
  obtain ⟨A', cap', ee, hl', hy⟩ := h'
  simp only [List.cons.injEq, Value.slice.injEq, and_true] at ee
  obtain ⟨rfl, hn, rfl⟩ := ee
  refine List.ext_getElem hn fun i h1 h2 => ?_
  obtain ⟨b, o, vs, hA, _, hc, hr⟩ := hx i h1
  obtain ⟨b', o', vs', hA', _, hc', hr'⟩ := hy i h2
  rw [hA] at hA'
  cases hA'
  have ev : vs = vs' := by
   refine List.ext_getElem (hr.length.trans hr'.length.symm) fun j j1 j2 => ?_
   have a1 := hc j j1
   rw [hc' j j2] at a1
   exact (Option.some.inj a1).symm
  subst ev
  exact RO.uniq hr hr'
 | .st k, x, y, cs, h, h' => RO.uniq (K := k) h h'
 | .pair a b, x, y, cs, h, h' => by
  obtain ⟨c1, c2, rfl, h1, h2⟩ := h
  obtain ⟨d1, d2, e, h1', h2'⟩ := h'
  have ha : c1.length = d1.length := h1.length.trans h1'.length.symm
  obtain ⟨rfl, rfl⟩ := List.append_inj e ha
  exact Prod.ext (RO.uniq h1 h1') (RO.uniq h2 h2')
@[reducible] def liA (e : Kd) (m : Md) : List ASh := [.mv (.sl e) (.own m), .fn [e] .bool]
@[reducible] def liR (e : Kd) (m : Md) : List RSh := [.own (.sl e) (.own m)]
theorem VRep.raw {k : Kd} {cs : List Value} {v : Value} (h : VRep (.raw (.st k)) cs v) : VRep (.st k) cs v := h
theorem VRep.toRaw {k : Kd} {cs : List Value} {v : Value} (h : VRep (.st k) cs v) : VRep (.raw (.st k)) cs v := h
open Classical in
noncomputable def rawF (S : Nat → Prop) (w : World) (k : Kd) (p : Kd.Ts [.st k] → Option Bool) : Kd.Ts [.raw (.st k)] → Option Bool :=
 fun c => if h : ∃ x : k.T, RO S w (.st k) x c.1 then p (h.choose, ()) else none
theorem rawF_at {S : Nat → Prop} {w : World} {k : Kd} {p : Kd.Ts [.st k] → Option Bool} {x : k.T} {cs : List Value} (h : RO S w (.st k) x cs) : rawF S w k p (cs, ()) = p (x, ()) := by
 unfold rawF
 have hx : ∃ x : k.T, RO S w (.st k) x cs := ⟨x, h⟩
 rw [dif_pos hx]
 have := RO.uniq hx.choose_spec h
 rw [this]
theorem rawF_clo {P : Program} {S S' : Nat → Prop} {w : World} {k : Kd} {p : Kd.Ts [.st k] → Option Bool} {v : Value} (hS : ∀ b, S b → S' b) (h : CloRep P S w [.st k] .bool p v) : CloRep P S' w [.raw (.st k)] .bool (rawF S' w k p) v := by
 obtain ⟨fid, fs, cv, rfl, hfn, hc⟩ := h
 refine ⟨fid, fs, cv, rfl, hfn, fun S1 w1 h1 h2 h3 hG a r vals ha ht => ?_⟩
 unfold rawF at ha
 split at ha
 ·rename_i hx
  have hr := hx.choose_spec
  obtain ⟨v, r2, cs, rfl, h4, h5, h6⟩ := ht
  refine hc S1 w1 (fun b hb => h1 b (hS b hb)) h2 (fun b o x hb hx => h3 b o x (hS b hb) hx) hG _ r _ ha ⟨v, r2, cs, rfl, ?_, h5, h6⟩
  obtain ⟨e, _⟩ := h4
  rw [e]
  exact hr.mono h1 h3
 ·cases ha
theorem ent_lift {P : Program} {f : Nat} (k : Kd) (m : Md) {Fr : AVs (liA (.raw (.st k)) .ro) → Option (RVs (liR (.raw (.st k)) .ro))} {F : AVs (liA (.st k) m) → Option (RVs (liR (.st k) m))}
  (h : EntOk P f ⟨liA (.raw (.st k)) .ro, liR (.raw (.st k)) .ro, Fr⟩)
  (hF : ∀ (xs : List k.T) (p : Kd.Ts [.st k] → Option Bool) (zs : List k.T), F (xs, p, ()) = some zs → ∀ (raws : List (List Value)) (pr : Kd.Ts [.raw (.st k)] → Option Bool), raws.length = xs.length →
   (∀ i (h1 : i < xs.length) (h2 : i < raws.length), pr (raws[i], ()) = p (xs[i], ())) →
   ∃ idx : List Nat, idx.Nodup ∧ (∀ i ∈ idx, i < xs.length) ∧ zs = idx.map (fun i => xs.getD i k.zero) ∧ Fr (raws, pr, ()) = some (idx.map fun i => raws.getD i [])) :
  EntOk P f ⟨liA (.st k) m, liR (.st k) m, F⟩ where
 body := h.body
 ans := by
  rintro ⟨xs, p, _⟩ zs hr w vals g hE
  match vals, hE with
  | [], hE => have := hE.len; cases this
  | [_], hE => have := hE.len; cases this
  | _ :: _ :: _ :: _, hE => have := hE.len; cases this
  | [v0, v1], hE =>
  obtain ⟨hp0, hown, hv0⟩ := hE.arg 0 _ v0 rfl rfl
  obtain ⟨hF1, hp1, hclo⟩ := hE.arg 1 _ v1 rfl rfl
  have hrest : ∀ j, (∀ b, j ≠ 0 → ¬ g.F j b) ∧ g.pl j = none := by
   intro j
   match j with
   | 0 => exact ⟨fun _ h => absurd rfl h, hp0⟩
   | 1 => exact ⟨fun b _ => hF1 b, hp1⟩
   | j + 2 => obtain ⟨a, b⟩ := hE.rest (j + 2) (by show 2 ≤ j + 2; omega); exact ⟨fun b _ => a b, b⟩
  obtain ⟨A, cap, hcs, hl, hn, hroom, G, hG1, hG2, hG3, hel⟩ := (show Own g.S w (.sl (.st k)) (.own m) xs (g.cs 0) (g.F 0) from hown)
  have hel' : ∀ i : Fin xs.length, ∃ vs, (∃ b o, A = some ⟨b, o, none⟩ ∧ CellsAt w b (o + i.val * k.size) vs) ∧ Own g.S w (.st k) m xs[i] vs (G i) := fun i => by
   obtain ⟨b, o, vs, h1, h2, h3⟩ := hel i.val i.isLt
   exact ⟨vs, ⟨b, o, h1, h2⟩, h3⟩
  have hch := Classical.axiomOfChoice hel'
  obtain ⟨vf, hvf⟩ := hch
  let raws : List (List Value) := List.ofFn vf
  have hrl : raws.length = xs.length := List.length_ofFn
  have hrg : ∀ i (h1 : i < xs.length) (h2 : i < raws.length), raws[i] = vf ⟨i, h1⟩ := fun i h1 h2 => by simp [raws]
  let S' : Nat → Prop := fun b => g.S b ∨ ∃ i, i < xs.length ∧ G i b
  let g' : Gh := ⟨S', fun j b => j = 0 ∧ ∃ ad, A = some ad ∧ ad.block = b, g.pl, g.cs⟩
  have hA0 : ∀ ad, A = some ad → g.F 0 ad.block := fun ad h => (hroom ad h).2.1
  have hAS : ∀ ad, A = some ad → ¬ S' ad.block := by
   rintro ad h (h1 | ⟨i, _, h1⟩)
   ·exact hE.FS 0 _ (hA0 ad h) h1
   ·exact hG2 i ad h h1
  have hEl : ∀ i (h1 : i < xs.length), RO S' w (.st k) xs[i] (vf ⟨i, h1⟩) := fun i h1 =>
   Own.toRO (S := g.S) (fun b hb => .inl hb) (fun b hb => .inr ⟨i, h1, hb⟩) (hvf ⟨i, h1⟩).2
  obtain ⟨idx, hnd, hin, hz, hFr⟩ := hF xs p zs hr raws (rawF S' w k p) hrl (fun i h1 h2 => by rw [hrg i h1 h2]; exact rawF_at (hEl i h1))
  have hE' : Entry P w (avEnc (liA (.raw (.st k)) .ro) (raws, rawF S' w k p, ())) [v0, v1] g' := by
   refine ⟨rfl, ?_, fun j hj => ⟨fun b hb => ?_, (hrest j).2⟩, ?_, ?_, ?_, ?_, ?_, ?_⟩
   ·intro j a v ha hv
    match j, ha, hv with
    | 0, ha, hv =>
     cases ha; cases hv
     refine ⟨hp0, ?_, hv0⟩
     refine ⟨A, cap, by rw [hrl]; exact hcs, by rw [hrl]; exact hl, hn, fun ad h => ⟨(hroom ad h).1, ⟨rfl, ad, h, rfl⟩, (hroom ad h).2.2⟩, fun _ _ => False, fun _ _ h => h.elim, fun _ _ _ h => h, fun _ _ _ _ h => h.elim, fun i hi => ?_⟩
     have h1 : i < xs.length := by rw [← hrl]; exact hi
     obtain ⟨⟨b, o, e1, e2⟩, e3⟩ := hvf ⟨i, h1⟩
     refine ⟨b, o, vf ⟨i, h1⟩, e1, e2, ?_⟩
     show _ = raws[i] ∧ _
     rw [hrg i h1 hi]
     exact ⟨rfl, e3.length, Own.one e3⟩
    | 1, ha, hv =>
     cases ha; cases hv
     exact ⟨fun b hb => absurd hb.1 (by omega), hp1, rawF_clo (fun b hb => .inl hb) hclo⟩
    | j + 2, ha, hv => cases ha
   ·exact absurd hb.1 (by have : 2 ≤ j := hj; omega)
   ·rintro b (hb | ⟨i, hi, hb⟩)
    ·exact hE.Ssz b hb
    ·exact hE.Fsz 0 b (hG1 i b hb)
   ·rintro j b ⟨_, ad, h, rfl⟩
    exact hE.Fsz 0 _ (hA0 ad h)
   ·rintro j b ⟨_, ad, h, rfl⟩
    exact hAS ad h
   ·rintro i j b hij ⟨rfl, _⟩ ⟨rfl, _⟩
    exact hij rfl
   ·intro i b off e
    have := (hrest i).2
    rw [show g'.pl i = g.pl i from rfl, this] at e
    cases e
   ·exact hE.glob.mono (fun b hb => .inl hb) (fun _ _ => rfl)
  refine (h.ans (raws, rawF S' w k p, ()) _ hFr w [v0, v1] g' hE').mono fun e w2 ⟨v, g2, he, hD⟩ => ?_
  have hret : RetRep g2.S w2 (g2.F 2) (g2.cs 2) (.own (.sl (.raw (.st k))) (.own .ro) (idx.map fun i => raws.getD i [])) v := hD.rets
  obtain ⟨hown2, hv2⟩ := hret
  obtain ⟨A2, cap2, hcs2, hl2, hn2, hroom2, G2, _, _, _, hel2⟩ := hown2
  have hSg : ∀ b, g.S b → g2.S b := fun b hb => hD.S b (.inl hb)
  have hGg : ∀ i b, i < xs.length → G i b → g2.S b := fun i b hi hb => hD.S b (.inr ⟨i, hi, hb⟩)
  have hext : Ext w w2 (fun b o => ∃ ad, A = some ad ∧ ad.block = b) := hD.ext.mono fun b o _ hW => by
   rcases hW with ⟨j, _, h⟩ | ⟨j, a, off, _, e, _⟩
   ·exact h
   ·have := (hrest j).2
    rw [show g'.pl j = g.pl j from rfl, this] at e
    cases e
  have hkeepS : ∀ b o v, g.S b → w.cell? ⟨b, o, none⟩ = some v → w2.cell? ⟨b, o, none⟩ = some v := fun b o v hb hv =>
   hext.same (fun ⟨ad, h1, h2⟩ => hAS ad h1 (by rw [h2]; exact .inl hb)) hv
  have hkeepG : ∀ i, i < xs.length → ∀ b o, G i b → w2.cell? ⟨b, o, none⟩ = w.cell? ⟨b, o, none⟩ ∧ w2.frozen? ⟨b, o, none⟩ = w.frozen? ⟨b, o, none⟩ := fun i hi b o hb =>
   hext.cell b o (hE.Fsz 0 b (hG1 i b hb)) (fun ⟨ad, h1, h2⟩ => hAS ad h1 (by rw [h2]; exact .inr ⟨i, hi, hb⟩))
  let F3 : Nat → Nat → Prop := fun j b => j = 2 ∧ (g2.F 2 b ∨ ∃ i, i < xs.length ∧ G i b)
  refine ⟨v, ⟨g.S, F3, g2.pl, g2.cs⟩, he, ⟨hext.mono ?_, fun _ h => h, fun _ h => .inl h, fun b hb => Nat.lt_of_lt_of_le (hE.Ssz b hb) hext.size, ?_, ?_, ?_, ?_, ?_, ?_⟩⟩
  ·rintro b o _ ⟨ad, h1, rfl⟩
   exact .inl ⟨0, hA0 ad h1⟩
  ·rintro j b ⟨_, h1 | ⟨i, _, h1⟩⟩
   ·rcases hD.Fb 2 b h1 with ⟨i, _, ad, h2, rfl⟩ | h2
    ·exact .inl ⟨0, hA0 ad h2⟩
    ·exact .inr h2
   ·exact .inl ⟨0, hG1 i b h1⟩
  ·rintro j b ⟨_, h1 | ⟨i, _, h1⟩⟩
   ·exact hD.Fsz 2 b h1
   ·exact Nat.lt_of_lt_of_le (hE.Fsz 0 b (hG1 i b h1)) hext.size
  ·rintro j b ⟨_, h1 | ⟨i, _, h1⟩⟩ hS
   ·exact hD.FS 2 b h1 (hSg b hS)
   ·exact hE.FS 0 b (hG1 i b h1) hS
  ·rintro i j b hij ⟨rfl, _⟩ ⟨rfl, _⟩
   exact hij rfl
  ·exact trivial
  ·show RetRep g.S w2 (F3 2) (g2.cs 2) (.own (.sl (.st k)) (.own m) zs) v
   refine ⟨?_, hv2⟩
   have hzl : zs.length = idx.length := by rw [hz, List.length_map]
   have hyl : (idx.map fun i => raws.getD i ([] : List Value)).length = idx.length := List.length_map ..
   refine ⟨A2, cap2, by rw [hzl, ← hyl]; exact hcs2, by rw [hzl, ← hyl]; exact hl2, hn2, fun ad h => ⟨(hroom2 ad h).1, ⟨rfl, .inl (hroom2 ad h).2.1⟩, (hroom2 ad h).2.2⟩,
    fun i b => ∃ hi : i < idx.length, G (idx[i]) b, ?_, ?_, ?_, ?_⟩
   ·rintro i b ⟨hi, hb⟩
    exact ⟨rfl, .inr ⟨_, hin _ (List.getElem_mem hi), hb⟩⟩
   ·rintro i ad h ⟨hi, hb⟩
    exact hD.FS 2 _ (hroom2 ad h).2.1 (hGg _ _ (hin _ (List.getElem_mem hi)) hb)
   ·rintro i j b hij ⟨hi, hb⟩ ⟨hj, hb'⟩
    refine hG3 _ _ b (fun e => hij ?_) hb hb'
    exact (List.getElem_inj hnd).1 e
   ·intro i hi
    have hi' : i < idx.length := by rw [← hzl]; exact hi
    have hii : idx[i] < xs.length := hin _ (List.getElem_mem hi')
    obtain ⟨b, o, vs, e1, e2, e3⟩ := hel2 i (by rw [hyl]; exact hi')
    refine ⟨b, o, vs, e1, e2, ?_⟩
    have e4 : vs = vf ⟨idx[i], hii⟩ := by
     have e3' : vs = (idx.map fun i => raws.getD i ([] : List Value))[i]'(by rw [hyl]; exact hi') := e3.1
     rw [e3', List.getElem_map, List.getD_eq_getElem?_getD, List.getElem?_eq_getElem (by rw [hrl]; exact hii), Option.getD_some]
     exact hrg _ hii _
    have e5 : zs[i] = xs[idx[i]] := by
     subst hz
     rw [List.getElem_map, List.getD_eq_getElem?_getD, List.getElem?_eq_getElem hii, Option.getD_some]
    rw [e4]
    show Own g.S w2 (.st k) m zs[i] _ _
    rw [e5]
    exact (hvf ⟨idx[i], hii⟩).2.mono (fun _ h => h) hkeepS (fun b hb => ⟨hi', hb⟩) (hkeepG _ hii)
def kp {α : Type} (q : Nat → Bool) : List α → Nat → List α
 | [], _ => []
 | x :: r, i => if q i then kp q r (i + 1) else x :: kp q r (i + 1)
theorem kp_append {α : Type} (q : Nat → Bool) : ∀ (a b : List α) (i : Nat), kp q (a ++ b) i = kp q a i ++ kp q b (i + a.length)
 | [], b, i => by simp [kp]
 | x :: a, b, i => by
  simp only [List.cons_append, kp, List.length_cons]
  rw [kp_append q a b (i + 1), show i + 1 + a.length = i + (a.length + 1) by omega]
  split <;> rfl
theorem kp_map {α β : Type} (f : α → β) (q : Nat → Bool) : ∀ (l : List α) (i : Nat), kp q (l.map f) i = (kp q l i).map f
 | [], _ => rfl
 | x :: l, i => by
  simp only [List.map_cons, kp, kp_map f q l (i + 1)]
  split <;> simp
theorem kp_sub {α : Type} (q : Nat → Bool) : ∀ (l : List α) (i : Nat), (kp q l i).Sublist l
 | [], _ => List.Sublist.refl _
 | x :: l, i => by
  simp only [kp]
  split
  ·exact (kp_sub q l (i + 1)).cons _
  ·exact (kp_sub q l (i + 1)).cons_cons _
theorem kp_len {α : Type} (q : Nat → Bool) (l : List α) (i : Nat) : (kp q l i).length ≤ l.length := (kp_sub q l i).length_le
theorem kp_none {α : Type} (q : Nat → Bool) : ∀ (l : List α) (i : Nat), (∀ j, i ≤ j → j < i + l.length → q j = false) → kp q l i = l
 | [], _, _ => rfl
 | x :: l, i, h => by
  simp only [kp, h i (Nat.le_refl _) (by simp)]
  rw [kp_none q l (i + 1) (fun j h1 h2 => h j (by omega) (by simp only [List.length_cons]; omega))]
  rfl
theorem range_getD {α : Type} (l : List α) (d : α) : (List.range l.length).map (fun i => l.getD i d) = l := by
 apply List.ext_getElem
 ·simp
 ·intro i h1 h2
  simp [h2]
def delGo {α : Type} (p : α × Unit → Option Bool) : List α → Option (List α)
 | [] => some []
 | x :: r => (p (x, ())).bind fun b => (delGo p r).bind fun ys => some (if b then ys else x :: ys)
theorem delGo_kp {α : Type} {p : α × Unit → Option Bool} : ∀ {l zs : List α} (q : Nat → Bool) (i : Nat), delGo p l = some zs → (∀ j (h : j < l.length), ∀ b, p (l[j], ()) = some b → q (i + j) = b) →
  zs = kp q l i ∧ ∀ j (h : j < l.length), p (l[j], ()) = some (q (i + j))
 | [], zs, q, i, h, _ => by cases h; exact ⟨rfl, fun j h => absurd h (Nat.not_lt_zero _)⟩
 | x :: l, zs, q, i, h, hq => by
  simp only [delGo] at h
  cases hb : p (x, ()) with
  | none => rw [hb] at h; cases h
  | some b =>
   rw [hb] at h
   simp only [Option.bind_some] at h
   cases hz : delGo p l with
   | none => rw [hz] at h; cases h
   | some ys =>
    rw [hz] at h
    simp only [Option.bind_some, Option.some.injEq] at h
    have h0 : q i = b := hq 0 (by simp) b hb
    obtain ⟨e1, e2⟩ := delGo_kp q (i + 1) hz (fun j hj b hb => by
     have := hq (j + 1) (by simp only [List.length_cons]; omega) b hb
     rwa [show i + (j + 1) = i + 1 + j by omega] at this)
    refine ⟨?_, fun j hj => ?_⟩
    ·simp only [kp, h0, ← e1]
     exact h.symm
    ·cases j with
     | zero => rw [Nat.add_zero, h0]; exact hb
     | succ j =>
      have := e2 j (by simpa using hj)
      rw [show i + (j + 1) = i + 1 + j by omega]
      exact this
def delF {α : Type} (n : Nat) (xs : List α) (p : α × Unit → Option Bool) : Option (List α) := if xs.length < n ∧ xs.length ≤ 1152921504606846976 then delGo p xs else none
abbrev KN (r : List RSh) : Type := Env → Option (RVs r)
abbrev KX (r : List RSh) : Type := Nat → Env → Option (RVs r)
theorem loop_u {c : Ctx} {nt : Nat} {Ω : Type} {T : Tab Ω} {kr : Env → Option Ω} (hc : CtxOk c) (hM : MOk c) (hmix : c.P.follows .mixedOrders = true) {j n : Nat} {x : Code} (a : An) (lv : Lv) (live : List Nat) (S : ES)
  (G : Nat → S.V → (Env → Option Ω) → (Nat → Env → Option Ω) → Option Ω) (hT : ∀ e kn kx, T j e kn kx = ES.on S e fun x => G n x kn kx) (h0 : ∀ x kn kx, G 0 x kn kx = none)
  (hs : ∀ m x' kn kx, aevT c nt T kr x a lv (meet (some live) fun e => ES.on S e fun x => G m x kn kx) kx (S.enc x') = G (m + 1) x' kn kx) {l : List (Nat × Code)} (hl : units x a = l)
  (hU : ∀ q, q ∈ l → UnitOk c nt T kr q.1 q.2) : UnitOk c nt T kr j (.loop x) :=
 loop_unit (n := n) hc hM hmix a lv live (fun m e kn kx => ES.on S e fun x => G m x kn kx) hT
  (fun e kn kx out h => by obtain ⟨x, _, h2⟩ := ES.on_inv h; rw [h0] at h2; cases h2) (fun m e kn kx out h => by obtain ⟨x, e1, h2⟩ := ES.on_inv h; rw [e1]; exact (hs m x kn kx).trans h2) (units_of hl hU)
theorem join_u {c : Ctx} {nt : Nat} {Ω : Type} {T : Tab Ω} {kr : Env → Option Ω} (hc : CtxOk c) (hM : MOk c) (hmix : c.P.follows .mixedOrders = true) {j : Nat} {x : Code} (a : An) (lv : Lv) (live : List Nat) (S : ES)
  (G : S.V → (Env → Option Ω) → (Nat → Env → Option Ω) → Option Ω) (hT : ∀ e kn kx, T j e kn kx = ES.on S e fun x => G x kn kx)
  (hs : ∀ x' kn kx, aevT c nt T kr x a lv (meet (some live) kn) kx (S.enc x') = G x' kn kx) {l : List (Nat × Code)} (hl : units x a = l)
  (hU : ∀ q, q ∈ l → UnitOk c nt T kr q.1 q.2) : UnitOk c nt T kr j x :=
 join_unit hc hM hmix a lv (some live) (fun e kn kx out h => by rw [hT] at h; obtain ⟨x, e1, h2⟩ := ES.on_inv h; rw [e1]; exact (hs x kn kx).trans h2) (units_of hl hU)
def fnQ (fn : Func) : Option Code × Nat × List ResultVar × Bool := (fn.body, fn.ntmps, fn.results.toList, fn.name == "runtime.NumGoroutine")
def fnR (d : FnD) : Option Code × Nat × List ResultVar × Bool := (some d.code, d.nt, d.res.map (·.1), false)
theorem ent_okU {c : Ctx} (hc : CtxOk c) (hM : MOk c) (hmix : c.P.follows .mixedOrders = true) {f : Nat} {e : FEnt} {d : FnD} (an : An) {fn : Func} (hf : c.P.funcs[f]? = some fn) (hq : fnQ fn = fnR d) (T : Tab (RVs e.r)) {l : List (Nat × Code)} (hl : units d.code an = l)
  (hU : ∀ v q, q ∈ l → UnitOk c d.nt T (endK c d (avEnc e.a v) (rvDec e.r)) q.1 q.2) (h : ∀ v, fnEvT c d an T (avEnc e.a v) (rvDec e.r) = e.F v) : EntOk c.P f e := by
 simp only [fnQ, fnR, Prod.mk.injEq] at hq
 exact ent_ok hc hM hmix hf hq.1 hq.2.2.2 hq.2.1 hq.2.2.1 (fun _ => T) (fun v => units_of hl (hU v)) h
theorem ent_ok0 {c : Ctx} (hc : CtxOk c) (hM : MOk c) (hmix : c.P.follows .mixedOrders = true) {f : Nat} {e : FEnt} {d : FnD} (an : An) {fn : Func} (hf : c.P.funcs[f]? = some fn) (hq : fnQ fn = fnR d) (hl : units d.code an = [])
  (h : ∀ v, fnEvT c d an (fun _ _ _ _ => none) (avEnc e.a v) (rvDec e.r) = e.F v) : EntOk c.P f e :=
 ent_okU hc hM hmix an hf hq _ hl (fun _ => mem_nil) h
end Go.Abs
