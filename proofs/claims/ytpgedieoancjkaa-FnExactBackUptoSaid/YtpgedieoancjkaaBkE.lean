/- impl.Back: its entry. Conditions: none. -/
import Derived.Test.YtpgedieoancjkaaBkR
set_option linter.unusedVariables false
set_option linter.unusedSimpArgs false
namespace Go.Abs
open Go.Proofs

def noDefer (ops : Array Oper) : Bool := ops.toList.all fun o => match o.op with | .defer _ => false | _ => true
theorem noDefer_ok {ops : Array Oper} (h : noDefer ops = true) : ∀ (i : Nat) o, ops[i]? = some o → ∀ c, o.op ≠ .defer c := by
  intro i o ho c hc
  have hm : o ∈ ops.toList := by
    rw [Array.getElem?_eq_some_iff] at ho
    obtain ⟨hi, rfl⟩ := ho
    exact Array.getElem_mem_toList hi
  have := List.all_eq_true.1 h o hm
  rw [hc] at this
  cases this
theorem noDeferA : noDefer opsA = true := by kernel_rfl
theorem noDeferC : noDefer opsC = true := by kernel_rfl
theorem evA3 (n : Nat) (x : CHK.T) (ys : List CHK.T) : ((envA n x ys).bind outOf) = some ys := by kernel_rfl

/-- What is known between a round's assignment and its body. -/
def Asg (n : Nat) (w : World) (S0 : Nat → Prop) (x : CHK.T) (ys : List CHK.T) (a : Act) (W : World) : Prop :=
  w.heap.size + 5 ≤ W.heap.size ∧ Ext w W (fun _ _ => False) ∧ ∃ e B g, envA n x ys = some e ∧ InvG Try.prog B 24 e a W g ∧ g.pl 3 = some (w.heap.size + 1, 0) ∧ (∀ b, S0 b → g.S b) ∧ (∀ b, g.S b → S0 b ∨ Zn w.heap.size b) ∧
    (∀ i b, g.F i b → Zn w.heap.size b) ∧ (∀ i b off, g.pl i = some (b, off) → Zn w.heap.size b)

theorem Asg.abi {n : Nat} {w : World} {S0 : Nat → Prop} {x : CHK.T} {ys : List CHK.T} {a : Act} {B : Nat} (hB : w.heap.size ≤ B) : AbiFrom B (fun (_ : Unit) W => Asg n w S0 x ys a W) where
  put := by
    rintro s W l o o' ⟨h0, hx, e, B', g, h1, h2, h3, h4, h5, h6, h7⟩ hl hh k1 k2
    refine ⟨by simp [World.putObj]; exact h0, put_ext hx (by omega) hh k1 k2, e, _, g, h1, h2.rebase (by simp [World.putObj]) (fun b q _ => put_cell hh k1 k2 _) (put_glob h2.globw hh k1), h3, h4, h5, h6, h7⟩
  lay := by
    rintro s W o ⟨h0, hx, e, B', g, h1, h2, h3, h4, h5, h6, h7⟩ k1
    exact ⟨Nat.le_trans h0 (by simp), hx.step (Ext.alloc _ _ (fun _ _ => False)) (fun _ _ _ h => h), e, _, g, h1, h2.world (Ext.alloc _ _ _), h3, h4, h5, h6, h7⟩

theorem keeps_of {n0 : Nat} {W W' : World} {X : Nat → Nat → Prop} (hx : Ext W W' X) (hX : ∀ b o, X b o → Zn n0 b) (hn : n0 ≤ W.heap.size) : KeepsAt (n0 + 3) W W' ∧ Bk.KpB n0 (n0 + 2) W W' := by
  refine ⟨fun k o h1 h2 h3 _ => ?_, ⟨hx.os, hx.tape, hx.output, hx.size, fun k hk => ?_⟩, fun v hv => ?_⟩
  · rw [hx.block k (Array.getElem?_eq_some_iff.1 h3).1 (fun q hq => by have := hX k q hq; unfold Zn at this; omega)]
    exact h3
  · exact hx.block k (by omega) (fun q hq => by have := hX k q hq; unfold Zn at this; omega)
  · exact hx.same (fun hq => by have := hX _ _ hq; unfold Zn at this; omega) hv

theorem rbase_zone {w W : World} {S F : Nat → Prop} {cs : List Value} {S0 : Nat → Prop} {ys : List CHK.T} (h : Mid w S0 ys W S F cs) : ∀ b, (rbase W (ghM w S F cs)).Fx b → Zn w.heap.size b := by
  rintro b (⟨i, hb⟩ | ⟨i, off, hp⟩)
  · exact (h.fz b hb.2).1
  · have hp : (if i = 3 then some (w.heap.size + 1, 0) else none) = some (b, off) := hp
    split at hp
    · cases hp
      unfold Zn
      omega
    · cases hp

theorem assign_ok (n l m : Nat) {w : World} {S0 : Nat → Prop} {ys : List CHK.T} {W : World} {S F : Nat → Prop} {cs : List Value} (h : Mid w S0 ys W S F cs) (h5 : w.heap.size + 5 ≤ W.heap.size) (hG : GlobOk Try.prog S0 w) (hS0 : ∀ b, S0 b → b < w.heap.size)
    {a : Act} (ht : a.tmps.size = 24) (hd : a.defers = []) (h3 : a.tmps.getD 3 undef = .pointer (some ⟨w.heap.size + 1, 0, none⟩)) {x : CHK.T} {c : List Value} (hx : RO S0 w CHK x c) (h10 : a.tmps.getD 10 undef = CHK.val c) :
    (Code.region 3 opsA false).wpIn (Fence.wide.inRound l) m Try.prog (Exit.then (fun a1 W1 => KeepsAt (w.heap.size + 3) W W1 ∧ Bk.KpB w.heap.size (w.heap.size + 2) W W1 ∧ Asg n w S0 x ys a1 W1) (fun _ _ _ => False)) a W := by
  have hi := h.inv hG hS0 ht hd h3 hx h10
  obtain ⟨e, he⟩ := Option.isSome_iff_exists.1 (evA n x ys)
  have h3e := evA3 n x ys
  rw [he, Option.bind_some] at h3e
  obtain ⟨e', e1, h2⟩ := aops_ok (B := rbase W (ghM w S F cs)) (cB_ok n) (mB_ok n) (List.range opsA.size) opsA.toList (envR x ys) some range_map he
  cases e1
  refine wpIn_region (opsIn_of_ops (noDefer_ok noDeferA) (by rintro ⟨_, _, hq⟩; exact hq) _ _ _ (h2 a W ⟨_, hi⟩ _ fun a1 W1 ⟨g1, hi1⟩ => ?_))
  have hX : ∀ b o, (rbase W (ghM w S F cs)).X b o → Zn w.heap.size b := fun b o hb => hb.elim (rbase_zone h b) (fun h => h.elim)
  obtain ⟨k1, k2⟩ := keeps_of hi1.ext hX (by have : (rbase W (ghM w S F cs)).w0 = W := rfl; rw [this]; omega)
  obtain ⟨z1, z2⟩ := hi1.zone (Z := Zn w.heap.size) (rbase_zone h) (fun _ _ h => h) (fun b hb => by
    have hb : W.heap.size ≤ b := hb
    unfold Zn
    omega)
  obtain ⟨lg, ho⟩ := outOf_inv h3e
  refine ⟨k1, k2, Nat.le_trans h5 hi1.ext.size, h.ext.step hi1.ext (fun b o hb hX' => by have := hX b o hX'; unfold Zn at this; omega), e, _, g1, he, hi1, ?_, fun b hb => hi1.S0 b (h.s0 b hb), fun b hb => ?_, z1, z2⟩
  · have hp := (hi1.objs 3 _ ho).par rfl
    unfold ParOk at hp
    split at hp
    · exact hp.1 (by simp [rbase, ghM])
    · exact hp.1
  · rcases hi1.Sb b hb with h1 | h1 | h1
    · exact h.sz b h1
    · exact .inr (rbase_zone h b h1)
    · have h1 : W.heap.size ≤ b := h1
      exact .inr (by unfold Zn; omega)

theorem body_ok (n l m : Nat) {w : World} {S0 : Nat → Prop} {ys zs : List CHK.T} {W : World} {a : Act} {x : CHK.T} (h : Asg n w S0 x ys a W) (hl : x.2.1.length ≤ lim) (hy : ys.length + 1 ≤ lim) (hz : zs = ys ++ [(x.1, (x.2.1, !x.2.2))])
    {α : Type} (f : List α → List CHK.T) (pre : List α) (hf : f pre = zs) :
    (Code.block 1 (Code.region 4 opsC true)).wpIn (Fence.wide.inRound l) m Try.prog (ownPostL (w.heap.size + 3) (Bk.KpB w.heap.size (w.heap.size + 2)) (fun (pre : List α) W => ∃ S F cs, Mid w S0 (f pre) W S F cs) pre W) a W := by
  obtain ⟨h5, hx, e, B, g, he, hi, hp3, hs0, hs, hF, hp⟩ := h
  have hev := evC n x ys
  rw [he, Option.bind_some] at hev
  have hc : Go.Abs.B.impl_copyTuple.F n x.2.1 = some x.2.1 := by
    unfold Go.Abs.B.impl_copyTuple.F
    rw [if_pos (by simpa using hl), List.nil_append]
  rw [hc, Option.bind_some, if_pos (by simpa using hy), ← hz] at hev
  have hG := hi.globw
  have hi2 := hi.rebase (Nat.le_refl _) (fun _ _ _ => ⟨rfl, rfl⟩) hG
  obtain ⟨e', e1, h2⟩ := drawn_ok (B := rbase W g) (k := outOf) (cB_ok n) (mB_ok n) hev
  refine wpIn_block (wpIn_region_any Bk.mixB (anyIn_of_any (noDefer_ok noDeferC) (by rintro ⟨_, _, hq⟩; exact hq) _ _ _ _ (h2 a _ ⟨_, hi2.grow (Ext.drew W _)⟩ _ fun a1 W1 ⟨g1, hi1⟩ => ?_)))
  have hfx : ∀ b, (rbase W g).Fx b → Zn w.heap.size b := by
    rintro b (⟨i, hb⟩ | ⟨i, off, hb⟩)
    · exact hF i b hb
    · exact hp i b off hb
  have hX : ∀ b o, (rbase W g).X b o → Zn w.heap.size b := fun b o hb => hb.elim (hfx b) (fun h => h.elim)
  obtain ⟨k1, k2⟩ := keeps_of hi1.ext hX (by have : (rbase W g).w0 = W := rfl; rw [this]; omega)
  obtain ⟨lg, ho⟩ := outOf_inv e1
  have hO := hi1.objs 3 _ ho
  have hpl : g1.pl 3 = some (w.heap.size + 1, 0) := by
    have hp := hO.par rfl
    unfold ParOk at hp
    have e4 : ((rbase W g).hd 3).1 = some (w.heap.size + 1, 0) := hp3
    rw [e4] at hp
    split at hp
    · exact hp.1 (by simp)
    · exact hp.1
  obtain ⟨q1, q2, q3, q4⟩ := hi1.plz 3 _ _ hpl
  obtain ⟨o1, o2⟩ := hO.own rfl
  refine (show KeepsAt (w.heap.size + 3) W W1 ∧ Bk.KpB w.heap.size (w.heap.size + 2) W W1 ∧ ∃ S F cs, Mid w S0 (f pre) W1 S F cs from ⟨k1, k2, g1.S, g1.F 3, g1.cs 3, ?_⟩)
  rw [hf]
  refine ⟨fun b hb => hi1.S0 b (hs0 b hb), fun b hb => ?_, hi1.Ssz, q2, fun b hb => ⟨?_, fun e => q3 3 (e ▸ hb), hi1.Fsz 3 b hb, hi1.FS 3 b hb⟩, o1, by rw [← hpl]; exact o2, q1, hx.step hi1.ext (fun b o hb hX' => by have := hX b o hX'; unfold Zn at this; omega)⟩
  · rcases hi1.Sb b hb with h1 | h1 | h1
    · exact hs b h1
    · exact .inr (hfx b h1)
    · have h1 : W.heap.size ≤ b := h1
      exact .inr (by unfold Zn; omega)
  · rcases hi1.Fb 3 b hb with h1 | h1
    · exact hfx b h1
    · have h1 : W.heap.size ≤ b := h1
      unfold Zn
      omega

theorem chk_val {r : Int} {sv : Value} {b : Bool} : CHK.val [.int .i64 r, sv, .bool b] = .agg #[.int .i64 r, sv, .bool b] := rfl

section
open Go.RowKit Go.Shelf Go.Proofs.Bk
attribute [local go_sem] Oper.semAt_some

set_option maxRecDepth 100000 in
set_option maxHeartbeats 4000000 in
theorem back_walk (w : World) (S0 : Nat → Prop) (hG : GlobOk Try.prog S0 w) (hS0 : ∀ b, S0 b → b < w.heap.size) (xs : List CHK.T) (hl : xs.length ≤ lim) (hr : ∀ c ∈ xs, c.2.1.length ≤ lim)
    (A : Option Addr) (cap : Nat) (L : List Value) (l1 : xs.length ≤ cap) (l2 : L.length = xs.length * 3) (l3 : ∀ b o, A = some ⟨b, o, none⟩ → CellsAt w b o L) (l4 : 0 < xs.length → ∃ b o, A = some ⟨b, o, none⟩ ∧ S0 b)
    (l5 : ∀ i (h : i < xs.length), RO S0 w CHK xs[i] (elemAt L 3 i)) :
    CallsIn Fence.wide 4 Try.prog 7 #[.slice A xs.length cap] w fun e w2 => ∃ S F cs, e = .returned (Kd.val (.sl CHK) cs) ∧ Mid w S0 (xs.reverse.map fun c => (c.1, (c.2.1, !c.2.2))) w2 S F cs := by
  have t26 := Try.underlying24; have t51 := Try.underlying38
  have a26 := Try.isAgg24; have a51 := Try.isAgg38
  have z26 := Try.sizeOf24; have z51 := Try.sizeOf38
  have v26 := Try.zeroValue24; have v51 := Try.zeroValue38
  have u26 := run_underlying Try.underlying24; have u51 := run_underlying Try.underlying38
  have mixed := mixB
  -- the elements
  have hall := ro_all l5
  have hz : ∀ i, ∃ q : Value × Value × Value, atC L xs.length i = [q.1, q.2.1, q.2.2] := fun i => by
    obtain ⟨B, c, h1, _⟩ := ro_chk (hall i)
    exact ⟨(_, _, _), h1⟩
  obtain ⟨z, hz⟩ := Classical.axiomOfChoice hz
  refine callsIn_of_wp_marks Try.func7 rfl trivial ?_ rfl
  simp only [Try.ntmps7, List.size_toArray, List.length_cons, List.length_nil, Nat.reduceAdd, Nat.reduceSub, Array.replicate_succ, Array.replicate_zero, List.push_toArray, List.append_toArray, List.nil_append, List.cons_append]
  gi_wp2
  refine ⟨trivial, (back_in Fence.wide 3 trivial rfl _ _ _ _).mono ?_⟩
  rintro e w' ⟨rfl, rfl⟩
  gi_wp2
  rename_i K hK
  obtain ⟨W1, hW1⟩ : ∃ W1, W1 = ((w.alloc (.cells #[] 38)).alloc (.cells #[.slice (some ⟨w.heap.size, 0, none⟩) 0 0] 24)).alloc (.cells #[.slice A xs.length cap] 24) := ⟨_, rfl⟩
  rw [← hW1]
  have hsz : W1.heap.size = w.heap.size + 3 := by rw [hW1]; simp
  have hx1 : Ext w W1 (fun _ _ => False) := by rw [hW1]; exact ((Ext.alloc _ _ _).step (Ext.alloc _ _ (fun _ _ => False)) (fun _ _ _ h => h)).step (Ext.alloc _ _ (fun _ _ => False)) (fun _ _ _ h => h)
  have hm0 : Mid w S0 [] W1 S0 (fun b => b = w.heap.size) [.slice (some ⟨w.heap.size, 0, none⟩) 0 0] := by
    refine ⟨fun _ h => h, fun _ h => .inl h, fun b hb => by have := hS0 b hb; omega, fun h => by have := hS0 _ h; omega, fun b hb => ?_, ?_, ?_, by omega, hx1⟩
    · subst hb
      exact ⟨by unfold Zn; omega, by omega, by omega, fun h => by have := hS0 _ h; omega⟩
    · refine ⟨_, 0, rfl, Nat.le_refl _, fun h => by (cases h), fun ad e => ?_, fun _ _ => False, fun _ _ h => h.elim, fun _ _ _ h => h, fun _ _ _ _ h => h.elim, fun i hi => absurd hi (Nat.not_lt_zero _)⟩
      cases e
      refine ⟨rfl, rfl, fun j => ⟨fun hj => absurd hj (by simp), ?_⟩⟩
      rw [hW1, World.frozen?_alloc_past _ _ _ (by simp; omega)]
      exact World.frozen?_alloc2_first _ _ _ _
    · intro b o e
      cases e
      refine ⟨fun j hj => ?_, fun j hj => ?_⟩
      · obtain rfl : j = 0 := by simpa using hj
        rw [hW1, World.cell?_alloc_past _ _ _ (by simp)]
        rw [World.cell?_alloc_at _ _ _ _ (by simp)]
        rfl
      · rw [hW1, World.frozen?_alloc_past _ _ _ (by simp)]
        exact World.frozen?_alloc2_new _ _ _ _
  let fE : Nat → CHK.T := fun i => ((xs.getD i CHK.zero).1, ((xs.getD i CHK.zero).2.1, !(xs.getD i CHK.zero).2.2))
  have hlim : ∀ i, (xs.getD i CHK.zero).2.1.length ≤ lim := fun i => by
    by_cases hi : i < xs.length
    · have : xs.getD i CHK.zero = xs[i] := by simp [hi]
      rw [this]
      exact hr _ (List.getElem_mem hi)
    · have : xs.getD i CHK.zero = CHK.zero := by simp [List.getD_eq_getElem?_getD, List.getElem?_eq_none (Nat.le_of_not_lt hi)]
      rw [this]
      exact Nat.zero_le _
  refine wpIn_rangeFunc_ownL rfl (by omega) (gf := 21) (lb := #[.pointer (some ⟨w.heap.size + 2, 0, none⟩)]) rfl trivial (enters_of Try.func21 (by kernel_rfl) rfl) (encs := encE z) (w0 := W1)
    (stops Fence.wide 3 trivial rfl (by omega) (w.heap.size + 2) w.heap.size xs.length cap A z hl W1 (by omega) (by omega) ?cBs ?cells) (fun h k => h.trans k) ?hKb (Below.refl _ _) (fun x => rfl)
    (fun pre W => ∃ S F cs, Mid w S0 (pre.map fE) W S F cs) (Mid.abi (by omega)) ⟨_, _, _, hm0⟩ (fun pre x a W => Asg 0 w S0 (xs.getD x CHK.zero) (pre.map fE) a W) (fun pre x a => Asg.abi (by omega)) ?assign ?body ?done
  case cBs =>
    rw [hW1, World.cell?_alloc_at _ _ _ _ (by simp)]
    rfl
  case cells =>
    by_cases h0 : xs.length = 0
    · exact .inl h0
    · obtain ⟨b, o, rfl, hb⟩ := l4 (by omega)
      refine .inr ⟨b, o, rfl, hS0 b hb, fun j hj => ?_⟩
      have hcl := l3 b o rfl
      have e1 : elemAt L 3 j = [(z j).1, (z j).2.1, (z j).2.2] := by rw [← hz j]; unfold atC; rw [if_pos hj]
      have gt : ∀ q (hq : q < 3), W1.cell? ⟨b, o + j * 3 + q, none⟩ = some (([(z j).1, (z j).2.1, (z j).2.2] : List Value)[q]'(by simpa using hq)) := fun q hq => by
        rw [(hx1.cell b _ (hS0 b hb) (fun h => h)).1, Nat.add_assoc, hcl (j * 3 + q) (by omega)]
        have e2 : (elemAt L 3 j)[q]? = some (L[j * 3 + q]'(by omega)) := by
          simp only [elemAt]
          rw [List.getElem?_take, if_pos hq, List.getElem?_drop, List.getElem?_eq_getElem (by omega)]
        rw [e1] at e2
        rw [List.getElem?_eq_getElem (by simpa using hq)] at e2
        exact e2.symm
      exact ⟨gt 0 (by omega), gt 1 (by omega), gt 2 (by omega)⟩
  case hKb =>
    intro W k o o' hk hh h1 _
    refine ⟨belowK_b (w := W1) (by omega) W k o o' hk hh h1 ‹_›, fun v hv => ?_⟩
    rw [World.cell?_of_block (w := W) (World.putObj_heap_other (by show w.heap.size + 2 ≠ k; omega))]
    exact hv
  case assign =>
    rintro l pre x W ⟨S, F, cs, hm⟩ hlen h5
    have := assign_ok 0 l (4 - 1 - 1) hm (by omega) hG hS0 (a := { tmps := ((#[9, 10] : Array Tmp).zip (encE z x)).foldl (fun t (p, v) => t.setIfInBounds p v) #[.slice A xs.length cap, undef, .slice none 0 0, .pointer (some ⟨w.heap.size + 1, 0, none⟩), undef, undef, .slice (some ⟨w.heap.size, 0, none⟩) 0 0, .slice A xs.length cap, .func (.func 21) #[] #[.pointer (some ⟨w.heap.size + 1 + 1, 0, none⟩)], undef, undef, undef, undef, undef, undef, undef, undef, undef, undef, undef, undef, undef, undef, undef], defers := [] })
      (by simp [encE]) rfl (by simp [encE]) (hall x) (by rw [hz x]; simp [encE]; rfl)
    rw [← hsz] at this
    exact this
  case body =>
    rintro l pre x a1 W hA hlen
    have := body_ok 0 l (4 - 1 - 1) hA (hlim x) (by rw [List.length_map]; omega) rfl (fun pre => pre.map fE) (pre ++ [x]) (by simp [fE])
    rw [← hsz] at this
    exact this
  case done =>
    rintro D ys W hD rfl ⟨S, F, cs, hm⟩ hdef
    refine hK _ _ ?_
    obtain ⟨A', cap', rfl, _⟩ := hm.own
    have hc := (hm.pl _ _ rfl).1 0 (by simp)
    simp only [Nat.add_zero, List.getElem_cons_zero] at hc
    gi_wp2
    refine ⟨by simp, .inl ⟨_, _, rfl, run_takeDeferred hdef, ?_⟩⟩
    have e5 : (upto (back xs.length) xs.length).map fE = xs.reverse.map fun c => (c.1, (c.2.1, !c.2.2)) := by
      rw [← upto_back xs CHK.zero, List.map_map]
      unfold upto
      rw [List.map_map]
      rfl
    refine ⟨_, results_tmp rfl _ _ _, S, F, [.slice A' ((upto (back xs.length) xs.length).map fE).length cap'], by simp [Kd.val, Kd.agg], ?_⟩
    rw [← e5]
    exact hm.to (by simp [World.putObj]) (fun b q _ => put_cell hdef rfl rfl _) (put_ext hm.ext (by omega) hdef rfl rfl)
end

theorem ent_back : EntOk Try.prog 7 ⟨[.ro (.sl CHK)], [.own (.sl CHK) (.own mB)], fun v => backF v.1⟩ where
  body := ⟨Try.f7, Try.func7, (by
    have hn : (Try.f7.name == "runtime.NumGoroutine") = false := by kernel_rfl
    intro h1; rw [h1] at hn; exact absurd hn (by simp)), by kernel_rfl⟩
  ans := by
    rintro ⟨xs, u⟩ ys hr w vals g hE
    have hr : backF xs = some ys := hr
    match vals, hE with
    | [], hE => have := hE.len; cases this
    | _ :: _ :: _, hE => have := hE.len; cases this
    | [v0], hE =>
    obtain ⟨_, _, c, hro, hv⟩ := hE.arg 0 _ v0 rfl rfl
    unfold backF at hr
    split at hr
    case isFalse => cases hr
    rename_i hc
    cases hr
    obtain ⟨A, cap, L, rfl, l1, l2, l3, l4, l5⟩ := ro_row (show RO g.S w (.sl CHK) xs c from hro)
    obtain rfl : v0 = .slice A xs.length cap := hv.1
    refine callsIn_wide.1 ((back_walk w g.S hE.glob hE.Ssz xs hc.1 (fun c hm => of_decide_eq_true (List.all_eq_true.1 hc.2 c hm)) A cap L l1 l2 l3 l4 l5).mono ?_)
    rintro e w2 ⟨S, F, cs, rfl, hm⟩
    refine ⟨_, ⟨S, fun j b => j = 1 ∧ F b, g.pl, fun _ => cs⟩, rfl, hm.ext.mono (fun _ _ _ h => h.elim), fun b hb => hm.s0 b hb, ?_, hm.sl, fun j b hb => .inr (hm.fz b hb.2).1.1, fun j b hb => (hm.fz b hb.2).2.2.1, fun j b hb => (hm.fz b hb.2).2.2.2, fun i j b hij h1 h2 => hij (h1.1.trans h2.1.symm), trivial, ?_⟩
    · intro b hb
      rcases hm.sz b hb with h | h
      · exact .inl h
      · exact .inr (.inr h.1)
    · exact ⟨hm.own.mono (fun _ h => h) (fun _ _ _ _ h => h) (fun b hb => ⟨rfl, hb⟩) (fun _ _ _ => ⟨rfl, rfl⟩), Own.vrep (fun a b e => by (cases e)) hm.own⟩
end Go.Abs
