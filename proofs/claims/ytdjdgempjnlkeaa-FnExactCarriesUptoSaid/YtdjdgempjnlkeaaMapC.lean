/- maps.Clone: a new map with the same entries. Conditions: none. -/
import Derived.Test.YtdjdgempjnlkeaaA4
namespace Go.Abs
theorem ent_clone {P : Program} {f : Nat} {k e : Kd} (fn : Func) (hf : P.funcs[f]? = some fn) (hb : fn.body.isNone = false) (hn : (fn.name == "runtime.NumGoroutine") = false)
  (h : ∀ (b : Nat) (es : Array MapEntry) (clock : Nat) (w : World), w.heap[b]? = some (.map es clock) → Calls P f #[.map (some b)] w fun ex w' => ex = .returned (.map (some w.heap.size)) ∧ w' = w.alloc (.map es clock)) :
  EntOk P f ⟨[.ms (.mp k e) (.own .ro)], [.own (.mp k e) (.own .ro), .out (.mp k e)], fun v => some (v.1, v.1)⟩ where
 body := ⟨fn, hf, (by intro h1; rw [h1] at hn; exact absurd hn (by simp)), hb⟩
 ans := by
  intro v r hr w vals g hE
  cases hr
  have hl : vals.length = 1 := hE.len
  obtain ⟨x, rfl⟩ := List.length_eq_one_iff.1 hl
  obtain ⟨hpl, hown, hv⟩ := hE.arg 0 (.ms (.mp k e) (.own .ro) v.1) x rfl rfl
  obtain ⟨r0, es, c, hcs, hF, hp, hlen, G, hG, hG1, hG2, he⟩ := hown
  have hx : x = .map (some r0) := by have := hv.1; rw [hcs] at this; exact this
  subst hx
  have hroot := pk_inr.1 hp
  refine (h r0 es c w hroot).mono ?_
  rintro ex w2 ⟨rfl, rfl⟩
  have hext := Ext.alloc w (.map es c) (Wr (avEnc [ASh.ms (.mp k e) (.own .ro)] v) g)
  have hsz : (w.alloc (.map es c)).heap.size = w.heap.size + 1 := by rw [World.size_alloc]
  have keep : ∀ b o u, w.pk b o = some u → (w.alloc (.map es c)).pk b o = some u := fun b o u hu => by
   rw [pk_alloc_past _ _ (lt_of_pk hu)]; exact hu
  refine ⟨_, ⟨g.S, fun j b => (j = 0 ∧ g.F 0 b) ∨ (j = 1 ∧ b = w.heap.size), g.pl, fun j => if j = 0 then g.cs 0 else [.map (some w.heap.size)]⟩, rfl, hext, fun _ h => h, fun _ h => .inl h,
   fun b hb => by have := hE.Ssz b hb; omega, ?_, ?_, ?_, ?_, ?_, ?_⟩
  ·rintro j b (⟨rfl, h⟩ | ⟨rfl, rfl⟩)
   ·exact .inl ⟨0, h⟩
   ·exact .inr (Nat.le_refl _)
  ·rintro j b (⟨rfl, h⟩ | ⟨rfl, rfl⟩)
   ·have := hE.Fsz 0 b h; omega
   ·omega
  ·rintro j b (⟨rfl, h⟩ | ⟨rfl, rfl⟩)
   ·exact hE.FS 0 b h
   ·intro hS; have := hE.Ssz _ hS; omega
  ·rintro i j b hne (⟨rfl, h⟩ | ⟨rfl, rfl⟩) (⟨rfl, h'⟩ | ⟨rfl, h'⟩)
   ·exact hne rfl
   ·have := hE.Fsz 0 b h; omega
   ·have := hE.Fsz 0 _ h'; omega
   ·exact hne rfl
  ·refine ⟨⟨v.1, rfl, ?_⟩, trivial⟩
   refine ⟨r0, es, c, hcs, .inl ⟨rfl, hF⟩, keep _ _ _ hp, hlen, G, fun i b hb => .inl ⟨rfl, hG i b hb⟩, hG1, hG2, fun i hi => ?_⟩
   obtain ⟨en, vs, a1, a2, a3, a4⟩ := he i hi
   exact ⟨en, vs, a1, a2, a3, Own.ro.2 ((Own.ro.1 a4).mono (fun _ h => h) (fun b o u _ hu => keep b o u hu))⟩
  ·refine ⟨?_, rfl, rfl⟩
   refine ⟨w.heap.size, es, c, rfl, .inr ⟨rfl, rfl⟩, pk_inr.2 (MapKept.heap_alloc w _).1, hlen, fun _ _ => False, fun _ _ h => h.elim, fun _ h => h, fun _ _ _ _ h => h.elim, fun i hi => ?_⟩
   obtain ⟨en, vs, a1, a2, a3, a4⟩ := he i hi
   exact ⟨en, vs, a1, a2, a3, Own.ro.2 ((Own.ro.1 a4).mono (fun _ h => h) (fun b o u _ hu => keep b o u hu))⟩
end Go.Abs
