/- What a row's listed variables say of the library's variables. Conditions: none. -/
import Derived.Test.YtpgedieoancjkaaDoorPl
import Derived.Lib.LaidTab
import Derived.LaidLaws
import Derived.ChangeArms
namespace Go.Abs
theorem heap_of_cell {w : World} {g : Nat} {v : Value} (h : w.cell? ⟨g, 0, none⟩ = some v) : ∃ cs t fr, w.heap[g]? = some (.cells cs t fr) ∧ cs[0]? = some v := by
 unfold World.cell? at h
 dsimp only at h
 split at h
 ·rename_i c t fr hh
  rw [if_neg (by simp)] at h
  exact ⟨c, t, fr, hh, h⟩
 ·cases h
theorem heap_of_var {P : Program} {w : World} {nm : String} {cs : Array Value} {g : Nat} (hg : P.globalNamed nm = some g) (h : w.var? P nm = some cs) : ∃ t fr, w.heap[g]? = some (.cells cs t fr) := by
 unfold World.var? at h
 rw [hg] at h
 simp only [Option.bind_some] at h
 split at h
 ·rename_i c t fr hh
  cases h
  exact ⟨t, fr, hh⟩
 ·cases h
theorem lt_of_heap {w : World} {g : Nat} {o : Go.Obj} (h : w.heap[g]? = some o) : g < w.heap.size := by
 rcases Nat.lt_or_ge g w.heap.size with hb | hb
 ·exact hb
 ·rw [Array.getElem?_eq_none hb] at h; cases h
theorem laid_get {P : Program} {w : World} : ∀ (l : List (String × DataW Unit)) (ps : List MemPlace), DataW.LaidVars P w l ps → ∀ nm d, (nm, d) ∈ l →
  ∃ g t cs fuel p, P.globalNamed nm = some g ∧ (P.globals[g]?).map (·.type) = some t ∧ w.var? P nm = some cs ∧ DataW.trod (fun _ => ()) P w 0 (fun _ => true) false fuel t cs.toList = some (d, p)
 | [], _, _, _, _, h => by cases h
 |(n, d) :: r, ps, h, nm, d', hm => by
  obtain ⟨g, t, cs, fuel, p, q, h1, h2, h3, h4, h5, _⟩ := h
  rcases List.mem_cons.1 hm with he | hm
  ·cases he
   exact ⟨g, t, cs, fuel, p, h1, h2, h3, h4⟩
  ·exact laid_get r q h5 nm d' hm
theorem glob_of2 {P : Program} {W : World} {l : List (String × DataW Unit)} (gM gP tP eP : Nat)
  (hM : P.globalNamed "internal/bytealg.MaxLen" = some gM) (hMc : ∃ m, W.cell? ⟨gM, 0, none⟩ = some (.int .i64 m))
  (hP : P.globalNamed "internal/strconv.uint64pow10" = some gP) (hS : P.globalNamed "strconv.ErrSyntax" = none) (hR : P.globalNamed "strconv.ErrRange" = none)
  (tyP : (P.globals[gP]?).map (·.type) = some tP)
  (uP : P.underlying tP = some (.array 20 eP)) (uE : P.underlying eP = some (.int .u64)) (cE : P.cellsOf eP = 1) (cP : P.cellsOf tP = 20)
  (iP : ("internal/strconv.uint64pow10", Lib.tabData .u64 Lib.pow10Tab) ∈ l)
  (hL : laidMet P l W) : GlobOk P (fun b => b < W.heap.size) W := by
 obtain ⟨ps, hV, _, _⟩ := hL
 intro nm hm g hg
 simp only [gnames, List.mem_cons, List.not_mem_nil, or_false] at hm
 rcases hm with rfl | rfl | rfl | rfl
 ·rw [hM] at hg; cases hg
  obtain ⟨m, hm⟩ := hMc
  obtain ⟨cs, t, fr, h1, h2⟩ := heap_of_cell hm
  exact ⟨lt_of_heap h1, cs, t, fr, h1, ⟨fun _ => ⟨m, h2⟩, fun h => absurd h (by decide), fun h => absurd h (by decide), fun h => absurd h (by decide)⟩⟩
 ·rw [hP] at hg; cases hg
  obtain ⟨g', t', cs, fuel, p, h1, h2, h3, h4⟩ := laid_get l ps hV _ _ iP
  rw [hP] at h1; cases h1
  rw [tyP] at h2; cases h2
  have hcs := Lib.cells_of_tab uP uE cE cP h4
  obtain ⟨t, fr, h5⟩ := heap_of_var hP h3
  refine ⟨lt_of_heap h5, cs, t, fr, h5, ⟨fun h => absurd h (by decide), fun _ => ?_, fun h => absurd h (by decide), fun h => absurd h (by decide)⟩⟩
  rw [← hcs]
 ·rw [hS] at hg; cases hg
 ·rw [hR] at hg; cases hg
theorem laidMet_of_run3 {P : Program} {w : World} {l : List (String × DataW Unit)} (fuel : Nat) (h : (DataW.laidRun P w fuel (l.map (·.1))).map (·.1) = some l)
  (hn : (DataW.laidRun P w fuel (l.map (·.1))).map (fun x => decide x.2.Nodup) = some true) (hr : (DataW.laidRun P w fuel (l.map (·.1))).map (fun x => laidRowsB P w x.2) = some true) : laidMet P l w := by
 refine laidMet_of_run' fuel h ?_
 cases hx : DataW.laidRun P w fuel (l.map (·.1)) with
 | none => simp [hx] at h
 | some x =>
  simp only [hx, Option.map_some, Option.some.injEq] at hn hr ⊢
  rw [hn, hr]
  rfl
end Go.Abs
