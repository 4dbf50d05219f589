/- Names for a rule's variables that are always the same. Conditions: none. -/
import Derived.Test.YtpgedieoancjkaaDoorX2
namespace Go.Abs
def hasT (l : List ByteArray) (s : ByteArray) : Bool := l.any fun x => decide (x = s)
theorem hasT_iff {l : List ByteArray} {s : ByteArray} : hasT l s = true ↔ s ∈ l := by
 unfold hasT
 rw [List.any_eq_true]
 exact ⟨fun ⟨x, h1, h2⟩ => of_decide_eq_true h2 ▸ h1, fun h => ⟨s, h, decide_eq_true rfl⟩⟩
def nmAdd (acc : List ByteArray) (e : Ex) : List ByteArray := if e.1 = 1 then (if hasT acc e.2.1 = true then acc else acc ++ [e.2.1]) else acc
def namesOn (acc : List ByteArray) (E : List Ex) : List ByteArray := E.foldl nmAdd acc
def idxT (l : List ByteArray) (s : ByteArray) : Nat := l.findIdx fun x => decide (x = s)
theorem nmAdd_pre (acc : List ByteArray) (e : Ex) : ∃ t, nmAdd acc e = acc ++ t := by
 unfold nmAdd
 split
 ·split
  ·exact ⟨[], (List.append_nil _).symm⟩
  ·exact ⟨_, rfl⟩
 ·exact ⟨[], (List.append_nil _).symm⟩
theorem names_pre : ∀ (E : List Ex) (acc : List ByteArray), ∃ t, namesOn acc E = acc ++ t
 | [], acc => ⟨[], (List.append_nil _).symm⟩
 | e :: E, acc => by
  obtain ⟨t, ht⟩ := nmAdd_pre acc e
  obtain ⟨u, hu⟩ := names_pre E (nmAdd acc e)
  exact ⟨t ++ u, by show namesOn (nmAdd acc e) E = _; rw [hu, ht, List.append_assoc]⟩
theorem nmAdd_mem (acc : List ByteArray) (e : Ex) (h : e.1 = 1) : e.2.1 ∈ nmAdd acc e := by
 unfold nmAdd
 rw [if_pos h]
 split
 ·exact hasT_iff.1 ‹_›
 ·simp
theorem nmAdd_nodup {acc : List ByteArray} (h : acc.Nodup) (e : Ex) : (nmAdd acc e).Nodup := by
 unfold nmAdd
 split
 ·split
  ·exact h
  ·rename_i hn
   exact List.nodup_append.2 ⟨h, by simp, fun a ha b hb e => hn (hasT_iff.2 (by rw [List.mem_singleton.1 hb] at e; exact e ▸ ha))⟩
 ·exact h
theorem names_nodup : ∀ (E : List Ex) {acc : List ByteArray}, acc.Nodup → (namesOn acc E).Nodup
 | [], _, h => h
 | e :: E, _, h => names_nodup E (nmAdd_nodup h e)
theorem nmAdd_len (acc : List ByteArray) (e : Ex) : (nmAdd acc e).length ≤ acc.length + 1 := by
 unfold nmAdd
 split
 ·split <;> simp
 ·omega
theorem names_len : ∀ (E : List Ex) (acc : List ByteArray), (namesOn acc E).length ≤ acc.length + E.length
 | [], _ => Nat.le_refl _
 | e :: E, acc => by
  have h1 := names_len E (nmAdd acc e)
  have h2 := nmAdd_len acc e
  show (namesOn (nmAdd acc e) E).length ≤ _
  rw [List.length_cons]
  omega
theorem idx_pre {l t : List ByteArray} {s : ByteArray} (h : s ∈ l) : idxT (l ++ t) s = idxT l s := by
 unfold idxT
 rw [List.findIdx_append, if_pos]
 exact List.findIdx_lt_length_of_exists ⟨s, h, by simp⟩
theorem idx_lt {l : List ByteArray} {s : ByteArray} (h : s ∈ l) : idxT l s < l.length := List.findIdx_lt_length_of_exists ⟨s, h, by simp⟩
theorem idx_get {l : List ByteArray} {s : ByteArray} (h : s ∈ l) : l[idxT l s]'(idx_lt h) = s := by
 have := List.findIdx_getElem (xs := l) (p := fun x => decide (x = s)) (w := idx_lt h)
 exact of_decide_eq_true this
theorem idx_uniq {l : List ByteArray} (hn : l.Nodup) {s : ByteArray} {k : Nat} (hk : k < l.length) (h : l[k] = s) : k = idxT l s := by
 have hm : s ∈ l := h ▸ List.getElem_mem hk
 have hg := idx_get hm
 have hlt := idx_lt hm
 have hp := List.pairwise_iff_getElem.1 hn
 rcases Nat.lt_trichotomy k (idxT l s) with h1 | h1 | h1
 ·exact absurd (h.trans hg.symm) (hp k _ hk hlt h1)
 ·exact h1
 ·exact absurd (hg.trans h.symm) (hp _ k hlt hk h1)
theorem names_at {E : List Ex} {i : Nat} (hi : i < E.length) (h1 : E[i].1 = 1) (acc : List ByteArray) : E[i].2.1 ∈ namesOn acc (E.take (i + 1)) ∧ idxT (namesOn acc E) E[i].2.1 = idxT (namesOn acc (E.take (i + 1))) E[i].2.1 := by
 have hm : E[i].2.1 ∈ namesOn acc (E.take (i + 1)) := by
  rw [List.take_succ_eq_append_getElem hi]
  unfold namesOn
  rw [List.foldl_append]
  exact nmAdd_mem _ _ h1
 refine ⟨hm, ?_⟩
 obtain ⟨t, ht⟩ := names_pre (E.drop (i + 1)) (namesOn acc (E.take (i + 1)))
 have : namesOn acc E = namesOn acc (E.take (i + 1)) ++ t := by
  rw [← ht]
  unfold namesOn
  rw [← List.foldl_append, List.take_append_drop]
 rw [this, idx_pre hm]
theorem names_succ {E : List Ex} {i : Nat} (hi : i < E.length) (acc : List ByteArray) : namesOn acc (E.take (i + 1)) = nmAdd (namesOn acc (E.take i)) E[i] := by
 rw [List.take_succ_eq_append_getElem hi]
 unfold namesOn
 rw [List.foldl_append]
 rfl
end Go.Abs
