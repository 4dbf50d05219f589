/- Names for a rule's variables that are always the same. Conditions: none. -/
import Derived.Test.YtdjdgempjnlkeaaX2
namespace Go.Abs
def hasT (l : List ByteArray) (s : ByteArray) : Bool := l.any fun x => decide (x = s)
theorem hasT_iff {l : List ByteArray} {s : ByteArray} : hasT l s = true ↔ s ∈ l := by
 unfold hasT
 rw [List.any_eq_true]
 exact ⟨fun ⟨x, h1, h2⟩ => of_decide_eq_true h2 ▸ h1, fun h => ⟨s, h, decide_eq_true rfl⟩⟩
def nmAdd (acc : List ByteArray) (e : Ex) : List ByteArray := if e.1 = 1 then (if hasT acc e.2.1 = true then acc else acc ++ [e.2.1]) else acc
def namesOn (acc : List ByteArray) (E : List Ex) : List ByteArray := E.foldl nmAdd acc
def idxT (l : List ByteArray) (s : ByteArray) : Nat := l.findIdx fun x => decide (x = s)
theorem nmAdd_len (acc : List ByteArray) (e : Ex) : (nmAdd acc e).length ≤ acc.length + 1 := by
 unfold nmAdd
 split
 ·split <;> simp
 ·omega
theorem names_len : ∀ (E : List Ex) (acc : List ByteArray), (namesOn acc E).length ≤ acc.length + E.length
 | [], _ => Nat.le_refl _
 | e :: E, acc => by
  have h1 := names_len E (nmAdd acc e)
  have h2 := nmAdd_len acc e
  show (namesOn (nmAdd acc e) E).length ≤ _
  rw [List.length_cons]
  omega
theorem names_succ {E : List Ex} {i : Nat} (hi : i < E.length) (acc : List ByteArray) : namesOn acc (E.take (i + 1)) = nmAdd (namesOn acc (E.take i)) E[i] := by
 rw [List.take_succ_eq_append_getElem hi]
 unfold namesOn
 rw [List.foldl_append]
 rfl
end Go.Abs
