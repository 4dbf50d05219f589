/- Texts as rows of bytes, numbers as texts. Conditions: none. -/
import Derived.Test.YtpgedieoancjkaaDoorPl
import Derived.Test.YtpgedieoancjkaaDoorF1
import Derived.Lib.AtoiTie
namespace Go.Abs
set_option linter.unusedVariables false
set_option linter.unusedSimpArgs false
def bt (l : List UInt8) : ByteArray := ⟨l.toArray⟩
theorem bt_size (l : List UInt8) : ByteArray.size (bt l) = l.length := by simp [bt, ByteArray.size]
theorem bt_list (l : List UInt8) : (bt l).data.toList = l := by simp [bt]
theorem bt_of (s : ByteArray) : s = bt s.data.toList := by cases s; simp [bt]
theorem bt_seq (a b : List UInt8) : Abs.seq (bt a) (bt b) = (a == b) := by
 unfold Abs.seq
 rw [Lib.toList_data, Lib.toList_data, bt_list, bt_list]
theorem bt_append (a b : List UInt8) : bt a ++ bt b = bt (a ++ b) := by
 rw [bt_of (bt a ++ bt b)]
 congr 1
theorem bstr_go : ∀ (l : List Int) (r : ByteArray), (l.foldl (fun r n => r.push (UInt8.ofNat n.toNat)) r) = bt (r.data.toList ++ l.map fun n => UInt8.ofNat n.toNat)
 | [], r => by rw [List.foldl_nil, List.map_nil, List.append_nil]; exact bt_of r
 | x :: l, r => by
  rw [List.foldl_cons, bstr_go l]
  congr 1
  show (r.data.push _).toList ++ _ = _
  simp
theorem bstr_bt (l : List Int) : bstr l = bt (l.map fun n => UInt8.ofNat n.toNat) := by
 unfold bstr
 rw [bstr_go]
 simp
theorem dec_ge {u : Nat} (h : ¬ u < 10) : Lib.decDigits u = Lib.decDigits (u / 10) ++ [UInt8.ofNat (48 + u % 10)] := by rw [Lib.decDigits, dif_neg h]
theorem dec_lt {u : Nat} (h : u < 10) : Lib.decDigits u = [UInt8.ofNat (48 + u)] := Lib.decDigits_one h
theorem isDig_ofNat (d : Nat) (h : d < 10) : 48 ≤ (UInt8.ofNat (48 + d)).toNat ∧ (UInt8.ofNat (48 + d)).toNat ≤ 57 ∧ (UInt8.ofNat (48 + d)).toNat = 48 + d := by
 rw [UInt8.toNat_ofNat']
 omega
theorem dec_len : ∀ (j u : Nat), u < 10 ^ (j + 1) → (Lib.decDigits u).length ≤ j + 1
 | 0, u, h => by rw [dec_lt (by simpa using h)]; simp
 | j + 1, u, h => by
  by_cases hu : u < 10
  ·rw [dec_lt hu]; simp
  ·rw [dec_ge hu, List.length_append]
   have := dec_len j (u / 10) (by rw [Nat.pow_succ] at h; omega)
   simp only [List.length_singleton]
   omega
def toI (b : UInt8) : Int := (b.toNat : Int)
theorem map_toI (l : List UInt8) : (l.map toI).map (fun n => UInt8.ofNat n.toNat) = l := by
 rw [List.map_map]
 conv => rhs; rw [← List.map_id l]
 congr 1
 funext b
 simp [toI]
theorem u8wrap (z : Int) (h0 : 0 ≤ z) (h1 : z ≤ 255) : IntKind.u8.wrap z = z := by
 simp only [IntKind.wrap, IntKind.signed, IntKind.bits]
 simp
 omega
theorem nt_loop (n : Nat) (t : Int) (K : List Int → Option ByteArray) : ∀ (j k : Nat) (m : Int) (out : List Int), m.natAbs < 10 ^ j → j + 1 ≤ k → List.length out + j ≤ 100 → m.natAbs ≤ 4611686018427387904 →
  spec_NumText.l0 n t K k m out = K ((if m = 0 then [] else (Lib.decDigits m.natAbs).map toI) ++ out)
 | j, 0, m, out, _, hk, _, _ => by omega
 | 0, k + 1, m, out, hm, hk, ho, hb => by
  have : m = 0 := by simp at hm; exact hm
  subst this
  unfold spec_NumText.l0
  simp
 | j + 1, k + 1, m, out, hm, hk, ho, hb => by
  unfold spec_NumText.l0
  by_cases h0 : m = 0
  ·subst h0; simp
  ·have hd : (Int.tdiv m 10).natAbs = m.natAbs / 10 := by rw [Int.natAbs_tdiv]; rfl
   have hr : (Int.tmod m 10).natAbs = m.natAbs % 10 := by rw [Int.natAbs_tmod]; rfl
   have hw : IntKind.i64.wrap (Int.tdiv m 10) = Int.tdiv m 10 := wrap64 _ (by omega) (by omega)
   have hl : List.length [(1 : Int)] + List.length out ≤ lim := by unfold lim; simp; omega
   have step : ∀ d : Int, d = ((m.natAbs % 10 : Nat) : Int) → spec_NumText.l0 n t K k (IntKind.i64.wrap (Int.tdiv m 10)) ([IntKind.u8.wrap (IntKind.i64.wrap (48 + d))] ++ out) = K ((Lib.decDigits m.natAbs).map toI ++ out) := by
    intro d hdd
    have e1 : IntKind.u8.wrap (IntKind.i64.wrap (48 + d)) = toI (UInt8.ofNat (48 + m.natAbs % 10)) := by
     rw [wrap64 _ (by omega) (by omega), u8wrap _ (by omega) (by omega)]
     unfold toI
     have := (isDig_ofNat (m.natAbs % 10) (by omega)).2.2
     omega
    rw [hw, e1, nt_loop n t K j k (Int.tdiv m 10) _ (by rw [hd]; rw [Nat.pow_succ] at hm; omega) (by omega) (by simp; omega) (by omega), hd]
    congr 1
    by_cases hu : m.natAbs < 10
    ·have hz : Int.tdiv m 10 = 0 := by omega
     rw [if_pos hz, dec_lt hu]
     simp [Nat.mod_eq_of_lt hu]
    ·have hz : ¬ Int.tdiv m 10 = 0 := by omega
     rw [if_neg hz, dec_ge hu]
     simp
   have hl2 : ∀ z : Int, List.length [z] + List.length out ≤ lim := fun z => by unfold lim; simp; omega
   rw [if_neg h0, if_pos (by simpa using h0)]
   split
   ·rename_i hneg
    rw [if_pos (hl2 _)]
    apply step
    have hneg := of_decide_eq_true hneg
    rw [wrap64 _ (by omega) (by omega)]
    omega
   ·rename_i hneg
    have hneg : ¬ (Int.tmod m 10) < 0 := fun h => hneg (decide_eq_true h)
    rw [if_pos (hl2 _)]
    apply step
    omega
theorem numText (n : Nat) (x : Int) (hn : 25 ≤ n) (h0 : -4611686018427387904 ≤ x) (h1 : x ≤ 4611686018427387904) : spec_NumText.F n x = some (bt (Lib.itoa x)) := by
 unfold spec_NumText.F
 split
 ·rename_i h
  have h := of_decide_eq_true h
  subst h
  have : Lib.itoa 0 = [48] := by unfold Lib.itoa; rw [if_neg (by omega), show Int.toNat 0 = 0 from rfl, dec_lt (by omega)]; rfl
  rw [this]
  rfl
 ·rename_i h
  have h : ¬ x = 0 := fun e => h (decide_eq_true e)
  rw [nt_loop n x _ 20 n x [] (by omega) (by omega) (by simp) (by omega)]
  rw [if_neg h, List.append_nil]
  unfold Lib.itoa
  by_cases hx : x < 0
  ·rw [if_pos (decide_eq_true hx), if_pos hx, if_pos]
   ·rw [bstr_bt, List.map_append, map_toI]
    rfl
   ·have := dec_len 19 x.natAbs (by omega)
    unfold lim
    simp
    omega
  ·rw [if_neg (by simpa using hx), if_neg hx, bstr_bt, map_toI]
   have : x.natAbs = x.toNat := by omega
   rw [this]
theorem l01Between_eq (n : Nat) (a b c : Int) : spec_l01Between.F n a b c = some (decide (b ≤ a ∧ a ≤ c)) := by
 unfold spec_l01Between.F
 by_cases h : b ≤ a
 ·rw [if_pos (by simpa using h)]
  simp [h]
 ·rw [if_neg (by simpa using h)]
  simp [h]
end Go.Abs
