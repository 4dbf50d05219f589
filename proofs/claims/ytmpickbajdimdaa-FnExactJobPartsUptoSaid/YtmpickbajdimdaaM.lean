/- FnExactJobParts: the program's JobParts and the reference's answer alike, for all arguments within the bound. Conditions: none. -/
import Derived.Test.YtmpickbajdimdaaH
import Derived.Lib.IndexMore
namespace Go.Abs
set_option linter.unusedVariables false
set_option linter.unusedSimpArgs false

theorem bx_ext {a b : ByteArray} (h : a.data.toList = b.data.toList) : a = b := by
  cases a; cases b
  simp only [ByteArray.mk.injEq]
  exact Array.toList_inj.1 h

theorem bx_extract (s : ByteArray) (i j : Nat) : (ByteArray.extract s i j).data.toList = (s.data.toList.take j).drop i := by
  rw [ByteArray.data_extract, Array.toList_extract, List.extract_eq_take_drop, List.drop_take]

theorem bx_size (s : ByteArray) : s.size = s.data.toList.length := by rfl

theorem seq_list (a b : ByteArray) : Abs.seq a b = (a.data.toList == b.data.toList) := by
  unfold Abs.seq
  rw [Lib.toList_data, Lib.toList_data]

def jpE : ByteArray × ByteArray × ByteArray × Bool := (ByteArray.empty, ByteArray.empty, ByteArray.empty, false)
def jpNl : ByteArray := ⟨#[10]⟩
def jpPat : ByteArray := ⟨#[10, 37, 37, 10]⟩
def jpWhy : ByteArray := ⟨#[119, 104, 121, 32]⟩

def jpWord (f : ByteArray) : Bool := Abs.seq f ⟨#[114, 117, 110]⟩ || Abs.seq f ⟨#[97, 108, 108]⟩ || Abs.seq f ⟨#[116, 101, 120, 116]⟩ || (Lib.hasPrefix f.data.toList jpWhy.data.toList && decide ((f.size : Int) > 4))

def jpTail (f r : ByteArray) : ByteArray × ByteArray × ByteArray × Bool :=
  if Lib.index r.data.toList jpPat.data.toList < 0 then jpE
  else (f, r.extract 0 ((Lib.index r.data.toList jpPat.data.toList).toNat + 1), r.extract ((Lib.index r.data.toList jpPat.data.toList).toNat + 4) r.size, true)

def jpAt (s : ByteArray) (i : Nat) : ByteArray × ByteArray × ByteArray × Bool :=
  if jpWord (s.extract 0 i) = true then jpTail (s.extract 0 i) (s.extract (i + 1) s.size) else jpE

def jp (s : ByteArray) : ByteArray × ByteArray × ByteArray × Bool :=
  if (s.size : Int) > 10000 then jpE
  else if Lib.index s.data.toList [10] < 0 then jpE
  else jpAt s (Lib.index s.data.toList [10]).toNat

theorem byteAt_eq (s : ByteArray) (i : Nat) (h : i < s.size) : byteAt s (i : Int) = ((s.data.toList[i]'h).toNat : Int) := by
  unfold byteAt
  have h' : i < s.data.size := h
  simp only [Array.getD, Int.toNat_natCast, dif_pos h']
  rfl

theorem occ_one (l : List UInt8) (c : UInt8) (i : Nat) : Lib.occAt l [c] i = true ↔ l[i]? = some c := by
  unfold Lib.occAt
  cases h : l.drop i with
  | nil =>
    have : l.length ≤ i := List.drop_eq_nil_iff.1 h
    simp [List.getElem?_eq_none this]
  | cons x t =>
    have : l[i]? = some x := by
      have := congrArg (fun q => q[0]?) h
      simpa using this
    rw [this]
    simp [List.isPrefixOf]
    exact eq_comm

/-- The newline is found. -/
theorem spec_nl {n : Nat} (s : ByteArray) (hl : s.size ≤ 1048576) {K0} (p : Nat) (hp : p ≤ s.size) (hno : ∀ j, j < p → s.data.toList[j]? ≠ some 10) (hat : p = s.size ∨ s.data.toList[p]? = some 10) :
    ∀ (d k i : Nat), i + d = p → d < k → spec_JobParts.l0 n s K0 k (i : Int) = K0 (p : Int) := by
  intro d
  induction d with
  | zero =>
    intro k i hi hk
    obtain ⟨k, rfl⟩ : ∃ m, k = m + 1 := ⟨k - 1, by omega⟩
    obtain rfl : i = p := by omega
    simp only [spec_JobParts.l0, decide_eq_true_eq]
    rcases hat with h | h
    · rw [if_neg (by omega)]
    · have hlt : i < s.size := (List.getElem?_eq_some_iff.1 h).1
      have h2 := (List.getElem?_eq_some_iff.1 h).2
      rw [if_pos (by omega), if_pos ⟨by omega, by omega⟩, byteAt_eq s i hlt, h2]
      rw [if_neg (by simp)]
  | succ d ih =>
    intro k i hi hk
    obtain ⟨k, rfl⟩ : ∃ m, k = m + 1 := ⟨k - 1, by omega⟩
    have hlt : i < s.size := by omega
    have hne := hno i (by omega)
    rw [List.getElem?_eq_getElem (show i < s.data.toList.length from hlt)] at hne
    have hne : s.data.toList[i]'hlt ≠ 10 := fun h => hne (by rw [h])
    have hne2 : ¬ ((s.data.toList[i]'hlt).toNat : Int) = 10 := fun h => hne (UInt8.toNat_inj.1 (by have h10 : (10 : UInt8).toNat = 10 := rfl; omega))
    simp only [spec_JobParts.l0, decide_eq_true_eq]
    rw [if_pos (by omega), if_pos ⟨by omega, by omega⟩, byteAt_eq s i hlt, if_pos (by simpa using hne2), wrap64 _ (by omega) (by omega)]
    exact ih k (i + 1) (by omega) (by omega)

theorem seq_at (r : ByteArray) (i : Nat) (h : i + 4 ≤ r.size) : Abs.seq (ByteArray.extract r i (i + 4)) jpPat = Lib.occAt r.data.toList jpPat.data.toList i := by
  have hl : r.size = r.data.toList.length := rfl
  rw [Lib.occAt_iff_take _ _ _ (by show i + 4 ≤ _; omega), seq_list, bx_extract]
  congr 1
  rw [List.drop_take]
  congr 1
  show i + 4 - i = 4
  omega

theorem spec_pat {n : Nat} (f r : ByteArray) (hr : r.size ≤ 1048576) : ∀ (d k i : Nat), i + d = r.size → d < k → (∀ j, j < i → Lib.occAt r.data.toList jpPat.data.toList j = false) →
    spec_JobParts.l4 n f r (fun _ => some jpE) k (i : Int) = some (jpTail f r) := by
  have hl : r.size = r.data.toList.length := rfl
  have hend : ∀ i, r.size < i + 4 → (∀ j, j < i → Lib.occAt r.data.toList jpPat.data.toList j = false) → jpTail f r = jpE := by
    intro i h1 h2
    have : Lib.index r.data.toList jpPat.data.toList = -1 := Lib.index_none (fun j hj => by
      by_cases hji : j < i
      · exact h2 j hji
      · cases hc : Lib.occAt r.data.toList jpPat.data.toList j with
        | false => rfl
        | true =>
          rcases Lib.occAt_room hc with h | h
          · have : jpPat.data.toList.length = 4 := rfl
            omega
          · cases h)
    unfold jpTail
    rw [this, if_pos (by omega)]
  intro d
  induction d with
  | zero =>
    intro k i hi hk hno
    obtain ⟨k, rfl⟩ : ∃ m, k = m + 1 := ⟨k - 1, by omega⟩
    simp only [spec_JobParts.l4, decide_eq_true_eq]
    rw [wrap64 _ (by omega) (by omega), if_neg (by omega), hend i (by omega) hno]
  | succ d ih =>
    intro k i hi hk hno
    obtain ⟨k, rfl⟩ : ∃ m, k = m + 1 := ⟨k - 1, by omega⟩
    simp only [spec_JobParts.l4, decide_eq_true_eq]
    rw [wrap64 ((i : Int) + 4) (by omega) (by omega), wrap64 ((i : Int) + 1) (by omega) (by omega)]
    by_cases h4 : i + 4 ≤ r.size
    · rw [if_pos (by omega), if_pos ⟨by omega, by omega, by omega⟩]
      have e1 : Int.toNat (i : Int) = i := Int.toNat_natCast i
      have e2 : Int.toNat ((i : Int) + 4) = i + 4 := by omega
      have e3 : Int.toNat ((i : Int) + 1) = i + 1 := by omega
      have e4 : Int.toNat 0 = 0 := rfl
      have e5 : Int.toNat (ByteArray.size r : Int) = r.size := Int.toNat_natCast _
      rw [e1, e2, e3, e4, e5]
      rw [show (⟨#[10, 37, 37, 10]⟩ : ByteArray) = jpPat from rfl, seq_at r i h4]
      cases hc : Lib.occAt r.data.toList jpPat.data.toList i with
      | true =>
        rw [if_pos rfl, if_pos ⟨by omega, by omega, by omega⟩, if_pos ⟨by omega, by omega, by omega⟩]
        have := Lib.index_first (s := r.data.toList) (sub := jpPat.data.toList) (i := i) (by omega) hc hno
        unfold jpTail
        rw [this, if_neg (by omega), e1]
      | false =>
        rw [if_neg (by simp)]
        exact ih k (i + 1) (by omega) (by omega) (fun j hj => by
          by_cases hji : j < i
          · exact hno j hji
          · obtain rfl : j = i := by omega
            exact hc)
    · rw [if_neg (by omega), hend i (by omega) hno]

theorem why_eq (f : ByteArray) (h : (f.size : Int) > 4) : Abs.seq (ByteArray.extract f 0 4) jpWhy = Lib.hasPrefix f.data.toList jpWhy.data.toList := by
  have hl : f.size = f.data.toList.length := rfl
  have := Lib.occAt_iff_take f.data.toList jpWhy.data.toList 0 (by show 0 + 4 ≤ _; omega)
  rw [seq_list, bx_extract]
  unfold Lib.hasPrefix
  unfold Lib.occAt at this
  simp only [List.drop_zero] at this ⊢
  rw [this]
  rfl

theorem pre_eq {n : Nat} (f : ByteArray) : strings_HasPrefix.F n f jpWhy = some (Lib.hasPrefix f.data.toList jpWhy.data.toList) := by
  have hl : f.size = f.data.toList.length := rfl
  have h4 : jpWhy.size = 4 := rfl
  unfold strings_HasPrefix.F internal_stringslite_HasPrefix.F
  simp only [decide_eq_true_eq]
  by_cases h : (f.size : Int) ≥ (jpWhy.size : Int)
  · rw [if_pos h, if_pos ⟨by omega, by omega, by omega⟩, Option.bind_some]
    rw [show Int.toNat 0 = 0 from rfl, Int.toNat_natCast, h4]
    have := Lib.occAt_iff_take f.data.toList jpWhy.data.toList 0 (by show 0 + 4 ≤ _; omega)
    rw [seq_list, bx_extract]
    unfold Lib.hasPrefix
    unfold Lib.occAt at this
    simp only [List.drop_zero] at this ⊢
    rw [this]
    rfl
  · rw [if_neg h, Option.bind_some]
    cases hc : Lib.hasPrefix f.data.toList jpWhy.data.toList with
    | false => rfl
    | true =>
      unfold Lib.hasPrefix at hc
      have := (List.isPrefixOf_iff_prefix.1 hc).length_le
      have h5 : jpWhy.data.toList.length = 4 := rfl
      omega

theorem spec_j1 {n : Nat} (hn : big ≤ n) (f r : ByteArray) (hr : r.size ≤ 1048576) (b : Bool) :
    spec_JobParts.j1 n f r b = some (if (Abs.seq f ⟨#[114, 117, 110]⟩ || Abs.seq f ⟨#[97, 108, 108]⟩ || Abs.seq f ⟨#[116, 101, 120, 116]⟩ || b) = true then jpTail f r else jpE) := by
  have h3 : spec_JobParts.j3 n f r = some (jpTail f r) := by
    unfold spec_JobParts.j3
    exact spec_pat f r hr r.size n 0 (by omega) (by unfold big at hn; omega) (fun j hj => absurd hj (Nat.not_lt_zero _))
  unfold spec_JobParts.j1 spec_JobParts.j2
  rw [h3]
  cases Abs.seq f ⟨#[114, 117, 110]⟩ <;> cases Abs.seq f ⟨#[97, 108, 108]⟩ <;> cases Abs.seq f ⟨#[116, 101, 120, 116]⟩ <;> cases b <;> rfl

theorem idx_nl (s : ByteArray) : (Lib.index s.data.toList [10] = -1 ∧ ∀ j, j < s.size → s.data.toList[j]? ≠ some 10) ∨ ∃ i : Nat, Lib.index s.data.toList [10] = i ∧ i < s.size ∧ s.data.toList[i]? = some 10 ∧ ∀ j, j < i → s.data.toList[j]? ≠ some 10 := by
  have hl : s.size = s.data.toList.length := rfl
  rcases Lib.index_spec s.data.toList [10] with ⟨h1, h2⟩ | ⟨i, h1, h2, h3, h4⟩
  · refine .inl ⟨h1, fun j hj h => ?_⟩
    have := h2 j (by omega)
    rw [(occ_one _ _ _).2 h] at this
    cases this
  · have h5 := (occ_one _ _ _).1 h3
    refine .inr ⟨i, h1, (List.getElem?_eq_some_iff.1 h5).1, h5, fun j hj h => ?_⟩
    have := h4 j hj
    rw [(occ_one _ _ _).2 h] at this
    cases this

theorem spec_jp {n : Nat} (hn : big ≤ n) (s : ByteArray) (hs : s.size ≤ 1048576) : spec_JobParts.F n s = some (jp s) := by
  unfold spec_JobParts.F jp
  simp only [decide_eq_true_eq]
  by_cases hbig : (s.size : Int) > 10000
  · rw [if_pos hbig, if_pos hbig]; rfl
  rw [if_neg hbig, if_neg hbig]
  have hn' : 4294967296 ≤ n := hn
  rcases idx_nl s with ⟨h1, h2⟩ | ⟨i, h1, h2, h3, h4⟩
  · rw [h1, if_pos (by omega), show (0 : Int) = ((0 : Nat) : Int) from rfl, spec_nl s hs s.size (Nat.le_refl _) h2 (.inl rfl) s.size n 0 (by omega) (by omega), if_pos rfl]
    rfl
  · rw [h1, if_neg (by omega), show (0 : Int) = ((0 : Nat) : Int) from rfl, spec_nl s hs i (by omega) h4 (.inr h3) i n 0 (by omega) (by omega)]
    rw [if_neg (by omega), wrap64 _ (by omega) (by omega), if_pos ⟨by omega, by omega, by omega⟩, if_pos ⟨by omega, by omega, by omega⟩]
    have e0 : Int.toNat ((0 : Nat) : Int) = 0 := rfl
    have e1 : Int.toNat (i : Int) = i := Int.toNat_natCast i
    have e2 : Int.toNat ((i : Int) + 1) = i + 1 := by omega
    have e3 : Int.toNat (ByteArray.size s : Int) = s.size := Int.toNat_natCast _
    have e4 : Int.toNat 4 = 4 := rfl
    rw [e0, e1, e2, e3, e4]
    have hr : (s.extract (i + 1) s.size).size ≤ 1048576 := by
      rw [bx_size, bx_extract]
      simp only [List.length_drop, List.length_take]
      have : s.size = s.data.toList.length := rfl
      omega
    unfold jpAt jpWord
    by_cases hw : ((s.extract 0 i).size : Int) > 4
    · rw [if_pos hw, if_pos ⟨by omega, by omega, by omega⟩, spec_j1 hn _ _ hr]
      rw [show (⟨#[119, 104, 121, 32]⟩ : ByteArray) = jpWhy from rfl, why_eq _ hw, decide_eq_true hw, Bool.and_true]
    · rw [if_neg hw, spec_j1 hn _ _ hr, decide_eq_false hw, Bool.and_false]

theorem cut_first (s : ByteArray) (i : Nat) : (⟨(s.data.toList.take i).toArray⟩ : ByteArray) = s.extract 0 i := by
  apply bx_ext
  rw [bx_extract]
  simp

theorem cut_rest (s : ByteArray) (i : Nat) : (⟨(s.data.toList.drop i).toArray⟩ : ByteArray) = s.extract i s.size := by
  apply bx_ext
  rw [bx_extract, bx_size, List.take_length]

theorem impl_j0 {n : Nat} (s f r : ByteArray) (has w : Bool) (hr : r.size ≤ 1048576) :
    impl_jobParts.j0 n s f r has w = some (if (s.size : Int) > 10000 then jpE else if (has && w) = true then jpTail f r else jpE) := by
  have hl : r.size = r.data.toList.length := rfl
  unfold impl_jobParts.j0 strings_Index.F
  rw [if_pos (by omega), Option.bind_some]
  by_cases hbig : (s.size : Int) > 10000
  · rw [if_pos hbig, if_neg (by simpa using hbig)]
    rfl
  rw [if_neg hbig, if_pos (by simpa using hbig)]
  cases has with
  | false => rfl
  | true =>
    cases w with
    | false => rfl
    | true =>
      rw [if_pos (show (!true) = false from rfl), if_pos (show (!true) = false from rfl), if_pos (show (true && true) = true from rfl)]
      unfold impl_jobParts.j1 jpTail
      rw [show (⟨#[10, 37, 37, 10]⟩ : ByteArray) = jpPat from rfl]
      by_cases hi : Lib.index r.data.toList jpPat.data.toList < 0
      · rw [if_pos (by simpa using hi), if_pos hi]; rfl
      · rw [if_neg (by simpa using hi), if_neg hi]
        have hroom := Lib.index_room r.data.toList jpPat.data.toList (by omega)
        have h4 : (jpPat.data.toList.length : Int) = 4 := rfl
        unfold impl_jobParts.j2
        rw [wrap64 _ (by omega) (by omega), wrap64 _ (by omega) (by omega), if_pos ⟨by omega, by omega, by omega⟩, if_pos ⟨by omega, by omega, by omega⟩]
        have e1 : Int.toNat (Lib.index r.data.toList jpPat.data.toList + 1) = (Lib.index r.data.toList jpPat.data.toList).toNat + 1 := by omega
        have e2 : Int.toNat (Lib.index r.data.toList jpPat.data.toList + 4) = (Lib.index r.data.toList jpPat.data.toList).toNat + 4 := by omega
        rw [e1, e2, Int.toNat_natCast]
        rfl

theorem impl_jp {n : Nat} (s : ByteArray) (hs : s.size ≤ 1048576) : impl_JobParts.F n s = some (jp s) := by
  have hl : s.size = s.data.toList.length := rfl
  unfold impl_JobParts.F
  refine bind_eq (a := jp s) ?_ rfl
  unfold impl_jobParts.F strings_Cut.F
  rw [if_pos (by omega)]
  have key : ∀ (f r : ByteArray) (has : Bool), r.size ≤ 1048576 → (if Abs.seq f ⟨#[114, 117, 110]⟩ = false then if Abs.seq f ⟨#[97, 108, 108]⟩ = false then if Abs.seq f ⟨#[116, 101, 120, 116]⟩ = false then (strings_HasPrefix.F n f ⟨#[119, 104, 121, 32]⟩).bind fun r3 => if r3 = true then impl_jobParts.j0 n s f r has (decide ((f.size : Int) > 4)) else impl_jobParts.j0 n s f r has false
      else impl_jobParts.j0 n s f r has true else impl_jobParts.j0 n s f r has true else impl_jobParts.j0 n s f r has true) = some (if (s.size : Int) > 10000 then jpE else if (has && jpWord f) = true then jpTail f r else jpE) := by
    intro f r has hr
    unfold jpWord
    rw [show (⟨#[119, 104, 121, 32]⟩ : ByteArray) = jpWhy from rfl, pre_eq, Option.bind_some, impl_j0 s f r has _ hr, impl_j0 s f r has _ hr, impl_j0 s f r has _ hr]
    cases Abs.seq f ⟨#[114, 117, 110]⟩ <;> cases Abs.seq f ⟨#[97, 108, 108]⟩ <;> cases Abs.seq f ⟨#[116, 101, 120, 116]⟩ <;> cases Lib.hasPrefix f.data.toList jpWhy.data.toList <;> simp
  by_cases hi : Lib.index s.data.toList [10] < 0
  · have hcut : Lib.cut s.data.toList (ByteArray.data ⟨#[10]⟩).toList = (s.data.toList, [], false) := by
      unfold Lib.cut
      exact if_neg (show ¬ 0 ≤ Lib.index s.data.toList [10] by omega)
    rw [hcut, Option.bind_some]
    refine (key _ _ _ (Nat.zero_le _)).trans ?_
    unfold jp
    rw [if_pos hi]
    rfl
  · have hcut : Lib.cut s.data.toList (ByteArray.data ⟨#[10]⟩).toList = (s.data.toList.take (Lib.index s.data.toList [10]).toNat, s.data.toList.drop ((Lib.index s.data.toList [10]).toNat + 1), true) := by
      unfold Lib.cut
      exact if_pos (show 0 ≤ Lib.index s.data.toList [10] by omega)
    rw [hcut, Option.bind_some]
    refine (key _ _ _ (by rw [cut_rest, bx_size, bx_extract]; simp only [List.length_drop, List.length_take]; omega)).trans ?_
    unfold jp jpAt
    rw [if_neg hi]
    simp only [Bool.true_and]
    rw [cut_first, cut_rest]

theorem main_JobParts {n : Nat} (hn : big ≤ n) (a0 : ByteArray) (ho0 : Kd.okv .str a0) (hb0 : Kd.bulk .str a0 ≤ 1048576) :
    ∃ w, spec_JobParts.F n a0 = some w ∧ impl_JobParts.F n a0 = some w ∧ True := by
  have : a0.size + 1 ≤ 1048576 := hb0
  exact ⟨jp a0, spec_jp hn a0 (by omega), impl_jp a0 (by omega), trivial⟩

theorem law_laws_FnExactJobParts {n : Nat} (hn : big ≤ n) (a0 : ByteArray) (ho0 : Kd.okv .str a0) (hb0 : Kd.bulk .str a0 ≤ 1048576) : laws_FnExactJobParts.F n a0 = some true := by
  obtain ⟨w, hs, hi, hw⟩ := main_JobParts hn a0 ho0 hb0
  unfold laws_FnExactJobParts.F
  split
  · rfl
  refine bind_eq hs ?_
  try dsimp only
  refine bind_eq hi ?_
  try dsimp only
  rw [if_pos (by simp [seq_refl])]
  rw [if_pos (by simp [seq_refl])]
  rw [if_pos (by simp [seq_refl])]
  rw [if_neg (by simp [seq_refl])]
  all_goals rfl


end Go.Abs
