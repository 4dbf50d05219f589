/- Groups in order: plain law. Conditions: none. -/
import Derived.Test.YtgdlicpmbgodjaaGreatDoorG4
namespace Go.Abs
set_option linter.unusedVariables false
set_option linter.unusedSimpArgs false
section
variable (κ : Tu → Tu)
open Classical in
noncomputable def kOrd : List Tu → List Tu → List Tu
 | [], ks => ks
 | t :: r, ks => kOrd r (if κ t ∈ ks then ks else ks ++ [κ t])
theorem kOrd_nodup : ∀ (r ks : List Tu), ks.Nodup → (kOrd κ r ks).Nodup
 | [], ks, h => h
 | t :: r, ks, h => by
  unfold kOrd
  refine kOrd_nodup r _ ?_
  split
  ·exact h
  ·rename_i hn
   rw [List.nodup_append]
   refine ⟨h, by simp, fun a ha b hb => ?_⟩
   rw [List.mem_singleton] at hb
   subst hb
   exact fun e => hn (e ▸ ha)
theorem kOrd_mem : ∀ (r ks : List Tu) (k : Tu), k ∈ kOrd κ r ks ↔ k ∈ ks ∨ ∃ t ∈ r, κ t = k
 | [], ks, k => by simp [kOrd]
 | t :: r, ks, k => by
  unfold kOrd
  rw [kOrd_mem r]
  constructor
  ·rintro (h | ⟨u, hu, e⟩)
   ·split at h
    ·exact .inl h
    ·rcases List.mem_append.1 h with h | h
     ·exact .inl h
     ·exact .inr ⟨t, List.mem_cons_self, (List.mem_singleton.1 h).symm⟩
   ·exact .inr ⟨u, List.mem_cons_of_mem _ hu, e⟩
  ·rintro (h | ⟨u, hu, e⟩)
   ·refine .inl ?_
    split
    ·exact h
    ·exact List.mem_append_left _ h
   ·rcases List.mem_cons.1 hu with rfl | hu
    ·refine .inl ?_
     split
     ·rename_i h; exact e ▸ h
     ·exact List.mem_append_right _ (List.mem_singleton.2 e.symm)
    ·exact .inr ⟨u, hu, e⟩
def rowsOf (rows : List Tu) (k : Tu) : List Tu := rows.filter fun t => decide (κ t = k)
open Classical in
theorem layG_map (R : Tu → List Tu) (key t : Tu) : ∀ ks : List Tu, ks.Nodup → layG key t (ks.map fun k => (k, R k)) =
  if key ∈ ks then ks.map (fun k => (k, if k = key then R k ++ [t] else R k)) else ks.map (fun k => (k, R k)) ++ [(key, [t])]
 | [], _ => by simp [layG]
 | k :: ks, h => by
  obtain ⟨h1, h2⟩ := List.nodup_cons.1 h
  have ih := layG_map R key t ks h2
  simp only [List.map_cons]
  unfold layG
  by_cases e : k = key
  ·subst e
   rw [if_pos rfl, if_pos List.mem_cons_self, if_pos rfl]
   congr 1
   refine List.map_congr_left fun x hx => ?_
   rw [if_neg (fun e : x = k => h1 (e ▸ hx))]
  ·rw [if_neg e, ih]
   by_cases hm : key ∈ ks
   ·rw [if_pos hm, if_pos (List.mem_cons_of_mem _ hm), if_neg e]
   ·rw [if_neg hm, if_neg (fun hk => (List.mem_cons.1 hk).elim (fun h => e h.symm) hm)]
    rfl
def layAll : List Tu → List Gr → List Gr
 | [], gs => gs
 | t :: r, gs => layAll r (layG (κ t) t gs)
theorem layAll_eq : ∀ (r pre ks : List Tu), ks.Nodup → (∀ k, k ∈ ks ↔ ∃ t ∈ pre, κ t = k) →
  layAll κ r (ks.map fun k => (k, rowsOf κ pre k)) = (kOrd κ r ks).map fun k => (k, rowsOf κ (pre ++ r) k)
 | [], pre, ks, _, _ => by unfold layAll kOrd; rw [List.append_nil]
 | t :: r, pre, ks, hn, hm => by
  unfold layAll kOrd
  rw [layG_map (rowsOf κ pre) (κ t) t ks hn]
  have e1 : ∀ k, rowsOf κ (pre ++ [t]) k = if k = κ t then rowsOf κ pre k ++ [t] else rowsOf κ pre k := by
   intro k
   unfold rowsOf
   rw [List.filter_append]
   by_cases e : k = κ t
   ·rw [if_pos e]; simp [e]
   ·rw [if_neg e]; simp [Ne.symm e]
  have e2 : pre ++ t :: r = (pre ++ [t]) ++ r := by simp
  rw [e2]
  by_cases h : κ t ∈ ks
  ·rw [if_pos h, if_pos h]
   rw [← layAll_eq r (pre ++ [t]) ks hn (fun k => by
    rw [hm k]
    constructor
    ·rintro ⟨u, hu, e⟩; exact ⟨u, List.mem_append_left _ hu, e⟩
    ·rintro ⟨u, hu, e⟩
     rcases List.mem_append.1 hu with hu | hu
     ·exact ⟨u, hu, e⟩
     ·rw [List.mem_singleton.1 hu] at e; exact (hm k).1 (e ▸ h))]
   congr 1
   exact List.map_congr_left fun k _ => by rw [e1 k]
  ·rw [if_neg h, if_neg h]
   rw [← layAll_eq r (pre ++ [t]) (ks ++ [κ t]) (by
    rw [List.nodup_append]
    refine ⟨hn, by simp, fun a ha b hb => ?_⟩
    rw [List.mem_singleton] at hb
    subst hb
    exact fun e => h (e ▸ ha)) (fun k => by
    rw [List.mem_append, hm k]
    constructor
    ·rintro (⟨u, hu, e⟩ | hk)
     ·exact ⟨u, List.mem_append_left _ hu, e⟩
     ·exact ⟨t, by simp, (List.mem_singleton.1 hk).symm⟩
    ·rintro ⟨u, hu, e⟩
     rcases List.mem_append.1 hu with hu | hu
     ·exact .inl ⟨u, hu, e⟩
     ·rw [List.mem_singleton.1 hu] at e; exact .inr (List.mem_singleton.2 e.symm))]
   congr 1
   rw [List.map_append]
   congr 1
   ·refine List.map_congr_left fun k hk => ?_
    rw [e1 k, if_neg (fun e : k = κ t => h (e ▸ hk))]
   ·have : rowsOf κ pre (κ t) = [] := by
     unfold rowsOf
     rw [List.filter_eq_nil_iff]
     intro u hu
     simp only [decide_eq_true_eq]
     exact fun e => h ((hm _).2 ⟨u, hu, e⟩)
    simp [e1, this]
def keysAll : List Tu → List Tu → List Tu
 | [], ks => ks
 | t :: r, ks => keysAll r (insT (κ t) ks)
theorem keysAll_ok : ∀ (r ks : List Tu), (∀ t ∈ r, ∀ s ∈ κ t, okS s) → (∀ k ∈ ks, ∀ s ∈ k, okS s) → srt ks →
  srt (keysAll κ r ks) ∧ (∀ k ∈ keysAll κ r ks, ∀ s ∈ k, okS s) ∧ ∀ k, k ∈ keysAll κ r ks ↔ k ∈ ks ∨ ∃ t ∈ r, κ t = k
 | [], ks, _, h2, h3 => ⟨h3, h2, fun k => by simp [keysAll]⟩
 | t :: r, ks, h1, h2, h3 => by
  have ht := h1 t List.mem_cons_self
  have m := insT_mem h2 ht
  obtain ⟨a1, a2, a3⟩ := keysAll_ok r (insT (κ t) ks) (fun u hu => h1 u (List.mem_cons_of_mem _ hu)) (fun k hk => by
   rcases (m k).1 hk with rfl | hk
   ·exact ht
   ·exact h2 k hk) (insT_srt h2 ht h3)
  refine ⟨a1, a2, fun k => ?_⟩
  show k ∈ keysAll κ r (insT (κ t) ks) ↔ _
  rw [a3 k, m k]
  constructor
  ·rintro ((h | h) | ⟨u, hu, e⟩)
   ·exact .inr ⟨t, List.mem_cons_self, h.symm⟩
   ·exact .inl h
   ·exact .inr ⟨u, List.mem_cons_of_mem _ hu, e⟩
  ·rintro (h | ⟨u, hu, e⟩)
   ·exact .inl (.inr h)
   ·rcases List.mem_cons.1 hu with rfl | hu
    ·exact .inl (.inl e.symm)
    ·exact .inr ⟨u, hu, e⟩
def grpS (rows : List Tu) : List Gr := (keysAll κ rows []).map fun k => (k, rowsOf κ rows k)
theorem srt_nodup {l : List Tu} (h : srt l) (hs : ∀ x ∈ l, ∀ s ∈ x, okS s) : l.Nodup := by
 induction l with
 | nil => exact List.nodup_nil
 | cons x r ih =>
  obtain ⟨h1, h2⟩ := List.pairwise_cons.1 h
  refine List.nodup_cons.2 ⟨fun hx => ?_, ih h2 (fun y hy => hs y (List.mem_cons_of_mem _ hy))⟩
  have := h1 x hx
  have h0 := (tpc_ord.zero x x (hs x List.mem_cons_self) (hs x List.mem_cons_self)).2 rfl
  omega
theorem ordG {l : List Gr} (hk : ∀ g ∈ l, ∀ s ∈ g.1, okS s) (hd : ∀ g ∈ l, ∀ h ∈ l, g.1 = h.1 → g = h) : OrdL (· ∈ l) (fun a b : Gr => tpc a.1 b.1) where
 zero a b ha hb := ⟨fun h => hd a ha b hb ((tpc_ord.zero _ _ (hk a ha) (hk b hb)).1 h), fun e => by rw [e]; exact (tpc_ord.zero _ _ (hk b hb) (hk b hb)).2 rfl⟩
 neg a b ha hb := tpc_ord.neg _ _ (hk a ha) (hk b hb)
 trans a b c ha hb hc := tpc_ord.trans _ _ _ (hk a ha) (hk b hb) (hk c hc)
theorem grp_main (rows : List Tu) (hk : ∀ t ∈ rows, ∀ s ∈ κ t, okS s) :
  OrdL (· ∈ layAll κ rows []) (fun a b : Gr => tpc a.1 b.1) ∧ isort (fun a b : Gr => tpc a.1 b.1) (layAll κ rows []) = grpS κ rows ∧ (∀ g ∈ layAll κ rows [], ∃ t ∈ rows, κ t = g.1) := by
 have e := layAll_eq κ rows [] [] List.nodup_nil (fun k => by simp)
 rw [List.map_nil, List.nil_append] at e
 obtain ⟨a1, a2, a3⟩ := keysAll_ok κ rows [] hk (fun _ h => by cases h) List.Pairwise.nil
 have nd := kOrd_nodup κ rows [] List.nodup_nil
 have mm := kOrd_mem κ rows []
 have hK : ∀ g ∈ layAll κ rows [], ∃ t ∈ rows, κ t = g.1 := by
  intro g hg
  rw [e, List.mem_map] at hg
  obtain ⟨k, h1, rfl⟩ := hg
  rcases (mm k).1 h1 with h | h
  ·cases h
  ·exact h
 have O : OrdL (· ∈ layAll κ rows []) (fun a b : Gr => tpc a.1 b.1) := by
  refine ordG (fun g hg => ?_) (fun g hg h hh e1 => ?_)
  ·obtain ⟨t, ht, e1⟩ := hK g hg
   rw [← e1]
   exact hk t ht
  ·rw [e, List.mem_map] at hg hh
   obtain ⟨k, h1, rfl⟩ := hg
   obtain ⟨k', h2, rfl⟩ := hh
   have e1 : k = k' := e1
   subst e1
   rfl
 refine ⟨O, ?_, hK⟩
 refine (isort_eq O (fun _ h => h) ?_ ?_).symm
 ·rw [e]
  unfold grpS
  refine List.Perm.map _ ?_
  refine (List.perm_ext_iff_of_nodup (srt_nodup a1 a2) nd).2 fun k => ?_
  rw [a3 k, mm k]
 ·unfold grpS
  rw [List.pairwise_map]
  exact a1.imp fun h => Int.le_of_lt h
end
theorem set_pos (key t : Tu) : ∀ gs : List Gr, posG key gs < gs.length → gs.set (posG key gs) ((List.getD gs (posG key gs) ([], [])).1, (List.getD gs (posG key gs) ([], [])).2 ++ [t]) = layG key t gs
 | [], h => by simp [posG] at h
 | g :: r, h => by
  unfold posG layG at *
  by_cases e : g.1 = key
  ·rw [if_pos e, if_pos e]; rfl
  ·rw [if_neg e] at h
   rw [if_neg e, if_neg e]
   have ih := set_pos key t r (by simpa using h)
   rw [List.set_cons_succ, ← ih]
   simp [List.getD]
theorem pos_le (key : Tu) : ∀ gs : List Gr, posG key gs ≤ gs.length
 | [] => Nat.le_refl _
 | g :: r => by
  have := pos_le key r
  unfold posG
  split <;> simp; omega
theorem lay_new (key t : Tu) : ∀ gs : List Gr, posG key gs = gs.length → layG key t gs = gs ++ [(key, [t])]
 | [], _ => rfl
 | g :: r, h => by
  unfold posG at h
  unfold layG
  by_cases e : g.1 = key
  ·rw [if_pos e] at h; simp at h
  ·rw [if_neg e] at h
   rw [if_neg e, lay_new key t r (by simpa using h)]
   rfl
theorem lay_len (key t : Tu) : ∀ gs : List Gr, (layG key t gs).length ≤ gs.length + 1
 | [] => Nat.le_refl _
 | g :: r => by
  have := lay_len key t r
  unfold layG
  split
  ·simp
  ·simp; omega
end Go.Abs
