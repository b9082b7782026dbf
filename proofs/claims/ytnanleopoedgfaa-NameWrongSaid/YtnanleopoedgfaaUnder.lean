/-
  What lies under a name lies side by side. Plain Lean.
-/
import Derived.Test.YtnanleopoedgfaaSet3
set_option linter.unusedSimpArgs false
set_option linter.unusedVariables false
namespace Go.Proofs.Ytnanleopoedgfaa
open Go.RowKit

theorem cut_dot (a r : Bs) : cut (a ++ 46 :: r) = cut a ++ cut r := by
  induction a with
  | nil => simp [cut]
  | cons c t ih =>
    simp only [List.cons_append, cut]
    rw [ih]
    cases hc : cut t with
    | nil => exact absurd hc (cut_ne t)
    | cons p q => split <;> simp
theorem glue_append (p q : List Bs) (hp : p ≠ []) (hq : q ≠ []) : glue (p ++ q) = glue p ++ 46 :: glue q := by
  induction p with
  | nil => exact absurd rfl hp
  | cons x r ih =>
    cases r with
    | nil =>
      cases q with
      | nil => exact absurd rfl hq
      | cons y t => simp [glue]
    | cons z u =>
      have := ih (by simp)
      simp only [List.cons_append, glue] at this ⊢
      rw [this]; simp
theorem hasPrefix_iff (s p : Bs) : Lib.hasPrefix s p = true ↔ p <+: s := by
  unfold Lib.hasPrefix
  exact List.isPrefixOf_iff_prefix
/-- Under, by parts. -/
theorem under_iff (s t : Bs) : (s = t ∨ Lib.hasPrefix s (t ++ [46]) = true) ↔ cut t <+: cut s := by
  rw [hasPrefix_iff]
  constructor
  · rintro (rfl | ⟨r, hr⟩)
    · exact List.prefix_refl _
    · rw [← hr]; simp only [List.append_assoc, List.singleton_append]
      rw [cut_dot]; exact List.prefix_append _ _
  · rintro ⟨r, hr⟩
    by_cases h : r = []
    · subst h; left; rw [List.append_nil] at hr; exact (cut_inj hr).symm
    · right
      have := glue_cut s
      rw [← hr, glue_append _ _ (cut_ne t) h, glue_cut] at this
      exact ⟨glue r, by rw [← this]; simp⟩
theorem underB_iff (s t : Bs) : underB s t = true ↔ rightB s = true ∧ rightB t = true ∧ cut t <+: cut s := by
  unfold underB
  rw [← under_iff]
  simp [and_assoc]

theorem cmpL_prefix : ∀ (p l : List Bs), p <+: l → 0 ≤ cmpL l p
  | [], [], _ => by simp [cmpL]
  | [], _ :: _, _ => by simp [cmpL]
  | _ :: _, [], h => by simp at h
  | a :: p, b :: l, h => by
    obtain ⟨rfl, h'⟩ := List.cons_prefix_cons.1 h
    simp only [cmpL]
    rw [if_pos ((cmpB_cmp.eq a a).2 rfl)]
    exact cmpL_prefix p l h'
theorem cmpL_between : ∀ (p y z : List Bs), p <+: z → cmpL p y ≤ 0 → cmpL y z ≤ 0 → p <+: y
  | [], _, _, _, _, _ => List.nil_prefix
  | _ :: _, [], _, _, h, _ => by simp [cmpL] at h
  | _ :: _, _ :: _, [], h, _, _ => by simp at h
  | a :: p, b :: y, c :: z, h, h1, h2 => by
    obtain ⟨rfl, h'⟩ := List.cons_prefix_cons.1 h
    simp only [cmpL] at h1 h2
    have ha := cmpB_cmp.anti a b
    by_cases he : cmpB a b = 0
    · rw [if_pos he] at h1
      rw [if_pos (by omega)] at h2
      obtain rfl := (cmpB_cmp.eq a b).1 he
      exact List.cons_prefix_cons.2 ⟨rfl, cmpL_between p y z h' h1 h2⟩
    · rw [if_neg he] at h1
      rw [if_neg (by omega)] at h2
      omega
theorem under_ord {s t : Bs} (h : underB s t = true) : 0 ≤ ordN s t := cmpL_prefix _ _ ((underB_iff s t).1 h).2.2
/-- t ≤ y ≤ z, z under t: y is under t. -/
theorem under_between {t y z : Bs} (hz : underB z t = true) (hy : rightB y = true) (h1 : ordN t y ≤ 0) (h2 : ordN y z ≤ 0) : underB y t = true := by
  obtain ⟨_, ht, hp⟩ := (underB_iff z t).1 hz
  exact (underB_iff y t).2 ⟨hy, ht, cmpL_between _ _ _ hp h1 h2⟩

/-- In a set: from the place of a name on, those under it come first. -/
theorem set_under_down {xs : List Bs} {s : Bs} (hset : setB xs = true) {i j : Nat} (hi : lowN xs s ≤ i) (hij : i ≤ j) (hj : j < xs.length) (hu : underB (xs.getD j []) s = true) : underB (xs.getD i []) s = true := by
  have hlo : 0 ≤ ordN (xs.getD i []) s := by
    have hl : lowN xs s < xs.length := by omega
    have a := lowN_at hl
    by_cases he : lowN xs s = i
    · rw [← he]; exact a
    · have := setB_incr hset (lowN xs s) i (by omega) (by omega)
      rcases Int.lt_or_le (ordN (xs.getD i []) s) 0 with h | h
      · have := ordN_cmp.trans _ _ _ this h
        omega
      · exact h
  refine under_between hu (setB_right hset i (by omega)) ?_ ?_
  · have := ordN_cmp.anti (xs.getD i []) s; omega
  · by_cases he : i = j
    · subst he; rw [ordN_cmp.refl]; exact Int.le_refl 0
    · have := setB_incr hset i j (by omega) hj; omega
theorem set_under_low {xs : List Bs} {s : Bs} {i : Nat} (hu : underB (xs.getD i []) s = true) : lowN xs s ≤ i := by
  rcases Nat.lt_or_ge i (lowN xs s) with h | h
  · have h1 := lowN_before h
    have h2 := under_ord hu
    omega
  · exact h
/-- The number of those under a name. -/
def runN (xs : List Bs) (s : Bs) : Nat := (xs.drop (lowN xs s)).findIdx (fun x => !underB x s)
theorem runN_le (xs : List Bs) (s : Bs) : lowN xs s + runN xs s ≤ xs.length := by
  have h1 : runN xs s ≤ (xs.drop (lowN xs s)).length := List.findIdx_le_length
  have h2 := lowN_le xs s
  rw [List.length_drop] at h1; omega
theorem runN_in {xs : List Bs} {s : Bs} {i : Nat} (h1 : lowN xs s ≤ i) (h2 : i < lowN xs s + runN xs s) : underB (xs.getD i []) s = true := by
  have h3 : i - lowN xs s < (xs.drop (lowN xs s)).findIdx (fun x => !underB x s) := by unfold runN at h2; omega
  have h4 := List.not_of_lt_findIdx h3
  have h5 := runN_le xs s
  rw [getD_lt (by omega)]
  simp only [List.getElem_drop, Bool.not_eq_true'] at h4
  have e : lowN xs s + (i - lowN xs s) = i := by omega
  simp only [e] at h4
  simpa using h4
theorem runN_out {xs : List Bs} {s : Bs} (h : lowN xs s + runN xs s < xs.length) : underB (xs.getD (lowN xs s + runN xs s) []) s = false := by
  have h1 : (xs.drop (lowN xs s)).findIdx (fun x => !underB x s) < (xs.drop (lowN xs s)).length := by
    rw [List.length_drop]; unfold runN at h; omega
  have h2 := List.findIdx_getElem (w := h1)
  rw [getD_lt h]
  simp only [List.getElem_drop, Bool.not_eq_true'] at h2
  exact h2
/-- In a set a name is under s just at the places from lowN on, runN many. -/
theorem set_under {xs : List Bs} {s : Bs} (hset : setB xs = true) {i : Nat} (hi : i < xs.length) : underB (xs.getD i []) s = decide (lowN xs s ≤ i ∧ i < lowN xs s + runN xs s) := by
  rw [Bool.eq_iff_iff]
  simp only [decide_eq_true_eq]
  constructor
  · intro h
    refine ⟨set_under_low h, ?_⟩
    rcases Nat.lt_or_ge i (lowN xs s + runN xs s) with h1 | h1
    · exact h1
    · have h2 := set_under_down hset (i := lowN xs s + runN xs s) (Nat.le_add_right _ _) h1 hi h
      rw [runN_out (by omega)] at h2; cases h2
  · rintro ⟨h1, h2⟩; exact runN_in h1 h2
/-- What a binary search finds. -/
theorem runN_of {xs : List Bs} {s : Bs} {r : Nat} (hset : setB xs = true) (h1 : lowN xs s + r ≤ xs.length) (h2 : 0 < r → underB (xs.getD (lowN xs s + (r - 1)) []) s = true)
    (h3 : lowN xs s + r < xs.length → underB (xs.getD (lowN xs s + r) []) s = false) : r = runN xs s := by
  rcases Nat.lt_trichotomy r (runN xs s) with h | h | h
  · have h4 := runN_le xs s
    have := runN_in (xs := xs) (s := s) (i := lowN xs s + r) (by omega) (by omega)
    rw [h3 (by omega)] at this; cases this
  · exact h
  · have h4 := h2 (by omega)
    rw [set_under hset (by omega)] at h4
    simp only [decide_eq_true_eq] at h4
    omega
end Go.Proofs.Ytnanleopoedgfaa
