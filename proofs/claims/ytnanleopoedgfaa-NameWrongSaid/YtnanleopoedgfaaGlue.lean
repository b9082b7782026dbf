/-
  The parts of a name, joined, are the name. Plain Lean.
-/
import Derived.Test.YtnanleopoedgfaaMade
set_option linter.unusedSimpArgs false
set_option linter.unusedVariables false
namespace Go.Proofs.Ytnanleopoedgfaa
open Go.RowKit

theorem glue_join (l : List Bs) : joinB l = glue l := by
  unfold joinB Lib.join
  match l with
  | [] => rfl
  | [p] => simp [glue]
  | p :: q :: r =>
    have ih := glue_join (q :: r)
    unfold joinB Lib.join at ih
    rw [List.intercalate_cons_cons, ih]
    simp [glue]
theorem indexByte_none (l : Bs) (h : ∀ c ∈ l, c ≠ 46) : Lib.indexByte l 46 = -1 := by
  induction l with
  | nil => rfl
  | cons c r ih =>
    have h1 := ih (fun x hx => h x (by simp [hx]))
    have h2 := h c (by simp)
    simp [Lib.indexByte, h1, h2]
theorem cut_free (l : Bs) : ∀ p ∈ cut l, ∀ c ∈ p, c ≠ 46 := by
  induction l with
  | nil => intro p hp; simp [cut] at hp; subst hp; simp
  | cons x r ih =>
    intro p hp
    simp only [cut] at hp
    split at hp
    · rcases List.mem_cons.1 hp with rfl | h
      · simp
      · exact ih p h
    · next hx =>
      cases hc : cut r with
      | nil => exact absurd hc (cut_ne r)
      | cons q t =>
        rw [hc] at hp ih
        simp only [List.headD_cons, List.tail_cons] at hp
        rcases List.mem_cons.1 hp with rfl | h
        · intro c hcm
          rcases List.mem_cons.1 hcm with rfl | h2
          · exact hx
          · exact ih q (by simp) c h2
        · exact ih p (by simp [h])
theorem cut_dotFree (l : Bs) : (cut l).all dotFree = true := by
  rw [List.all_eq_true]
  intro p hp
  simp [dotFree, indexByte_none p (cut_free l p hp)]
theorem cut_sum (l : Bs) : (cut l).length + sumMin (cut l) ≤ l.length + 1 := by
  induction l with
  | nil => simp [cut, sumMin]
  | cons x r ih =>
    simp only [cut]
    split
    · simp [sumMin]; omega
    · cases hc : cut r with
      | nil => exact absurd hc (cut_ne r)
      | cons q t =>
        rw [hc] at ih
        simp only [List.headD_cons, List.tail_cons, List.length_cons, sumMin] at ih ⊢
        omega
theorem joinB_cut (l : Bs) : joinB (cut l) = l := by rw [glue_join, glue_cut]
theorem joinOk_cut {l : Bs} (h : rightB l = true) : joinOk (cut l) = true := by
  have h1 := rightB_len h
  have h2 := cut_sum l
  unfold joinOk
  rw [cut_dotFree, joinB_cut, h]
  simp; omega
theorem cut_head_len (l : Bs) : ∀ p ∈ cut l, p.length ≤ l.length := by
  induction l with
  | nil => intro p hp; simp [cut] at hp; subst hp; simp
  | cons x r ih =>
    intro p hp
    simp only [cut] at hp
    split at hp
    · rcases List.mem_cons.1 hp with rfl | h
      · simp
      · have := ih p h; simp; omega
    · cases hc : cut r with
      | nil => exact absurd hc (cut_ne r)
      | cons q t =>
        rw [hc] at hp ih
        simp only [List.headD_cons, List.tail_cons] at hp
        rcases List.mem_cons.1 hp with rfl | h
        · have := ih q (by simp); simp; omega
        · have := ih p (by simp [h]); simp; omega

/-- The first part of a name. -/
def topB (l : Bs) : Bs := (cut l).headD []
theorem topB_len (l : Bs) : (topB l).length ≤ l.length := by
  unfold topB
  cases hc : cut l with
  | nil => exact absurd hc (cut_ne l)
  | cons q t => have := cut_head_len l q (by simp [hc]); simpa using this
theorem topB_get (l : Bs) : (cut l)[0]? = some (topB l) := by
  unfold topB
  cases hc : cut l with
  | nil => exact absurd hc (cut_ne l)
  | cons q t => rfl
theorem cut_top (l : Bs) : cut (topB l) = [topB l] := by
  have h := cut_free l (topB l) (List.mem_of_getElem? (topB_get l))
  have : ∀ p : Bs, (∀ c ∈ p, c ≠ 46) → cut p = [p] := by
    intro p
    induction p with
    | nil => intro _; rfl
    | cons x r ih =>
      intro h
      simp only [cut]
      rw [if_neg (h x (by simp)), ih (fun c hc => h c (by simp [hc]))]; rfl
  exact this _ h
/-- If both ends of a ≤ b ≤ c are under the first part of a, so is b. -/
theorem top_between {a b c : Bs} (hb : rightB b = true) (h1 : ordN a b ≤ 0) (h2 : ordN b c ≤ 0) (hc : underB c (topB a) = true) : underB b (topB a) = true := by
  refine under_between hc hb ?_ h2
  have h3 : 0 ≤ ordN a (topB a) := by
    refine cmpL_prefix _ _ ?_
    rw [cut_top]
    unfold topB
    cases hc : cut a with
    | nil => exact absurd hc (cut_ne a)
    | cons q t => exact ⟨t, rfl⟩
  have h4 := ordN_cmp.anti a (topB a)
  exact ordN_cmp.le_trans (b := a) (by omega) h1
theorem under_trans {a b c : Bs} (h1 : underB a b = true) (h2 : underB c a = true) : underB c b = true := by
  obtain ⟨_, hb, p1⟩ := (underB_iff a b).1 h1
  obtain ⟨hc, _, p2⟩ := (underB_iff c a).1 h2
  exact (underB_iff c b).2 ⟨hc, hb, p1.trans p2⟩
end Go.Proofs.Ytnanleopoedgfaa
