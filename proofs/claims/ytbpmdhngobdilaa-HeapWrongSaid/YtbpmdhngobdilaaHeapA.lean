/-
  The table that says where each place lies in the heap, plain Lean.
-/
import Derived.Test.YtbpmdhngobdilaaHeapM
namespace Go.Proofs.Ytbpmdhngobdilaa
section
variable {α : Type} [Inhabited α] {f : α → α → Int} {pl : α → Nat}

/-- Rising, in the table: what is written at each step. -/
def riseA (f : α → α → Int) (pl : α → Nat) (x : α) (t : List α) (A : List Nat) (i : Nat) : List Nat :=
  if h : 0 < i then
    if f x (at' t (par i)) > 0 then A.set (pl x) (i + 1) else riseA f pl x (t.set i (at' t (par i))) (A.set (pl (at' t (par i))) (i + 1)) (par i)
  else A.set (pl x) (i + 1)
termination_by i
decreasing_by exact par_lt h
/-- Sinking, in the table. -/
def sinkA (f : α → α → Int) (pl : α → Nat) (x : α) (t : List α) (A : List Nat) (i : Nat) : List Nat :=
  match leastC f t i (kids t i) with
  | none => A.set (pl x) (i + 1)
  | some m => if h : i < m ∧ m < t.length then (if f x (at' t m) < 0 then A.set (pl x) (i + 1) else sinkA f pl x (t.set i (at' t m)) (A.set (pl (at' t m)) (i + 1)) m) else A.set (pl x) (i + 1)
termination_by t.length - i
decreasing_by simp; omega

/-- The table is right. -/
structure Tab (pl : α → Nat) (t : List α) (A : List Nat) : Prop where
  here : ∀ k, k < t.length → A[pl (at' t k)]? = some (k + 1)
  none : ∀ p, p < A.length → (∀ k, k < t.length → pl (at' t k) ≠ p) → A[p]? = some 0
/-- The table is right but for a hole, into which x will come. -/
structure TabBut (pl : α → Nat) (t : List α) (A : List Nat) (i : Nat) (x : α) : Prop where
  lt : i < t.length
  here : ∀ k, k < t.length → k ≠ i → A[pl (at' t k)]? = some (k + 1)
  one : ∀ k l, k < t.length → l < t.length → k ≠ i → l ≠ i → pl (at' t k) = pl (at' t l) → k = l
  other : ∀ k, k < t.length → k ≠ i → pl (at' t k) ≠ pl x
  room : pl x < A.length
  none : ∀ p, p < A.length → p ≠ pl x → (∀ k, k < t.length → k ≠ i → pl (at' t k) ≠ p) → A[p]? = some 0

theorem TabBut.room' {t : List α} {A : List Nat} {i k : Nat} {x : α} (h : TabBut pl t A i x) (hk : k < t.length) (hki : k ≠ i) : pl (at' t k) < A.length :=
  (List.getElem?_eq_some_iff.1 (h.here k hk hki)).1
/-- A hole goes from i to j. -/
theorem TabBut.move {t : List α} {A : List Nat} {i j : Nat} {x : α} (h : TabBut pl t A i x) (hj : j < t.length) (hij : i ≠ j) : TabBut pl (t.set i (at' t j)) (A.set (pl (at' t j)) (i + 1)) j x := by
  have hA := h.room' hj (fun e => hij e.symm)
  refine ⟨by simpa using hj, fun k hk hkj => ?_, fun k l hk hl hkj hlj e => ?_, fun k hk hkj => ?_, by simpa using h.room, fun p hp hpx hno => ?_⟩
  · simp only [List.length_set] at hk
    by_cases hki : k = i
    · subst hki
      rw [at_set_same _ h.lt, List.getElem?_set_self hA]
    · rw [at_set_ne (t := t) _ (fun e => hki e.symm), List.getElem?_set_ne (fun e => hkj (h.one k j hk hj hki (fun e => hij e.symm) e.symm))]
      exact h.here k hk hki
  · simp only [List.length_set] at hk hl
    by_cases hki : k = i
    · by_cases hli : l = i
      · omega
      · subst hki
        rw [at_set_same _ h.lt, at_set_ne (t := t) _ (fun e => hli e.symm)] at e
        exact absurd (h.one j l hj hl (fun e => hij e.symm) hli e).symm hlj
    · by_cases hli : l = i
      · subst hli
        rw [at_set_same _ h.lt, at_set_ne (t := t) _ (fun e => hki e.symm)] at e
        exact absurd (h.one k j hk hj hki (fun e => hij e.symm) e) hkj
      · rw [at_set_ne (t := t) _ (fun e => hki e.symm), at_set_ne (t := t) _ (fun e => hli e.symm)] at e
        exact h.one k l hk hl hki hli e
  · simp only [List.length_set] at hk
    by_cases hki : k = i
    · subst hki
      rw [at_set_same _ h.lt]; exact h.other j hj (fun e => hij e.symm)
    · rw [at_set_ne (t := t) _ (fun e => hki e.symm)]; exact h.other k hk hki
  · simp only [List.length_set] at hp
    have hpj : pl (at' t j) ≠ p := by
      have := hno i (by simpa using h.lt) hij
      rwa [at_set_same _ h.lt] at this
    rw [List.getElem?_set_ne hpj]
    refine h.none p hp hpx (fun k hk hki => ?_)
    by_cases hkj : k = j
    · rw [hkj]; exact hpj
    · have := hno k (by simpa using hk) hkj
      rwa [at_set_ne (t := t) _ (fun e => hki e.symm)] at this
/-- The hole is filled. -/
theorem TabBut.fill {t : List α} {A : List Nat} {i : Nat} {x : α} (h : TabBut pl t A i x) : Tab pl (t.set i x) (A.set (pl x) (i + 1)) := by
  refine ⟨fun k hk => ?_, fun p hp hno => ?_⟩
  · simp only [List.length_set] at hk
    by_cases hki : k = i
    · subst hki
      rw [at_set_same _ hk, List.getElem?_set_self h.room]
    · rw [at_set_ne (t := t) _ (fun e => hki e.symm), List.getElem?_set_ne (fun e => h.other k hk hki e.symm)]
      exact h.here k hk hki
  · simp only [List.length_set] at hp
    have hpx : pl x ≠ p := by
      have := hno i (by simpa using h.lt)
      rwa [at_set_same _ h.lt] at this
    rw [List.getElem?_set_ne hpx]
    refine h.none p hp (fun e => hpx e.symm) (fun k hk hki => ?_)
    have := hno k (by simpa using hk)
    rwa [at_set_ne (t := t) _ (fun e => hki e.symm)] at this
theorem riseA_tab (x : α) (t : List α) (A : List Nat) (i : Nat) (h : TabBut pl t A i x) : Tab pl (riseL f x t i) (riseA f pl x t A i) := by
  induction i using Nat.strongRecOn generalizing t A with
  | _ i ih =>
    rw [riseL, riseA]
    split
    · next h0 =>
      have hp := par_lt h0
      split
      · exact h.fill
      · exact ih (par i) hp _ _ (h.move (by have := h.lt; omega) (by omega))
    · exact h.fill
theorem sinkA_tab (ho : OrdC f) (x : α) (t : List α) (A : List Nat) (i : Nat) (h : TabBut pl t A i x) : Tab pl (sinkL f x t i).1 (sinkA f pl x t A i) := by
  generalize hk : t.length - i = k
  induction k using Nat.strongRecOn generalizing t A i with
  | _ k ih =>
    rw [sinkL, sinkA]
    rcases leastC_spec ho t i (kids t i) with ⟨h1, h2⟩ | ⟨m, h1, h2, h3, h4⟩
    · rw [h1]; exact h.fill
    · rw [h1]
      obtain ⟨g1, g2, g3⟩ := par_kids h2 h3
      simp only [dif_pos (show i < m ∧ m < t.length from ⟨g3, g2⟩)]
      split
      · exact h.fill
      · exact ih (t.length - m) (by omega) _ _ m (h.move g2 (by omega)) (by simp)
theorem riseA_length (x : α) (t : List α) (A : List Nat) (i : Nat) : (riseA f pl x t A i).length = A.length := by
  induction i using Nat.strongRecOn generalizing t A with
  | _ i ih =>
    rw [riseA]
    split
    · next h0 =>
      split
      · simp
      · rw [ih (par i) (par_lt h0)]; simp
    · simp
theorem sinkA_length (ho : OrdC f) (x : α) (t : List α) (A : List Nat) (i : Nat) : (sinkA f pl x t A i).length = A.length := by
  generalize hk : t.length - i = k
  induction k using Nat.strongRecOn generalizing t A i with
  | _ k ih =>
    rw [sinkA]
    rcases leastC_spec ho t i (kids t i) with ⟨h1, h2⟩ | ⟨m, h1, h2, h3, h4⟩
    · rw [h1]; simp
    · rw [h1]
      obtain ⟨g1, g2, g3⟩ := par_kids h2 h3
      simp only [dif_pos (show i < m ∧ m < t.length from ⟨g3, g2⟩)]
      split
      · simp
      · rw [ih (t.length - m) (by omega) _ _ m (by simp)]; simp
/-- From a right table: a hole at an index. -/
theorem Tab.hole {t : List α} {A : List Nat} (h : Tab pl t A) {i : Nat} (hi : i < t.length) : TabBut pl t A i (at' t i) := by
  have h1 : ∀ k l, k < t.length → l < t.length → pl (at' t k) = pl (at' t l) → k = l := fun k l hk hl e => by
    have h2 := h.here k hk
    rw [e, h.here l hl] at h2
    injection h2 with h2
    omega
  refine ⟨hi, fun k hk _ => h.here k hk, fun k l hk hl _ _ e => h1 k l hk hl e, fun k hk hki e => hki (h1 k i hk hi e), (List.getElem?_eq_some_iff.1 (h.here i hi)).1, fun p hp hpx hno => h.none p hp (fun k hk => ?_)⟩
  by_cases hki : k = i
  · rw [hki]; exact fun e => hpx e.symm
  · exact hno k hk hki
end
end Go.Proofs.Ytbpmdhngobdilaa
