/-
  A heap of four below each: rising and sinking, plain Lean.
-/
import Derived.Lib.Hide
namespace Go.Proofs.Ytbpmdhngobdilaa

/-- An order of all: of two different ones just one comes first. -/
structure OrdC {α : Type} (f : α → α → Int) : Prop where
  eq : ∀ a b, f a b = 0 ↔ a = b
  anti : ∀ a b, f a b = - f b a
  trans : ∀ a b c, f a b < 0 → f b c < 0 → f a c < 0

section
variable {α : Type} [Inhabited α] {f : α → α → Int}

theorem OrdC.refl {β : Type} {f : β → β → Int} (h : OrdC f) (a : β) : f a a = 0 := (h.eq a a).2 rfl
theorem OrdC.le_trans {β : Type} {f : β → β → Int} (h : OrdC f) {a b c : β} (h1 : f a b ≤ 0) (h2 : f b c ≤ 0) : f a c ≤ 0 := by
  by_cases e1 : f a b = 0
  · rw [(h.eq a b).1 e1]; exact h2
  · by_cases e2 : f b c = 0
    · rw [← (h.eq b c).1 e2]; exact h1
    · have := h.trans a b c (by omega) (by omega); omega
theorem OrdC.of_not {β : Type} {f : β → β → Int} (_ : OrdC f) {a b : β} (h1 : ¬ f a b > 0) : f a b ≤ 0 := by omega
theorem OrdC.flip {β : Type} {f : β → β → Int} (h : OrdC f) {a b : β} (h1 : 0 ≤ f a b) : f b a ≤ 0 := by have := h.anti a b; omega

/-- The index above. -/
def par (i : Nat) : Nat := (i - 1) / 4
theorem par_lt {i : Nat} (h : 0 < i) : par i < i := by unfold par; omega
/-- The value at an index. -/
def at' (t : List α) (i : Nat) : α := t.getD i default
theorem at_set_same {t : List α} {i : Nat} (x : α) (h : i < t.length) : at' (t.set i x) i = x := by simp [at', h]
theorem at_set_ne {t : List α} {i j : Nat} (x : α) (h : i ≠ j) : at' (t.set i x) j = at' t j := by simp [at', h]

/-- Rising: x is let rise from an index. -/
def riseL (f : α → α → Int) (x : α) (t : List α) (i : Nat) : List α :=
  if _h : 0 < i then
    if f x (at' t (par i)) > 0 then t.set i x else riseL f x (t.set i (at' t (par i))) (par i)
  else t.set i x
termination_by i
decreasing_by exact par_lt _h

/-- No place comes before the one above it, but at one index; what is below that one comes behind what is above it. -/
def HeapBut (f : α → α → Int) (t : List α) (i : Nat) : Prop :=
  (∀ j, 0 < j → j < t.length → j ≠ i → f (at' t (par j)) (at' t j) ≤ 0) ∧
  (0 < i → ∀ c, 0 < c → c < t.length → par c = i → f (at' t (par i)) (at' t c) ≤ 0)
def Heap4 (f : α → α → Int) (t : List α) : Prop := ∀ j, 0 < j → j < t.length → f (at' t (par j)) (at' t j) ≤ 0

theorem riseL_length (x : α) (t : List α) (i : Nat) : (riseL f x t i).length = t.length := by
  induction i using Nat.strongRecOn generalizing t with
  | _ i ih =>
    rw [riseL]
    split
    · next h =>
      split
      · simp
      · rw [ih (par i) (par_lt h)]; simp
    · simp

theorem riseL_heap (ho : OrdC f) (x : α) (t : List α) (i : Nat) (hi : i < t.length) (hb : HeapBut f (t.set i x) i) : Heap4 f (riseL f x t i) := by
  induction i using Nat.strongRecOn generalizing t with
  | _ i ih =>
    rw [riseL]
    split
    · next h =>
      have hp := par_lt h
      split
      · next hgt =>
        intro j h1 h2
        by_cases hj : j = i
        · subst hj
          rw [at_set_ne x (by omega : j ≠ par j), at_set_same x hi]
          have := ho.anti x (at' t (par j)); omega
        · exact hb.1 j h1 (by simpa using h2) hj
      · next hgt =>
        have hu : f x (at' t (par i)) ≤ 0 := by omega
        refine ih (par i) hp _ (by simp; omega) ⟨fun j h1 h2 hj => ?_, fun h3 c h4 h5 h6 => ?_⟩
        · -- an edge that does not end at the index above
          simp only [List.length_set] at h2
          have hjn : j < (t.set i x).length := by simpa using h2
          rw [at_set_ne x (fun e => hj e.symm)]
          by_cases hji : j = i
          · subst hji
            rw [at_set_same x (by simp; omega), at_set_same _ hi]
            exact hu
          · rw [at_set_ne (t := t) _ (fun e => hji e.symm)]
            by_cases hpj : par j = par i
            · rw [hpj, at_set_same x (by simp; omega)]
              have := hb.1 j h1 hjn hji
              rw [at_set_ne (t := t) x (fun e => hji e.symm), hpj, at_set_ne (t := t) x (by omega : i ≠ par i)] at this
              exact ho.le_trans hu this
            · rw [at_set_ne x (fun e => hpj e.symm)]
              by_cases hpi : par j = i
              · rw [hpi, at_set_same _ hi]
                have := hb.2 h j h1 hjn hpi
                rwa [at_set_ne (t := t) x (by omega : i ≠ par i), at_set_ne (t := t) x (fun e => hji e.symm)] at this
              · have := hb.1 j h1 hjn hji
                rw [at_set_ne (t := t) _ (fun e => hpi e.symm)]
                rwa [at_set_ne (t := t) x (fun e => hpi e.symm), at_set_ne (t := t) x (fun e => hji e.symm)] at this
        · -- what is below the index above comes behind what is above that
          simp only [List.length_set] at h5
          have hcn : c < (t.set i x).length := by simpa using h5
          have hpp := par_lt h3
          have e1 := hb.1 (par i) h3 (by simp; omega) (by omega)
          rw [at_set_ne (t := t) x (by omega : i ≠ par (par i)), at_set_ne (t := t) x (by omega : i ≠ par i)] at e1
          rw [at_set_ne x (by omega : par i ≠ par (par i)), at_set_ne (t := t) _ (by omega : i ≠ par (par i))]
          have hcp : par i ≠ c := fun e => by rw [← e] at h6; omega
          rw [at_set_ne x hcp]
          by_cases hci : c = i
          · subst hci
            rw [at_set_same _ hi]; exact e1
          · rw [at_set_ne (t := t) _ (fun e => hci e.symm)]
            have := hb.1 c h4 hcn hci
            rw [h6, at_set_ne (t := t) x (by omega : i ≠ par i), at_set_ne (t := t) x (fun e => hci e.symm)] at this
            exact ho.le_trans e1 this
    · next h =>
      have hi0 : i = 0 := by omega
      subst hi0
      intro j h1 h2
      exact hb.1 j h1 (by simpa using h2) (by omega)

theorem at_get {t : List α} {i : Nat} (h : i < t.length) : at' t i = t[i] := by simp [at', h]
/-- One step of a hole from i to j: what is there is the same. -/
theorem move_perm (x : α) (t : List α) (i j : Nat) (hi : i < t.length) (hj : j < t.length) (hij : i ≠ j) : ((t.set i (at' t j)).set j x).Perm (t.set i x) := by
  have h := List.set_set_perm (as := t.set i x) (i := i) (j := j) (by simpa using hi) (by simpa using hj)
  have e1 : (t.set i x)[j]'(by simpa using hj) = at' t j := by rw [List.getElem_set_ne hij, at_get hj]
  have e2 : (t.set i x)[i]'(by simpa using hi) = x := by simp
  rw [e1, e2, List.set_set] at h
  exact h
theorem riseL_perm (x : α) (t : List α) (i : Nat) (hi : i < t.length) : (riseL f x t i).Perm (t.set i x) := by
  induction i using Nat.strongRecOn generalizing t with
  | _ i ih =>
    rw [riseL]
    split
    · next h =>
      have hp := par_lt h
      split
      · exact List.Perm.refl _
      · exact (ih (par i) hp _ (by simp; omega)).trans (move_perm x t i (par i) hi (by omega) (by omega))
    · exact List.Perm.refl _

/-- The least of what is below an index. -/
def pickC (f : α → α → Int) (t : List α) (l : Option Nat) (k : Nat) : Option Nat :=
  match l with
  | none => some k
  | some m => if f (at' t k) (at' t m) < 0 then some k else some m
def leastC (f : α → α → Int) (t : List α) (i n : Nat) : Option Nat := (List.range' (4 * i + 1) n).foldl (pickC f t) none
/-- How many are below an index. -/
def kids (t : List α) (i : Nat) : Nat := min (4 * i + 5) t.length - (4 * i + 1)
theorem leastC_succ (t : List α) (i n : Nat) : leastC f t i (n + 1) = pickC f t (leastC f t i n) (4 * i + 1 + n) := by
  unfold leastC; rw [List.range'_concat, List.foldl_append]; simp
theorem leastC_spec (ho : OrdC f) (t : List α) (i n : Nat) : (leastC f t i n = none ∧ n = 0) ∨ ∃ m, leastC f t i n = some m ∧ 4 * i + 1 ≤ m ∧ m < 4 * i + 1 + n ∧ ∀ k, 4 * i + 1 ≤ k → k < 4 * i + 1 + n → f (at' t m) (at' t k) ≤ 0 := by
  induction n with
  | zero => exact .inl ⟨rfl, rfl⟩
  | succ n ih =>
    right
    rw [leastC_succ]
    rcases ih with ⟨h1, h2⟩ | ⟨m, h1, h2, h3, h4⟩
    · subst h2
      rw [h1]
      refine ⟨_, rfl, by omega, by omega, fun k h5 h6 => ?_⟩
      rw [show k = 4 * i + 1 + 0 by omega, ho.refl]
      omega
    · rw [h1]
      simp only [pickC]
      split
      · next hlt =>
        refine ⟨_, rfl, by omega, by omega, fun k h5 h6 => ?_⟩
        by_cases hk : k = 4 * i + 1 + n
        · rw [hk, ho.refl]; omega
        · exact ho.le_trans (by omega) (h4 k h5 (by omega))
      · next hlt =>
        refine ⟨m, rfl, h2, by omega, fun k h5 h6 => ?_⟩
        by_cases hk : k = 4 * i + 1 + n
        · rw [hk]; exact ho.flip (by omega)
        · exact h4 k h5 (by omega)

/-- Sinking: x is let sink from an index; where it comes to lie. -/
def sinkL (f : α → α → Int) (x : α) (t : List α) (i : Nat) : List α × Nat :=
  match leastC f t i (kids t i) with
  | none => (t.set i x, i)
  | some m => if _h : i < m ∧ m < t.length then (if f x (at' t m) < 0 then (t.set i x, i) else sinkL f x (t.set i (at' t m)) m) else (t.set i x, i)
termination_by t.length - i
decreasing_by simp; omega

theorem kids_par {β : Type} {t : List β} {i c : Nat} (h : c < t.length) (hp : par c = i) (h0 : 0 < c) : 4 * i + 1 ≤ c ∧ c < 4 * i + 1 + kids t i := by
  unfold par at hp; unfold kids; omega
theorem par_kids {β : Type} {t : List β} {i m : Nat} (h1 : 4 * i + 1 ≤ m) (h2 : m < 4 * i + 1 + kids t i) : par m = i ∧ m < t.length ∧ i < m := by
  unfold kids at h2; unfold par; omega

/-- Sound but for the index at which there is a hole. -/
def Hole (f : α → α → Int) (t : List α) (i : Nat) : Prop :=
  (∀ j, 0 < j → j < t.length → j ≠ i → par j ≠ i → f (at' t (par j)) (at' t j) ≤ 0) ∧
  (0 < i → ∀ c, 0 < c → c < t.length → par c = i → f (at' t (par i)) (at' t c) ≤ 0)

theorem stay (x : α) (t : List α) (i : Nat) (hi : i < t.length) (hh : Hole f t i) (hx : ∀ c, 0 < c → c < t.length → par c = i → f x (at' t c) ≤ 0) : HeapBut f (t.set i x) i := by
  refine ⟨fun j h1 h2 hj => ?_, fun h3 c h4 h5 h6 => ?_⟩
  · simp only [List.length_set] at h2
    rw [at_set_ne (t := t) x (fun e => hj e.symm)]
    by_cases hp : par j = i
    · rw [hp, at_set_same x hi]; exact hx j h1 h2 hp
    · rw [at_set_ne (t := t) x (fun e => hp e.symm)]; exact hh.1 j h1 h2 hj hp
  · simp only [List.length_set] at h5
    have := par_lt h3
    have hci : c ≠ i := fun e => by have := par_lt h4; omega
    rw [at_set_ne (t := t) x (by omega : i ≠ par i), at_set_ne (t := t) x (fun e => hci e.symm)]
    exact hh.2 h3 c h4 h5 h6

theorem sinkL_all (ho : OrdC f) (x : α) (t : List α) (i : Nat) (hi : i < t.length) (hh : Hole f t i) :
    (sinkL f x t i).1.length = t.length ∧ i ≤ (sinkL f x t i).2 ∧ (sinkL f x t i).2 < t.length ∧ at' (sinkL f x t i).1 (sinkL f x t i).2 = x ∧ (sinkL f x t i).1.Perm (t.set i x) ∧ HeapBut f (sinkL f x t i).1 (sinkL f x t i).2 := by
  generalize hk : t.length - i = k
  induction k using Nat.strongRecOn generalizing t i with
  | _ k ih =>
    rw [sinkL]
    rcases leastC_spec ho t i (kids t i) with ⟨h1, h2⟩ | ⟨m, h1, h2, h3, h4⟩
    · rw [h1]
      refine ⟨by simp, Nat.le_refl _, hi, at_set_same x hi, List.Perm.refl _, stay x t i hi hh (fun c h5 h6 h7 => ?_)⟩
      have := kids_par h6 h7 h5; omega
    · rw [h1]
      obtain ⟨g1, g2, g3⟩ := par_kids h2 h3
      simp only [dif_pos (show i < m ∧ m < t.length from ⟨g3, g2⟩)]
      split
      · next hlt =>
        refine ⟨by simp, Nat.le_refl _, hi, at_set_same x hi, List.Perm.refl _, stay x t i hi hh (fun c h5 h6 h7 => ?_)⟩
        have hc := kids_par h6 h7 h5
        exact ho.le_trans (by omega) (h4 c hc.1 hc.2)
      · next hlt =>
        have hhm : Hole f (t.set i (at' t m)) m := by
          refine ⟨fun j e1 e2 e3 e4 => ?_, fun e1 c e2 e3 e4 => ?_⟩
          · simp only [List.length_set] at e2
            by_cases hji : j = i
            · subst hji
              have := par_lt e1
              rw [at_set_ne (t := t) _ (by omega : j ≠ par j), at_set_same _ hi]
              exact hh.2 e1 m (by omega) g2 g1
            · rw [at_set_ne (t := t) _ (fun e => hji e.symm)]
              by_cases hp : par j = i
              · rw [hp, at_set_same _ hi]
                have hc := kids_par e2 hp e1
                exact h4 j hc.1 hc.2
              · rw [at_set_ne (t := t) _ (fun e => hp e.symm)]
                exact hh.1 j e1 e2 hji hp
          · simp only [List.length_set] at e3
            have := par_lt e2
            rw [g1, at_set_same _ hi, at_set_ne (t := t) _ (by omega : i ≠ c)]
            have := hh.1 c e2 e3 (by omega) (by omega)
            rwa [e4] at this
        obtain ⟨r1, r2, r3, r4, r5, r6⟩ := ih (t.length - m) (by omega) (t.set i (at' t m)) m (by simpa using g2) hhm (by simp)
        simp only [List.length_set] at r1 r3
        exact ⟨r1, by omega, r3, r4, r5.trans (move_perm x t i m hi g2 (by omega)), r6⟩
end
end Go.Proofs.Ytbpmdhngobdilaa
