/-
  What the laws on spaces lean on and what knows no space: rows, names, sets of names.
-/
import Derived.Lib.Hide
import Derived.WalkKit
import Derived.RangeFuncNested
import Derived.RangeFuncBound
import Derived.RangeFuncCalls
import Derived.RangeFuncLeaves
import Derived.Deep.Draws
import Derived.Deep.RegionHeld3
import Derived.Deep.DrawnRows
import Derived.Test.YtieeloealklkgaaGreatProg
import Derived.WalkSpells
import Derived.WalkLawsBesides
import Derived.Lib.Bytealg
import Derived.Lib.Strings
import Derived.OwnWalkIn
import Derived.TacticsInMore
import Derived.LoopNIn
import Derived.LoopIn
import Derived.BigFrameIn
import Derived.Deep.AppendSrc
import Derived.Laws.AppendOwn
import Derived.Maps.AppendAt
import Derived.Lib.ItoaNum
import Derived.Lib.ItoaMem
import Derived.Lib.AtoiAll
import Derived.Lib.IndexAny
import Derived.OrdersIn
import Derived.Test.YtieeloealklkgaaGreatChecked
import Derived.WalkMore
import Derived.TacticsIn
import Derived.Deep.QuietTactic
import Derived.Outline
import Derived.Laws.IdiomCopy
import Derived.BigQuiet
import Derived.Deep.MidRow
import Derived.RangeFuncRecord
import Derived.LoopTactic
set_option linter.unusedSimpArgs false
set_option linter.unusedVariables false
set_option maxRecDepth 100000

/-
  A heap of four below each: rising and sinking, plain Lean.
-/
namespace Go.Proofs.YtieeloealklkgaaGreat

/-- An order of all: of two different ones just one comes first. -/
structure OrdC {α : Type} (f : α → α → Int) : Prop where
 eq : ∀ a b, f a b = 0 ↔ a = b
 anti : ∀ a b, f a b = - f b a
 trans : ∀ a b c, f a b < 0 → f b c < 0 → f a c < 0

section
variable {α : Type} [Inhabited α] {f : α → α → Int}

theorem OrdC.refl {β : Type} {f : β → β → Int} (h : OrdC f) (a : β) : f a a = 0 := (h.eq a a).2 rfl
theorem OrdC.le_trans {β : Type} {f : β → β → Int} (h : OrdC f) {a b c : β} (h1 : f a b ≤ 0) (h2 : f b c ≤ 0) : f a c ≤ 0 := by
 by_cases e1 : f a b = 0
 ·rw [(h.eq a b).1 e1]; exact h2
 ·by_cases e2 : f b c = 0
  ·rw [← (h.eq b c).1 e2]; exact h1
  ·have := h.trans a b c (by omega) (by omega); omega
theorem OrdC.flip {β : Type} {f : β → β → Int} (h : OrdC f) {a b : β} (h1 : 0 ≤ f a b) : f b a ≤ 0 := by have := h.anti a b; omega

/-- The index above. -/
def par (i : Nat) : Nat := (i - 1) / 4
theorem par_lt {i : Nat} (h : 0 < i) : par i < i := by unfold par; omega
/-- The value at an index. -/
def at' (t : List α) (i : Nat) : α := t.getD i default
theorem at_set_same {t : List α} {i : Nat} (x : α) (h : i < t.length) : at' (t.set i x) i = x := by simp [at', h]
theorem at_set_ne {t : List α} {i j : Nat} (x : α) (h : i ≠ j) : at' (t.set i x) j = at' t j := by simp [at', h]

/-- Rising: x is let rise from an index. -/
def riseL (f : α → α → Int) (x : α) (t : List α) (i : Nat) : List α :=
 if _h : 0 < i then
  if f x (at' t (par i)) > 0 then t.set i x else riseL f x (t.set i (at' t (par i))) (par i)
 else t.set i x
termination_by i
decreasing_by exact par_lt _h

/-- No place comes before the one above it, but at one index; what is below that one comes behind what is above it. -/
def HeapBut (f : α → α → Int) (t : List α) (i : Nat) : Prop :=
 (∀ j, 0 < j → j < t.length → j ≠ i → f (at' t (par j)) (at' t j) ≤ 0) ∧
 (0 < i → ∀ c, 0 < c → c < t.length → par c = i → f (at' t (par i)) (at' t c) ≤ 0)
def Heap4 (f : α → α → Int) (t : List α) : Prop := ∀ j, 0 < j → j < t.length → f (at' t (par j)) (at' t j) ≤ 0

theorem riseL_length (x : α) (t : List α) (i : Nat) : (riseL f x t i).length = t.length := by
 induction i using Nat.strongRecOn generalizing t with
 | _ i ih =>
  rw [riseL]
  split
  ·next h =>
   split
   ·simp
   ·rw [ih (par i) (par_lt h)]; simp
  ·simp

theorem riseL_heap (ho : OrdC f) (x : α) (t : List α) (i : Nat) (hi : i < t.length) (hb : HeapBut f (t.set i x) i) : Heap4 f (riseL f x t i) := by
 induction i using Nat.strongRecOn generalizing t with
 | _ i ih =>
  rw [riseL]
  split
  ·next h =>
   have hp := par_lt h
   split
   ·next hgt =>
    intro j h1 h2
    by_cases hj : j = i
    ·subst hj
     rw [at_set_ne x (by omega : j ≠ par j), at_set_same x hi]
     have := ho.anti x (at' t (par j)); omega
    ·exact hb.1 j h1 (by simpa using h2) hj
   ·next hgt =>
    have hu : f x (at' t (par i)) ≤ 0 := by omega
    refine ih (par i) hp _ (by simp; omega) ⟨fun j h1 h2 hj => ?_, fun h3 c h4 h5 h6 => ?_⟩
    ·-- an edge that does not end at the index above
     simp only [List.length_set] at h2
     have hjn : j < (t.set i x).length := by simpa using h2
     rw [at_set_ne x (fun e => hj e.symm)]
     by_cases hji : j = i
     ·subst hji
      rw [at_set_same x (by simp; omega), at_set_same _ hi]
      exact hu
     ·rw [at_set_ne (t := t) _ (fun e => hji e.symm)]
      by_cases hpj : par j = par i
      ·rw [hpj, at_set_same x (by simp; omega)]
       have := hb.1 j h1 hjn hji
       rw [at_set_ne (t := t) x (fun e => hji e.symm), hpj, at_set_ne (t := t) x (by omega : i ≠ par i)] at this
       exact ho.le_trans hu this
      ·rw [at_set_ne x (fun e => hpj e.symm)]
       by_cases hpi : par j = i
       ·rw [hpi, at_set_same _ hi]
        have := hb.2 h j h1 hjn hpi
        rwa [at_set_ne (t := t) x (by omega : i ≠ par i), at_set_ne (t := t) x (fun e => hji e.symm)] at this
       ·have := hb.1 j h1 hjn hji
        rw [at_set_ne (t := t) _ (fun e => hpi e.symm)]
        rwa [at_set_ne (t := t) x (fun e => hpi e.symm), at_set_ne (t := t) x (fun e => hji e.symm)] at this
    ·-- what is below the index above comes behind what is above that
     simp only [List.length_set] at h5
     have hcn : c < (t.set i x).length := by simpa using h5
     have hpp := par_lt h3
     have e1 := hb.1 (par i) h3 (by simp; omega) (by omega)
     rw [at_set_ne (t := t) x (by omega : i ≠ par (par i)), at_set_ne (t := t) x (by omega : i ≠ par i)] at e1
     rw [at_set_ne x (by omega : par i ≠ par (par i)), at_set_ne (t := t) _ (by omega : i ≠ par (par i))]
     have hcp : par i ≠ c := fun e => by rw [← e] at h6; omega
     rw [at_set_ne x hcp]
     by_cases hci : c = i
     ·subst hci
      rw [at_set_same _ hi]; exact e1
     ·rw [at_set_ne (t := t) _ (fun e => hci e.symm)]
      have := hb.1 c h4 hcn hci
      rw [h6, at_set_ne (t := t) x (by omega : i ≠ par i), at_set_ne (t := t) x (fun e => hci e.symm)] at this
      exact ho.le_trans e1 this
  ·next h =>
   have hi0 : i = 0 := by omega
   subst hi0
   intro j h1 h2
   exact hb.1 j h1 (by simpa using h2) (by omega)

theorem at_get {t : List α} {i : Nat} (h : i < t.length) : at' t i = t[i] := by simp [at', h]
/-- One step of a hole from i to j: what is there is the same. -/
theorem move_perm (x : α) (t : List α) (i j : Nat) (hi : i < t.length) (hj : j < t.length) (hij : i ≠ j) : ((t.set i (at' t j)).set j x).Perm (t.set i x) := by
 have h := List.set_set_perm (i := i) (j := j) (show i < (t.set i x).length by simpa using hi) (show j < (t.set i x).length by simpa using hj)
 have e1 : (t.set i x)[j]'(by simpa using hj) = at' t j := by rw [List.getElem_set_ne hij, at_get hj]
 have e2 : (t.set i x)[i]'(by simpa using hi) = x := by simp
 rw [e1, e2, List.set_set] at h
 exact h
theorem riseL_perm (x : α) (t : List α) (i : Nat) (hi : i < t.length) : (riseL f x t i).Perm (t.set i x) := by
 induction i using Nat.strongRecOn generalizing t with
 | _ i ih =>
  rw [riseL]
  split
  ·next h =>
   have hp := par_lt h
   split
   ·exact List.Perm.refl _
   ·exact (ih (par i) hp _ (by simp; omega)).trans (move_perm x t i (par i) hi (by omega) (by omega))
  ·exact List.Perm.refl _

/-- The least of what is below an index. -/
def pickC (f : α → α → Int) (t : List α) (l : Option Nat) (k : Nat) : Option Nat :=
 match l with
 | none => some k
 | some m => if f (at' t k) (at' t m) < 0 then some k else some m
def leastC (f : α → α → Int) (t : List α) (i n : Nat) : Option Nat := (List.range' (4 * i + 1) n).foldl (pickC f t) none
/-- How many are below an index. -/
def kids (t : List α) (i : Nat) : Nat := min (4 * i + 5) t.length - (4 * i + 1)
theorem leastC_succ (t : List α) (i n : Nat) : leastC f t i (n + 1) = pickC f t (leastC f t i n) (4 * i + 1 + n) := by
 unfold leastC; rw [List.range'_concat, List.foldl_append]; simp
theorem leastC_spec (ho : OrdC f) (t : List α) (i n : Nat) : (leastC f t i n = none ∧ n = 0) ∨ ∃ m, leastC f t i n = some m ∧ 4 * i + 1 ≤ m ∧ m < 4 * i + 1 + n ∧ ∀ k, 4 * i + 1 ≤ k → k < 4 * i + 1 + n → f (at' t m) (at' t k) ≤ 0 := by
 induction n with
 | zero => exact .inl ⟨rfl, rfl⟩
 | succ n ih =>
  right
  rw [leastC_succ]
  rcases ih with ⟨h1, h2⟩ | ⟨m, h1, h2, h3, h4⟩
  ·subst h2
   rw [h1]
   refine ⟨_, rfl, by omega, by omega, fun k h5 h6 => ?_⟩
   rw [show k = 4 * i + 1 + 0 by omega, ho.refl]
   omega
  ·rw [h1]
   simp only [pickC]
   split
   ·next hlt =>
    refine ⟨_, rfl, by omega, by omega, fun k h5 h6 => ?_⟩
    by_cases hk : k = 4 * i + 1 + n
    ·rw [hk, ho.refl]; omega
    ·exact ho.le_trans (by omega) (h4 k h5 (by omega))
   ·next hlt =>
    refine ⟨m, rfl, h2, by omega, fun k h5 h6 => ?_⟩
    by_cases hk : k = 4 * i + 1 + n
    ·rw [hk]; exact ho.flip (by omega)
    ·exact h4 k h5 (by omega)

/-- Sinking: x is let sink from an index; where it comes to lie. -/
def sinkL (f : α → α → Int) (x : α) (t : List α) (i : Nat) : List α × Nat :=
 match leastC f t i (kids t i) with
 | none => (t.set i x, i)
 | some m => if _h : i < m ∧ m < t.length then (if f x (at' t m) < 0 then (t.set i x, i) else sinkL f x (t.set i (at' t m)) m) else (t.set i x, i)
termination_by t.length - i
decreasing_by simp; omega

theorem kids_par {β : Type} {t : List β} {i c : Nat} (h : c < t.length) (hp : par c = i) (h0 : 0 < c) : 4 * i + 1 ≤ c ∧ c < 4 * i + 1 + kids t i := by
 unfold par at hp; unfold kids; omega
theorem par_kids {β : Type} {t : List β} {i m : Nat} (h1 : 4 * i + 1 ≤ m) (h2 : m < 4 * i + 1 + kids t i) : par m = i ∧ m < t.length ∧ i < m := by
 unfold kids at h2; unfold par; omega

/-- Sound but for the index at which there is a hole. -/
def Hole (f : α → α → Int) (t : List α) (i : Nat) : Prop :=
 (∀ j, 0 < j → j < t.length → j ≠ i → par j ≠ i → f (at' t (par j)) (at' t j) ≤ 0) ∧
 (0 < i → ∀ c, 0 < c → c < t.length → par c = i → f (at' t (par i)) (at' t c) ≤ 0)

theorem stay (x : α) (t : List α) (i : Nat) (hi : i < t.length) (hh : Hole f t i) (hx : ∀ c, 0 < c → c < t.length → par c = i → f x (at' t c) ≤ 0) : HeapBut f (t.set i x) i := by
 refine ⟨fun j h1 h2 hj => ?_, fun h3 c h4 h5 h6 => ?_⟩
 ·simp only [List.length_set] at h2
  rw [at_set_ne (t := t) x (fun e => hj e.symm)]
  by_cases hp : par j = i
  ·rw [hp, at_set_same x hi]; exact hx j h1 h2 hp
  ·rw [at_set_ne (t := t) x (fun e => hp e.symm)]; exact hh.1 j h1 h2 hj hp
 ·simp only [List.length_set] at h5
  have := par_lt h3
  have hci : c ≠ i := fun e => by have := par_lt h4; omega
  rw [at_set_ne (t := t) x (by omega : i ≠ par i), at_set_ne (t := t) x (fun e => hci e.symm)]
  exact hh.2 h3 c h4 h5 h6

theorem sinkL_all (ho : OrdC f) (x : α) (t : List α) (i : Nat) (hi : i < t.length) (hh : Hole f t i) :
  (sinkL f x t i).1.length = t.length ∧ i ≤ (sinkL f x t i).2 ∧ (sinkL f x t i).2 < t.length ∧ at' (sinkL f x t i).1 (sinkL f x t i).2 = x ∧ (sinkL f x t i).1.Perm (t.set i x) ∧ HeapBut f (sinkL f x t i).1 (sinkL f x t i).2 := by
 generalize hk : t.length - i = k
 induction k using Nat.strongRecOn generalizing t i with
 | _ k ih =>
  rw [sinkL]
  rcases leastC_spec ho t i (kids t i) with ⟨h1, h2⟩ | ⟨m, h1, h2, h3, h4⟩
  ·rw [h1]
   refine ⟨by simp, Nat.le_refl _, hi, at_set_same x hi, List.Perm.refl _, stay x t i hi hh (fun c h5 h6 h7 => ?_)⟩
   have := kids_par h6 h7 h5; omega
  ·rw [h1]
   obtain ⟨g1, g2, g3⟩ := par_kids h2 h3
   simp only [dif_pos (show i < m ∧ m < t.length from ⟨g3, g2⟩)]
   split
   ·next hlt =>
    refine ⟨by simp, Nat.le_refl _, hi, at_set_same x hi, List.Perm.refl _, stay x t i hi hh (fun c h5 h6 h7 => ?_)⟩
    have hc := kids_par h6 h7 h5
    exact ho.le_trans (by omega) (h4 c hc.1 hc.2)
   ·next hlt =>
    have hhm : Hole f (t.set i (at' t m)) m := by
     refine ⟨fun j e1 e2 e3 e4 => ?_, fun e1 c e2 e3 e4 => ?_⟩
     ·simp only [List.length_set] at e2
      by_cases hji : j = i
      ·subst hji
       have := par_lt e1
       rw [at_set_ne (t := t) _ (by omega : j ≠ par j), at_set_same _ hi]
       exact hh.2 e1 m (by omega) g2 g1
      ·rw [at_set_ne (t := t) _ (fun e => hji e.symm)]
       by_cases hp : par j = i
       ·rw [hp, at_set_same _ hi]
        have hc := kids_par e2 hp e1
        exact h4 j hc.1 hc.2
       ·rw [at_set_ne (t := t) _ (fun e => hp e.symm)]
        exact hh.1 j e1 e2 hji hp
     ·simp only [List.length_set] at e3
      have := par_lt e2
      rw [g1, at_set_same _ hi, at_set_ne (t := t) _ (by omega : i ≠ c)]
      have := hh.1 c e2 e3 (by omega) (by omega)
      rwa [e4] at this
    obtain ⟨r1, r2, r3, r4, r5, r6⟩ := ih (t.length - m) (by omega) (t.set i (at' t m)) m (by simpa using g2) hhm (by simp)
    simp only [List.length_set] at r1 r3
    exact ⟨r1, by omega, r3, r4, r5.trans (move_perm x t i m hi g2 (by omega)), r6⟩
end
end Go.Proofs.YtieeloealklkgaaGreat

/-
  The table that says where each place lies in the heap, plain Lean.
-/
namespace Go.Proofs.YtieeloealklkgaaGreat
section
variable {α : Type} [Inhabited α] {f : α → α → Int} {pl : α → Nat}

/-- Rising, in the table: what is written at each step. -/
def riseA (f : α → α → Int) (pl : α → Nat) (x : α) (t : List α) (A : List Nat) (i : Nat) : List Nat :=
 if h : 0 < i then
  if f x (at' t (par i)) > 0 then A.set (pl x) (i + 1) else riseA f pl x (t.set i (at' t (par i))) (A.set (pl (at' t (par i))) (i + 1)) (par i)
 else A.set (pl x) (i + 1)
termination_by i
decreasing_by exact par_lt h
/-- Sinking, in the table. -/
def sinkA (f : α → α → Int) (pl : α → Nat) (x : α) (t : List α) (A : List Nat) (i : Nat) : List Nat :=
 match leastC f t i (kids t i) with
 | none => A.set (pl x) (i + 1)
 | some m => if h : i < m ∧ m < t.length then (if f x (at' t m) < 0 then A.set (pl x) (i + 1) else sinkA f pl x (t.set i (at' t m)) (A.set (pl (at' t m)) (i + 1)) m) else A.set (pl x) (i + 1)
termination_by t.length - i
decreasing_by simp; omega

/-- The table is right. -/
structure Tab (pl : α → Nat) (t : List α) (A : List Nat) : Prop where
 here : ∀ k, k < t.length → A[pl (at' t k)]? = some (k + 1)
 none : ∀ p, p < A.length → (∀ k, k < t.length → pl (at' t k) ≠ p) → A[p]? = some 0
/-- The table is right but for a hole, into which x will come. -/
structure TabBut (pl : α → Nat) (t : List α) (A : List Nat) (i : Nat) (x : α) : Prop where
 lt : i < t.length
 here : ∀ k, k < t.length → k ≠ i → A[pl (at' t k)]? = some (k + 1)
 one : ∀ k l, k < t.length → l < t.length → k ≠ i → l ≠ i → pl (at' t k) = pl (at' t l) → k = l
 other : ∀ k, k < t.length → k ≠ i → pl (at' t k) ≠ pl x
 room : pl x < A.length
 none : ∀ p, p < A.length → p ≠ pl x → (∀ k, k < t.length → k ≠ i → pl (at' t k) ≠ p) → A[p]? = some 0

theorem TabBut.room' {t : List α} {A : List Nat} {i k : Nat} {x : α} (h : TabBut pl t A i x) (hk : k < t.length) (hki : k ≠ i) : pl (at' t k) < A.length :=
 (List.getElem?_eq_some_iff.1 (h.here k hk hki)).1
/-- A hole goes from i to j. -/
theorem TabBut.move {t : List α} {A : List Nat} {i j : Nat} {x : α} (h : TabBut pl t A i x) (hj : j < t.length) (hij : i ≠ j) : TabBut pl (t.set i (at' t j)) (A.set (pl (at' t j)) (i + 1)) j x := by
 have hA := h.room' hj (fun e => hij e.symm)
 refine ⟨by simpa using hj, fun k hk hkj => ?_, fun k l hk hl hkj hlj e => ?_, fun k hk hkj => ?_, by simpa using h.room, fun p hp hpx hno => ?_⟩
 ·simp only [List.length_set] at hk
  by_cases hki : k = i
  ·subst hki
   rw [at_set_same _ h.lt, List.getElem?_set_self hA]
  ·rw [at_set_ne (t := t) _ (fun e => hki e.symm), List.getElem?_set_ne (fun e => hkj (h.one k j hk hj hki (fun e => hij e.symm) e.symm))]
   exact h.here k hk hki
 ·simp only [List.length_set] at hk hl
  by_cases hki : k = i
  ·by_cases hli : l = i
   ·omega
   ·subst hki
    rw [at_set_same _ h.lt, at_set_ne (t := t) _ (fun e => hli e.symm)] at e
    exact absurd (h.one j l hj hl (fun e => hij e.symm) hli e).symm hlj
  ·by_cases hli : l = i
   ·subst hli
    rw [at_set_same _ h.lt, at_set_ne (t := t) _ (fun e => hki e.symm)] at e
    exact absurd (h.one k j hk hj hki (fun e => hij e.symm) e) hkj
   ·rw [at_set_ne (t := t) _ (fun e => hki e.symm), at_set_ne (t := t) _ (fun e => hli e.symm)] at e
    exact h.one k l hk hl hki hli e
 ·simp only [List.length_set] at hk
  by_cases hki : k = i
  ·subst hki
   rw [at_set_same _ h.lt]; exact h.other j hj (fun e => hij e.symm)
  ·rw [at_set_ne (t := t) _ (fun e => hki e.symm)]; exact h.other k hk hki
 ·simp only [List.length_set] at hp
  have hpj : pl (at' t j) ≠ p := by
   have := hno i (by simpa using h.lt) hij
   rwa [at_set_same _ h.lt] at this
  rw [List.getElem?_set_ne hpj]
  refine h.none p hp hpx (fun k hk hki => ?_)
  by_cases hkj : k = j
  ·rw [hkj]; exact hpj
  ·have := hno k (by simpa using hk) hkj
   rwa [at_set_ne (t := t) _ (fun e => hki e.symm)] at this
/-- The hole is filled. -/
theorem TabBut.fill {t : List α} {A : List Nat} {i : Nat} {x : α} (h : TabBut pl t A i x) : Tab pl (t.set i x) (A.set (pl x) (i + 1)) := by
 refine ⟨fun k hk => ?_, fun p hp hno => ?_⟩
 ·simp only [List.length_set] at hk
  by_cases hki : k = i
  ·subst hki
   rw [at_set_same _ hk, List.getElem?_set_self h.room]
  ·rw [at_set_ne (t := t) _ (fun e => hki e.symm), List.getElem?_set_ne (fun e => h.other k hk hki e.symm)]
   exact h.here k hk hki
 ·simp only [List.length_set] at hp
  have hpx : pl x ≠ p := by
   have := hno i (by simpa using h.lt)
   rwa [at_set_same _ h.lt] at this
  rw [List.getElem?_set_ne hpx]
  refine h.none p hp (fun e => hpx e.symm) (fun k hk hki => ?_)
  have := hno k (by simpa using hk)
  rwa [at_set_ne (t := t) _ (fun e => hki e.symm)] at this
theorem riseA_tab (x : α) (t : List α) (A : List Nat) (i : Nat) (h : TabBut pl t A i x) : Tab pl (riseL f x t i) (riseA f pl x t A i) := by
 induction i using Nat.strongRecOn generalizing t A with
 | _ i ih =>
  rw [riseL, riseA]
  split
  ·next h0 =>
   have hp := par_lt h0
   split
   ·exact h.fill
   ·exact ih (par i) hp _ _ (h.move (by have := h.lt; omega) (by omega))
  ·exact h.fill
theorem sinkA_tab (ho : OrdC f) (x : α) (t : List α) (A : List Nat) (i : Nat) (h : TabBut pl t A i x) : Tab pl (sinkL f x t i).1 (sinkA f pl x t A i) := by
 generalize hk : t.length - i = k
 induction k using Nat.strongRecOn generalizing t A i with
 | _ k ih =>
  rw [sinkL, sinkA]
  rcases leastC_spec ho t i (kids t i) with ⟨h1, h2⟩ | ⟨m, h1, h2, h3, h4⟩
  ·rw [h1]; exact h.fill
  ·rw [h1]
   obtain ⟨g1, g2, g3⟩ := par_kids h2 h3
   simp only [dif_pos (show i < m ∧ m < t.length from ⟨g3, g2⟩)]
   split
   ·exact h.fill
   ·exact ih (t.length - m) (by omega) _ _ m (h.move g2 (by omega)) (by simp)
theorem riseA_length (x : α) (t : List α) (A : List Nat) (i : Nat) : (riseA f pl x t A i).length = A.length := by
 induction i using Nat.strongRecOn generalizing t A with
 | _ i ih =>
  rw [riseA]
  split
  ·next h0 =>
   split
   ·simp
   ·rw [ih (par i) (par_lt h0)]; simp
  ·simp
theorem sinkA_length (ho : OrdC f) (x : α) (t : List α) (A : List Nat) (i : Nat) : (sinkA f pl x t A i).length = A.length := by
 generalize hk : t.length - i = k
 induction k using Nat.strongRecOn generalizing t A i with
 | _ k ih =>
  rw [sinkA]
  rcases leastC_spec ho t i (kids t i) with ⟨h1, h2⟩ | ⟨m, h1, h2, h3, h4⟩
  ·rw [h1]; simp
  ·rw [h1]
   obtain ⟨g1, g2, g3⟩ := par_kids h2 h3
   simp only [dif_pos (show i < m ∧ m < t.length from ⟨g3, g2⟩)]
   split
   ·simp
   ·rw [ih (t.length - m) (by omega) _ _ m (by simp)]; simp
/-- From a right table: a hole at an index. -/
theorem Tab.hole {t : List α} {A : List Nat} (h : Tab pl t A) {i : Nat} (hi : i < t.length) : TabBut pl t A i (at' t i) := by
 have h1 : ∀ k l, k < t.length → l < t.length → pl (at' t k) = pl (at' t l) → k = l := fun k l hk hl e => by
  have h2 := h.here k hk
  rw [e, h.here l hl] at h2
  injection h2 with h2
  omega
 refine ⟨hi, fun k hk _ => h.here k hk, fun k l hk hl _ _ e => h1 k l hk hl e, fun k hk hki e => hki (h1 k i hk hi e), (List.getElem?_eq_some_iff.1 (h.here i hi)).1, fun p hp hpx hno => h.none p hp (fun k hk => ?_)⟩
 by_cases hki : k = i
 ·rw [hki]; exact fun e => hpx e.symm
 ·exact hno k hk hki
end
end Go.Proofs.YtieeloealklkgaaGreat

/-
  What is put into a heap of four, cut out of it, changed in it, plain Lean.
-/
namespace Go.Proofs.YtieeloealklkgaaGreat
section
variable {α : Type} [Inhabited α] {f : α → α → Int} {pl : α → Nat}

/-- A heap and its table. -/
structure HeapOK (f : α → α → Int) (pl : α → Nat) (t : List α) (A : List Nat) : Prop where
 heap : Heap4 f t
 tab : Tab pl t A

theorem at_append_left {t : List α} (e : α) {k : Nat} (h : k < t.length) : at' (t ++ [e]) k = at' t k := by simp [at', h, List.getElem?_append_left]
theorem at_append_last (t : List α) (e : α) : at' (t ++ [e]) t.length = e := by simp [at']
theorem set_append_last {β : Type} (t : List β) (e : β) : (t ++ [e]).set t.length e = t ++ [e] := by simp

/-- An entry more. -/
def putT (f : α → α → Int) (e : α) (t : List α) : List α := riseL f e (t ++ [e]) t.length
def putA (f : α → α → Int) (pl : α → Nat) (e : α) (t : List α) (A : List Nat) : List Nat := riseA f pl e (t ++ [e]) A t.length
theorem put_ok (ho : OrdC f) {t : List α} {A : List Nat} (h : HeapOK f pl t A) (e : α) (hr : pl e < A.length) (hn : ∀ k, k < t.length → pl (at' t k) ≠ pl e) :
  HeapOK f pl (putT f e t) (putA f pl e t A) ∧ (putT f e t).Perm (t ++ [e]) ∧ (putA f pl e t A).length = A.length ∧ (putT f e t).length = t.length + 1 := by
 have hl : t.length < (t ++ [e]).length := by simp
 refine ⟨⟨riseL_heap ho e _ _ hl ?_, riseA_tab e _ A _ ?_⟩, ?_, riseA_length _ _ _ _, by rw [putT, riseL_length]; simp⟩
 ·rw [set_append_last]
  refine ⟨fun j h1 h2 h3 => ?_, fun h1 c h2 h3 h4 => ?_⟩
  ·simp only [List.length_append, List.length_singleton] at h2
   have hj : j < t.length := by omega
   have := par_lt h1
   rw [at_append_left e hj, at_append_left e (by omega)]
   exact h.heap j h1 hj
  ·simp only [List.length_append, List.length_singleton] at h3
   have := par_lt h2
   omega
 ·have h1 : ∀ k l, k < t.length → l < t.length → pl (at' t k) = pl (at' t l) → k = l := fun k l hk hl e => by
   have h2 := h.tab.here k hk
   rw [e, h.tab.here l hl] at h2
   injection h2 with h2
   omega
  refine ⟨hl, fun k hk hkl => ?_, fun k l hk hl' hkl hll e' => ?_, fun k hk hkl => ?_, hr, fun p hp hpe hno => ?_⟩
  ·simp only [List.length_append, List.length_singleton] at hk
   rw [at_append_left e (by omega)]; exact h.tab.here k (by omega)
  ·simp only [List.length_append, List.length_singleton] at hk hl'
   rw [at_append_left e (by omega), at_append_left e (by omega)] at e'
   exact h1 k l (by omega) (by omega) e'
  ·simp only [List.length_append, List.length_singleton] at hk
   rw [at_append_left e (by omega)]; exact hn k (by omega)
  ·refine h.tab.none p hp (fun k hk => ?_)
   have := hno k (by simp; omega) (by omega)
   rwa [at_append_left e hk] at this
 ·have := riseL_perm (f := f) e (t ++ [e]) t.length hl
  rwa [set_append_last] at this

theorem set_self {t : List α} {i : Nat} {x : α} (hi : i < t.length) (h : at' t i = x) : t.set i x = t := by
 rw [at_get hi] at h
 rw [← h]; simp
/-- What lies at an index sinks, and rises from where it comes to lie. -/
def fixT (f : α → α → Int) (y : α) (t : List α) (i : Nat) : List α := riseL f y (sinkL f y t i).1 (sinkL f y t i).2
def fixA (f : α → α → Int) (pl : α → Nat) (y : α) (t : List α) (A : List Nat) (i : Nat) : List Nat := riseA f pl y (sinkL f y t i).1 (sinkA f pl y t A i) (sinkL f y t i).2
theorem fix_ok (ho : OrdC f) {t : List α} {A : List Nat} {i : Nat} {y : α} (hh : Hole f t i) (hT : TabBut pl t A i y) :
  HeapOK f pl (fixT f y t i) (fixA f pl y t A i) ∧ (fixT f y t i).Perm (t.set i y) ∧ (fixA f pl y t A i).length = A.length ∧ (fixT f y t i).length = t.length ∧
  (sinkL f y t i).2 < t.length ∧ at' (sinkL f y t i).1 (sinkL f y t i).2 = y ∧ (sinkA f pl y t A i)[pl y]? = some ((sinkL f y t i).2 + 1) ∧ (sinkL f y t i).1.length = t.length := by
 obtain ⟨r1, r2, r3, r4, r5, r6⟩ := sinkL_all ho y t i hT.lt hh
 have hTs := sinkA_tab ho y t A i hT
 have hp : (sinkL f y t i).2 < (sinkL f y t i).1.length := by omega
 have hself := set_self hp r4
 have hhole := hTs.hole hp
 rw [r4] at hhole
 refine ⟨⟨riseL_heap ho y _ _ hp (by rw [hself]; exact r6), riseA_tab y _ _ _ hhole⟩, ?_, by rw [fixA, riseA_length, sinkA_length ho], by rw [fixT, riseL_length, r1], r3, r4, ?_, r1⟩
 ·have := riseL_perm (f := f) y _ _ hp
  rw [hself] at this
  exact this.trans r5
 ·have := hTs.here _ hp
  rwa [r4] at this

theorem hole_of_heap (ho : OrdC f) {t : List α} (h : Heap4 f t) {i : Nat} (hi : i < t.length) : Hole f t i := by
 refine ⟨fun j h1 h2 _ _ => h j h1 h2, fun h1 c h2 h3 h4 => ?_⟩
 have e1 := h i h1 hi
 have e2 := h c h2 h3
 rw [h4] at e2
 exact ho.le_trans e1 e2
theorem at_dropLast {t : List α} {k : Nat} (h : k < t.length - 1) : at' t.dropLast k = at' t k := by
 have h1 : k < t.dropLast.length := by simpa using h
 rw [at_get h1, at_get (by omega)]; simp
/-- What is cut out: the last entry comes to its index. -/
theorem cut_hole (ho : OrdC f) {t : List α} {A : List Nat} (h : HeapOK f pl t A) {i : Nat} (hi : i < t.length - 1) :
  Hole f (t.dropLast.set i (at' t (t.length - 1))) i ∧ TabBut pl (t.dropLast.set i (at' t (t.length - 1))) ((A.set (pl (at' t i)) 0).set (pl (at' t (t.length - 1))) (i + 1)) i (at' t (t.length - 1)) := by
 have hil : i < t.length := by omega
 have hT := h.tab.hole hil
 have hh := hole_of_heap ho h.heap hil
 have hl : t.length - 1 < t.length := by omega
 obtain ⟨y, hy⟩ : ∃ y, at' t (t.length - 1) = y := ⟨_, rfl⟩
 have h0 : TabBut pl t.dropLast (A.set (pl (at' t i)) 0) i y := by
  refine ⟨by simpa using hi, fun k hk hki => ?_, fun k l hk hl' hki hli e' => ?_, fun k hk hki => ?_, ?_, fun p hp hpe hno => ?_⟩
  ·simp only [List.length_dropLast] at hk
   rw [at_dropLast hk, List.getElem?_set_ne (fun e => hT.other k (by omega) hki e.symm)]
   exact hT.here k (by omega) hki
  ·simp only [List.length_dropLast] at hk hl'
   rw [at_dropLast hk, at_dropLast hl'] at e'
   exact hT.one k l (by omega) (by omega) hki hli e'
  ·simp only [List.length_dropLast] at hk
   rw [at_dropLast hk, ← hy]
   intro e'
   have := hT.one k (t.length - 1) (by omega) hl hki (by omega) e'
   omega
  ·have := hT.room' hl (by omega : t.length - 1 ≠ i)
   rw [hy] at this
   simpa using this
  ·simp only [List.length_set] at hp
   by_cases hpx : p = pl (at' t i)
   ·subst hpx; rw [List.getElem?_set_self hp]
   ·rw [List.getElem?_set_ne (fun e => hpx e.symm)]
    refine hT.none p hp hpx (fun k hk hki => ?_)
    by_cases hkl : k = t.length - 1
    ·rw [hkl, hy]; exact fun e => hpe e.symm
    ·have hk2 : k < t.length - 1 := by omega
     have := hno k (by simpa using hk2) hki
     rwa [at_dropLast hk2] at this
 rw [hy]
 refine ⟨⟨fun j h1 h2 h3 h4 => ?_, fun h1 c h2 h3 h4 => ?_⟩, ?_⟩
 ·simp only [List.length_set, List.length_dropLast] at h2
  have := par_lt h1
  rw [at_set_ne _ (fun x => h4 x.symm), at_set_ne _ (fun x => h3 x.symm), at_dropLast (by omega), at_dropLast h2]
  exact hh.1 j h1 (by omega) h3 h4
 ·simp only [List.length_set, List.length_dropLast] at h3
  have := par_lt h1
  have := par_lt h2
  rw [at_set_ne _ (by omega : i ≠ par i), at_set_ne _ (by omega : i ≠ c), at_dropLast (by omega), at_dropLast h3]
  exact hh.2 h1 c h2 (by omega) h4
 ·have hf := h0.fill
  have hi2 : i < (t.dropLast.set i y).length := by simpa using hi
  have := hf.hole hi2
  rwa [at_set_same _ (by simpa using hi)] at this
/-- Where the last one is cut out, nothing moves. -/
theorem cut_last {t : List α} {A : List Nat} (h : HeapOK f pl t A) (h0 : 0 < t.length) : HeapOK f pl t.dropLast (A.set (pl (at' t (t.length - 1))) 0) := by
 have hl : t.length - 1 < t.length := by omega
 have hT := h.tab.hole hl
 refine ⟨fun j h1 h2 => ?_, ⟨fun k hk => ?_, fun p hp hno => ?_⟩⟩
 ·simp only [List.length_dropLast] at h2
  have := par_lt h1
  rw [at_dropLast (by omega), at_dropLast h2]
  exact h.heap j h1 (by omega)
 ·simp only [List.length_dropLast] at hk
  rw [at_dropLast hk, List.getElem?_set_ne (fun e => hT.other k (by omega) (by omega) e.symm)]
  exact hT.here k (by omega) (by omega)
 ·simp only [List.length_set] at hp
  by_cases hpx : p = pl (at' t (t.length - 1))
  ·subst hpx; rw [List.getElem?_set_self hp]
  ·rw [List.getElem?_set_ne (fun e => hpx e.symm)]
   refine hT.none p hp hpx (fun k hk hki => ?_)
   have hk2 : k < t.length - 1 := by omega
   have := hno k (by simpa using hk2)
   rwa [at_dropLast hk2] at this
/-- The first one comes before all. -/
theorem heap_first (ho : OrdC f) {t : List α} (h : Heap4 f t) (k : Nat) (hk : k < t.length) : f (at' t 0) (at' t k) ≤ 0 := by
 induction k using Nat.strongRecOn with
 | _ k ih =>
  by_cases h0 : k = 0
  ·subst h0; rw [ho.refl]; exact Int.le_refl 0
  ·have := par_lt (show 0 < k by omega)
   exact ho.le_trans (ih (par k) this (by omega)) (h k (by omega) hk)
/-- Of the same entries there is one list in order. -/
theorem order_one {β : Type} {f : β → β → Int} (ho : OrdC f) {L M : List β} (hL : L.Pairwise (fun a b => f a b ≤ 0)) (hM : M.Pairwise (fun a b => f a b ≤ 0)) (hp : L.Perm M) : L = M :=
 hp.eq_of_pairwise (le := fun a b => decide (f a b ≤ 0)) (fun a b _ _ h1 h2 => by
  have e1 := of_decide_eq_true h1
  have e2 := of_decide_eq_true h2
  have := ho.anti a b
  exact (ho.eq a b).1 (by omega)) (hL.imp (fun h => decide_eq_true h)) (hM.imp (fun h => decide_eq_true h))
end
end Go.Proofs.YtieeloealklkgaaGreat

/-
  What a heap has, as a list in order; plain Lean.
-/
namespace Go.Proofs.YtieeloealklkgaaGreat

/-- A key: time, source, number; an entry: a key and a place. -/
structure Key3 where
 time : Int
 source : Int
 seq : Int
deriving DecidableEq, Inhabited
/-- No key: the type's zero. -/
def zeroK : Key3 := ⟨0, 0, 0⟩
structure Ent where
 key : Key3
 place : Nat
deriving DecidableEq, Inhabited

def cmpI (a b : Int) : Int := if a < b then -1 else if b < a then 1 else 0
def cmpK (a b : Key3) : Int := if a.time ≠ b.time then cmpI a.time b.time else if a.source ≠ b.source then cmpI a.source b.source else cmpI a.seq b.seq
def fieldK (a b : Key3) : Int := if a.time ≠ b.time then 1 else if a.source ≠ b.source then 2 else if a.seq ≠ b.seq then 3 else 0
def ordE (a b : Ent) : Int := if cmpK a.key b.key ≠ 0 then cmpK a.key b.key else cmpI a.place b.place
theorem cmpI_eq (a b : Int) : cmpI a b = 0 ↔ a = b := by unfold cmpI; split <;> (try split) <;> omega
theorem cmpI_anti (a b : Int) : cmpI a b = - cmpI b a := by unfold cmpI; repeat' split <;> omega
theorem cmpI_lt (a b : Int) : cmpI a b < 0 ↔ a < b := by unfold cmpI; split <;> (try split) <;> omega
theorem cmpK_eq (a b : Key3) : cmpK a b = 0 ↔ a = b := by
 obtain ⟨a1, a2, a3⟩ := a
 obtain ⟨b1, b2, b3⟩ := b
 simp only [cmpK, Key3.mk.injEq]
 have h1 := cmpI_eq a1 b1
 have h2 := cmpI_eq a2 b2
 have h3 := cmpI_eq a3 b3
 split
 ·next h => exact ⟨fun e => absurd (h1.1 e) h, fun e => absurd e.1 h⟩
 ·split
  ·next h' h => exact ⟨fun e => absurd (h2.1 e) h, fun e => absurd e.2.1 h⟩
  ·next h' h => exact ⟨fun e => ⟨Decidable.not_not.1 h', Decidable.not_not.1 h, h3.1 e⟩, fun e => h3.2 e.2.2⟩
theorem cmpK_anti (a b : Key3) : cmpK a b = - cmpK b a := by
 unfold cmpK
 have h1 := cmpI_anti a.time b.time
 have h2 := cmpI_anti a.source b.source
 have h3 := cmpI_anti a.seq b.seq
 by_cases e1 : a.time = b.time
 ·by_cases e2 : a.source = b.source
  ·rw [if_neg (by simp [e1]), if_neg (by simp [e2]), if_neg (by simp [e1]), if_neg (by simp [e2])]; exact h3
  ·rw [if_neg (by simp [e1]), if_pos e2, if_neg (by simp [e1]), if_pos (fun h => e2 h.symm)]; exact h2
 ·rw [if_pos e1, if_pos (fun h => e1 h.symm)]; exact h1
theorem cmpK_lt (a b : Key3) : cmpK a b < 0 ↔ a.time < b.time ∨ (a.time = b.time ∧ (a.source < b.source ∨ (a.source = b.source ∧ a.seq < b.seq))) := by
 unfold cmpK
 have h1 := cmpI_lt a.time b.time
 have h2 := cmpI_lt a.source b.source
 have h3 := cmpI_lt a.seq b.seq
 split
 ·rw [h1]; omega
 ·split
  ·rw [h2]; omega
  ·rw [h3]; omega
theorem cmpK_trans (a b c : Key3) (h1 : cmpK a b < 0) (h2 : cmpK b c < 0) : cmpK a c < 0 := by
 rw [cmpK_lt] at *; omega
theorem ordE_lt (a b : Ent) : ordE a b < 0 ↔ cmpK a.key b.key < 0 ∨ (a.key = b.key ∧ a.place < b.place) := by
 unfold ordE
 have h1 := cmpK_eq a.key b.key
 split
 ·next h => exact ⟨fun e => .inl e, fun e => e.elim id (fun e => absurd (h1.2 e.1) h)⟩
 ·next h =>
  have h := Decidable.not_not.1 h
  rw [cmpI_lt]
  exact ⟨fun e => .inr ⟨h1.1 h, by omega⟩, fun e => e.elim (fun e => by omega) (fun e => by omega)⟩
theorem ordE_ord : OrdC ordE where
 eq a b := by
  unfold ordE
  have h1 := cmpK_eq a.key b.key
  have h2 := cmpI_eq a.place b.place
  split
  ·next h => exact ⟨fun e => absurd e h, fun e => absurd (h1.2 (by rw [e])) h⟩
  ·next h =>
   have h := h1.1 (Decidable.not_not.1 h)
   rw [h2]
   exact ⟨fun e => by cases a; cases b; simp at h e; simp [h]; omega, fun e => by rw [e]⟩
 anti a b := by
  unfold ordE
  have h1 := cmpK_anti a.key b.key
  have h2 := cmpI_anti a.place b.place
  by_cases e : cmpK a.key b.key = 0
  ·rw [if_neg (by simp [e]), if_neg (by simp; omega)]; exact h2
  ·rw [if_pos e, if_pos (by omega)]; exact h1
 trans a b c h1 h2 := by
  rw [ordE_lt] at *
  rcases h1 with h1 | ⟨h1, h1'⟩
  ·rcases h2 with h2 | ⟨h2, h2'⟩
   ·exact .inl (cmpK_trans _ _ _ h1 h2)
   ·exact .inl (by rw [← h2]; exact h1)
  ·rcases h2 with h2 | ⟨h2, h2'⟩
   ·exact .inl (by rw [h1]; exact h2)
   ·exact .inr ⟨h1.trans h2, by omega⟩

/-- In order, each once. -/
def Sorted (L : List Ent) : Prop := L.Pairwise (fun a b => ordE a b < 0)
/-- An entry more; one less. -/
def insL (e : Ent) : List Ent → List Ent
 | [] => [e]
 | x :: r => if ordE x e < 0 then x :: insL e r else e :: x :: r
def delL (p : Nat) (L : List Ent) : List Ent := L.filter (fun e => e.place != p)
/-- The key of a place. -/
def look (L : List Ent) (p : Nat) : Option Key3 := (L.find? (fun e => e.place == p)).map (·.key)
/-- Each place once. -/
def Once (L : List Ent) : Prop := (L.map (·.place)).Nodup

theorem insL_perm (e : Ent) (L : List Ent) : (insL e L).Perm (L ++ [e]) := by
 induction L with
 | nil => exact List.Perm.refl _
 | cons x r ih =>
  rw [insL]
  split
  ·exact ih.cons x
  ·refine List.Perm.trans ?_ List.perm_append_comm
   exact List.Perm.refl _
theorem insL_mem {e x : Ent} {L : List Ent} : x ∈ insL e L ↔ x = e ∨ x ∈ L := by
 rw [(insL_perm e L).mem_iff]; simp [or_comm]
theorem insL_sorted {e : Ent} {L : List Ent} (h : Sorted L) (hn : ∀ x ∈ L, x ≠ e) : Sorted (insL e L) := by
 induction L with
 | nil => simp [insL, Sorted]
 | cons x r ih =>
  have h' := List.pairwise_cons.1 h
  rw [insL]
  split
  ·next hlt =>
   refine List.pairwise_cons.2 ⟨fun y hy => ?_, ih h'.2 (fun y hy => hn y (List.mem_cons_of_mem _ hy))⟩
   rcases insL_mem.1 hy with rfl | hy
   ·exact hlt
   ·exact h'.1 y hy
  ·next hge =>
   have hne := hn x List.mem_cons_self
   have h0 : ordE e x < 0 := by
    have h1 := ordE_ord.anti e x
    have h2 : ordE x e ≠ 0 := fun h => hne ((ordE_ord.eq x e).1 h)
    omega
   refine List.pairwise_cons.2 ⟨fun y hy => ?_, h⟩
   rcases List.mem_cons.1 hy with rfl | hy
   ·exact h0
   ·exact ordE_ord.trans _ _ _ h0 (h'.1 y hy)
theorem delL_sorted {p : Nat} {L : List Ent} (h : Sorted L) : Sorted (delL p L) := List.Pairwise.filter _ h
theorem Once.inj {L : List Ent} (h : Once L) {a b : Ent} (ha : a ∈ L) (hb : b ∈ L) (e : a.place = b.place) : a = b := by
 induction L with
 | nil => cases ha
 | cons x r ih =>
  have h' := List.nodup_cons.1 h
  rcases List.mem_cons.1 ha with h1 | h1
  ·rcases List.mem_cons.1 hb with h2 | h2
   ·rw [h1, h2]
   ·subst h1; exact absurd (List.mem_map.2 ⟨b, h2, e.symm⟩) h'.1
  ·rcases List.mem_cons.1 hb with h2 | h2
   ·subst h2; exact absurd (List.mem_map.2 ⟨a, h1, e⟩) h'.1
   ·exact ih h'.2 h1 h2
theorem Once.perm {L M : List Ent} (h : Once L) (hp : L.Perm M) : Once M := (hp.map _).nodup_iff.1 h
theorem insL_once {e : Ent} {L : List Ent} (h : Once L) (hn : ∀ x ∈ L, x.place ≠ e.place) : Once (insL e L) := by
 refine Once.perm ?_ (insL_perm e L).symm
 unfold Once
 rw [List.map_append, List.nodup_append]
 exact ⟨h, by simp, fun a ha b hb => by
  obtain ⟨x, hx, rfl⟩ := List.mem_map.1 ha
  simp at hb; subst hb; exact hn x hx⟩
theorem delL_once {p : Nat} {L : List Ent} (h : Once L) : Once (delL p L) := (List.filter_sublist.map _).nodup h
theorem delL_mem {p : Nat} {x : Ent} {L : List Ent} : x ∈ delL p L ↔ x ∈ L ∧ x.place ≠ p := by simp [delL]

theorem look_some {L : List Ent} (h : Once L) {p : Nat} {k : Key3} : look L p = some k ↔ ⟨k, p⟩ ∈ L := by
 unfold look
 constructor
 ·intro e
  obtain ⟨x, hx, rfl⟩ := Option.map_eq_some_iff.1 e
  have h1 := List.find?_some hx
  have h2 := List.mem_of_find?_eq_some hx
  have : x.place = p := by simpa using h1
  subst this; exact h2
 ·intro e
  cases hf : L.find? (fun x => x.place == p) with
  | none => have := List.find?_eq_none.1 hf _ e; simp at this
  | some x =>
   have h1 := List.find?_some hf
   have h2 := List.mem_of_find?_eq_some hf
   have h3 : x.place = p := by simpa using h1
   have := h.inj h2 e h3
   subst this; rfl
theorem look_none {L : List Ent} {p : Nat} : look L p = none ↔ ∀ x ∈ L, x.place ≠ p := by
 unfold look
 rw [Option.map_eq_none_iff, List.find?_eq_none]
 simp
theorem del_cons {x : Ent} {r : List Ent} (h : Once (x :: r)) : delL x.place (x :: r) = r := by
 have h' := List.nodup_cons.1 h
 unfold delL
 rw [List.filter_cons_of_neg (by simp)]
 refine List.filter_eq_self.2 (fun y hy => ?_)
 simp only [bne_iff_ne, ne_eq]
 exact fun e => h'.1 (List.mem_map.2 ⟨y, hy, e⟩)

/-
  Rows of elements of several cells; plain Lean.
-/

section
variable {α β : Type} {f : α → List β} {k : Nat}
theorem flat_len (hk : ∀ x, (f x).length = k) (P : List α) : (P.flatMap f).length = P.length * k := by
 induction P with
 | nil => simp
 | cons x r ih => rw [List.flatMap_cons, List.length_append, ih, hk, List.length_cons, Nat.succ_mul]; omega
theorem flat_at (hk : ∀ x, (f x).length = k) (P : List α) (i j : Nat) (hj : j < k) : (P.flatMap f)[i * k + j]? = P[i]?.bind fun x => (f x)[j]? := by
 induction P generalizing i with
 | nil => simp
 | cons x r ih =>
  rw [List.flatMap_cons]
  cases i with
  | zero => rw [Nat.zero_mul, Nat.zero_add, List.getElem?_append_left (by rw [hk]; exact hj)]; rfl
  | succ i =>
   rw [List.getElem?_append_right (by rw [hk, Nat.succ_mul]; omega), hk, show (i + 1) * k + j - k = i * k + j by rw [Nat.succ_mul]; omega, ih]
   rfl
theorem flat_some (hk : ∀ x, (f x).length = k) {P : List α} {i : Nat} {x : α} (hx : P[i]? = some x) {j : Nat} (hj : j < k) {v : β} (hv : (f x)[j]? = some v) : (P.flatMap f)[i * k + j]? = some v := by
 rw [flat_at hk P i j hj, hx]; exact hv
/-- One cell is written. -/
theorem flat_set (hk : ∀ x, (f x).length = k) {P : List α} {i : Nat} {x x' : α} (hx : P[i]? = some x) {j : Nat} (hj : j < k) {v : β} (hv : f x' = (f x).set j v) : (P.flatMap f).set (i * k + j) v = (P.set i x').flatMap f := by
 have hil := (List.getElem?_eq_some_iff.1 hx).1
 induction P generalizing i with
 | nil => simp at hil
 | cons y r ih =>
  cases i with
  | zero =>
   simp only [List.getElem?_cons_zero, Option.some.injEq] at hx
   subst hx
   rw [List.flatMap_cons, Nat.zero_mul, Nat.zero_add, List.set_append_left _ _ (by rw [hk]; exact hj), ← hv, List.set_cons_zero, List.flatMap_cons]
  | succ i =>
   rw [List.flatMap_cons, List.set_append_right _ _ (by rw [hk, Nat.succ_mul]; omega), hk, show (i + 1) * k + j - k = i * k + j by rw [Nat.succ_mul]; omega,
    ih (by simpa using hx) (by simpa using hil), List.set_cons_succ, List.flatMap_cons]
/-- All cells of an element are written. -/
theorem flat_ext (hk : ∀ x, (f x).length = k) (P : List α) (l : List β) (hl : l.length = P.length * k) (h : ∀ i x, P[i]? = some x → ∀ j, j < k → l[i * k + j]? = (f x)[j]?) : l = P.flatMap f := by
 apply List.ext_getElem?
 intro q
 by_cases hq : q < P.length * k
 ·have hk0 : 0 < k := by
   rcases Nat.eq_zero_or_pos k with h0 | h0
   ·subst h0; simp at hq
   ·exact h0
  have hi : q / k < P.length := (Nat.div_lt_iff_lt_mul hk0).2 hq
  have hj := Nat.mod_lt q hk0
  have he : q / k * k + q % k = q := by rw [Nat.mul_comm]; exact Nat.div_add_mod q k
  have h1 := h (q / k) _ (List.getElem?_eq_getElem hi) (q % k) hj
  have h2 := flat_at hk P (q / k) (q % k) hj
  rw [he] at h1 h2
  rw [h1, h2, List.getElem?_eq_getElem hi]
  rfl
 ·rw [List.getElem?_eq_none (by omega), List.getElem?_eq_none (by rw [flat_len hk]; omega)]
end
end Go.Proofs.YtieeloealklkgaaGreat

/-
  Frames: 'Fr S w w'' says that of the blocks that were there only those in S may have turned.
-/
namespace Go.Proofs.YtieeloealklkgaaGreat
open Go.RowKit

/-- Of the blocks that were there only those in S may have turned; new ones may have come. -/
structure Fr (S : Nat → Prop) (w w' : World) : Prop where
 os : w'.os = w.os
 tape : w'.tape = w.tape
 output : w'.output = w.output
 size : w.heap.size ≤ w'.heap.size
 block : ∀ k, k < w.heap.size → ¬ S k → w'.heap[k]? = w.heap[k]?
 drawn : w.drawn ≤ w'.drawn

def none' : Nat → Prop := fun _ => False
def from' (B : Nat) : Nat → Prop := fun k => B ≤ k

theorem Fr.refl (S : Nat → Prop) (w : World) : Fr S w w := ⟨rfl, rfl, rfl, Nat.le_refl _, fun _ _ _ => rfl, Nat.le_refl _⟩
theorem Fr.trans {S : Nat → Prop} {a b c : World} (h : Fr S a b) (k : Fr S b c) : Fr S a c :=
 ⟨k.os.trans h.os, k.tape.trans h.tape, k.output.trans h.output, Nat.le_trans h.size k.size, fun i hi hs => (k.block i (Nat.lt_of_lt_of_le hi h.size) hs).trans (h.block i hi hs), Nat.le_trans h.drawn k.drawn⟩
theorem Fr.trans' {S S' : Nat → Prop} {a b c : World} (h : Fr S a b) (k : Fr S' b c) (hS : ∀ k, k < a.heap.size → S' k → S k) : Fr S a c :=
 ⟨k.os.trans h.os, k.tape.trans h.tape, k.output.trans h.output, Nat.le_trans h.size k.size, fun i hi hs => (k.block i (Nat.lt_of_lt_of_le hi h.size) (fun x => hs (hS i hi x))).trans (h.block i hi hs), Nat.le_trans h.drawn k.drawn⟩
theorem Fr.mono {S S' : Nat → Prop} {a b : World} (h : Fr S a b) (hS : ∀ k, k < a.heap.size → S k → S' k) : Fr S' a b :=
 ⟨h.os, h.tape, h.output, h.size, fun k hk hs => h.block k hk (fun x => hs (hS k hk x)), h.drawn⟩
theorem Fr.drew {S : Nat → Prop} {a w : World} (h : Fr S a w) : Fr S a w.drew := ⟨h.os, h.tape, h.output, h.size, h.block, Nat.le_trans h.drawn (Nat.le_succ _)⟩
theorem Fr.drewN {S : Nat → Prop} {a w : World} (h : Fr S a w) (n : Nat) : Fr S a (w.drewN n) := ⟨h.os, h.tape, h.output, h.size, h.block, Nat.le_trans h.drawn (Nat.le_add_right _ _)⟩
theorem Fr.alloc {S : Nat → Prop} {a w : World} (h : Fr S a w) (o : Obj) : Fr S a (w.alloc o) :=
 ⟨h.os, h.tape, h.output, by have := h.size; simp; omega, fun k hk hs => (Below.heap_alloc w o k (Nat.lt_of_lt_of_le hk h.size)).trans (h.block k hk hs), h.drawn⟩
theorem Fr.setCell {S : Nat → Prop} {a w : World} (h : Fr S a w) {b o : Nat} (hp : b < a.heap.size → S b) (u : Value) : Fr S a (w.setCell ⟨b, o, none⟩ u) :=
 ⟨h.os, h.tape, h.output, by have := h.size; simp [World.setCell]; omega, fun k hk hs => (Below.heap_setCell w ⟨b, o, none⟩ u k (fun e => hs (by subst e; exact hp hk))).trans (h.block k hk hs), h.drawn⟩
theorem Fr.grown {S : Nat → Prop} {a w w' : World} {row : Option Nat} (h : Fr S a w) (hg : w.grownBy w' row) (hd : w.drawn ≤ w'.drawn) (hr : ∀ k, row = some k → k < a.heap.size → S k) : Fr S a w' :=
 ⟨hg.os.trans h.os, hg.tape.trans h.tape, hg.output.trans h.output, Nat.le_trans h.size hg.size,
  fun k hk hs => (hg.block k (Nat.lt_of_lt_of_le hk h.size) (fun e => hs (hr k e.symm hk))).trans (h.block k hk hs), Nat.le_trans h.drawn hd⟩
theorem Fr.putObj {S : Nat → Prop} {a w : World} (h : Fr S a w) {r : Nat} (hp : r < a.heap.size → S r) (o : Obj) : Fr S a (w.putObj r o) :=
 ⟨h.os, h.tape, h.output, by have := h.size; simp [World.putObj]; omega, fun k hk hs => (World.putObj_heap_other (fun e => hs (by subst e; exact hp hk))).trans (h.block k hk hs), h.drawn⟩
theorem Fr.below {S : Nat → Prop} {B : Nat} {w w' : World} (h : Fr S w w') (hB : B ≤ w.heap.size) (hS : ∀ k, k < B → ¬ S k) : Below B w w' :=
 ⟨h.os, h.tape, h.output, h.size, fun k hk => h.block k (Nat.lt_of_lt_of_le hk hB) (hS k hk)⟩
theorem Fr.cell {S : Nat → Prop} {w w' : World} (h : Fr S w w') {p : Addr} (hp : p.block < w.heap.size) (hs : ¬ S p.block) : w'.cell? p = w.cell? p := World.cell?_of_block (w := w) (h.block p.block hp hs)
/-- A block that is known whole: one cell, not frozen. -/
def Box (w : World) (b : Nat) (v : Value) : Prop := ∃ t, w.heap[b]? = some (.cells #[v] t (0, 0))
theorem Box.lt {w : World} {b : Nat} {v : Value} (h : Box w b v) : b < w.heap.size := by obtain ⟨t, h⟩ := h; exact (Array.getElem?_eq_some_iff.1 h).1
theorem Box.cell {w : World} {b : Nat} {v : Value} (h : Box w b v) : w.cell? ⟨b, 0, none⟩ = some v := by obtain ⟨t, h⟩ := h; simp [World.cell?, h]
theorem Box.frozen {w : World} {b : Nat} {v : Value} (h : Box w b v) : w.frozen? ⟨b, 0, none⟩ = false := by obtain ⟨t, h⟩ := h; simp [World.frozen?, h]
theorem Box.of_block {w w' : World} {b : Nat} {v : Value} (h : Box w b v) (e : w'.heap[b]? = w.heap[b]?) : Box w' b v := by obtain ⟨t, h⟩ := h; exact ⟨t, e.trans h⟩
theorem Box.fr {S : Nat → Prop} {w w' : World} {b : Nat} {v : Value} (h : Box w b v) (hf : Fr S w w') (hs : ¬ S b) : Box w' b v := h.of_block (hf.block b h.lt hs)
theorem Box.new (w : World) (v : Value) (t : TypeId) : Box (w.alloc (.cells #[v] t)) w.heap.size v := ⟨t, World.alloc_heap_new w _⟩
theorem Box.alloc {w : World} {b : Nat} {v : Value} (h : Box w b v) (o : Obj) : Box (w.alloc o) b v := h.of_block (Below.heap_alloc w o b h.lt)
theorem Box.set {w : World} {b : Nat} {v : Value} (h : Box w b v) (u : Value) : Box (w.setCell ⟨b, 0, none⟩ u) b u := by
 obtain ⟨t, h⟩ := h
 refine ⟨t, ?_⟩
 simp [World.setCell, Array.getElem?_modify, h]
theorem Box.setOther {w : World} {b : Nat} {v : Value} (h : Box w b v) {a : Addr} (hne : b ≠ a.block) (u : Value) : Box (w.setCell a u) b v := h.of_block (Below.heap_setCell w a u b hne)

theorem ret_bool {a b : Bool} (h : a = b) : Ending.returned (.bool a) = .returned (.bool b) := by rw [h]
/-
  Frames without the count of draws.
-/

/-- Of the blocks that were there only those in S may have turned; nothing is said of the count of draws. -/
structure Fr0 (S : Nat → Prop) (w w' : World) : Prop where
 os : w'.os = w.os
 tape : w'.tape = w.tape
 output : w'.output = w.output
 size : w.heap.size ≤ w'.heap.size
 block : ∀ k, k < w.heap.size → ¬ S k → w'.heap[k]? = w.heap[k]?
theorem Fr0.refl (S : Nat → Prop) (w : World) : Fr0 S w w := ⟨rfl, rfl, rfl, Nat.le_refl _, fun _ _ _ => rfl⟩
theorem Fr.to0 {S : Nat → Prop} {w w' : World} (h : Fr S w w') : Fr0 S w w' := ⟨h.os, h.tape, h.output, h.size, h.block⟩
theorem below_to0 {w w' : World} (h : Below w.heap.size w w') : Fr0 none' w w' := ⟨h.os, h.tape, h.output, h.size, fun k hk _ => h.block k hk⟩
theorem Fr0.trans' {S S' : Nat → Prop} {a b c : World} (h : Fr0 S a b) (k : Fr0 S' b c) (hS : ∀ k, k < a.heap.size → S' k → S k) : Fr0 S a c :=
 ⟨k.os.trans h.os, k.tape.trans h.tape, k.output.trans h.output, Nat.le_trans h.size k.size, fun i hi hs => (k.block i (Nat.lt_of_lt_of_le hi h.size) (fun x => hs (hS i hi x))).trans (h.block i hi hs)⟩
theorem Fr0.trans {S : Nat → Prop} {a b c : World} (h : Fr0 S a b) (k : Fr0 S b c) : Fr0 S a c := h.trans' k (fun _ _ h => h)
theorem Fr0.mono {S S' : Nat → Prop} {a b : World} (h : Fr0 S a b) (hS : ∀ k, k < a.heap.size → S k → S' k) : Fr0 S' a b := ⟨h.os, h.tape, h.output, h.size, fun k hk hs => h.block k hk (fun x => hs (hS k hk x))⟩
theorem Fr0.below {S : Nat → Prop} {B : Nat} {w w' : World} (h : Fr0 S w w') (hB : B ≤ w.heap.size) (hS : ∀ k, k < B → ¬ S k) : Below B w w' :=
 ⟨h.os, h.tape, h.output, h.size, fun k hk => h.block k (Nat.lt_of_lt_of_le hk hB) (hS k hk)⟩
theorem Fr0.cell {S : Nat → Prop} {w w' : World} (h : Fr0 S w w') {p : Addr} (hp : p.block < w.heap.size) (hs : ¬ S p.block) : w'.cell? p = w.cell? p := World.cell?_of_block (w := w) (h.block p.block hp hs)
theorem Fr0.later {w w' : World} (h : Fr0 none' w w') {p : Addr} {v : Value} (hc : w.cell? p = some v) : w'.cell? p = some v := by
 rw [h.cell (World.block_lt_of_cell? _ _ hc) id]; exact hc
theorem Box.fr0 {S : Nat → Prop} {w w' : World} {b : Nat} {v : Value} (h : Box w b v) (hf : Fr0 S w w') (hs : ¬ S b) : Box w' b v := h.of_block (hf.block b h.lt hs)
theorem ownsRow_fr0 {S : Nat → Prop} {w w' : World} {base : Nat} {e : TypeId} {size : Nat} {v : Value} {n : Nat} {xs : List Value} (h : w.ownsRow base e size v n xs) (hf : Fr0 S w w')
  (hs : ∀ g, v.ownBlock = some g → ¬ S g) : w'.ownsRow base e size v n xs := by
 obtain ⟨h1, h2⟩ := h
 refine ⟨h1, ?_⟩
 rcases h2 with h2 | ⟨g, cap, cur, hv, hg, hh, r⟩
 ·exact Or.inl h2
 ·refine Or.inr ⟨g, cap, cur, hv, hg, ?_, r⟩
  rw [hf.block g (Array.getElem?_eq_some_iff.1 hh).1 (hs g (by rw [hv]; rfl))]; exact hh
theorem Fr0.drew {S : Nat → Prop} {a w : World} (h : Fr0 S a w) : Fr0 S a w.drew := ⟨h.os, h.tape, h.output, h.size, h.block⟩
theorem Fr0.drewN {S : Nat → Prop} {a w : World} (h : Fr0 S a w) (n : Nat) : Fr0 S a (w.drewN n) := ⟨h.os, h.tape, h.output, h.size, h.block⟩
theorem Fr0.alloc {S : Nat → Prop} {a w : World} (h : Fr0 S a w) (o : Obj) : Fr0 S a (w.alloc o) :=
 ⟨h.os, h.tape, h.output, by have := h.size; simp; omega, fun k hk hs => (Below.heap_alloc w o k (Nat.lt_of_lt_of_le hk h.size)).trans (h.block k hk hs)⟩
theorem Fr0.setCell {S : Nat → Prop} {a w : World} (h : Fr0 S a w) {b o : Nat} (hp : b < a.heap.size → S b) (u : Value) : Fr0 S a (w.setCell ⟨b, o, none⟩ u) :=
 ⟨h.os, h.tape, h.output, by have := h.size; simp [World.setCell]; omega, fun k hk hs => (Below.heap_setCell w ⟨b, o, none⟩ u k (fun e => hs (by subst e; exact hp hk))).trans (h.block k hk hs)⟩
theorem Fr0.grown {S : Nat → Prop} {a w w' : World} {row : Option Nat} (h : Fr0 S a w) (hg : w.grownBy w' row) (hr : ∀ k, row = some k → k < a.heap.size → S k) : Fr0 S a w' :=
 ⟨hg.os.trans h.os, hg.tape.trans h.tape, hg.output.trans h.output, Nat.le_trans h.size hg.size, fun k hk hs => (hg.block k (Nat.lt_of_lt_of_le hk h.size) (fun e => hs (hr k e.symm hk))).trans (h.block k hk hs)⟩
theorem Fr0.putObj {S : Nat → Prop} {a w : World} (h : Fr0 S a w) {r : Nat} (hp : r < a.heap.size → S r) (o : Obj) : Fr0 S a (w.putObj r o) :=
 ⟨h.os, h.tape, h.output, by have := h.size; simp [World.putObj]; omega, fun k hk hs => (World.putObj_heap_other (fun e => hs (by subst e; exact hp hk))).trans (h.block k hk hs)⟩
/-
  A range over a function whose iterator gives a known list of values, may turn blocks of its own (captured variables), and reads blocks that the body keeps.
-/

/-- The blocks in R are as they were. -/
def Keep (R : Nat → Prop) (w w' : World) : Prop := w.heap.size ≤ w'.heap.size ∧ ∀ k, R k → w'.heap[k]? = w.heap[k]?
theorem Keep.refl (R : Nat → Prop) (w : World) : Keep R w w := ⟨Nat.le_refl _, fun _ _ => rfl⟩
theorem Keep.trans {R : Nat → Prop} {a b c : World} (h : Keep R a b) (k : Keep R b c) : Keep R a c := ⟨Nat.le_trans h.1 k.1, fun i hi => (k.2 i hi).trans (h.2 i hi)⟩
theorem Fr.keep {S R : Nat → Prop} {w w' : World} (h : Fr S w w') (hR : ∀ k, R k → k < w.heap.size ∧ ¬ S k) : Keep R w w' := ⟨h.size, fun k hk => h.block k (hR k hk).1 (hR k hk).2⟩

/-- The iterator 'gf' with what it has captured, in w: it gives the values xs, one after the other; it turns no block but those in 'own', and it needs those in 'rd' kept. -/
def Iter {α : Type} (P : Program) (gf : Nat) (lb : Array Value) (encs : α → Array Value) (xs : List α) (own rd : Nat → Prop) (w : World) : Prop :=
 ∀ (l : Nat) (J : Nat → World → Prop) (Jx : World → Prop) (W : World), Keep rd w W →
  (∀ i W1 W2, J i W1 → Fr own W1 W2 → J i W2) → (∀ W1 W2, Jx W1 → Fr own W1 W2 → Jx W2) →
  (∀ i x W1, xs[i]? = some x → J i W1 → YieldAt Fence.wide 0 P l (encs x) W1 fun e W2 =>
   (e = .returned (.bool true) ∧ J (i + 1) W2 ∧ Keep rd W1 W2) ∨ (e = .returned (.bool false) ∧ Jx W2)) →
  J 0 W →
  CallsIn Fence.wide 0 P gf (#[.func (.yield l) #[] #[]] ++ lb) W fun e W' => (∃ v, e = .returned v) ∧ (J xs.length W' ∨ Jx W')

/-- How a round's body may be left. -/
def iterPost (S : Nat → Prop) (I : Nat → World → Prop) (Ix : Code → World → Prop) (i : Nat) (W : World) : Exit → Act → World → Prop
 | .normal, _, W' => ∃ S', Fr S' W W' ∧ (∀ k, S' k → S k → False) ∧ I i W'
 | .ret, _, W' => ∃ S', Fr S' W W' ∧ (∀ k, S' k → S k → False) ∧ Ix .ret W'
 | .exit id, _, W' => ∃ S', Fr S' W W' ∧ (∀ k, S' k → S k → False) ∧ Ix (.exit id) W'
 | .goto t, _, W' => ∃ S', Fr S' W W' ∧ (∀ k, S' k → S k → False) ∧ Ix (.goto t) W'
 | .panic _, _, _ => False
 | .outgrown, _, _ => False

variable {P : Program}

theorem Fr.putNew {a : World} {S : Nat → Prop} (r : Nat) (o : Obj) (hp : S r) : Fr S a (a.putObj r o) := (Fr.refl S a).putObj (fun _ => hp) o

theorem wide_fn (k : Nat) : Fence.wide.fn k = True := rfl
theorem wide_depth : Fence.wide.depth = none := rfl
theorem wide_fnR (l k : Nat) : (Fence.wide.inRound l).fn k = True := rfl
theorem wide_depthR (l : Nat) : (Fence.wide.inRound l).depth = none := rfl
end Go.Proofs.YtieeloealklkgaaGreat

/-
  A range over a function whose iterator keeps blocks of its own that it makes while it runs.
-/
namespace Go.Proofs.YtieeloealklkgaaGreat
open Go.RowKit

/-- Like Iter; the iterator may have blocks of its own, X, made since it was called; the body keeps them. -/
def IterX {α : Type} (P : Program) (gf : Nat) (lb : Array Value) (encs : α → Array Value) (xs : List α) (own rd : Nat → Prop) (w : World) : Prop :=
 ∀ (l : Nat) (J : Nat → (Nat → Prop) → World → Prop) (Jx : World → Prop) (W : World), Keep rd w W →
  (∀ i X Y W1 W2, J i X W1 → Fr (fun k => own k ∨ X k) W1 W2 → (∀ k, Y k → X k ∨ (W1.heap.size ≤ k ∧ k < W2.heap.size)) → J i Y W2) →
  (∀ W1 W2, Jx W1 → Fr own W1 W2 → Jx W2) →
  (∀ i x X W1, xs[i]? = some x → J i X W1 → YieldAt Fence.wide 0 P l (encs x) W1 fun e W2 =>
   (e = .returned (.bool true) ∧ J (i + 1) X W2 ∧ Keep (fun k => rd k ∨ X k) W1 W2) ∨ (e = .returned (.bool false) ∧ Jx W2)) →
  J 0 none' W →
  CallsIn Fence.wide 0 P gf (#[.func (.yield l) #[] #[]] ++ lb) W fun e W' => (∃ v, e = .returned v) ∧ ((∃ X, J xs.length X W') ∨ Jx W')
theorem Iter.x {α : Type} {P : Program} {gf : Nat} {lb : Array Value} {encs : α → Array Value} {xs : List α} {own rd : Nat → Prop} {w : World} (h : Iter P gf lb encs xs own rd w) : IterX P gf lb encs xs own rd w := by
 intro l J Jx W hK hJ hJx hY h0
 refine CallsIn.mono (h l (fun i W => J i none' W) Jx W hK (fun i W1 W2 h1 hf => hJ i none' none' W1 W2 h1 (hf.mono (fun k _ h => .inl h)) (fun k hk => hk.elim)) hJx (fun i x W1 hx h1 => ?_) h0) ?_
 ·obtain ⟨fn, tmps, assign, body, hy, hR⟩ := hY i x none' W1 hx h1
  refine ⟨fn, tmps, assign, body, hy, hR.mono ?_⟩
  rintro e W2 (⟨rfl, h2, hk⟩ | h2)
  ·exact .inl ⟨rfl, h2, hk.1, fun k hr => hk.2 k (.inl hr)⟩
  ·exact .inr h2
 ·rintro e W' ⟨hv, h1 | h1⟩
  ·exact ⟨hv, .inl ⟨_, h1⟩⟩
  ·exact ⟨hv, .inr h1⟩

variable {P : Program}

/-- THE LAW. 'I i W': i values have come. It must outlive turns of 'own' and of the loop's two blocks. The body must turn none of 'rd' and none of the loop's two blocks. -/
theorem wpIn_iterX {α : Type} {g : Operand} {ps : Array Tmp} {assign body : Code} {Q : Exit → Act → World → Prop} {a : Act} {w : World}
  {gf : Nat} {lb : Array Value} (hg : a.eval g = .func (.func gf) #[] lb) (eg : ∀ args w, (callFunc gf args).run P w = .ok (.enter gf args) w)
  {encs : α → Array Value} {xs : List α} {own rd : Nat → Prop} {w0 : World} (hseq : IterX P gf lb encs xs own rd w0) (hb0 : Keep rd w0 w) (hps : ∀ x, (encs x).size = ps.size)
  (hown : ∀ k, own k → k < w.heap.size) (hrd : ∀ k, rd k → k < w.heap.size)
  (I : Nat → (Nat → Prop) → World → Prop) (Ix : Code → World → Prop)
  (hI : ∀ i X Y W1 W2, I i X W1 → (∀ k, X k → w.heap.size + 1 < k ∧ k < W1.heap.size) → Fr (fun k => own k ∨ X k ∨ k = w.heap.size ∨ k = w.heap.size + 1) W1 W2 → (∀ k, Y k → X k ∨ (W1.heap.size ≤ k ∧ k < W2.heap.size)) → I i Y W2)
  (hIx : ∀ c W1 W2, Ix c W1 → Fr (fun k => own k ∨ k = w.heap.size ∨ k = w.heap.size + 1) W1 W2 → Ix c W2) (h0 : I 0 none' w) (a₁ : α → World → Act → Prop)
  (hassign : ∀ (l : Nat) (x : α) (W : World) (K : Act → World → Prop), w.heap.size + 1 < W.heap.size → (∀ a' W', a₁ x W' a' → Fr none' W W' → K a' W') →
   assign.wpIn (Fence.wide.inRound l) 0 P (Exit.then K (fun _ _ _ => False)) { tmps := (ps.zip (encs x)).foldl (fun t (p, v) => t.setIfInBounds p v) a.tmps, defers := [] } W)
  (ha₁ : ∀ x W1 W2 a', a₁ x W1 a' → Fr (fun k => k = w.heap.size + 1) W1 W2 → a₁ x W2 a')
  (hbody : ∀ (l i : Nat) (x : α) (X : Nat → Prop) (W : World) (a' : Act) (r : Loop), xs[i]? = some x → I i X W → (∀ k, X k → w.heap.size + 1 < k ∧ k < W.heap.size) → a₁ x W a' → W.heap[w.heap.size]? = some (.deferred (some [])) → W.heap[w.heap.size + 1]? = some (.loop r) →
   body.wpIn (Fence.wide.inRound l) 0 P (iterPost (fun k => rd k ∨ X k ∨ k = w.heap.size ∨ k = w.heap.size + 1) (fun i => I i X) Ix (i + 1) W) a' W)
  (hdone : ∀ (D : Nat) (X : Nat → Prop) (W : World), D = w.heap.size → I xs.length X W → W.heap[D]? = some (.deferred (some [])) → Q .normal { a with defers := { target := .collected D, args := #[] } :: a.defers } W)
  (hstop : ∀ (D : Nat) (c : Code) (W : World), D = w.heap.size → Ix c W → W.heap[D]? = some (.deferred (some [])) → c.wpIn Fence.wide 0 P Q { a with defers := { target := .collected D, args := #[] } :: a.defers } W) :
  (Code.rangeFunc g ps assign body).wpIn Fence.wide 0 P Q a w := by
 refine wpIn_rangeFunc ?_
 intro fn hfn
 obtain ⟨rec, hrec⟩ : ∃ rec : LoopState → Option Code → Loop, rec = fun st pe => { state := st, pending := pe, fn, tmps := a.tmps, params := ps, assign, body, defers := w.heap.size } := ⟨_, rfl⟩
 obtain ⟨B, hB⟩ : ∃ B, w.heap.size = B := ⟨_, rfl⟩
 obtain ⟨W1, hW1⟩ : ∃ W1, (w.alloc (.deferred (some []))).alloc (.loop (rec .ready none)) = W1 := ⟨_, rfl⟩
 have hf1 : Fr none' w W1 := by rw [← hW1]; exact ((Fr.refl _ _).alloc _).alloc _
 have hL1 : W1.heap[B + 1]? = some (.loop (rec .ready none)) := by
  rw [← hW1, ← hB]; have := World.alloc_heap_new (w.alloc (.deferred (some []))) (.loop (rec .ready none)); rwa [World.size_alloc] at this
 have hK1 : W1.heap[B]? = some (.deferred (some [])) := by
  rw [← hW1, ← hB]; exact (Below.heap_alloc _ _ _ (by simp)).trans (World.alloc_heap_new w _)
 rw [hB] at hI hIx hbody hdone hstop hassign ha₁ hown hrd
 have hI1 : I 0 none' W1 := hI _ _ none' _ _ h0 (fun k h => h.elim) (hf1.mono (fun k _ h => h.elim)) (fun k h => h.elim)
 refine ⟨B + 1, [{ target := .collected B, args := #[] }], W1, { target := .fn (.func gf) lb, args := #[.func (.yield (B + 1)) #[] #[]] }, W1, gf,
  #[.func (.yield (B + 1)) #[] #[]] ++ lb, W1, ?_, ?_, fun _ _ => trivial, ?_, fun h => by simp [Fence.wide] at h, ?_⟩
 ·have := run_enterLoop_outer (P := P) (w := w) fn a.tmps ps assign body
  rw [← hW1, hrec]
  simp only [hB] at this ⊢
  exact this
 ·simp only [resolve, hg]
  simp [go_sem]
 ·simp [invoke, go_sem, eg]
 ·refine CallsIn.mono ((hseq (B + 1)
   (fun i X W => I i X W ∧ (∀ k, X k → B + 1 < k ∧ k < W.heap.size) ∧ W.heap[B + 1]? = some (.loop (rec .ready none)) ∧ W.heap[B]? = some (.deferred (some [])))
   (fun W => ∃ c, Ix c W ∧ W.heap[B + 1]? = some (.loop (rec .done (some c))) ∧ W.heap[B]? = some (.deferred (some [])))
   W1 (hb0.trans (hf1.keep (fun k hk => ⟨by rw [hB]; exact hrd k hk, id⟩)))
   ?_ ?_ ?_ ⟨hI1, fun k h => h.elim, hL1, hK1⟩)) ?_
  ·rintro i X Y A C ⟨hi, hX, hl, hk⟩ hf hY
   have l1 := (Array.getElem?_eq_some_iff.1 hl).1
   have l2 := hf.size
   refine ⟨hI i X Y A C hi hX (hf.mono (fun k _ h => h.elim .inl (fun h => .inr (.inl h)))) hY, fun k hk => ?_, (hf.block _ l1 (fun h => ?_)).trans hl, (hf.block _ (by omega) (fun h => ?_)).trans hk⟩
   ·rcases hY k hk with h | h
    ·have := hX k h; omega
    ·omega
   ·rcases h with h | h
    ·have := hown _ h; omega
    ·have := hX _ h; omega
   ·rcases h with h | h
    ·have := hown _ h; omega
    ·have := hX _ h; omega
  ·rintro A C ⟨c, hi, hl, hk⟩ hf
   have l1 := (Array.getElem?_eq_some_iff.1 hl).1
   exact ⟨c, hIx c A C hi (hf.mono (fun k _ h => .inl h)), (hf.block _ l1 (fun h => by have := hown _ h; omega)).trans hl, (hf.block _ (by omega) (fun h => by have := hown _ h; omega)).trans hk⟩
  ·rintro i x X W hx ⟨hi, hX, hl, hk⟩
   have hlt : B + 1 < W.heap.size := (Array.getElem?_eq_some_iff.1 hl).1
   have hy := run_yield (P := P) (args := encs x) hl (by rw [hrec]; exact hps x)
   rw [hrec] at hy
   refine ⟨fn, _, assign, body, hy, roundIn_of_wpIn (n := 0) hfn (hassign _ x W _ hlt ?_)⟩
   intro a' W' ha' hf'
   have hl' : W'.heap[B + 1]? = some (.loop (rec .ready none)) := (hf'.block _ hlt id).trans hl
   have hk' : W'.heap[B]? = some (.deferred (some [])) := (hf'.block _ (by omega) id).trans hk
   have hlt' : B + 1 < W'.heap.size := (Array.getElem?_eq_some_iff.1 hl').1
   refine ⟨_, run_beginRound hl' (by rw [hrec]), ?_⟩
   obtain ⟨W2, hW2⟩ : ∃ W2, W'.putObj (B + 1) (.loop { rec .ready none with state := .busy }) = W2 := ⟨_, rfl⟩
   have hf2 : Fr (fun k => k = B + 1) W' W2 := by rw [← hW2]; exact Fr.putNew _ _ rfl
   have hl2 : W2.heap[B + 1]? = some (.loop { rec .ready none with state := .busy }) := by rw [← hW2]; exact World.putObj_heap_same hlt'
   have hk2 : W2.heap[B]? = some (.deferred (some [])) := (hf2.block _ (by omega) (by omega)).trans hk'
   rw [hW2]
   have hX' : ∀ k, X k → B + 1 < k ∧ k < W'.heap.size := fun k hk => ⟨(hX k hk).1, Nat.lt_of_lt_of_le (hX k hk).2 hf'.size⟩
   have hX2 : ∀ k, X k → B + 1 < k ∧ k < W2.heap.size := fun k hk => ⟨(hX k hk).1, Nat.lt_of_lt_of_le (hX' k hk).2 hf2.size⟩
   have hi2 : I i X W2 := hI _ _ _ _ _ (hI _ _ _ _ _ hi hX (hf'.mono (fun k _ h => h.elim)) (fun k h => .inl h)) hX' (hf2.mono (fun k _ h => .inr (.inr (.inr h)))) (fun k h => .inl h)
   have hrx : ∀ k, (rd k ∨ X k) → k < W.heap.size ∧ k ≠ B ∧ k ≠ B + 1 := fun k h => by
    rcases h with h | h
    ·have := hrd k h; omega
    ·have := hX k h; omega
   have z1 := hf'.size
   have z2 := hf2.size
   have kW2 : Keep (fun k => rd k ∨ X k) W W2 := (hf'.keep (fun k hk => ⟨(hrx k hk).1, id⟩)).trans (hf2.keep (fun k hk => ⟨by have := hrx k hk; omega, (hrx k hk).2.2⟩))
   refine wpIn_mono (hbody _ i x X W2 a' _ hx hi2 hX2 (ha₁ _ _ _ _ ha' hf2) hk2 hl2) ?_
   have fin : ∀ (jump : Option Code) (W3 : World) (S' : Nat → Prop), Fr S' W2 W3 → (∀ k, S' k → (rd k ∨ X k ∨ k = B ∨ k = B + 1) → False) →
     (Instr.endRound (B + 1) jump).run P W3 = .ok (.bool jump.isNone) (W3.putObj (B + 1) (.loop (rec (if jump.isNone then .ready else .done) jump))) ∧
     (W3.putObj (B + 1) (.loop (rec (if jump.isNone then .ready else .done) jump))).heap[B + 1]? = some (.loop (rec (if jump.isNone then .ready else .done) jump)) ∧
     (W3.putObj (B + 1) (.loop (rec (if jump.isNone then .ready else .done) jump))).heap[B]? = some (.deferred (some [])) ∧
     Fr (fun k => own k ∨ k = B ∨ k = B + 1) W3 (W3.putObj (B + 1) (.loop (rec (if jump.isNone then .ready else .done) jump))) ∧
     Keep (fun k => rd k ∨ X k) W (W3.putObj (B + 1) (.loop (rec (if jump.isNone then .ready else .done) jump))) := by
    intro jump W3 S' hf3 hS'
    have l2 := (Array.getElem?_eq_some_iff.1 hl2).1
    have hl3 := (hf3.block _ l2 (fun h => hS' _ h (.inr (.inr (.inr rfl))))).trans hl2
    have hk3 := (hf3.block _ (by omega) (fun h => hS' _ h (.inr (.inr (.inl rfl))))).trans hk2
    have l3 := (Array.getElem?_eq_some_iff.1 hl3).1
    have := run_endRound (P := P) jump hl3
    rw [hrec] at this ⊢
    refine ⟨this, World.putObj_heap_same l3, (World.putObj_heap_other (by omega)).trans hk3, Fr.putNew _ _ (.inr (.inr rfl)), ?_⟩
    have z3 := hf3.size
    refine (kW2.trans (hf3.keep (fun k hk => ⟨by have := hrx k hk; omega, fun h => hS' _ h (hk.elim .inl (fun h => .inr (.inl h)))⟩))).trans ?_
    exact (Fr.putNew (S := fun k => k = B + 1) _ _ rfl).keep (fun k hk => ⟨by have := hrx k hk; omega, (hrx k hk).2.2⟩)
   rintro e a3 W3 hp
   cases e with
   | normal =>
    obtain ⟨S', hf3, hS', hi3⟩ := hp
    obtain ⟨hr, hl4, hk4, hf4, hk5⟩ := fin none W3 S' hf3 hS'
    have z3 := hf3.size
    have z4 := hf4.size
    exact ⟨_, _, hr, .inl ⟨rfl, ⟨hI _ _ _ _ _ hi3 (fun k hk => ⟨(hX k hk).1, by have := hX2 k hk; omega⟩) (hf4.mono (fun k _ h => h.elim .inl (fun h => .inr (.inr h)))) (fun k h => .inl h), fun k hk => ⟨(hX k hk).1, by have := hX2 k hk; omega⟩, hl4, hk4⟩, hk5⟩⟩
   | ret =>
    obtain ⟨S', hf3, hS', hi3⟩ := hp
    obtain ⟨hr, hl4, hk4, hf4, hk5⟩ := fin (some .ret) W3 S' hf3 hS'
    exact ⟨_, _, hr, .inr ⟨rfl, .ret, hIx _ _ _ hi3 hf4, hl4, hk4⟩⟩
   | exit id =>
    obtain ⟨S', hf3, hS', hi3⟩ := hp
    obtain ⟨hr, hl4, hk4, hf4, hk5⟩ := fin (some (.exit id)) W3 S' hf3 hS'
    exact ⟨_, _, hr, .inr ⟨rfl, .exit id, hIx _ _ _ hi3 hf4, hl4, hk4⟩⟩
   | goto t =>
    obtain ⟨S', hf3, hS', hi3⟩ := hp
    obtain ⟨hr, hl4, hk4, hf4, hk5⟩ := fin (some (.goto t)) W3 S' hf3 hS'
    exact ⟨_, _, hr, .inr ⟨rfl, .goto t, hIx _ _ _ hi3 hf4, hl4, hk4⟩⟩
   | panic ch => exact hp.elim
   | outgrown => exact hp.elim
  ·rintro e W2 ⟨⟨v, rfl⟩, (⟨X, hi, hX, hl, hk⟩ | ⟨c, hi, hl, hk⟩)⟩
   ·exact ⟨none, _, by have := run_endLoop (P := P) hl (by rw [hrec]; simp); rw [hrec] at this; exact this, hdone _ X _ rfl (hI _ _ _ _ _ hi hX (Fr.putNew _ _ (.inr (.inr (.inr rfl)))) (fun k h => .inl h)) ((World.putObj_heap_other (by omega)).trans hk)⟩
   ·exact ⟨some c, _, by have := run_endLoop (P := P) hl (by rw [hrec]; simp); rw [hrec] at this; exact this, hstop _ c _ rfl (hIx c _ _ hi (Fr.putNew _ _ (.inr (.inr rfl)))) ((World.putObj_heap_other (by omega)).trans hk)⟩

/-- The law where the loop's variables are slots: what a round begins with is a function of the value. -/
theorem wpIn_iterF {α : Type} {g : Operand} {ps : Array Tmp} {assign body : Code} {Q : Exit → Act → World → Prop} {a : Act} {w : World}
  {gf : Nat} {lb : Array Value} (hg : a.eval g = .func (.func gf) #[] lb) (eg : ∀ args w, (callFunc gf args).run P w = .ok (.enter gf args) w)
  {encs : α → Array Value} {xs : List α} {own rd : Nat → Prop} {w0 : World} (hseq : IterX P gf lb encs xs own rd w0) (hb0 : Keep rd w0 w) (hps : ∀ x, (encs x).size = ps.size)
  (hown : ∀ k, own k → k < w.heap.size) (hrd : ∀ k, rd k → k < w.heap.size)
  (I : Nat → (Nat → Prop) → World → Prop) (Ix : Code → World → Prop)
  (hI : ∀ i X Y W1 W2, I i X W1 → (∀ k, X k → w.heap.size + 1 < k ∧ k < W1.heap.size) → Fr (fun k => own k ∨ X k ∨ k = w.heap.size ∨ k = w.heap.size + 1) W1 W2 → (∀ k, Y k → X k ∨ (W1.heap.size ≤ k ∧ k < W2.heap.size)) → I i Y W2)
  (hIx : ∀ c W1 W2, Ix c W1 → Fr (fun k => own k ∨ k = w.heap.size ∨ k = w.heap.size + 1) W1 W2 → Ix c W2) (h0 : I 0 none' w) (F : α → Array Value → Array Value)
  (hassign : ∀ (l : Nat) (x : α) (W : World) (K : Act → World → Prop), w.heap.size + 1 < W.heap.size → (∀ W', Fr none' W W' → K { tmps := F x a.tmps, defers := [] } W') →
   assign.wpIn (Fence.wide.inRound l) 0 P (Exit.then K (fun _ _ _ => False)) { tmps := (ps.zip (encs x)).foldl (fun t (p, v) => t.setIfInBounds p v) a.tmps, defers := [] } W)
  (hbody : ∀ (l i : Nat) (x : α) (X : Nat → Prop) (W : World) (r : Loop), xs[i]? = some x → I i X W → (∀ k, X k → w.heap.size + 1 < k ∧ k < W.heap.size) → W.heap[w.heap.size]? = some (.deferred (some [])) → W.heap[w.heap.size + 1]? = some (.loop r) →
   body.wpIn (Fence.wide.inRound l) 0 P (iterPost (fun k => rd k ∨ X k ∨ k = w.heap.size ∨ k = w.heap.size + 1) (fun i => I i X) Ix (i + 1) W) { tmps := F x a.tmps, defers := [] } W)
  (hdone : ∀ (D : Nat) (X : Nat → Prop) (W : World), D = w.heap.size → I xs.length X W → W.heap[D]? = some (.deferred (some [])) → Q .normal { a with defers := { target := .collected D, args := #[] } :: a.defers } W)
  (hstop : ∀ (D : Nat) (c : Code) (W : World), D = w.heap.size → Ix c W → W.heap[D]? = some (.deferred (some [])) → c.wpIn Fence.wide 0 P Q { a with defers := { target := .collected D, args := #[] } :: a.defers } W) :
  (Code.rangeFunc g ps assign body).wpIn Fence.wide 0 P Q a w :=
 wpIn_iterX hg eg hseq hb0 hps hown hrd I Ix hI hIx h0 (fun x _ a' => a' = { tmps := F x a.tmps, defers := [] })
  (fun l x W K hlt hK => hassign l x W K hlt (fun W' hf => hK _ _ rfl hf)) (fun _ _ _ _ h _ => h)
  (fun l i x X W a' r hx h1 h2 ha hD hL => by subst ha; exact hbody l i x X W r hx h1 h2 hD hL) hdone hstop

/-- Marks of ranges that have ended. -/
def mark' (D : Nat) : Deferred := { target := .collected D, args := #[] }
def Marks (B : Nat) (ds : List Deferred) (w : World) : Prop := ∃ Ds : List Nat, ds = Ds.map mark' ∧ Ds.Nodup ∧ ∀ D ∈ Ds, B ≤ D ∧ w.heap[D]? = some (.deferred (some []))
theorem Marks.nil (B : Nat) (w : World) : Marks B [] w := ⟨[], rfl, List.nodup_nil, fun _ h => by cases h⟩
theorem Marks.fr {B : Nat} {ds : List Deferred} {S : Nat → Prop} {w w' : World} (h : Marks B ds w) (hf : Fr S w w') (hS : ∀ k, S k → k < w.heap.size → k < B) : Marks B ds w' := by
 obtain ⟨Ds, h1, h2, h3⟩ := h
 refine ⟨Ds, h1, h2, fun D hD => ⟨(h3 D hD).1, ?_⟩⟩
 have hlt := (Array.getElem?_eq_some_iff.1 (h3 D hD).2).1
 exact (hf.block D hlt (fun hs => by have := hS D hs hlt; have := (h3 D hD).1; omega)).trans (h3 D hD).2
/-- One mark more. -/
theorem Marks.cons {B : Nat} {ds : List Deferred} {S : Nat → Prop} {w w' : World} {D : Nat} (h : Marks B ds w) (hf : Fr S w w') (hS : ∀ k, S k → k < w.heap.size → k < B) (hB : B ≤ D) (hD : w.heap.size ≤ D) (hd : w'.heap[D]? = some (.deferred (some []))) :
  Marks B ({ target := .collected D, args := #[] } :: ds) w' := by
 obtain ⟨Ds, h1, h2, h3⟩ := h.fr hf hS
 obtain ⟨Es, g1, g2, g3⟩ := h
 have hE : Es = Ds := by
  have hinj : ∀ {x y : Nat}, mark' x = mark' y → x = y := fun {x y} e => by
   have := congrArg Deferred.target e
   simp [mark'] at this; exact this
  rw [h1] at g1
  clear h1 h2 h3 g2 g3 hf hd
  induction Ds generalizing Es with
  | nil => cases Es with
   | nil => rfl
   | cons x r => simp at g1
  | cons y t ih => cases Es with
   | nil => simp at g1
   | cons x r =>
    simp only [List.map_cons, List.cons.injEq] at g1
    rw [ih r g1.2, hinj g1.1]
 refine ⟨D :: Ds, by rw [List.map_cons, ← h1]; rfl, List.nodup_cons.2 ⟨fun hm => ?_, h2⟩, fun E hE' => ?_⟩
 ·have := (Array.getElem?_eq_some_iff.1 (g3 D (hE ▸ hm)).2).1
  omega
 ·rcases List.mem_cons.1 hE' with rfl | hE'
  ·exact ⟨hB, hd⟩
  ·exact h3 E hE'
/-- Leaving a function: the marks are taken. -/
theorem leaves_marks {F : Fence} {n : Nat} {fn : Func} {tmps : Array Value} {R : Ending → World → Prop} {B : Nat} : ∀ (ds : List Deferred) (w : World), Marks B ds w →
  (∀ w', Fr (fun k => B ≤ k) w w' → ∃ v, (results fn tmps).run P w' = .ok v w' ∧ R (.returned v) w') → LeavesInM F n P fn tmps R ds .returning w
 | [], w, _, h => h w (Fr.refl _ _)
 | d :: ds, w, hm, h => by
  obtain ⟨Ds, h1, h2, h3⟩ := hm
  cases Ds with
  | nil => cases h1
  | cons D Es =>
   simp only [List.map_cons, List.cons.injEq] at h1
   obtain ⟨rfl, rfl⟩ := h1
   have hD := h3 D List.mem_cons_self
   have hn := List.nodup_cons.1 h2
   refine ⟨by simp, .inl ⟨D, _, rfl, run_takeDeferred hD.2, ?_⟩⟩
   refine leaves_marks (Es.map mark') _ ⟨Es, rfl, hn.2, fun E hE => ⟨(h3 E (List.mem_cons_of_mem _ hE)).1, (World.putObj_heap_other (by rintro rfl; exact hn.1 hE)).trans (h3 E (List.mem_cons_of_mem _ hE)).2⟩⟩ (fun w' hf => h w' ?_)
   exact ((Fr.refl (fun k => B ≤ k) w).putObj (fun _ => hD.1) _).trans hf
end Go.Proofs.YtieeloealklkgaaGreat

/-
  Ranges over functions, with frames that do not speak of the count of draws.
-/
namespace Go.Proofs.YtieeloealklkgaaGreat
open Go.RowKit

theorem Fr0.keep {S R : Nat → Prop} {w w' : World} (h : Fr0 S w w') (hR : ∀ k, R k → k < w.heap.size ∧ ¬ S k) : Keep R w w' := ⟨h.size, fun k hk => h.block k (hR k hk).1 (hR k hk).2⟩
theorem Fr0.putNew {a : World} {S : Nat → Prop} (r : Nat) (o : Obj) (hp : S r) : Fr0 S a (a.putObj r o) := (Fr0.refl S a).putObj (fun _ => hp) o

/-- Like Iter; the iterator may have blocks of its own, X, made since it was called; the body keeps them. -/
def IterX0 {α : Type} (P : Program) (gf : Nat) (lb : Array Value) (encs : α → Array Value) (xs : List α) (own rd : Nat → Prop) (w : World) : Prop :=
 ∀ (l : Nat) (J : Nat → (Nat → Prop) → World → Prop) (Jx : World → Prop) (W : World), Keep rd w W →
  (∀ i X Y W1 W2, J i X W1 → Fr0 (fun k => own k ∨ X k) W1 W2 → (∀ k, Y k → X k ∨ (W1.heap.size ≤ k ∧ k < W2.heap.size)) → J i Y W2) →
  (∀ W1 W2, Jx W1 → Fr0 own W1 W2 → Jx W2) →
  (∀ i x X W1, xs[i]? = some x → J i X W1 → YieldAt Fence.wide 0 P l (encs x) W1 fun e W2 =>
   (e = .returned (.bool true) ∧ J (i + 1) X W2 ∧ Keep (fun k => rd k ∨ X k) W1 W2) ∨ (e = .returned (.bool false) ∧ Jx W2)) →
  J 0 none' W →
  CallsIn Fence.wide 0 P gf (#[.func (.yield l) #[] #[]] ++ lb) W fun e W' => (∃ v, e = .returned v) ∧ ((∃ X, J xs.length X W') ∨ Jx W')
/-- How a round's body may be left. -/
def iterPost0 (S : Nat → Prop) (I : Nat → World → Prop) (Ix : Code → World → Prop) (i : Nat) (W : World) : Exit → Act → World → Prop
 | .normal, _, W' => ∃ S', Fr0 S' W W' ∧ (∀ k, S' k → S k → False) ∧ I i W'
 | .ret, _, W' => ∃ S', Fr0 S' W W' ∧ (∀ k, S' k → S k → False) ∧ Ix .ret W'
 | .exit id, _, W' => ∃ S', Fr0 S' W W' ∧ (∀ k, S' k → S k → False) ∧ Ix (.exit id) W'
 | .goto t, _, W' => ∃ S', Fr0 S' W W' ∧ (∀ k, S' k → S k → False) ∧ Ix (.goto t) W'
 | .panic _, _, _ => False
 | .outgrown, _, _ => False

/-- How a round's body may be left: it turns the footprint alone, and the footprint grows by new blocks alone. -/
def statePost0 {σ : Type} (Inv : Nat → σ → World → Prop) (foot : σ → Nat → Prop) (Ix : Code → World → Prop) (i : Nat) (s : σ) (W : World) : Exit → Act → World → Prop
 | .normal, _, W' => ∃ s', Inv (i + 1) s' W' ∧ Fr0 (foot s) W W' ∧ ∀ k, foot s' k → foot s k ∨ W.heap.size ≤ k
 | .ret, _, W' => Fr0 (foot s) W W' ∧ Ix .ret W'
 | .exit id, _, W' => Fr0 (foot s) W W' ∧ Ix (.exit id) W'
 | .goto t, _, W' => Fr0 (foot s) W W' ∧ Ix (.goto t) W'
 | .panic _, _, _ => False
 | .outgrown, _, _ => False

variable {P : Program}

/-- THE LAW. 'I i W': i values have come. It must outlive turns of 'own' and of the loop's two blocks. The body must turn none of 'rd' and none of the loop's two blocks. -/
theorem wpIn_iterX0 {α : Type} {g : Operand} {ps : Array Tmp} {assign body : Code} {Q : Exit → Act → World → Prop} {a : Act} {w : World}
  {gf : Nat} {lb : Array Value} (hg : a.eval g = .func (.func gf) #[] lb) (eg : ∀ args w, (callFunc gf args).run P w = .ok (.enter gf args) w)
  {encs : α → Array Value} {xs : List α} {own rd : Nat → Prop} {w0 : World} (hseq : IterX0 P gf lb encs xs own rd w0) (hb0 : Keep rd w0 w) (hps : ∀ x, (encs x).size = ps.size)
  (hown : ∀ k, own k → k < w.heap.size) (hrd : ∀ k, rd k → k < w.heap.size)
  (I : Nat → (Nat → Prop) → World → Prop) (Ix : Code → World → Prop)
  (hI : ∀ i X Y W1 W2, I i X W1 → (∀ k, X k → w.heap.size + 1 < k ∧ k < W1.heap.size) → Fr0 (fun k => own k ∨ X k ∨ k = w.heap.size ∨ k = w.heap.size + 1) W1 W2 → (∀ k, Y k → X k ∨ (W1.heap.size ≤ k ∧ k < W2.heap.size)) → I i Y W2)
  (hIx : ∀ c W1 W2, Ix c W1 → Fr0 (fun k => own k ∨ k = w.heap.size ∨ k = w.heap.size + 1) W1 W2 → Ix c W2) (h0 : I 0 none' w) (a₁ : α → World → Act → Prop)
  (hassign : ∀ (l : Nat) (x : α) (W : World) (K : Act → World → Prop), w.heap.size + 1 < W.heap.size → (∀ a' W', a₁ x W' a' → Fr0 none' W W' → K a' W') →
   assign.wpIn (Fence.wide.inRound l) 0 P (Exit.then K (fun _ _ _ => False)) { tmps := (ps.zip (encs x)).foldl (fun t (p, v) => t.setIfInBounds p v) a.tmps, defers := [] } W)
  (ha₁ : ∀ x W1 W2 a', a₁ x W1 a' → Fr0 (fun k => k = w.heap.size + 1) W1 W2 → a₁ x W2 a')
  (hbody : ∀ (l i : Nat) (x : α) (X : Nat → Prop) (W : World) (a' : Act) (r : Loop), xs[i]? = some x → I i X W → (∀ k, X k → w.heap.size + 1 < k ∧ k < W.heap.size) → a₁ x W a' → W.heap[w.heap.size]? = some (.deferred (some [])) → W.heap[w.heap.size + 1]? = some (.loop r) →
   body.wpIn (Fence.wide.inRound l) 0 P (iterPost0 (fun k => rd k ∨ X k ∨ k = w.heap.size ∨ k = w.heap.size + 1) (fun i => I i X) Ix (i + 1) W) a' W)
  (hdone : ∀ (D : Nat) (X : Nat → Prop) (W : World), D = w.heap.size → I xs.length X W → W.heap[D]? = some (.deferred (some [])) → Q .normal { a with defers := { target := .collected D, args := #[] } :: a.defers } W)
  (hstop : ∀ (D : Nat) (c : Code) (W : World), D = w.heap.size → Ix c W → W.heap[D]? = some (.deferred (some [])) → c.wpIn Fence.wide 0 P Q { a with defers := { target := .collected D, args := #[] } :: a.defers } W) :
  (Code.rangeFunc g ps assign body).wpIn Fence.wide 0 P Q a w := by
 refine wpIn_rangeFunc ?_
 intro fn hfn
 obtain ⟨rec, hrec⟩ : ∃ rec : LoopState → Option Code → Loop, rec = fun st pe => { state := st, pending := pe, fn, tmps := a.tmps, params := ps, assign, body, defers := w.heap.size } := ⟨_, rfl⟩
 obtain ⟨B, hB⟩ : ∃ B, w.heap.size = B := ⟨_, rfl⟩
 obtain ⟨W1, hW1⟩ : ∃ W1, (w.alloc (.deferred (some []))).alloc (.loop (rec .ready none)) = W1 := ⟨_, rfl⟩
 have hf1 : Fr0 none' w W1 := by rw [← hW1]; exact ((Fr0.refl _ _).alloc _).alloc _
 have hL1 : W1.heap[B + 1]? = some (.loop (rec .ready none)) := by
  rw [← hW1, ← hB]; have := World.alloc_heap_new (w.alloc (.deferred (some []))) (.loop (rec .ready none)); rwa [World.size_alloc] at this
 have hK1 : W1.heap[B]? = some (.deferred (some [])) := by
  rw [← hW1, ← hB]; exact (Below.heap_alloc _ _ _ (by simp)).trans (World.alloc_heap_new w _)
 rw [hB] at hI hIx hbody hdone hstop hassign ha₁ hown hrd
 have hI1 : I 0 none' W1 := hI _ _ none' _ _ h0 (fun k h => h.elim) (hf1.mono (fun k _ h => h.elim)) (fun k h => h.elim)
 refine ⟨B + 1, [{ target := .collected B, args := #[] }], W1, { target := .fn (.func gf) lb, args := #[.func (.yield (B + 1)) #[] #[]] }, W1, gf,
  #[.func (.yield (B + 1)) #[] #[]] ++ lb, W1, ?_, ?_, fun _ _ => trivial, ?_, fun h => by simp [Fence.wide] at h, ?_⟩
 ·have := run_enterLoop_outer (P := P) (w := w) fn a.tmps ps assign body
  rw [← hW1, hrec]
  simp only [hB] at this ⊢
  exact this
 ·simp only [resolve, hg]
  simp [go_sem]
 ·simp [invoke, go_sem, eg]
 ·refine CallsIn.mono ((hseq (B + 1)
   (fun i X W => I i X W ∧ (∀ k, X k → B + 1 < k ∧ k < W.heap.size) ∧ W.heap[B + 1]? = some (.loop (rec .ready none)) ∧ W.heap[B]? = some (.deferred (some [])))
   (fun W => ∃ c, Ix c W ∧ W.heap[B + 1]? = some (.loop (rec .done (some c))) ∧ W.heap[B]? = some (.deferred (some [])))
   W1 (hb0.trans (hf1.keep (fun k hk => ⟨by rw [hB]; exact hrd k hk, id⟩)))
   ?_ ?_ ?_ ⟨hI1, fun k h => h.elim, hL1, hK1⟩)) ?_
  ·rintro i X Y A C ⟨hi, hX, hl, hk⟩ hf hY
   have l1 := (Array.getElem?_eq_some_iff.1 hl).1
   have l2 := hf.size
   refine ⟨hI i X Y A C hi hX (hf.mono (fun k _ h => h.elim .inl (fun h => .inr (.inl h)))) hY, fun k hk => ?_, (hf.block _ l1 (fun h => ?_)).trans hl, (hf.block _ (by omega) (fun h => ?_)).trans hk⟩
   ·rcases hY k hk with h | h
    ·have := hX k h; omega
    ·omega
   ·rcases h with h | h
    ·have := hown _ h; omega
    ·have := hX _ h; omega
   ·rcases h with h | h
    ·have := hown _ h; omega
    ·have := hX _ h; omega
  ·rintro A C ⟨c, hi, hl, hk⟩ hf
   have l1 := (Array.getElem?_eq_some_iff.1 hl).1
   exact ⟨c, hIx c A C hi (hf.mono (fun k _ h => .inl h)), (hf.block _ l1 (fun h => by have := hown _ h; omega)).trans hl, (hf.block _ (by omega) (fun h => by have := hown _ h; omega)).trans hk⟩
  ·rintro i x X W hx ⟨hi, hX, hl, hk⟩
   have hlt : B + 1 < W.heap.size := (Array.getElem?_eq_some_iff.1 hl).1
   have hy := run_yield (P := P) (args := encs x) hl (by rw [hrec]; exact hps x)
   rw [hrec] at hy
   refine ⟨fn, _, assign, body, hy, roundIn_of_wpIn (n := 0) hfn (hassign _ x W _ hlt ?_)⟩
   intro a' W' ha' hf'
   have hl' : W'.heap[B + 1]? = some (.loop (rec .ready none)) := (hf'.block _ hlt id).trans hl
   have hk' : W'.heap[B]? = some (.deferred (some [])) := (hf'.block _ (by omega) id).trans hk
   have hlt' : B + 1 < W'.heap.size := (Array.getElem?_eq_some_iff.1 hl').1
   refine ⟨_, run_beginRound hl' (by rw [hrec]), ?_⟩
   obtain ⟨W2, hW2⟩ : ∃ W2, W'.putObj (B + 1) (.loop { rec .ready none with state := .busy }) = W2 := ⟨_, rfl⟩
   have hf2 : Fr0 (fun k => k = B + 1) W' W2 := by rw [← hW2]; exact Fr0.putNew _ _ rfl
   have hl2 : W2.heap[B + 1]? = some (.loop { rec .ready none with state := .busy }) := by rw [← hW2]; exact World.putObj_heap_same hlt'
   have hk2 : W2.heap[B]? = some (.deferred (some [])) := (hf2.block _ (by omega) (by omega)).trans hk'
   rw [hW2]
   have hX' : ∀ k, X k → B + 1 < k ∧ k < W'.heap.size := fun k hk => ⟨(hX k hk).1, Nat.lt_of_lt_of_le (hX k hk).2 hf'.size⟩
   have hX2 : ∀ k, X k → B + 1 < k ∧ k < W2.heap.size := fun k hk => ⟨(hX k hk).1, Nat.lt_of_lt_of_le (hX' k hk).2 hf2.size⟩
   have hi2 : I i X W2 := hI _ _ _ _ _ (hI _ _ _ _ _ hi hX (hf'.mono (fun k _ h => h.elim)) (fun k h => .inl h)) hX' (hf2.mono (fun k _ h => .inr (.inr (.inr h)))) (fun k h => .inl h)
   have hrx : ∀ k, (rd k ∨ X k) → k < W.heap.size ∧ k ≠ B ∧ k ≠ B + 1 := fun k h => by
    rcases h with h | h
    ·have := hrd k h; omega
    ·have := hX k h; omega
   have z1 := hf'.size
   have z2 := hf2.size
   have kW2 : Keep (fun k => rd k ∨ X k) W W2 := (hf'.keep (fun k hk => ⟨(hrx k hk).1, id⟩)).trans (hf2.keep (fun k hk => ⟨by have := hrx k hk; omega, (hrx k hk).2.2⟩))
   refine wpIn_mono (hbody _ i x X W2 a' _ hx hi2 hX2 (ha₁ _ _ _ _ ha' hf2) hk2 hl2) ?_
   have fin : ∀ (jump : Option Code) (W3 : World) (S' : Nat → Prop), Fr0 S' W2 W3 → (∀ k, S' k → (rd k ∨ X k ∨ k = B ∨ k = B + 1) → False) →
     (Instr.endRound (B + 1) jump).run P W3 = .ok (.bool jump.isNone) (W3.putObj (B + 1) (.loop (rec (if jump.isNone then .ready else .done) jump))) ∧
     (W3.putObj (B + 1) (.loop (rec (if jump.isNone then .ready else .done) jump))).heap[B + 1]? = some (.loop (rec (if jump.isNone then .ready else .done) jump)) ∧
     (W3.putObj (B + 1) (.loop (rec (if jump.isNone then .ready else .done) jump))).heap[B]? = some (.deferred (some [])) ∧
     Fr0 (fun k => own k ∨ k = B ∨ k = B + 1) W3 (W3.putObj (B + 1) (.loop (rec (if jump.isNone then .ready else .done) jump))) ∧
     Keep (fun k => rd k ∨ X k) W (W3.putObj (B + 1) (.loop (rec (if jump.isNone then .ready else .done) jump))) := by
    intro jump W3 S' hf3 hS'
    have l2 := (Array.getElem?_eq_some_iff.1 hl2).1
    have hl3 := (hf3.block _ l2 (fun h => hS' _ h (.inr (.inr (.inr rfl))))).trans hl2
    have hk3 := (hf3.block _ (by omega) (fun h => hS' _ h (.inr (.inr (.inl rfl))))).trans hk2
    have l3 := (Array.getElem?_eq_some_iff.1 hl3).1
    have := run_endRound (P := P) jump hl3
    rw [hrec] at this ⊢
    refine ⟨this, World.putObj_heap_same l3, (World.putObj_heap_other (by omega)).trans hk3, Fr0.putNew _ _ (.inr (.inr rfl)), ?_⟩
    have z3 := hf3.size
    refine (kW2.trans (hf3.keep (fun k hk => ⟨by have := hrx k hk; omega, fun h => hS' _ h (hk.elim .inl (fun h => .inr (.inl h)))⟩))).trans ?_
    exact (Fr0.putNew (S := fun k => k = B + 1) _ _ rfl).keep (fun k hk => ⟨by have := hrx k hk; omega, (hrx k hk).2.2⟩)
   rintro e a3 W3 hp
   cases e with
   | normal =>
    obtain ⟨S', hf3, hS', hi3⟩ := hp
    obtain ⟨hr, hl4, hk4, hf4, hk5⟩ := fin none W3 S' hf3 hS'
    have z3 := hf3.size
    have z4 := hf4.size
    exact ⟨_, _, hr, .inl ⟨rfl, ⟨hI _ _ _ _ _ hi3 (fun k hk => ⟨(hX k hk).1, by have := hX2 k hk; omega⟩) (hf4.mono (fun k _ h => h.elim .inl (fun h => .inr (.inr h)))) (fun k h => .inl h), fun k hk => ⟨(hX k hk).1, by have := hX2 k hk; omega⟩, hl4, hk4⟩, hk5⟩⟩
   | ret =>
    obtain ⟨S', hf3, hS', hi3⟩ := hp
    obtain ⟨hr, hl4, hk4, hf4, hk5⟩ := fin (some .ret) W3 S' hf3 hS'
    exact ⟨_, _, hr, .inr ⟨rfl, .ret, hIx _ _ _ hi3 hf4, hl4, hk4⟩⟩
   | exit id =>
    obtain ⟨S', hf3, hS', hi3⟩ := hp
    obtain ⟨hr, hl4, hk4, hf4, hk5⟩ := fin (some (.exit id)) W3 S' hf3 hS'
    exact ⟨_, _, hr, .inr ⟨rfl, .exit id, hIx _ _ _ hi3 hf4, hl4, hk4⟩⟩
   | goto t =>
    obtain ⟨S', hf3, hS', hi3⟩ := hp
    obtain ⟨hr, hl4, hk4, hf4, hk5⟩ := fin (some (.goto t)) W3 S' hf3 hS'
    exact ⟨_, _, hr, .inr ⟨rfl, .goto t, hIx _ _ _ hi3 hf4, hl4, hk4⟩⟩
   | panic ch => exact hp.elim
   | outgrown => exact hp.elim
  ·rintro e W2 ⟨⟨v, rfl⟩, (⟨X, hi, hX, hl, hk⟩ | ⟨c, hi, hl, hk⟩)⟩
   ·exact ⟨none, _, by have := run_endLoop (P := P) hl (by rw [hrec]; simp); rw [hrec] at this; exact this, hdone _ X _ rfl (hI _ _ _ _ _ hi hX (Fr0.putNew _ _ (.inr (.inr (.inr rfl)))) (fun k h => .inl h)) ((World.putObj_heap_other (by omega)).trans hk)⟩
   ·exact ⟨some c, _, by have := run_endLoop (P := P) hl (by rw [hrec]; simp); rw [hrec] at this; exact this, hstop _ c _ rfl (hIx c _ _ hi (Fr0.putNew _ _ (.inr (.inr rfl)))) ((World.putObj_heap_other (by omega)).trans hk)⟩

theorem wpIn_iterS0 {α σ : Type} {g : Operand} {ps : Array Tmp} {assign body : Code} {Q : Exit → Act → World → Prop} {a : Act} {w : World}
  {gf : Nat} {lb : Array Value} (hg : a.eval g = .func (.func gf) #[] lb) (eg : ∀ args w, (callFunc gf args).run P w = .ok (.enter gf args) w)
  {encs : α → Array Value} {xs : List α} {own rd : Nat → Prop} {w0 : World} (hseq : IterX0 P gf lb encs xs own rd w0) (hb0 : Keep rd w0 w) (hps : ∀ x, (encs x).size = ps.size)
  (hown : ∀ k, own k → k < w.heap.size) (hrd : ∀ k, rd k → k < w.heap.size)
  (Inv : Nat → σ → World → Prop) (foot : σ → Nat → Prop) (Ix : Code → World → Prop)
  (hInv : ∀ i s W1 W2, Inv i s W1 → Fr0 (fun k => (own k ∨ w.heap.size ≤ k) ∧ ¬ foot s k) W1 W2 → Inv i s W2)
  (hlt : ∀ i s W k, Inv i s W → foot s k → k < W.heap.size)
  (hIx : ∀ c W1 W2, Ix c W1 → Fr0 (fun k => own k ∨ k = w.heap.size ∨ k = w.heap.size + 1) W1 W2 → Ix c W2)
  (s0 : σ) (h0 : Inv 0 s0 w) (hf0 : ∀ k, foot s0 k → ¬ own k ∧ ¬ rd k) (a₁ : α → World → Act → Prop)
  (hassign : ∀ (l : Nat) (x : α) (W : World) (K : Act → World → Prop), w.heap.size + 1 < W.heap.size → (∀ a' W', a₁ x W' a' → Fr0 none' W W' → K a' W') →
   assign.wpIn (Fence.wide.inRound l) 0 P (Exit.then K (fun _ _ _ => False)) { tmps := (ps.zip (encs x)).foldl (fun t (p, v) => t.setIfInBounds p v) a.tmps, defers := [] } W)
  (ha₁ : ∀ x W1 W2 a', a₁ x W1 a' → Fr0 (fun k => k = w.heap.size + 1) W1 W2 → a₁ x W2 a')
  (hbody : ∀ (l i : Nat) (x : α) (s : σ) (W : World) (a' : Act), xs[i]? = some x → Inv i s W → (∀ k, foot s k → ¬ own k ∧ ¬ rd k ∧ k ≠ w.heap.size ∧ k ≠ w.heap.size + 1) → w.heap.size + 1 < W.heap.size → a₁ x W a' →
   body.wpIn (Fence.wide.inRound l) 0 P (statePost0 Inv foot Ix i s W) a' W)
  (hdone : ∀ (D : Nat) (s : σ) (W : World), D = w.heap.size → Inv xs.length s W → (∀ k, foot s k → k ≠ D) → W.heap[D]? = some (.deferred (some [])) → Q .normal { a with defers := { target := .collected D, args := #[] } :: a.defers } W)
  (hstop : ∀ (D : Nat) (c : Code) (W : World), D = w.heap.size → Ix c W → W.heap[D]? = some (.deferred (some [])) → c.wpIn Fence.wide 0 P Q { a with defers := { target := .collected D, args := #[] } :: a.defers } W) :
  (Code.rangeFunc g ps assign body).wpIn Fence.wide 0 P Q a w := by
 refine wpIn_iterX0 hg eg hseq hb0 hps hown hrd
  (fun i X W => ∃ s, Inv i s W ∧ (∀ k, foot s k → ¬ own k ∧ ¬ rd k ∧ k ≠ w.heap.size ∧ k ≠ w.heap.size + 1) ∧ ∀ k, foot s k → ¬ X k) Ix ?hI hIx ?h0 a₁ hassign ha₁ ?body ?done hstop
 case hI =>
  rintro i X Y W1 W2 ⟨s, h1, h2, h3⟩ hX hf hY
  refine ⟨s, hInv i s W1 W2 h1 (hf.mono (fun k _ h => ?_)), h2, fun k hk hy => ?_⟩
  ·rcases h with h | h | h | h
   ·exact ⟨.inl h, fun hk => (h2 k hk).1 h⟩
   ·exact ⟨.inr (by have := hX k h; omega), fun hk => h3 k hk h⟩
   ·exact ⟨.inr (by omega), fun hk => (h2 k hk).2.2.1 h⟩
   ·exact ⟨.inr (by omega), fun hk => (h2 k hk).2.2.2 h⟩
  ·rcases hY k hy with h | h
   ·exact h3 k hk h
   ·have := hlt i s W1 k h1 hk; omega
 case h0 =>
  refine ⟨s0, h0, fun k hk => ?_, fun k _ h => h⟩
  have := hlt 0 s0 w k h0 hk
  exact ⟨(hf0 k hk).1, (hf0 k hk).2, by omega, by omega⟩
 case body =>
  rintro l i x X W a' r hx ⟨s, h1, h2, h3⟩ hX ha hD hL
  have hsz : w.heap.size + 1 < W.heap.size := (Array.getElem?_eq_some_iff.1 hL).1
  refine wpIn_mono (hbody l i x s W a' hx h1 h2 hsz ha) ?_
  have hdis : ∀ k, foot s k → (rd k ∨ X k ∨ k = w.heap.size ∨ k = w.heap.size + 1) → False := fun k hk h => by
   rcases h with h | h | h | h
   ·exact (h2 k hk).2.1 h
   ·exact h3 k hk h
   ·exact (h2 k hk).2.2.1 h
   ·exact (h2 k hk).2.2.2 h
  rintro e a3 W3 hp
  cases e with
  | normal =>
   obtain ⟨s', h4, h5, h6⟩ := hp
   refine ⟨foot s, h5, hdis, s', h4, fun k hk => ?_, fun k hk hx => ?_⟩
   ·rcases h6 k hk with h | h
    ·exact h2 k h
    ·exact ⟨fun ho => by have := hown k ho; omega, fun hr => by have := hrd k hr; omega, by omega, by omega⟩
   ·rcases h6 k hk with h | h
    ·exact h3 k h hx
    ·have := hX k hx; omega
  | ret => exact ⟨foot s, hp.1, hdis, hp.2⟩
  | exit id => exact ⟨foot s, hp.1, hdis, hp.2⟩
  | goto t => exact ⟨foot s, hp.1, hdis, hp.2⟩
  | panic ch => exact hp.elim
  | outgrown => exact hp.elim
 case done =>
  rintro D X W hD ⟨s, h1, h2, h3⟩ hd
  exact hdone D s W hD h1 (fun k hk => by rw [hD]; exact (h2 k hk).2.2.1) hd
end Go.Proofs.YtieeloealklkgaaGreat

/-
  A region that draws, walked by hand: the operations one by one, in an order of one's own where the order does not matter.
-/
namespace Go.Proofs.YtieeloealklkgaaGreat
open Go.RowKit

section
variable {P : Program} {ops : Array Oper} {Q : Exit → Act → World → Prop} {md : Region.Mode} {S : World → Prop} {i : Nat} {oi : Oper} {fuel : Nat} {listed : Array Bool} {a : Act} {w : World}
theorem op_at (hi : ops.toList[i]? = some oi) : ops[i]? = some oi := by rw [← Array.getElem?_toList]; exact hi
/-- An operation of a region that draws is taken first: one that runs. -/
theorem take_on {v : Value} (hi : ops.toList[i]? = some oi)
  (hs : Region.noSelect ops = true) (hf : Region.free md ops listed i = true) (hr : (Region.ready md ops listed).contains i = true)
  (hQ : ∀ c a w, Q (.panic c) (a.put oi.dst v) w → Q (.panic c) a w) (hw : Region.wanted oi (yielded ops a.tmps) = true) (hy : ∀ w, S w → (execOp a.eval oi).run P w = .ok (.value v) w) (hS : S w)
  (h : wpAnyH P md ops Q S fuel (listed.setIfInBounds i true) (a.put oi.dst v) w) : wpAnyH P md ops Q S (fuel + 1) listed a w :=
 wpAnyH_take (op_at hi) hs hf hr hQ (.inl ⟨hw, hy⟩) hS h
/-- .. and one that its guard keeps off. -/
theorem take_off (hi : ops.toList[i]? = some oi)
  (hs : Region.noSelect ops = true) (hf : Region.free md ops listed i = true) (hr : (Region.ready md ops listed).contains i = true)
  (hQ : ∀ c a w, Q (.panic c) (a.put oi.dst undef) w → Q (.panic c) a w) (hw : Region.wanted oi (yielded ops a.tmps) = false) (hS : S w)
  (h : wpAnyH P md ops Q S fuel (listed.setIfInBounds i true) (a.put oi.dst undef) w) : wpAnyH P md ops Q S (fuel + 1) listed a w :=
 wpAnyH_take (op_at hi) hs hf hr hQ (.inr ⟨hw, rfl⟩) hS h
/-- .. and the only one that may come up. -/
theorem take_call (hi : ops.toList[i]? = some oi) (hr : Region.ready md ops listed = [i]) (hw : Region.wanted oi (yielded ops a.tmps) = true)
  (h : ∀ K' : Act → World → Prop, Shut (∀ a w, S w → (S w → wpAnyH P md ops Q S fuel (listed.setIfInBounds i true) a w) → K' a w) → Oper.wp P oi a w K' Q) : wpAnyH P md ops Q S (fuel + 1) listed a w :=
 wpAnyH_ready hr (by simp) (AllReadyH.cons (op_at hi) (fun K hK => by rw [if_pos hw]; exact h K hK) AllReadyH.nil)
end
section
variable {P : Program} {ops : Array Oper} {Q : Exit → Act → World → Prop} {md : Region.Mode} {S : World → Prop} {i : Nat} {oi : Oper} {fuel : Nat} {listed : Array Bool} {a : Act} {w : World}
/-- take_on, what the kernel sees by itself left to it. -/
theorem tkn {v : Value} (hy : ∀ w, S w → (execOp a.eval oi).run P w = .ok (.value v) w) (h : wpAnyH P md ops Q S fuel (listed.setIfInBounds i true) (a.put oi.dst v) w) (hi : ops.toList[i]? = some oi := by rfl) (hs : Region.noSelect ops = true := by kernel_rfl)
  (hf : Region.free md ops listed i = true := by kernel_rfl) (hr : (Region.ready md ops listed).contains i = true := by kernel_rfl) (hQ : ∀ c a w, Q (.panic c) (a.put oi.dst v) w → Q (.panic c) a w := by exact fun _ _ _ h => h)
  (hw : Region.wanted oi (yielded ops a.tmps) = true := by kernel_rfl) (hS : S w := by assumption) : wpAnyH P md ops Q S (fuel + 1) listed a w := take_on hi hs hf hr hQ hw hy hS h
theorem tk0 {v : Value} (h : wpAnyH P md ops Q S fuel (listed.setIfInBounds i true) (a.put oi.dst v) w) (hi : ops.toList[i]? = some oi := by rfl) (hs : Region.noSelect ops = true := by kernel_rfl)
  (hf : Region.free md ops listed i = true := by kernel_rfl) (hr : (Region.ready md ops listed).contains i = true := by kernel_rfl) (hQ : ∀ c a w, Q (.panic c) (a.put oi.dst v) w → Q (.panic c) a w := by exact fun _ _ _ h => h)
  (hw : Region.wanted oi (yielded ops a.tmps) = true := by kernel_rfl) (hS : S w := by assumption) (hy : ∀ w, S w → (execOp a.eval oi).run P w = .ok (.value v) w := by intro W hSW; first | (go_simp; done) | exact rfl | (go_simp; rfl) | (go_simp; omega)) : wpAnyH P md ops Q S (fuel + 1) listed a w := take_on hi hs hf hr hQ hw hy hS h
theorem tk1 {v : Value} (h : wpAnyH P md ops Q S fuel (listed.setIfInBounds i true) (a.put oi.dst v) w) (hi : ops.toList[i]? = some oi := by rfl) (hs : Region.noSelect ops = true := by kernel_rfl)
  (hf : Region.free md ops listed i = true := by kernel_rfl) (hr : (Region.ready md ops listed).contains i = true := by kernel_rfl) (hQ : ∀ c a w, Q (.panic c) (a.put oi.dst v) w → Q (.panic c) a w := by exact fun _ _ _ h => h)
  (hw : Region.wanted oi (yielded ops a.tmps) = true := by kernel_rfl) (hS : S w := by assumption) (hy : ∀ w, S w → (execOp a.eval oi).run P w = .ok (.value v) w := by intro W hSW; (try dsimp only at hSW); first | (go_simp; done) | exact rfl | (go_simp; rfl) | (go_simp; omega)) : wpAnyH P md ops Q S (fuel + 1) listed a w := take_on hi hs hf hr hQ hw hy hS h
theorem tk2 {v : Value} (h : wpAnyH P md ops Q S fuel (listed.setIfInBounds i true) (a.put oi.dst v) w) (hi : ops.toList[i]? = some oi := by rfl) (hs : Region.noSelect ops = true := by kernel_rfl)
  (hf : Region.free md ops listed i = true := by kernel_rfl) (hr : (Region.ready md ops listed).contains i = true := by kernel_rfl) (hQ : ∀ c a w, Q (.panic c) (a.put oi.dst v) w → Q (.panic c) a w := by exact fun _ _ _ h => h)
  (hw : Region.wanted oi (yielded ops a.tmps) = true := by kernel_rfl) (hS : S w := by assumption) (hy : ∀ w, S w → (execOp a.eval oi).run P w = .ok (.value v) w := by intro W hSW; (try dsimp only at hSW); (try subst hSW); first | (go_simp; done) | exact rfl | (go_simp; rfl) | (go_simp; omega)) : wpAnyH P md ops Q S (fuel + 1) listed a w := take_on hi hs hf hr hQ hw hy hS h
theorem tkf (h : wpAnyH P md ops Q S fuel (listed.setIfInBounds i true) (a.put oi.dst undef) w) (hi : ops.toList[i]? = some oi := by rfl) (hs : Region.noSelect ops = true := by kernel_rfl)
  (hf : Region.free md ops listed i = true := by kernel_rfl) (hr : (Region.ready md ops listed).contains i = true := by kernel_rfl) (hQ : ∀ c a w, Q (.panic c) (a.put oi.dst undef) w → Q (.panic c) a w := by exact fun _ _ _ h => h)
  (hw : Region.wanted oi (yielded ops a.tmps) = false := by kernel_rfl) (hS : S w := by assumption) : wpAnyH P md ops Q S (fuel + 1) listed a w := take_off hi hs hf hr hQ hw hS h
end
theorem pUt (t : Array Value) (d : List Deferred) (k : Tmp) (v : Value) : Act.put { tmps := t, defers := d } (some k) v = { tmps := t.setIfInBounds k v, defers := d } := rfl
theorem pUn (a : Act) (v : Value) : a.put none v = a := rfl
theorem sEt {α : Type} (l : List α) (i : Nat) (a : α) : l.toArray.setIfInBounds i a = (l.set i a).toArray := List.setIfInBounds_toArray ..
theorem sEz {α : Type} (x : α) (l : List α) (a : α) : (x :: l).set 0 a = a :: l := rfl
theorem sEs {α : Type} (x : α) (l : List α) (i : Nat) (a : α) : (x :: l).set (i + 1) a = x :: l.set i a := rfl
end Go.Proofs.YtieeloealklkgaaGreat

/-
  The library's functions on strings at one byte, and the splitting of a string at points.
-/
namespace Go.Proofs.YtieeloealklkgaaGreat
open Go.RowKit

/-- A string of bytes. -/
def bs (l : List UInt8) : ByteArray := ⟨l.toArray⟩
end Go.Proofs.YtieeloealklkgaaGreat

/-
  name.parts: the iterator over the parts of a string.
-/
namespace Go.Proofs.YtieeloealklkgaaGreat
open Go.RowKit
attribute [local go_sem] Oper.semAt_some wide_fn wide_depth wide_fnR wide_depthR

abbrev Bs := List UInt8
/-- The parts of a string: what is between its points. -/
def cut : Bs → List Bs
 | [] => [[]]
 | c :: l => if c = 46 then [] :: cut l else ((c :: (cut l).headD []) :: (cut l).tail)
end Go.Proofs.YtieeloealklkgaaGreat

/-
  append onto an own row of one-cell elements, whatever the source; the count of draws does not fall.
-/
namespace Go.Proofs.YtieeloealklkgaaGreat
open Go.RowKit
variable {P : Program}

end Go.Proofs.YtieeloealklkgaaGreat

/-
  slices.Collect and slices.AppendSeq at strings, over an iterator.
-/
namespace Go.Proofs.YtieeloealklkgaaGreat
open Go.RowKit
attribute [local go_sem] Oper.semAt_some wide_fn wide_depth wide_fnR wide_depthR

end Go.Proofs.YtieeloealklkgaaGreat

/-
  The order of strings and of lists of strings; cmp.Compare and slices.Compare; name.order.
-/
namespace Go.Proofs.YtieeloealklkgaaGreat
open Go.RowKit

/-
  append at slices of one-cell elements: an own row, whatever source.
-/
variable {P : Program}

end Go.Proofs.YtieeloealklkgaaGreat

/-
  Keys, their bytes, their texts; plain Lean.
-/
namespace Go.Proofs.YtieeloealklkgaaGreat

def RightK (k : Key3) : Prop := 0 ≤ k.time ∧ k.time ≤ 281474976710656 ∧ 0 ≤ k.source ∧ k.source ≤ 16 ∧ 0 ≤ k.seq ∧ k.seq ≤ 4294967295
instance (k : Key3) : Decidable (RightK k) := by unfold RightK; infer_instance

/-! ### Bytes -/
/-! ### Texts -/
def marks : List UInt8 := [64, 35]
/-! ### Steps -/
end Go.Proofs.YtieeloealklkgaaGreat

/-
  A region that draws, within a round's body: from the walk outside of any fence.
-/
namespace Go.Proofs.YtieeloealklkgaaGreat
open Go.RowKit

def noDefer (o : Oper) : Bool := match o.op with
 | .defer _ => false
 | _ => true
theorem noDefer_ne {o : Oper} (h : noDefer o = true) : ∀ c, o.op ≠ .defer c := fun c e => by simp [noDefer, e] at h

section
variable {P : Program} {ops : Array Oper} {Q : Exit → Act → World → Prop} {md : Region.Mode} {n l : Nat}

theorem callsIn_round {f : FuncId} {args : Array Value} {w : World} {R : Ending → World → Prop} (h : Calls P f args w R) : CallsIn (Fence.wide.inRound l) n P f args w R :=
 callsIn_wide (n := n).2 h

theorem op_in_round {o : Oper} (hd : noDefer o = true) (hQ : ∀ a w, ¬ Q .outgrown a w) {a : Act} {w : World} {K : Act → World → Prop} (h : o.wp P a w K Q ∨ (o.asks P a w ∧ LetsOut Q)) : o.wpIn (Fence.wide.inRound l) n P a w K Q := by
 have hno : ¬ LetsOut Q := fun ⟨a, w, h⟩ => hQ a w h
 rcases h with h | ⟨_, h⟩
 ·refine ⟨fun _ _ => trivial, ?_⟩
  rw [Oper.semAt_eq _ _ _ (noDefer_ne hd)]
  unfold Oper.wp at h
  generalize (execOp a.eval o).run P w = r at *
  cases r with
  | ok x w' =>
   cases x with
   | value v => exact h
   | skip => exact h
   | defer d => exact h
   | enter f args => exact ⟨fun h => by simp [Fence.wide, Fence.inRound] at h, callsIn_round h⟩
   | row row args =>
    refine ⟨fun h => by simp [Fence.wide, Fence.inRound] at h, fun c cs _ => ?_⟩
    obtain ⟨v, w', r, s⟩ := h c cs
    exact ⟨v, w', r, stepsIn_wide.2 s⟩
   | _ => exact h.elim
  | halt x w' => cases x <;> exact h
 ·exact absurd h hno

theorem any_in_round (hd : ops.all noDefer = true) (hQ : ∀ a w, ¬ Q .outgrown a w) : ∀ (fuel : Nat) (listed : Array Bool) (a : Act) (w : World), wpAny P md ops Q fuel listed a w → wpAnyIn (Fence.wide.inRound l) n P md ops Q fuel listed a w
 | 0, _, _, _, h => h
 | fuel + 1, listed, a, w, h => by
  refine ⟨h.1, fun i hi => ?_⟩
  have h1 := h.2 i hi
  unfold wpOp at h1
  unfold wpOpIn
  split
  ·rename_i ho; simp only [ho] at h1; exact any_in_round hd hQ fuel _ _ _ h1
  ·rename_i o ho
   simp only [ho] at h1
   have hdo : noDefer o = true := by
    rw [Array.all_eq_true] at hd
    obtain ⟨hlt, he⟩ := Array.getElem?_eq_some_iff.1 ho
    rw [← he]; exact hd i hlt
   split
   ·rename_i hw
    simp only [hw, if_true] at h1
    exact Oper.wpIn_mono (fun a w h => any_in_round hd hQ fuel _ a w h) (op_in_round hdo hQ h1)
   ·rename_i hw
    simp only [hw] at h1
    exact ⟨fun _ _ => trivial, any_in_round hd hQ fuel _ _ _ h1⟩

/-- The beginning of the walk over a region that draws, in a round's body. -/
theorem wpIn_round_held {S : World → Prop} {id : Nat} {a : Act} {w : World} (hm : P.follows .mixedOrders = true) (hd : ops.all noDefer = true) (hQ : ∀ a w, ¬ Q .outgrown a w) (hS : S w.drew)
  (h : S w.drew → wpAnyH P .any ops Q S ops.size (Array.replicate ops.size false) a w.drew) : (Code.region id ops true).wpIn (Fence.wide.inRound l) n P Q a w :=
 wpIn_region_any hm (any_in_round hd hQ _ _ _ _ (wpAny_of_held _ _ _ _ (h hS)))
end
end Go.Proofs.YtieeloealklkgaaGreat

/-
  key.fields: the iterator over the fields of a key.
-/
namespace Go.Proofs.YtieeloealklkgaaGreat
open Go.RowKit
attribute [local go_sem ↓] Go.wp_at_zero Go.wp_at_succ
attribute [local go_sem] Oper.semAt_some wide_fn wide_depth wide_fnR wide_depthR

/-- A field of a key: where it is, its greatest value, its bytes, what is before it in a text. -/
def fMost (i : Nat) : Int := if i = 0 then 281474976710656 else if i = 1 then 16 else 4294967295
def fSize (i : Nat) : Int := if i = 0 then 7 else if i = 1 then 1 else 4
def fMark (i : Nat) : ByteArray := if i = 0 then ⟨#[]⟩ else if i = 1 then ⟨#[64]⟩ else ⟨#[35]⟩
def fC (b i : Nat) : List Value := [.pointer (some ⟨b, i, none⟩), .int .i64 (fMost i), .int .i64 (fSize i), .string (fMark i)]
def fV (b i : Nat) : Value := .agg #[.pointer (some ⟨b, i, none⟩), .int .i64 (fMost i), .int .i64 (fSize i), .string (fMark i)]

theorem cells_of {w : World} {b : Nat} {cu : Array Value} {ty : TypeId} (h : w.heap[b]? = some (.cells cu ty (0, 0))) (o : Nat) : w.cell? ⟨b, o, none⟩ = cu[o]? := by simp [World.cell?, h]
set_option maxHeartbeats 1000000 in
theorem fields_any (b : Nat) (w : World) :
  Calls Tryz.prog 94 #[.pointer (some ⟨b, 0, none⟩)] w fun e w' => e = .returned (.func (.func 111) #[] #[.pointer (some ⟨w.heap.size, 0, none⟩)]) ∧ w' = w.alloc (.cells #[.pointer (some ⟨b, 0, none⟩)] 186) := by
 go_enter Tryz.func94, Tryz.ntmps94
 go_wp2
 go_ret
 exact ⟨rfl, rfl⟩

set_option maxHeartbeats 2000000 in
theorem fields_iter (b bp : Nat) (w : World) (hb : Box w bp (.pointer (some ⟨b, 0, none⟩))) :
  IterX Tryz.prog 111 #[.pointer (some ⟨bp, 0, none⟩)] (fun i : Nat => #[fV b i]) [0, 1, 2] none' (fun k => k = bp) w := by
 intro l J Jx W hK hJ hJx hY h0
 have hbW : Box W bp (.pointer (some ⟨b, 0, none⟩)) := hb.of_block (hK.2 bp rfl)
 have hc := hbW.cell
 have hf0 : (fMost 0 = 281474976710656 ∧ fMost 1 = 16 ∧ fMost 2 = 4294967295 ∧ fSize 0 = 7 ∧ fSize 1 = 1 ∧ fSize 2 = 4) ∧ fMark 0 = ⟨#[]⟩ ∧ fMark 1 = ⟨#[64]⟩ ∧ fMark 2 = ⟨#[35]⟩ := ⟨⟨rfl, rfl, rfl, rfl, rfl, rfl⟩, rfl, rfl, rfl⟩
 have HF := Lib.hid hf0
 have HY := Lib.hid hY
 have HJ := Lib.hid hJ
 clear hY hJ hK hb hf0
 refine callsIn_of_wp Tryz.func111 rfl trivial ?_ rfl
 simp only [Tryz.ntmps111, List.size_toArray, List.length_cons, List.length_nil, Nat.reduceAdd, Nat.reduceSub, Array.replicate_succ, Array.replicate_zero, List.push_toArray, List.append_toArray, List.nil_append, List.cons_append]
 gi_wp2
 refine wpIn_wide.2 ?_
 refine wp_region_held_drew (S := fun W' => W'.cell? ⟨bp, 0, none⟩ = some (.pointer (some ⟨b, 0, none⟩))) (by kernel_rfl) hc (fun hHeld => ?_)
 refine tk2 (i := 0) (v := .pointer (some ⟨b, 0, none⟩)) ?_
 try simp only[pUt,pUn,sEt,sEz,sEs]
 refine tk2 (i := 1) (v := .pointer (some ⟨b, 0, none⟩)) ?_
 try simp only[pUt,pUn,sEt,sEz,sEs]
 refine tk2 (i := 2) (v := .pointer (some ⟨b, 0, none⟩)) ?_
 try simp only[pUt,pUn,sEt,sEz,sEs]
 refine tk2 (i := 3) (v := .agg #[.pointer (some ⟨b, 0, none⟩), .int .i64 281474976710656, .int .i64 7, .string ⟨#[]⟩]) ?_
 try simp only[pUt,pUn,sEt,sEz,sEs]
 refine tk2 (i := 4) (v := .pointer (some ⟨b, 0, none⟩)) ?_
 try simp only[pUt,pUn,sEt,sEz,sEs]
 refine tk2 (i := 5) (v := .pointer (some ⟨b, 0, none⟩)) ?_
 try simp only[pUt,pUn,sEt,sEz,sEs]
 refine tk2 (i := 6) (v := .pointer (some ⟨b, 1, none⟩)) ?_
 try simp only[pUt,pUn,sEt,sEz,sEs]
 refine tk2 (i := 7) (v := .agg #[.pointer (some ⟨b, 1, none⟩), .int .i64 16, .int .i64 1, .string ⟨#[64]⟩]) ?_
 try simp only[pUt,pUn,sEt,sEz,sEs]
 refine tk2 (i := 8) (v := .pointer (some ⟨b, 0, none⟩)) ?_
 try simp only[pUt,pUn,sEt,sEz,sEs]
 refine tk2 (i := 9) (v := .pointer (some ⟨b, 0, none⟩)) ?_
 try simp only[pUt,pUn,sEt,sEz,sEs]
 refine tk2 (i := 10) (v := .pointer (some ⟨b, 2, none⟩)) ?_
 try simp only[pUt,pUn,sEt,sEz,sEs]
 refine tk2 (i := 11) (v := .agg #[.pointer (some ⟨b, 2, none⟩), .int .i64 4294967295, .int .i64 4, .string ⟨#[35]⟩]) ?_
 try simp only[pUt,pUn,sEt,sEz,sEs]
 refine tk2 (i := 14) (v := .int .i64 0) ?_
 try simp only[pUt,pUn,sEt,sEz,sEs]
 refine take_call (i := 12) rfl (by kernel_rfl) (by kernel_rfl) (fun K hK => ?_)
 go_simp
 refine hK.out _ _ (World.cell?_alloc_some _ _ _ (by rw [hc]; rfl) |>.trans hc) (fun hHeld2 => ?_)
 clear hK K
 try simp only[pUt,pUn,sEt,sEz,sEs]
 refine tk2 (i := 13) (v := .int .i64 3) ?_
 try simp only[pUt,pUn,sEt,sEz,sEs]
 refine wpAnyH_done (by kernel_rfl) ?_ _
 clear hHeld hHeld2
 obtain ⟨R, hR0⟩ : ∃ R, W.heap.size = R := ⟨_, rfl⟩
 obtain ⟨W1, hW1⟩ : ∃ W1, (W.alloc (.cells #[.pointer (some ⟨b, 0, none⟩), .int .i64 281474976710656, .int .i64 7, .string ⟨#[]⟩, .pointer (some ⟨b, 1, none⟩), .int .i64 16, .int .i64 1, .string ⟨#[64]⟩, .pointer (some ⟨b, 2, none⟩), .int .i64 4294967295, .int .i64 4, .string ⟨#[35]⟩] 189)).drew = W1 := ⟨_, rfl⟩
 have hrow : W1.heap[R]? = some (.cells #[.pointer (some ⟨b, 0, none⟩), .int .i64 281474976710656, .int .i64 7, .string ⟨#[]⟩, .pointer (some ⟨b, 1, none⟩), .int .i64 16, .int .i64 1, .string ⟨#[64]⟩, .pointer (some ⟨b, 2, none⟩), .int .i64 4294967295, .int .i64 4, .string ⟨#[35]⟩] 189 (0, 0)) := by rw [← hW1, ← hR0]; exact World.alloc_heap_new W _
 have hj1 : J 0 (fun k => k = R) W1 := HJ.out 0 none' _ W W1 h0 (hW1 ▸ ((Fr.refl _ _).alloc _).drew) (fun k hk => .inr (by subst hk; rw [← hW1, ← hR0]; simp))
 have cs := cells_of hrow
 rw [hR0, hW1]
 have HW1 := Lib.hid hW1
 clear hW1 h0 hbW hc
 gi_wp2
 refine wpIn_loop_rounds 4 ?_
 have c0 := cs 0
 have c1 := cs 1
 have c2 := cs 2
 have c3 := cs 3
 simp at c0 c1 c2 c3
 have Hrow := Lib.hid hrow
 clear cs hrow
 have hy := HY.out 0 0 (fun k => k = R) (W1.alloc (.cells #[.pointer (some ⟨b, 0, none⟩), .int .i64 281474976710656, .int .i64 7, .string ⟨#[]⟩] 189)) rfl (HJ.out 0 _ _ _ _ hj1 ((Fr.refl _ _).alloc _) (fun k hk => .inl hk))
 rw [show fV b 0 = .agg #[.pointer (some ⟨b, 0, none⟩), .int .i64 281474976710656, .int .i64 7, .string ⟨#[]⟩] from rfl] at hy
 obtain ⟨fn, tmps, assign, body, hy, hR⟩ := hy
 have Hrow' := Lib.hid (show (W1.alloc (.cells #[.pointer (some ⟨b, 0, none⟩), .int .i64 281474976710656, .int .i64 7, .string ⟨#[]⟩] 189)).heap[R]? = _ from (Below.heap_alloc W1 _ R (Array.getElem?_eq_some_iff.1 Hrow.out).1).trans Hrow.out)
 rw [roundsIn_succ]
 gi_wp2
 refine hR.mono ?_
 rintro e W2 (⟨rfl, hj, hk⟩ | ⟨rfl, hx⟩)
 rotate_left
 ·gi_wp2
  refine bodyPost_ret (results_none rfl _ _ _) rfl ?_
  exact ⟨⟨_, rfl⟩, .inr hx⟩
 clear hy hR c0 c1 c2 c3
 have Hrow := Lib.hid ((hk.2 R (.inr rfl)).trans Hrow'.out)
 clear Hrow' hk
 have c0 := cells_of Hrow.out 4
 have c1 := cells_of Hrow.out (4 + 1)
 have c2 := cells_of Hrow.out (4 + 2)
 have c3 := cells_of Hrow.out (4 + 3)
 simp at c0 c1 c2 c3
 gi_wp2
 have hy := HY.out 1 1 (fun k => k = R) (W2.alloc (.cells #[.pointer (some ⟨b, 1, none⟩), .int .i64 16, .int .i64 1, .string ⟨#[64]⟩] 189)) rfl (HJ.out 1 _ _ _ _ hj ((Fr.refl _ _).alloc _) (fun k hk => .inl hk))
 rw [show fV b 1 = .agg #[.pointer (some ⟨b, 1, none⟩), .int .i64 16, .int .i64 1, .string ⟨#[64]⟩] from rfl] at hy
 obtain ⟨fn, tmps, assign, body, hy, hR⟩ := hy
 have Hrow' := Lib.hid (show (W2.alloc (.cells #[.pointer (some ⟨b, 1, none⟩), .int .i64 16, .int .i64 1, .string ⟨#[64]⟩] 189)).heap[R]? = _ from (Below.heap_alloc W2 _ R (Array.getElem?_eq_some_iff.1 Hrow.out).1).trans Hrow.out)
 rw [roundsIn_succ]
 gi_wp2
 refine hR.mono ?_
 rintro e W3 (⟨rfl, hj, hk⟩ | ⟨rfl, hx⟩)
 rotate_left
 ·gi_wp2
  refine bodyPost_ret (results_none rfl _ _ _) rfl ?_
  exact ⟨⟨_, rfl⟩, .inr hx⟩
 clear hy hR c0 c1 c2 c3
 have Hrow := Lib.hid ((hk.2 R (.inr rfl)).trans Hrow'.out)
 clear Hrow' hk
 have c0 := cells_of Hrow.out 8
 have c1 := cells_of Hrow.out (8 + 1)
 have c2 := cells_of Hrow.out (8 + 2)
 have c3 := cells_of Hrow.out (8 + 3)
 simp at c0 c1 c2 c3
 gi_wp2
 have hy := HY.out 2 2 (fun k => k = R) (W3.alloc (.cells #[.pointer (some ⟨b, 2, none⟩), .int .i64 4294967295, .int .i64 4, .string ⟨#[35]⟩] 189)) rfl (HJ.out 2 _ _ _ _ hj ((Fr.refl _ _).alloc _) (fun k hk => .inl hk))
 rw [show fV b 2 = .agg #[.pointer (some ⟨b, 2, none⟩), .int .i64 4294967295, .int .i64 4, .string ⟨#[35]⟩] from rfl] at hy
 obtain ⟨fn, tmps, assign, body, hy, hR⟩ := hy
 have Hrow' := Lib.hid (show (W3.alloc (.cells #[.pointer (some ⟨b, 2, none⟩), .int .i64 4294967295, .int .i64 4, .string ⟨#[35]⟩] 189)).heap[R]? = _ from (Below.heap_alloc W3 _ R (Array.getElem?_eq_some_iff.1 Hrow.out).1).trans Hrow.out)
 rw [roundsIn_succ]
 gi_wp2
 refine hR.mono ?_
 rintro e W4 (⟨rfl, hj, hk⟩ | ⟨rfl, hx⟩)
 rotate_left
 ·gi_wp2
  refine bodyPost_ret (results_none rfl _ _ _) rfl ?_
  exact ⟨⟨_, rfl⟩, .inr hx⟩
 clear hy hR c0 c1 c2 c3
 have Hrow := Lib.hid ((hk.2 R (.inr rfl)).trans Hrow'.out)
 clear Hrow' hk
 have c0 := cells_of Hrow.out 8
 have c1 := cells_of Hrow.out (8 + 1)
 have c2 := cells_of Hrow.out (8 + 2)
 have c3 := cells_of Hrow.out (8 + 3)
 simp at c0 c1 c2 c3
 gi_wp2
 rw [roundsIn_succ]
 gi_wp2
 go_end0
 exact ⟨⟨_, rfl⟩, .inl ⟨_, hj⟩⟩
end Go.Proofs.YtieeloealklkgaaGreat

/-
  append onto an own row of elements of any size, whatever the source; the count of draws does not fall.
-/
namespace Go.Proofs.YtieeloealklkgaaGreat
open Go.RowKit
variable {P : Program}

theorem run_append_own_k (w : World) (base : Nat) (t tx ty e : TypeId) (i : TypeInfo) (z : Value) (size bytes : Nat) (ht : P.underlying t = some (.slice e)) (hi : P.info? e = some i) (hz : i.zero = some z)
  (hsize : i.size = size) (hby : i.bytes = bytes) (hzs : z.cells.size = size) (hsz : 0 < size)
  (v : Value) (n : Nat) (xs : List Value) (hown : w.ownsRow base e size v n xs)
  (x : Value) (m : Nat) (news : List Value) (hs : Src P size tx x m news w)
  (h63 : n + m ≤ maxLen) (hbytes : (n + m) * bytes ≤ 140737488355328) (hbase : base ≤ w.heap.size) :
  ∃ v' w', (Builtin.append_ #[t, tx] ty #[v, x]).run P w = .ok v' w' ∧ w'.ownsRow base e size v' (n + m) (xs ++ news) ∧ w.grownBy w' v.ownBlock ∧ w.drawn ≤ w'.drawn ∧ (v'.ownBlock = v.ownBlock ∨ v'.ownBlock = some w.heap.size) := by
 subst hsize
 subst hby
 have hl := hs.newsLen
 have hxl := hown.1
 have hlen : (xs ++ news).length = (n + m) * i.size := by rw [List.length_append, hxl, hl, Nat.add_mul]
 have grown : ∀ (old : Nat), old < n + m → ∀ (row : Option Nat),
   (w.drew.alloc (.cells ((xs ++ news).toArray ++ Builtin.zeroCells z.cells (grownCap w (n + m) old e - (n + m))) e)).ownsRow base e i.size
    (.slice (some ⟨w.heap.size, 0, none⟩) (n + m) (grownCap w (n + m) old e)) (n + m) (xs ++ news) ∧
   w.grownBy (w.drew.alloc (.cells ((xs ++ news).toArray ++ Builtin.zeroCells z.cells (grownCap w (n + m) old e - (n + m))) e)) row := by
  intro old ho row
  have hge := grownCap_ge w (n + m) old e
  have hcm : grownCap w (n + m) old e ≤ maxLen := grownCap_le_maxLen w (n + m) old e h63
  refine ⟨⟨hlen, .inr ⟨w.heap.size, _, _, rfl, hbase, heap_alloc_new w.drew _, hge, hcm, ?_, ?_⟩⟩, ⟨rfl, rfl, rfl, by simp, fun k hk _ => heap_alloc_old w.drew _ hk⟩⟩
  ·simp only [Array.size_append, List.size_toArray, size_zeroCells, hzs, hlen, ← Nat.add_mul]
   congr 1
   omega
  ·simp only [Array.toList_append]
   rw [← hlen]
   exact List.take_left
 rcases hown.2 with ⟨rfl, rfl⟩ | ⟨g, cap, cur, rfl, hbg, hg, hnc, hcm, hcs, htake⟩
 ·have hx : xs = [] := List.eq_nil_of_length_eq_zero (by simpa using hxl)
  subst hx
  by_cases hm : m = 0
  ·subst hm
   have hn : news = [] := List.eq_nil_of_length_eq_zero (by simpa using hl)
   subst hn
   refine ⟨.slice none 0 0, w, ?_, World.ownsRow_nil w base e i.size, ⟨rfl, rfl, rfl, Nat.le_refl _, fun _ _ _ => rfl⟩, Nat.le_refl _, .inl rfl⟩
   have hc := hs.cells
   rcases hs.kind with ⟨e', hk⟩ | hk <;> simp [Builtin.append_, run_underlying ht, run_underlying hk, sizeOf, typeInfo, hi, hs.len, hc]
  ·have hr := run_append_grow_src w t tx ty e i z ht hi hz none 0 0 [] (by simp [Builtin.firstCells, Sem.run_pure]) x m news hs (by omega) (by simp only [maxLen] at h63; omega) (growslice_fits (by omega) hbytes)
   have hgr := grown 0 (by omega) (Value.ownBlock (.slice none 0 0))
   exact ⟨_, _, hr, hgr.1, hgr.2, Nat.le_succ _, .inr rfl⟩
 ·by_cases hroom : n + m ≤ cap
  ·have hfit : n * i.size + news.length ≤ cur.size := by rw [hl, hcs, ← Nat.add_mul]; exact Nat.mul_le_mul_right _ hroom
   have hst := run_storeCells_at P g (n * i.size) e news 0 cur w hg (by simpa using hfit) hs.one
   simp only [Nat.add_zero] at hst
   have hr : (Builtin.append_ #[t, tx] ty #[.slice (some ⟨g, 0, none⟩) n cap, x]).run P w =
     .ok (.slice (some ⟨g, 0, none⟩) (n + m) cap) (w.setRow g (cur.toList.take (n * i.size) ++ news ++ cur.toList.drop (n * i.size + news.length)).toArray) := by
    have hc := hs.cells
    rcases hs.kind with ⟨e', hk⟩ | hk <;> simp [Builtin.append_, run_underlying ht, run_underlying hk, sizeOf, typeInfo, hi, hs.len, hroom, hc, Addr.add_lit, hst]
   refine ⟨_, _, hr, ⟨hlen, .inr ⟨g, cap, _, rfl, hbg, setRow_heap w g cur _ e _ hg, hroom, hcm, ?_, ?_⟩⟩, ⟨rfl, rfl, rfl, by simp, fun k _ hk => setRow_other w g k _ (fun e => hk (by simp [Value.ownBlock, e]))⟩, Nat.le_refl _, .inl rfl⟩
   ·simp only [List.size_toArray, List.length_append, List.length_take, List.length_drop, Array.length_toList]
    omega
   ·rw [htake, ← hlen]
    exact List.take_left
  ·have holds : ∀ j u, xs[j]? = some u → w.drew.cell? ((⟨g, 0, none⟩ : Addr).add j) = some u := fun j u hj => by simpa using hown.cells (g := g) rfl j u hj
   have hr := run_append_grow_src w t tx ty e i z ht hi hz (some ⟨g, 0, none⟩) n cap xs (run_firstCells_some w.drew i.size n ⟨g, 0, none⟩ n cap xs hxl holds) x m news hs (by omega) (by simp only [maxLen] at h63; omega) (growslice_fits (by omega) hbytes)
   have hgr := grown cap (by omega) (Value.ownBlock (.slice (some ⟨g, 0, none⟩) n cap))
   exact ⟨_, _, hr, hgr.1, hgr.2, Nat.le_succ _, .inr rfl⟩

theorem wpList_append_k {w : World} {ops : Array Oper} {rest : List Oper} {o : Oper} {a : Act} {Q : Exit → Act → World → Prop} (hgd : o.guard = none) (s x : Operand) (t tx : TypeId)
  (ho : o.op = .call { callee := .builtin .append, args := #[s, x], argTypes := #[t, tx] })
  (base : Nat) (e : TypeId) (i : TypeInfo) (z : Value) (size bytes : Nat) (ht : P.underlying t = some (.slice e)) (hi : P.info? e = some i) (hz : i.zero = some z)
  (hsize : i.size = size) (hby : i.bytes = bytes) (hzs : z.cells.size = size) (hsz : 0 < size)
  (v : Value) (n : Nat) (xs : List Value) (hs : a.eval s = v) (hown : w.ownsRow base e size v n xs)
  (xv : Value) (m : Nat) (news : List Value) (hx : a.eval x = xv) (hsrc : Src P size tx xv m news w)
  (h63 : n + m ≤ maxLen) (hbytes : (n + m) * bytes ≤ 140737488355328) (hbase : base ≤ w.heap.size)
  (h : ∀ v' w', w'.ownsRow base e size v' (n + m) (xs ++ news) → w.grownBy w' v.ownBlock → w.drawn ≤ w'.drawn → (v'.ownBlock = v.ownBlock ∨ v'.ownBlock = some w.heap.size) → wpList P ops Q rest (a.put o.dst v') w') : wpList P ops Q (o :: rest) a w :=
 wpList_plain hgd fun _ hK => by
  obtain ⟨v', w', hr, h2, h3, h4, h5⟩ := run_append_own_k (P := P) w base t tx o.type e i z size bytes ht hi hz hsize hby hzs hsz v n xs hown xv m news hsrc h63 hbytes hbase
  unfold Oper.wp execOp
  simp only [ho, resolve, invoke, builtin, Sem.run_bind, Sem.run_pure, Result.andThen_ok, List.map_toArray, List.map_cons, List.map_nil, hs, hx, hr]
  exact hK _ _ (h v' w' h2 h3 h4 h5)

theorem wpListIn_append_k {F : Fence} {fn : Nat} {w : World} {ops : Array Oper} {rest : List Oper} {o : Oper} {a : Act} {Q : Exit → Act → World → Prop} (hgd : o.guard = none) (s x : Operand) (t tx : TypeId)
  (ho : o.op = .call { callee := .builtin .append, args := #[s, x], argTypes := #[t, tx] })
  (base : Nat) (e : TypeId) (i : TypeInfo) (z : Value) (size bytes : Nat) (ht : P.underlying t = some (.slice e)) (hi : P.info? e = some i) (hz : i.zero = some z)
  (hsize : i.size = size) (hby : i.bytes = bytes) (hzs : z.cells.size = size) (hsz : 0 < size)
  (v : Value) (n : Nat) (xs : List Value) (hs : a.eval s = v) (hown : w.ownsRow base e size v n xs)
  (xv : Value) (m : Nat) (news : List Value) (hx : a.eval x = xv) (hsrc : Src P size tx xv m news w)
  (h63 : n + m ≤ maxLen) (hbytes : (n + m) * bytes ≤ 140737488355328) (hbase : base ≤ w.heap.size)
  (h : ∀ v' w', w'.ownsRow base e size v' (n + m) (xs ++ news) → w.grownBy w' v.ownBlock → w.drawn ≤ w'.drawn → (v'.ownBlock = v.ownBlock ∨ v'.ownBlock = some w.heap.size) → wpListIn F fn P ops Q rest (a.put o.dst v') w') : wpListIn F fn P ops Q (o :: rest) a w := by
 refine wpListIn_plain hgd fun K hK' => ?_
 obtain ⟨v', w', hr, h2, h3, h4, h5⟩ := run_append_own_k (P := P) w base t tx o.type e i z size bytes ht hi hz hsize hby hzs hsz v n xs hown xv m news hsrc h63 hbytes hbase
 unfold Oper.wpIn
 refine ⟨?_, ?_⟩
 ·simp [Oper.about, ho, resolve, Target.leads, Sem.run_pure]
 ·rw [Oper.semAt_plain F _ _ (by rw [ho]; intro c hc'; cases hc')]
  simp [execOp, ho, resolve, invoke, builtin, hs, hx, hr, Result.andThen]
  exact hK' _ _ (h v' w' h2 h3 h4 h5)

/-- A row of cells that has just been made, as the source. -/
theorem Src.newRow {size : Nat} {tx e' ty : TypeId} (w : World) (hk : P.underlying tx = some (.slice e')) (n c : Nat) (news : List Value) (hl : news.length = n * size) (h1 : ∀ u ∈ news, u.oneCell' = true) :
  Src P size tx (.slice (some ⟨w.heap.size, 0, none⟩) n c) n news (w.alloc (.cells news.toArray ty)) :=
 Src.ofSlice _ hk _ n c news hl (fun j u hj => by
  have h := World.alloc_heap_new w (.cells news.toArray ty)
  unfold Addr.add
  by_cases hj0 : j = 0
  ·subst hj0; simp only [World.cell?, if_true, h]; simpa using hj
  ·rw [if_neg hj0]; simp only [World.cell?, h]; simpa using hj) h1
theorem ownsRow_k_fr {S : Nat → Prop} {w w' : World} {base : Nat} {e : TypeId} {size : Nat} {v : Value} {n : Nat} {xs : List Value} (h : w.ownsRow base e size v n xs) (hf : Fr S w w')
  (hs : ∀ g, v.ownBlock = some g → ¬ S g) : w'.ownsRow base e size v n xs := by
 obtain ⟨h1, h2⟩ := h
 refine ⟨h1, ?_⟩
 rcases h2 with h2 | ⟨g, cap, cur, hv, hg, hh, r⟩
 ·exact Or.inl h2
 ·refine Or.inr ⟨g, cap, cur, hv, hg, ?_, r⟩
  rw [hf.block g (Array.getElem?_eq_some_iff.1 hh).1 (hs g (by rw [hv]; rfl))]; exact hh
theorem ownsRow_k_mono {w : World} {base base' : Nat} {e : TypeId} {size : Nat} {v : Value} {n : Nat} {xs : List Value} (h : w.ownsRow base e size v n xs) (hb : base' ≤ base) : w.ownsRow base' e size v n xs := by
 obtain ⟨h1, h2⟩ := h
 refine ⟨h1, ?_⟩
 rcases h2 with h2 | ⟨g, cap, cur, hv, hg, hh, r⟩
 ·exact Or.inl h2
 ·exact Or.inr ⟨g, cap, cur, hv, Nat.le_trans hb hg, hh, r⟩
theorem ownsRow_k_raise {w : World} {base base' : Nat} {e : TypeId} {size : Nat} {v : Value} {n : Nat} {xs : List Value} (h : w.ownsRow base e size v n xs) (hb : ∀ g, v.ownBlock = some g → base' ≤ g) : w.ownsRow base' e size v n xs := by
 obtain ⟨h1, h2⟩ := h
 refine ⟨h1, ?_⟩
 rcases h2 with h2 | ⟨g, cap, cur, hv, hg, hh, r⟩
 ·exact Or.inl h2
 ·exact Or.inr ⟨g, cap, cur, hv, hb g (by rw [hv]; rfl), hh, r⟩
theorem ownsRow_k_succ {w : World} {base : Nat} {e : TypeId} {size : Nat} {v : Value} {n : Nat} {xs : List Value} (h : w.ownsRow base e size v (n + 1) xs) : ∃ g cap, v = .slice (some ⟨g, 0, none⟩) (n + 1) cap := by
 rcases h.2 with ⟨_, h⟩ | ⟨g, cap, cur, h, _⟩
 ·omega
 ·exact ⟨g, cap, h⟩
end Go.Proofs.YtieeloealklkgaaGreat

/-
  slices.Collect at the fields of a key.
-/
namespace Go.Proofs.YtieeloealklkgaaGreat
open Go.RowKit
attribute [local go_sem] Oper.semAt_some wide_fn wide_depth wide_fnR wide_depthR

theorem info_field : (Tryz.prog.info? 189).map (fun i => (i.zero, i.size, i.bytes)) = some (some (.agg #[.pointer none, .int .i64 0, .int .i64 0, .string ⟨#[]⟩]), 4, 40) := by kernel_rfl
def fCs (b : Nat) (l : List Nat) : List Value := l.flatMap (fC b)
theorem fCs_snoc (b : Nat) (l : List Nat) (i : Nat) : fCs b (l ++ [i]) = fCs b l ++ fC b i := by simp [fCs]

set_option maxHeartbeats 2000000 in
theorem AppendSeqF (gf : Nat) (lb : Array Value) (b : Nat) (xs : List Nat) (own rd : Nat → Prop) (w : World) (eg : ∀ args w, (callFunc gf args).run Tryz.prog w = .ok (.enter gf args) w)
  (hit : IterX Tryz.prog gf lb (fun i : Nat => #[fV b i]) xs own rd w) (ho : ∀ k, own k → k < w.heap.size) (hr : ∀ k, rd k → k < w.heap.size) (hlen : xs.length ≤ 1000000) :
  CallsIn Fence.wide 0 Tryz.prog 130 #[.slice none 0 0, .func (.func gf) #[] lb] w fun e w' =>
   ∃ v, e = .returned v ∧ w'.ownsRow w.heap.size 189 4 v xs.length (fCs b xs) ∧ Fr own w w' := by
 obtain ⟨i0, hi, hz0, hz1, hz2⟩ := info_parts info_field
 refine callsIn_of_wp_marks Tryz.func130 rfl trivial ?_ rfl
 simp only [Tryz.ntmps130, List.size_toArray, List.length_cons, List.length_nil, Nat.reduceAdd, Nat.reduceSub, Array.replicate_succ, Array.replicate_zero, List.push_toArray, List.append_toArray, List.nil_append, List.cons_append]
 gi_wp2_with fail
 refine wpIn_iterX (gf := gf) (lb := lb) rfl eg hit (Fr.keep ((Fr.refl none' w).alloc _) (fun k hk => ⟨hr k hk, id⟩)) (fun _ => rfl) (fun k hk => by have := ho k hk; simp; omega) (fun k hk => by have := hr k hk; simp; omega)
  (fun i X W => ∃ v, Box W w.heap.size v ∧ W.ownsRow (w.heap.size + 3) 189 4 v i (fCs b (xs.take i)) ∧ Fr own w W ∧ ∀ g, v.ownBlock = some g → ¬ X g)
  (fun _ _ => False) ?hI (fun _ _ _ h _ => h.elim) ?h0
  (fun x W a' => ∃ B, a' = { tmps := #[.slice none 0 0, .func (.func gf) #[] lb, .pointer (some ⟨w.heap.size, 0, none⟩), undef, .slice none 0 0, .pointer (some ⟨B, 0, none⟩), .func (.func gf) #[] lb, fV b x, undef, undef, undef, undef, undef], defers := [] } ∧ w.heap.size + 2 < B ∧ W.heap[B]? = some (.cells (fC b x).toArray 189 (0, 0)))
  ?assign ?keep ?body ?done (fun _ _ _ _ h _ => h.elim)
 case hI =>
  rintro i X Y W1 W2 ⟨v, hb, hrow, hfr, hX⟩ hXb hf hY
  simp only [World.size_alloc] at hf hXb
  refine ⟨v, hb.fr hf (fun h => ?_), ownsRow_k_fr hrow hf (fun g hg h => ?_), hfr.trans' hf (fun k hk h => ?_), fun g hg hy => ?_⟩
  ·rcases h with h | h | h | h
   ·have := ho _ h; omega
   ·have := hXb _ h; omega
   ·omega
   ·omega
  ·have hlt := hrow.lt g hg
   rcases h with h | h | h | h
   ·have := ho _ h; omega
   ·exact hX g hg h
   ·omega
   ·omega
  ·rcases h with h | h | h | h
   ·exact h
   ·have := hXb _ h; omega
   ·omega
   ·omega
  ·rcases hY g hy with h | h
   ·exact hX g hg h
   ·have := hrow.lt g hg; omega
 case h0 =>
  exact ⟨_, Box.new w _ _, World.ownsRow_nil _ _ _ _, (Fr.refl _ _).alloc _, fun g hg => by cases hg⟩
 case keep =>
  rintro x W1 W2 a' ⟨B, rfl, hB, hc⟩ hf
  refine ⟨B, rfl, hB, (hf.block B (Array.getElem?_eq_some_iff.1 hc).1 (by simp; omega)).trans hc⟩
 case assign =>
  intro l x W K hlt hK
  simp only [World.size_alloc] at hlt
  simp only [fV]
  gi_wp2
  exact hK _ _ ⟨W.heap.size, by simp [fV], by omega, World.alloc_heap_new W _⟩ ((Fr.refl _ _).alloc _)
 case body =>
  rintro l i x X W a' r hxi ⟨v, hb, hrow, hfr, hX⟩ hXb ⟨B, rfl, hB, hcB⟩ hD hL
  have hlt : i < xs.length := (List.getElem?_eq_some_iff.1 hxi).1
  have hsz : w.heap.size + 2 < W.heap.size := by have := (Array.getElem?_eq_some_iff.1 hL).1; simpa using this
  have hc := hb.cell
  have hf := hb.frozen
  simp only [World.size_alloc] at hXb
  have Hxi := Lib.hid hxi
  have b0 := cells_of hcB 0
  have b1 := cells_of hcB 1
  have b2 := cells_of hcB 2
  have b3 := cells_of hcB 3
  simp [fC] at b0 b1 b2 b3
  have HX := Lib.hid hX
  have HXb := Lib.hid hXb
  clear hxi hD hL hcB hX hXb
  have hsrc := Src.newRow (P := Tryz.prog) (size := 4) (tx := 205) (ty := 189) W Tryz.underlying205 1 1 (fC b x) rfl (by simp [Value.oneCell', fC])
  simp only [fC] at hsrc
  gi_wp2_with (gi_at_builtin; refine wpListIn_append_k rfl _ _ 205 205 rfl (w.heap.size + 3) 189 i0 (.agg #[.pointer none, .int .i64 0, .int .i64 0, .string ⟨#[]⟩]) 4 40 Tryz.underlying205 hi hz0 hz1 hz2 rfl (by decide) v i _ rfl (hrow.alloc _) (.slice (some ⟨W.heap.size, 0, none⟩) 1 1) 1 _ rfl hsrc (by unfold maxLen; omega) (by omega) (by simp; omega) ?_; intro v' w1 hown' hgrow hdr hob; obtain ⟨g', cap', rfl⟩ := ownsRow_k_succ hown'; have hfg := ((Fr.refl (fun k => v.ownBlock = some k) W).alloc _).grown hgrow hdr (fun k hk _ => hk); have hb1 := hb.fr hfg (fun h => by have := (hrow.lt _ h).1; omega); have hc1 := hb1.cell; have hf1 := hb1.frozen)
  have hb2 := hb1.set (.slice (some ⟨g', 0, none⟩) (i + 1) cap')
  have hf2 := (hfg.mono (S' := fun k => k = w.heap.size ∨ v.ownBlock = some k) (fun k _ h => .inr h)).setCell (b := w.heap.size) (o := 0) (fun _ => .inl rfl) (.slice (some ⟨g', 0, none⟩) (i + 1) cap')
  refine ⟨_, hf2, ?_, ⟨_, hb2, ?_, ?_, ?_⟩⟩
  ·intro k h1 h2
   simp only [World.size_alloc] at h2
   rcases h1 with h1 | h1
   ·rcases h2 with h | h | h | h
    ·have := hr _ h; omega
    ·have := HXb.out _ h; omega
    ·omega
    ·omega
   ·have h3 := hrow.lt _ h1
    rcases h2 with h | h | h | h
    ·have := hr _ h; omega
    ·exact HX.out _ h1 h
    ·omega
    ·omega
  ·have h3 := ownsRow_setCell_below hown' (a := ⟨w.heap.size, 0, none⟩) (by simp) (.slice (some ⟨g', 0, none⟩) (i + 1) cap')
   rw [show List.take (i + 1) xs = List.take i xs ++ [x] from by
    rw [List.take_add_one, Hxi.out]; simp, fCs_snoc]
   exact h3
  ·exact hfr.trans' hf2 (fun k hk h => by
    rcases h with h | h
    ·omega
    ·have := hrow.lt _ h; omega)
  ·intro g hg hXg
   rcases hob with h | h
   ·rw [hg] at h; exact HX.out _ h.symm hXg
   ·rw [hg] at h
    injection h with h
    have := HXb.out _ hXg
    simp at h; omega
 case done =>
  rintro D X W hDe ⟨v, hb, hrow, hfr, _⟩ hK
  obtain rfl : D = w.heap.size + 1 := by simpa using hDe
  have hc := hb.cell
  rw [List.take_of_length_le (Nat.le_refl _)] at hrow
  have hD : w.heap.size + 1 < W.heap.size := by have := (Array.getElem?_eq_some_iff.1 hK).1; simpa using this
  have hfe : Fr own w (W.putObj (w.heap.size + 1) (.deferred none)) := hfr.putObj (fun h => by omega) _
  have hrow' : (W.putObj (w.heap.size + 1) (.deferred none)).ownsRow w.heap.size 189 4 v xs.length (fCs b xs) := by
   refine ownsRow_k_fr (ownsRow_k_mono hrow (by omega)) (Fr.putNew (S := fun k => k = w.heap.size + 1) _ _ rfl) (fun g hg h => ?_)
   have := (hrow.lt g hg).1; omega
  have hK' := hK
  have hfv : ∃ a n c, v = .slice a n c := by
   rcases hrow.2 with ⟨rfl, _⟩ | ⟨g, cap, cur, rfl, _⟩
   ·exact ⟨_, _, _, rfl⟩
   ·exact ⟨_, _, _, rfl⟩
  clear hrow hb hfr hK
  obtain ⟨sa, sn, sc, rfl⟩ := hfv
  gi_wp2
  refine ⟨by simp, .inl ⟨_, _, rfl, run_takeDeferred hK', ?_⟩⟩
  refine ⟨_, results_tmp rfl _ _ _, _, rfl, ?_, hfe⟩
  exact hrow'

set_option maxHeartbeats 2000000 in
theorem CollectF (gf : Nat) (lb : Array Value) (b : Nat) (xs : List Nat) (own rd : Nat → Prop) (w : World) (eg : ∀ args w, (callFunc gf args).run Tryz.prog w = .ok (.enter gf args) w)
  (hit : IterX Tryz.prog gf lb (fun i : Nat => #[fV b i]) xs own rd w) (ho : ∀ k, own k → k < w.heap.size) (hr : ∀ k, rd k → k < w.heap.size) (hlen : xs.length ≤ 1000000) :
  Calls Tryz.prog 116 #[.func (.func gf) #[] lb] w fun e w' =>
   ∃ v, e = .returned v ∧ w'.ownsRow w.heap.size 189 4 v xs.length (fCs b xs) ∧ Fr own w w' := by
 have HC := Lib.hid (callsIn_wide.1 (AppendSeqF gf lb b xs own rd w eg hit ho hr hlen))
 clear hit
 go_enter Tryz.func116, Tryz.ntmps116
 go_wp2_with fail
 refine HC.out.mono ?_
 rintro e w1 ⟨v, rfl, hrow, hfr⟩
 go_wp2
 go_ret
 exact ⟨_, rfl, hrow, hfr⟩
end Go.Proofs.YtieeloealklkgaaGreat

/-
  key.Compare.
-/
namespace Go.Proofs.YtieeloealklkgaaGreat
open Go.RowKit
attribute [local go_sem ↓] Go.wp_at_zero Go.wp_at_succ
attribute [local go_sem] Oper.semAt_some wide_fn wide_depth wide_fnR wide_depthR

def keyV (k : Key3) : Value := .agg #[.int .i64 k.time, .int .i64 k.source, .int .i64 k.seq]
set_option maxHeartbeats 1000000 in
theorem isNaNI_any (s : Int) (w : World) : Calls Tryz.prog 129 #[.int .i64 s] w fun e w' => e = .returned (.bool false) ∧ w = w' := by
 have h : (s != s) = false := by simp
 go_enter Tryz.func129, Tryz.ntmps129
 go_wp2
 go_ret
 exact ⟨rfl, rfl⟩
set_option maxHeartbeats 1000000 in
theorem cmpInt_any (a b : Int) (w : World) : Calls Tryz.prog 115 #[.int .i64 a, .int .i64 b] w fun e w' => e = .returned (.int .i64 (cmpI a b)) ∧ w = w' := by
 obtain ⟨c, hc⟩ : ∃ c, cmpI a b = c := ⟨_, rfl⟩
 rw [hc]
 unfold cmpI at hc
 by_cases h1 : a < b
 ·rw [if_pos h1] at hc
  subst hc
  have d1 : decide (a < b) = true := decide_eq_true h1
  go_enter Tryz.func115, Tryz.ntmps115
  go_wp2_with (go_at_call 129; refine (isNaNI_any _ _).mono ?_; rintro e w' ⟨rfl, rfl⟩)
  go_ret
  exact ⟨rfl, rfl⟩
 ·rw [if_neg h1] at hc
  have d1 : decide (a < b) = false := decide_eq_false h1
  by_cases h2 : b < a
  ·rw [if_pos h2] at hc
   subst hc
   have d2 : decide (b < a) = true := decide_eq_true h2
   go_enter Tryz.func115, Tryz.ntmps115
   go_wp2_with (go_at_call 129; refine (isNaNI_any _ _).mono ?_; rintro e w' ⟨rfl, rfl⟩)
   go_ret
   exact ⟨rfl, rfl⟩
  ·rw [if_neg h2] at hc
   subst hc
   have d2 : decide (b < a) = false := decide_eq_false h2
   go_enter Tryz.func115, Tryz.ntmps115
   go_wp2_with (go_at_call 129; refine (isNaNI_any _ _).mono ?_; rintro e w' ⟨rfl, rfl⟩)
   go_ret
   exact ⟨rfl, rfl⟩

/-- The three numbers of a key. -/
def nth3 (k : Key3) (i : Nat) : Int := if i = 0 then k.time else if i = 1 then k.source else k.seq

set_option maxHeartbeats 1000000 in
theorem eql_key (a b : Key3) (w : World) : (Go.binOp .eql 28 (keyV a) (keyV b)).run Tryz.prog w = .ok (.bool (decide (a = b))) w := by
 have h : decide (a = b) = (a.time == b.time && (a.source == b.source && a.seq == b.seq)) := by
  obtain ⟨a1, a2, a3⟩ := a
  obtain ⟨b1, b2, b3⟩ := b
  simp only [Key3.mk.injEq]
  rw [Bool.eq_iff_iff]; simp
 rw [h]
 unfold keyV
 go_simp
 by_cases h1 : a.time = b.time <;> by_cases h2 : a.source = b.source <;> by_cases h3 : a.seq = b.seq <;> simp [h1, h2, h3]

/-- A key in memory. -/
def KeyAt (w : World) (B : Nat) (k : Key3) : Prop := w.heap[B]? = some (.cells #[.int .i64 k.time, .int .i64 k.source, .int .i64 k.seq] 28 (0, 0))
theorem KeyAt.cell {w : World} {B : Nat} {k : Key3} (h : KeyAt w B k) {i : Nat} (hi : i < 3) : w.cell? ⟨B, i, none⟩ = some (.int .i64 (nth3 k i)) := by
 rw [cells_of h]
 have : i = 0 ∨ i = 1 ∨ i = 2 := by omega
 rcases this with rfl | rfl | rfl <;> rfl
theorem KeyAt.fr {S : Nat → Prop} {w w' : World} {B : Nat} {k : Key3} (h : KeyAt w B k) (hf : Fr S w w') (hs : ¬ S B) : KeyAt w' B k := (hf.block B (Array.getElem?_eq_some_iff.1 h).1 hs).trans h
theorem nth3_ext {a b : Key3} (h : ∀ j, j < 3 → nth3 a j = nth3 b j) : a = b := by
 have h0 := h 0 (by omega)
 have h1 := h 1 (by omega)
 have h2 := h 2 (by omega)
 simp [nth3] at h0 h1 h2
 cases a; cases b; simp at h0 h1 h2; simp [h0, h1, h2]
theorem cmp_first {a b : Key3} {i : Nat} (hi : i < 3) (h : ∀ j, j < i → nth3 a j = nth3 b j) (hne : nth3 a i ≠ nth3 b i) : cmpK a b = cmpI (nth3 a i) (nth3 b i) ∧ fieldK a b = (i : Int) + 1 := by
 have : i = 0 ∨ i = 1 ∨ i = 2 := by omega
 rcases this with rfl | rfl | rfl
 ·simp [nth3] at hne
  simp [cmpK, fieldK, nth3, hne]
 ·have h0 := h 0 (by omega)
  simp [nth3] at hne h0
  simp [cmpK, fieldK, nth3, hne, h0]
 ·have h0 := h 0 (by omega)
  have h1 := h 1 (by omega)
  simp [nth3] at hne h0 h1
  simp [cmpK, fieldK, nth3, hne, h0, h1]

set_option maxHeartbeats 2000000 in
theorem Compare_same (a : Key3) (w : World) :
  Calls Tryz.prog 100 #[keyV a, keyV a] w fun e w' => e = .returned (.tuple #[.int .i64 0, .int .i64 0]) ∧ Fr none' w w' := by
 have hq := fun w => (eql_key a a w).trans (by rw [decide_eq_true rfl])
 simp only [keyV] at hq ⊢
 go_enter Tryz.func100, Tryz.ntmps100
 go_wp2
 refine bodyPost_ret (v := .tuple #[.int .i64 0, .int .i64 0]) (by simp [results, Tryz.results100, go_sem]) rfl ⟨rfl, ?_⟩
 exact ((((Fr.refl _ _).alloc _).alloc _).alloc _).alloc _

set_option maxHeartbeats 2000000 in
theorem Compare_in (a b : Key3) (hab : a ≠ b) (w : World) :
  CallsIn Fence.wide 0 Tryz.prog 100 #[keyV a, keyV b] w fun e w' => e = .returned (.tuple #[.int .i64 (cmpK a b), .int .i64 (fieldK a b)]) ∧ Fr none' w w' := by
 have hq := fun w => (eql_key a b w).trans (by rw [decide_eq_false hab])
 have Hab := Lib.hid hab
 clear hab
 refine callsIn_of_wp_marks Tryz.func100 rfl trivial ?_ rfl
 simp only [keyV] at hq
 simp only [keyV, Tryz.ntmps100, List.size_toArray, List.length_cons, List.length_nil, Nat.reduceAdd, Nat.reduceSub, Array.replicate_succ, Array.replicate_zero, List.push_toArray, List.append_toArray, List.nil_append, List.cons_append]
 gi_wp2_with fail
 obtain ⟨Bw, hBw⟩ : ∃ Bw, w.heap.size = Bw := ⟨_, rfl⟩
 obtain ⟨W0, hW0⟩ : ∃ W0, (((w.alloc (.cells #[.int .i64 a.time, .int .i64 a.source, .int .i64 a.seq] 28)).alloc (.cells #[.int .i64 b.time, .int .i64 b.source, .int .i64 b.seq] 28)).alloc (.cells #[.int .i64 0] 3)).alloc (.cells #[.int .i64 0] 3) = W0 := ⟨_, rfl⟩
 rw [hW0, hBw]
 have hsz : W0.heap.size = Bw + 4 := by rw [← hW0, ← hBw]; simp
 have ka : KeyAt W0 Bw a := by
  rw [← hW0, ← hBw]
  exact (KeyAt.fr (S := none') (World.alloc_heap_new w _) ((((Fr.refl _ _).alloc _).alloc _).alloc _) id)
 have kb : KeyAt W0 (Bw + 1) b := by
  rw [← hW0, ← hBw]
  have := World.alloc_heap_new (w.alloc (.cells #[.int .i64 a.time, .int .i64 a.source, .int .i64 a.seq] 28)) (.cells #[.int .i64 b.time, .int .i64 b.source, .int .i64 b.seq] 28)
  rw [World.size_alloc] at this
  exact (KeyAt.fr (S := none') this (((Fr.refl _ _).alloc _).alloc _) id)
 have r0 : Box W0 (Bw + 1 + 1) (.int .i64 0) := by
  rw [← hW0, ← hBw]
  refine Box.alloc ?_ _
  have := Box.new ((w.alloc (.cells #[.int .i64 a.time, .int .i64 a.source, .int .i64 a.seq] 28)).alloc (.cells #[.int .i64 b.time, .int .i64 b.source, .int .i64 b.seq] 28)) (.int .i64 0) 3
  simpa using this
 have r1 : Box W0 (Bw + 1 + 1 + 1) (.int .i64 0) := by
  rw [← hW0, ← hBw]
  have := Box.new (((w.alloc (.cells #[.int .i64 a.time, .int .i64 a.source, .int .i64 a.seq] 28)).alloc (.cells #[.int .i64 b.time, .int .i64 b.source, .int .i64 b.seq] 28)).alloc (.cells #[.int .i64 0] 3)) (.int .i64 0) 3
  simpa using this
 have f0 : Fr none' w W0 := by rw [← hW0]; exact ((((Fr.refl _ _).alloc _).alloc _).alloc _).alloc _
 have F0 := Lib.hid f0
 have HBw := Lib.hid hBw
 have Ka := Lib.hid ka
 have Kb := Lib.hid kb
 have R0 := Lib.hid r0
 have R1 := Lib.hid r1
 have Hsz := Lib.hid hsz
 clear hq hW0 hBw ka kb r0 r1 f0 hsz
 refine (callsIn_wide.2 (fields_any _ _)).mono ?_
 rintro e w1 ⟨rfl, rfl⟩
 gi_wp2_with fail
 refine (callsIn_wide.2 (CollectF _ _ (Bw + 1) [0, 1, 2] _ _ _ (by intro args w; rfl) (fields_iter (Bw + 1) W0.heap.size _ (Box.new _ _ _)) (fun k hk => hk.elim) (fun k hk => by subst hk; simp) (by simp))).mono ?_
 rintro e W1 ⟨v, rfl, hrow, hfr⟩
 obtain ⟨g, cap, rfl⟩ := ownsRow_k_succ (n := 2) hrow
 have hg := hrow.lt g rfl
 have Hrow := Lib.hid hrow
 have f1 : Fr none' W0 W1 := ((Fr.refl _ _).alloc _).trans hfr
 have F1 := Lib.hid f1
 simp only [World.size_alloc] at hg
 have hs1 := f1.size
 clear hrow hfr f1
 gi_wp2_with fail
 obtain ⟨N, hN⟩ : ∃ N, W1.heap.size = N := ⟨_, rfl⟩
 obtain ⟨W2, hW2⟩ : ∃ W2, (W1.alloc (.cells #[.slice (some ⟨g, 0, none⟩) 3 cap] 205)).alloc (.cells #[.int .i64 0] 3) = W2 := ⟨_, rfl⟩
 rw [hN] at hg hs1 ⊢
 rw [hW2]
 have f2 : Fr none' W1 W2 := by rw [← hW2]; exact ((Fr.refl _ _).alloc _).alloc _
 have hsz2 : W2.heap.size = N + 2 := by rw [← hW2, ← hN]; simp
 have bo : Box W2 N (.slice (some ⟨g, 0, none⟩) 3 cap) := by rw [← hW2, ← hN]; exact (Box.new _ _ _).alloc _
 have bn : Box W2 (N + 1) (.int .i64 0) := by
  rw [← hW2, ← hN]
  have := Box.new (W1.alloc (.cells #[.slice (some ⟨g, 0, none⟩) 3 cap] 205)) (.int .i64 0) 3
  rwa [World.size_alloc] at this
 have Bo := Lib.hid bo
 have Bn := Lib.hid bn
 have F2 := Lib.hid f2
 have Hsz2 := Lib.hid hsz2
 have HN := Lib.hid hN
 clear bo bn f2 hsz2 hN hW2
 refine (callsIn_wide.2 (fields_any _ _)).mono ?_
 rintro e w3 ⟨rfl, rfl⟩
 gi_wp2_with fail
 obtain ⟨W3, hW3⟩ : ∃ W3, W2.alloc (.cells #[.pointer (some ⟨Bw, 0, none⟩)] 186) = W3 := ⟨_, rfl⟩
 have it := fields_iter Bw W2.heap.size _ (Box.new W2 _ _ : Box (W2.alloc (.cells #[.pointer (some ⟨Bw, 0, none⟩)] 186)) _ _)
 rw [hW3, Hsz2.out] at it
 rw [hW3, Hsz2.out]
 have f3 : Fr none' W2 W3 := by rw [← hW3]; exact (Fr.refl _ _).alloc _
 have hsz3 : W3.heap.size = N + 3 := by rw [← hW3, World.size_alloc, Hsz2.out]
 have F3 := Lib.hid f3
 have Hsz3 := Lib.hid hsz3
 clear hW3 f3 hsz3
 have hN0 : Bw + 5 ≤ N := by have := Hsz.out; omega
 refine wpIn_iterX (gf := 111) (lb := #[.pointer (some ⟨N + 2, 0, none⟩)]) rfl (by intro args w; rfl) it (Keep.refl _ _) (fun _ => rfl) (fun k hk => hk.elim) (fun k hk => by subst hk; rw [Hsz3.out]; omega)
  (fun i X W => Fr (fun k => k = N + 1) W3 W ∧ Box W (N + 1) (.int .i64 i) ∧ Hid (∀ j, j < i → nth3 a j = nth3 b j))
  (fun c W => c = .ret ∧ Box W (Bw + 1 + 1) (.int .i64 (cmpK a b)) ∧ Box W (Bw + 1 + 1 + 1) (.int .i64 (fieldK a b)) ∧ Fr (fun k => k = N + 1 ∨ k = Bw + 1 + 1 ∨ k = Bw + 1 + 1 + 1) W3 W) ?hI ?hIx ?h0
  (fun x W a' => ∃ B, a' = { tmps := #[.agg #[.int .i64 a.time, .int .i64 a.source, .int .i64 a.seq], .agg #[.int .i64 b.time, .int .i64 b.source, .int .i64 b.seq], .pointer (some ⟨Bw, 0, none⟩), .pointer (some ⟨Bw + 1, 0, none⟩), .pointer (some ⟨Bw + 1 + 1, 0, none⟩), .pointer (some ⟨Bw + 1 + 1 + 1, 0, none⟩), .pointer (some ⟨N, 0, none⟩), .pointer (some ⟨N + 1, 0, none⟩), .pointer (some ⟨B, 0, none⟩), undef, .agg #[.int .i64 a.time, .int .i64 a.source, .int .i64 a.seq], .agg #[.int .i64 b.time, .int .i64 b.source, .int .i64 b.seq], .bool false, .func (.func 111) #[] #[.pointer (some ⟨W0.heap.size, 0, none⟩)], .slice (some ⟨g, 0, none⟩) 3 cap, .func (.func 111) #[] #[.pointer (some ⟨N + 2, 0, none⟩)], fV Bw x, undef, undef, undef, undef, undef, undef, undef, undef, undef, undef, undef, undef, undef, undef, undef, undef, undef, undef, undef], defers := [] } ∧ N + 4 < B ∧ W.heap[B]? = some (.cells (fC Bw x).toArray 189 (0, 0)))
  ?assign ?keep ?body ?done ?stop
 case hI =>
  rintro i X Y W4 W5 ⟨h1, h2, h3⟩ hX hf hY
  have hlt : ∀ k, k < N + 3 → ¬ (none' k ∨ X k ∨ k = W3.heap.size ∨ k = W3.heap.size + 1) := fun k hk h => by
   have hz := Hsz3.out
   rcases h with h | h | h | h
   ·exact h
   ·have := hX k h; omega
   ·omega
   ·omega
  exact ⟨h1.trans' hf (fun k hk h => absurd h (hlt k (by rw [Hsz3.out] at hk; exact hk))), h2.fr hf (hlt _ (by omega)), h3⟩
 case hIx =>
  rintro c W4 W5 ⟨h0, h1, h2, h3⟩ hf
  have hlt : ∀ k, k < N + 3 → ¬ (none' k ∨ k = W3.heap.size ∨ k = W3.heap.size + 1) := fun k hk h => by
   have hz := Hsz3.out
   rcases h with h | h | h
   ·exact h
   ·omega
   ·omega
  exact ⟨h0, h1.fr hf (hlt _ (by omega)), h2.fr hf (hlt _ (by omega)), h3.trans' hf (fun k hk h => absurd h (hlt k (by rw [Hsz3.out] at hk; exact hk)))⟩
 case h0 =>
  exact ⟨Fr.refl _ _, Bn.out.fr F3.out id, fun j hj => by omega⟩
 case keep =>
  rintro x W4 W5 a' ⟨B, rfl, hB, hc⟩ hf
  refine ⟨B, rfl, hB, (hf.block B (Array.getElem?_eq_some_iff.1 hc).1 (by rw [Hsz3.out]; omega)).trans hc⟩
 case assign =>
  intro l x W K hlt hK
  rw [Hsz3.out] at hlt
  simp only [fV]
  gi_wp2
  exact hK _ _ ⟨W.heap.size, by simp [fV], by omega, World.alloc_heap_new W _⟩ ((Fr.refl _ _).alloc _)
 case body =>
  rintro l i x X W a' r hxi ⟨hfr, hbn, hall⟩ hXb ⟨B, rfl, hB, hcB⟩ hD hL
  have hi : i < 3 ∧ x = i := by
   have : i < 3 := (List.getElem?_eq_some_iff.1 hxi).1
   have h3 : i = 0 ∨ i = 1 ∨ i = 2 := by omega
   rcases h3 with rfl | rfl | rfl <;> simp at hxi <;> omega
  obtain ⟨hi, rfl⟩ := hi
  clear hxi hD hL
  have hcb := cells_of hcB 0
  simp [fC] at hcb
  have hcell : ∀ k o u, k ≠ N + 1 → W3.cell? ⟨k, o, none⟩ = some u → W.cell? ⟨k, o, none⟩ = some u := fun k o u hk hu => by
   rw [hfr.cell (p := ⟨k, o, none⟩) (World.block_lt_of_cell? W3 _ hu) hk]; exact hu
  have h13 : Fr none' W1 W3 := F2.out.trans F3.out
  have h03 : Fr none' W0 W3 := F1.out.trans h13
  have ka := hcell _ _ _ (by omega) ((Ka.out.fr h03 id).cell hi)
  have kb := hcell _ _ _ (by omega) ((Kb.out.fr h03 id).cell hi)
  have bo := hcell _ _ _ (by omega) (Bo.out.fr F3.out id).cell
  have bn := hbn.cell
  have hrc := hcell _ _ _ (by omega) ((h13.cell (p := ⟨g, x * 4, none⟩) (by rw [HN.out]; exact hg.2) id).trans (show W1.cell? ⟨g, x * 4, none⟩ = some (.pointer (some ⟨Bw + 1, x, none⟩)) from by
   have := (ownsRow_k_raise Hrow.out (base' := 0) (fun _ _ => Nat.zero_le _)).cells (g := g) rfl (x * 4) (.pointer (some ⟨Bw + 1, x, none⟩)) (by
    have h3 : x = 0 ∨ x = 1 ∨ x = 2 := by omega
    rcases h3 with rfl | rfl | rfl <;> rfl)
   unfold Addr.add at this
   split at this
   ·next h => rw [h]; exact this
   ·simpa using this))
  have Hcell := Lib.hid hcell
  clear hcell hcB h13 h03
  obtain ⟨p, hp⟩ : ∃ p, nth3 a x = p := ⟨_, rfl⟩
  obtain ⟨q, hq⟩ : ∃ q, nth3 b x = q := ⟨_, rfl⟩
  rw [hp] at ka
  rw [hq] at kb
  have Hp := Lib.hid hp
  have Hq := Lib.hid hq
  clear hp hq
  have z1 : (0 : Int) ≤ (x : Int) := by omega
  have z2 : (x : Int) < 3 := by omega
  have z3 : IntKind.i64.wrap ((x : Int) + 1) = (x : Int) + 1 := IntWalk.i64_in _ (by omega)
  gi_wp2
  refine wpIn_round_held (S := fun W' => W' = W.drew) (by kernel_rfl) (by kernel_rfl) (by intro a w h; exact h) rfl (fun hHeld => ?_)
  refine tk2 (i := 0) (v := .pointer (some ⟨B, 0, none⟩)) ?_
  try simp only[pUt,pUn,sEt,sEz,sEs]
  refine tk2 (i := 1) (v := .pointer (some ⟨Bw, x, none⟩)) ?_
  try simp only[pUt,pUn,sEt,sEz,sEs]
  refine tk2 (i := 2) (v := .pointer (some ⟨Bw, x, none⟩)) ?_
  try simp only[pUt,pUn,sEt,sEz,sEs]
  refine tk2 (i := 3) (v := .int .i64 p) ?_
  try simp only[pUt,pUn,sEt,sEz,sEs]
  refine tk2 (i := 4) (v := .slice (some ⟨g, 0, none⟩) 3 cap) ?_
  try simp only[pUt,pUn,sEt,sEz,sEs]
  refine tk2 (i := 5) (v := .int .i64 x) ?_
  try simp only[pUt,pUn,sEt,sEz,sEs]
  refine tk2 (i := 6) (v := .pointer (some ⟨g, x * 4, none⟩)) ?_
  try simp only[pUt,pUn,sEt,sEz,sEs]
  refine tk2 (i := 7) (v := .pointer (some ⟨g, x * 4, none⟩)) ?_
  try simp only[pUt,pUn,sEt,sEz,sEs]
  refine tk2 (i := 8) (v := .pointer (some ⟨Bw + 1, x, none⟩)) ?_
  try simp only[pUt,pUn,sEt,sEz,sEs]
  refine tk2 (i := 9) (v := .pointer (some ⟨Bw + 1, x, none⟩)) ?_
  try simp only[pUt,pUn,sEt,sEz,sEs]
  refine tk2 (i := 10) (v := .int .i64 q) ?_
  try simp only[pUt,pUn,sEt,sEz,sEs]
  refine take_call (i := 11) rfl (by kernel_rfl) (by kernel_rfl) (fun K hK => ?_)
  go_simp
  refine (cmpInt_any _ _ _).mono ?_
  rintro e w1 ⟨rfl, rfl⟩
  go_wp2_with fail
  refine hK.out _ _ rfl (fun hHeld => ?_)
  clear hK K
  try simp only[pUt,pUn,sEt,sEz,sEs]
  refine tk2 (i := 12) (v := .int .i64 (cmpI p q)) ?_
  try simp only[pUt,pUn,sEt,sEz,sEs]
  refine wpAnyH_done (by kernel_rfl) ?_ _
  clear hHeld hcb ka kb bo hrc
  have bf := hbn.frozen
  by_cases hpq : p = q
  ·have hc0 : cmpI p q = 0 := (cmpI_eq p q).2 hpq
   rw [hc0]
   gi_wp2
   refine ⟨fun k => k = N + 1, ?_, ?_, ?_, ?_, ?_⟩
   ·exact ((Fr.refl (fun k => k = N + 1) W).setCell (fun _ => rfl) _).drew
   ·intro k hk h
    subst hk
    rcases h with h | h | h | h
    ·omega
    ·have := hXb _ h; rw [Hsz3.out] at this; omega
    ·rw [Hsz3.out] at h; omega
    ·rw [Hsz3.out] at h; omega
   ·exact (hfr.setCell (fun _ => rfl) _).drew
   ·exact hbn.set _
   ·intro j hj
    by_cases hjx : j = x
    ·subst hjx; rw [Hp.out, Hq.out]; exact hpq
    ·exact hall.out j (by omega)
  ·have hc0 : (cmpI p q != 0) = true := by
    have := cmpI_eq p q
    simp; omega
   have hr0 : Box W (Bw + 1 + 1) (.int .i64 0) := ((R0.out.fr (F1.out.trans (F2.out.trans F3.out)) id).fr hfr (by omega))
   have hr1 : Box W (Bw + 1 + 1 + 1) (.int .i64 0) := ((R1.out.fr (F1.out.trans (F2.out.trans F3.out)) id).fr hfr (by omega))
   have c0 := hr0.cell
   have c1 := hr1.cell
   have g0 := hr0.frozen
   have g1 := hr1.frozen
   gi_wp2
   refine wpIn_round_held (S := fun W' => W'.cell? ⟨N + 1, 0, none⟩ = some (.int .i64 x)) (by kernel_rfl) (by kernel_rfl) (by intro a w h; exact h) bn (fun hHeld => ?_)
   refine tk2 (i := 0) (v := .int .i64 (cmpI p q)) ?_
   try simp only[pUt,pUn,sEt,sEz,sEs]
   refine tk2 (i := 1) (v := .int .i64 x) ?_
   try simp only[pUt,pUn,sEt,sEz,sEs]
   refine tk2 (i := 2) (v := .int .i64 ((x : Int) + 1)) ?_
   try simp only[pUt,pUn,sEt,sEz,sEs]
   refine take_call (i := 3) rfl (by kernel_rfl) (by kernel_rfl) (fun K hK => ?_)
   go_simp
   refine hK.out _ _ ((World.cell?_setCell_far W ⟨Bw + 1 + 1, 0, none⟩ ⟨N + 1, 0, none⟩ _ (by simp; omega)).trans bn) (fun hHeld2 => ?_)
   clear hK K
   try simp only[pUt,pUn,sEt,sEz,sEs]
   have c1' := (World.cell?_setCell_far W ⟨Bw + 1 + 1, 0, none⟩ ⟨Bw + 1 + 1 + 1, 0, none⟩ (.int .i64 (cmpI p q)) (by simp)).trans c1
   refine take_call (i := 4) rfl (by kernel_rfl) (by kernel_rfl) (fun K hK => ?_)
   go_simp
   refine hK.out _ _ ((World.cell?_setCell_far _ ⟨Bw + 1 + 1 + 1, 0, none⟩ ⟨N + 1, 0, none⟩ _ (by simp; omega)).trans ((World.cell?_setCell_far W ⟨Bw + 1 + 1, 0, none⟩ ⟨N + 1, 0, none⟩ _ (by simp; omega)).trans bn)) (fun hHeld3 => ?_)
   clear hK K
   try simp only[pUt,pUn,sEt,sEz,sEs]
   refine wpAnyH_done (by kernel_rfl) ?_ _
   clear c0 c1 g0 g1 c1' bn bf hHeld hHeld2 hHeld3
   gi_wp2
   obtain ⟨hv1, hv2⟩ := cmp_first hi hall.out (by rw [Hp.out, Hq.out]; exact hpq)
   rw [Hp.out, Hq.out] at hv1
   have key : ∀ {V : World}, V.heap = ((W.setCell ⟨Bw + 1 + 1, 0, none⟩ (.int .i64 (cmpI p q))).setCell ⟨Bw + 1 + 1 + 1, 0, none⟩ (.int .i64 ((x : Int) + 1))).heap → Box V (Bw + 1 + 1) (.int .i64 (cmpK a b)) ∧ Box V (Bw + 1 + 1 + 1) (.int .i64 (fieldK a b)) := fun {V} hV => by
    rw [hv1, hv2]
    refine ⟨Box.of_block ?_ (congrArg (·[Bw + 1 + 1]?) hV), Box.of_block ?_ (congrArg (·[Bw + 1 + 1 + 1]?) hV)⟩
    ·exact (hr0.set _).setOther (by simp) _
    ·exact (hr1.setOther (by simp) _).set _
   have kf : ∀ {A : World} {S : Nat → Prop}, Fr S A W → S (Bw + 1 + 1) → S (Bw + 1 + 1 + 1) → Fr S A (((W.setCell ⟨Bw + 1 + 1, 0, none⟩ (.int .i64 (cmpI p q))).setCell ⟨Bw + 1 + 1 + 1, 0, none⟩ (.int .i64 ((x : Int) + 1)))) := fun {A S} h h1 h2 => (h.setCell (fun _ => h1) _).setCell (fun _ => h2) _
   refine ⟨fun k => k = Bw + 1 + 1 ∨ k = Bw + 1 + 1 + 1, ?_, ?_, rfl, ?_, ?_, ?_⟩
   ·exact (((kf (Fr.refl _ W) (.inl rfl) (.inr rfl)).drew).drew)
   ·intro k hk h
    rcases h with h | h | h | h
    ·omega
    ·have := hXb _ h; rw [Hsz3.out] at this; omega
    ·rw [Hsz3.out] at h; omega
    ·rw [Hsz3.out] at h; omega
   ·exact (key rfl).1
   ·exact (key rfl).2
   ·exact (((kf (hfr.mono (fun k _ h => .inl h)) (.inr (.inl rfl)) (.inr (.inr rfl))).drew).drew)
 case done =>
  rintro D X W hDe ⟨hfr, hbn, hall⟩ hK
  exact absurd (nth3_ext hall.out) Hab.out
 case stop =>
  rintro D c W hDe ⟨rfl, h1, h2, h3⟩ hK
  have c1 := h1.cell
  have c2 := h2.cell
  rw [Hsz3.out] at hDe
  subst hDe
  have hlt : N + 3 < W.heap.size := (Array.getElem?_eq_some_iff.1 hK).1
  have hk1 : Box (W.putObj (N + 3) (.deferred none)) (Bw + 1 + 1) (.int .i64 (cmpK a b)) := h1.of_block (World.putObj_heap_other (by omega))
  have hk2 : Box (W.putObj (N + 3) (.deferred none)) (Bw + 1 + 1 + 1) (.int .i64 (fieldK a b)) := h2.of_block (World.putObj_heap_other (by omega))
  have d1 := hk1.cell
  have d2 := hk2.cell
  have hK' := hK
  clear hK
  gi_wp2
  refine ⟨by simp, .inl ⟨_, _, rfl, run_takeDeferred hK', ?_⟩⟩
  refine ⟨.tuple #[.int .i64 (cmpK a b), .int .i64 (fieldK a b)], by simp [results, Tryz.results100, go_sem, d1, d2], rfl, ?_⟩
  have hz := HBw.out
  have h03 : Fr none' w W3 := F0.out.trans (F1.out.trans (F2.out.trans F3.out))
  exact (h03.trans' h3 (fun k hk h => by omega)).putObj (fun h => by omega) _
theorem Compare_any (a b : Key3) (w : World) :
  Calls Tryz.prog 100 #[keyV a, keyV b] w fun e w' => e = .returned (.tuple #[.int .i64 (cmpK a b), .int .i64 (fieldK a b)]) ∧ Fr none' w w' := by
 by_cases h : a = b
 ·subst h
  have h1 : cmpK a a = 0 := (cmpK_eq a a).2 rfl
  have h2 : fieldK a a = 0 := by simp [fieldK]
  rw [h1, h2]
  exact Compare_same a w
 ·exact callsIn_wide.1 (Compare_in a b h w)
end Go.Proofs.YtieeloealklkgaaGreat

/-
  Marks of ranges that have ended, where rows of cells turn beside them.
-/
namespace Go.Proofs.YtieeloealklkgaaGreat
open Go.RowKit

end Go.Proofs.YtieeloealklkgaaGreat

/-
  Rows of keys.
-/
namespace Go.Proofs.YtieeloealklkgaaGreat
open Go Go.RowKit
attribute [local go_sem ↓] Go.wp_at_zero Go.wp_at_succ

theorem IterX.to0 {α : Type} {P : Program} {gf : Nat} {lb : Array Value} {encs : α → Array Value} {xs : List α} {own rd : Nat → Prop} {w : World} (h : IterX P gf lb encs xs own rd w) : IterX0 P gf lb encs xs own rd w := by
 intro l J Jx W hK hJ hJx hY h0
 exact h l J Jx W hK (fun i X Y W1 W2 h1 hf h2 => hJ i X Y W1 W2 h1 hf.to0 h2) (fun W1 W2 h1 hf => hJx W1 W2 h1 hf.to0) hY h0

end Go.Proofs.YtieeloealklkgaaGreat

/-
  key.Right.
-/
namespace Go.Proofs.YtieeloealklkgaaGreat
open Go Go.RowKit
attribute [local go_sem ↓] Go.wp_at_zero Go.wp_at_succ
attribute [local go_sem] Oper.semAt_some wide_fn wide_depth wide_fnR wide_depthR

/-- One field is right. -/
def okF (k : Key3) (i : Nat) : Prop := 0 ≤ nth3 k i ∧ nth3 k i ≤ fMost i
theorem okF_all (k : Key3) : RightK k ↔ ∀ i, i < 3 → okF k i := by
 constructor
 ·intro h i hi
  have h3 : i = 0 ∨ i = 1 ∨ i = 2 := by omega
  obtain ⟨h1, h2, h3', h4, h5, h6⟩ := h
  rcases h3 with rfl | rfl | rfl <;> simp [okF, nth3, fMost] <;> omega
 ·intro h
  have h0 := h 0 (by omega)
  have h1 := h 1 (by omega)
  have h2 := h 2 (by omega)
  simp [okF, nth3, fMost] at h0 h1 h2
  exact ⟨h0.1, h0.2, h1.1, h1.2, h2.1, h2.2⟩

set_option maxHeartbeats 2000000 in
theorem Right_in (k : Key3) (w : World) :
  CallsIn Fence.wide 0 Tryz.prog 71 #[keyV k] w fun e w' => e = .returned (.bool (decide (RightK k))) ∧ Fr0 none' w w' := by
 obtain ⟨R, hR⟩ : ∃ R, decide (RightK k) = R := ⟨_, rfl⟩
 rw [hR]
 have HR := Lib.hid hR
 clear hR
 refine callsIn_of_wp_marks Tryz.func71 rfl trivial ?_ rfl
 simp only [keyV, Tryz.ntmps71, List.size_toArray, List.length_cons, List.length_nil, Nat.reduceAdd, Nat.reduceSub, Array.replicate_succ, Array.replicate_zero, List.push_toArray, List.append_toArray, List.nil_append, List.cons_append]
 gi_wp2_with fail
 obtain ⟨Bw, hBw⟩ : ∃ Bw, w.heap.size = Bw := ⟨_, rfl⟩
 obtain ⟨W0, hW0⟩ : ∃ W0, (w.alloc (.cells #[.int .i64 k.time, .int .i64 k.source, .int .i64 k.seq] 28)).alloc (.cells #[.bool false] 4) = W0 := ⟨_, rfl⟩
 rw [hW0, hBw]
 have hsz : W0.heap.size = Bw + 2 := by rw [← hW0, ← hBw]; simp
 have ka : KeyAt W0 Bw k := by
  rw [← hW0, ← hBw]
  exact (KeyAt.fr (S := none') (World.alloc_heap_new w _) ((Fr.refl _ _).alloc _) id)
 have r0 : Box W0 (Bw + 1) (.bool false) := by
  rw [← hW0, ← hBw]
  have := Box.new (w.alloc (.cells #[.int .i64 k.time, .int .i64 k.source, .int .i64 k.seq] 28)) (.bool false) 4
  simpa using this
 have f0 : Fr0 none' w W0 := by rw [← hW0]; exact ((Fr0.refl _ _).alloc _).alloc _
 have F0 := Lib.hid f0
 have HBw := Lib.hid hBw
 have Ka := Lib.hid ka
 have R0 := Lib.hid r0
 clear hW0 hBw ka r0 f0
 refine (callsIn_wide.2 (fields_any _ _)).mono ?_
 rintro e w1 ⟨rfl, rfl⟩
 gi_wp2_with fail
 obtain ⟨W1, hW1⟩ : ∃ W1, W0.alloc (.cells #[.pointer (some ⟨Bw, 0, none⟩)] 186) = W1 := ⟨_, rfl⟩
 have it := (fields_iter Bw W0.heap.size _ (Box.new W0 _ _ : Box (W0.alloc (.cells #[.pointer (some ⟨Bw, 0, none⟩)] 186)) _ _)).to0
 rw [hW1, hsz] at it
 rw [hW1]
 have f1 : Fr0 none' W0 W1 := by rw [← hW1]; exact (Fr0.refl _ _).alloc _
 have hsz1 : W1.heap.size = Bw + 3 := by rw [← hW1, World.size_alloc, hsz]
 have F1 := Lib.hid f1
 have Hsz1 := Lib.hid hsz1
 clear hW1 f1 hsz1 hsz
 refine wpIn_iterX0 (gf := 111) (lb := #[.pointer (some ⟨Bw + 2, 0, none⟩)]) rfl (by intro args w; rfl) it (Keep.refl _ _) (fun _ => rfl) (fun k hk => hk.elim) (fun k hk => by subst hk; rw [Hsz1.out]; omega)
  (fun i X W => Fr0 none' W1 W ∧ Hid (∀ j, j < i → okF k j))
  (fun c W => c = .ret ∧ Hid (¬ RightK k) ∧ Box W (Bw + 1) (.bool false) ∧ Fr0 (fun k => k = Bw + 1) W1 W) ?hI ?hIx ?h0
  (fun x W a' => ∃ B, a' = { tmps := #[.agg #[.int .i64 k.time, .int .i64 k.source, .int .i64 k.seq], .pointer (some ⟨Bw, 0, none⟩), .pointer (some ⟨Bw + 1, 0, none⟩), .pointer (some ⟨B, 0, none⟩), .func (.func 111) #[] #[.pointer (some ⟨Bw + 2, 0, none⟩)], fV Bw x, undef, undef, undef, undef, undef, undef, undef, undef, undef, undef, undef, undef, undef, undef], defers := [] } ∧ Bw + 4 < B ∧ W.heap[B]? = some (.cells (fC Bw x).toArray 189 (0, 0)))
  ?assign ?keep ?body ?done ?stop
 case hI =>
  rintro i X Y W4 W5 ⟨h1, h3⟩ hX hf hY
  exact ⟨h1.trans' hf (fun k hk h => by
   rw [Hsz1.out] at hk
   rcases h with h | h | h | h
   ·exact h
   ·have := hX k h; rw [Hsz1.out] at this; omega
   ·rw [Hsz1.out] at h; omega
   ·rw [Hsz1.out] at h; omega), h3⟩
 case hIx =>
  rintro c W4 W5 ⟨h0, h1, h2, h3⟩ hf
  have hlt : ∀ k, k < Bw + 3 → ¬ (none' k ∨ k = W1.heap.size ∨ k = W1.heap.size + 1) := fun k hk h => by
   have hz := Hsz1.out
   rcases h with h | h | h
   ·exact h
   ·omega
   ·omega
  exact ⟨h0, h1, h2.fr0 hf (hlt _ (by omega)), h3.trans' hf (fun k hk h => absurd h (hlt k (by rw [Hsz1.out] at hk; exact hk)))⟩
 case h0 =>
  exact ⟨Fr0.refl _ _, fun j hj => by omega⟩
 case keep =>
  rintro x W4 W5 a' ⟨B, rfl, hB, hc⟩ hf
  refine ⟨B, rfl, hB, (hf.block B (Array.getElem?_eq_some_iff.1 hc).1 (by rw [Hsz1.out]; omega)).trans hc⟩
 case assign =>
  intro l x W K hlt hK
  rw [Hsz1.out] at hlt
  simp only [fV]
  gi_wp2
  exact hK _ _ ⟨W.heap.size, by simp [fV], by omega, World.alloc_heap_new W _⟩ ((Fr0.refl _ _).alloc _)
 case body =>
  rintro l i x X W a' r hxi ⟨hfr, hall⟩ hXb ⟨B, rfl, hB, hcB⟩ hD hL
  have hi : i < 3 ∧ x = i := by
   have : i < 3 := (List.getElem?_eq_some_iff.1 hxi).1
   have h3 : i = 0 ∨ i = 1 ∨ i = 2 := by omega
   rcases h3 with rfl | rfl | rfl <;> simp at hxi <;> omega
  obtain ⟨hi, rfl⟩ := hi
  clear hxi hD hL
  have hcb := cells_of hcB 0
  have hcm := cells_of hcB 1
  simp [fC] at hcb hcm
  have ka : W.cell? ⟨Bw, x, none⟩ = some (.int .i64 (nth3 k x)) := hfr.later (F1.out.later (Ka.out.cell hi))
  clear hcB
  obtain ⟨p, hp⟩ : ∃ p, nth3 k x = p := ⟨_, rfl⟩
  obtain ⟨m, hm⟩ : ∃ m, fMost x = m := ⟨_, rfl⟩
  rw [hp] at ka
  rw [hm] at hcm
  have Hp := Lib.hid hp
  have Hm := Lib.hid hm
  clear hp hm
  gi_wp2
  by_cases hp0 : p < 0
  ·have d0 : decide (p < 0) = true := decide_eq_true hp0
   refine wpIn_round_held (S := fun W' => W' = W.drew) (by kernel_rfl) (by kernel_rfl) (by intro a w h; exact h) rfl (fun hHeld => ?_)
   refine tk2 (i := 0) (v := .pointer (some ⟨B, 0, none⟩)) ?_
   try simp only[pUt,pUn,sEt,sEz,sEs]
   refine tk2 (i := 1) (v := .pointer (some ⟨Bw, x, none⟩)) ?_
   try simp only[pUt,pUn,sEt,sEz,sEs]
   refine tk2 (i := 2) (v := .pointer (some ⟨Bw, x, none⟩)) ?_
   try simp only[pUt,pUn,sEt,sEz,sEs]
   refine tk2 (i := 3) (v := .int .i64 p) ?_
   try simp only[pUt,pUn,sEt,sEz,sEs]
   refine tk2 (i := 4) (v := .bool true) ?_
   try simp only[pUt,pUn,sEt,sEz,sEs]
   refine tk2 (i := 5) (v := .bool true) ?_
   try simp only[pUt,pUn,sEt,sEz,sEs]
   refine tkf (i := 6) ?_
   try simp only[pUt,pUn,sEt,sEz,sEs]
   refine tkf (i := 7) ?_
   try simp only[pUt,pUn,sEt,sEz,sEs]
   refine tkf (i := 8) ?_
   try simp only[pUt,pUn,sEt,sEz,sEs]
   refine tkf (i := 9) ?_
   try simp only[pUt,pUn,sEt,sEz,sEs]
   refine tkf (i := 10) ?_
   try simp only[pUt,pUn,sEt,sEz,sEs]
   refine tkf (i := 11) ?_
   try simp only[pUt,pUn,sEt,sEz,sEs]
   refine tkf (i := 12) ?_
   try simp only[pUt,pUn,sEt,sEz,sEs]
   refine tk2 (i := 13) (v := .bool true) ?_
   try simp only[pUt,pUn,sEt,sEz,sEs]
   clear d0
   refine wpAnyH_done (by kernel_rfl) ?_ _
   clear hHeld hcb hcm ka
   have hr0 : Box W (Bw + 1) (.bool false) := (R0.out.fr0 F1.out id).fr0 hfr id
   have c0 := hr0.cell
   have g0 := hr0.frozen
   gi_wp2
   refine ⟨fun k => k = Bw + 1, ?_, ?_, rfl, ?_, ?_, ?_⟩
   ·exact ((Fr0.refl (fun k => k = Bw + 1) W).setCell (fun _ => rfl) _).drew
   ·intro k hk h
    subst hk
    rcases h with h | h | h | h
    ·omega
    ·have := hXb _ h; rw [Hsz1.out] at this; omega
    ·rw [Hsz1.out] at h; omega
    ·rw [Hsz1.out] at h; omega
   ·unfold Hid; intro hc
    have := (okF_all k).1 hc x hi
    unfold okF at this
    rw [Hp.out, Hm.out] at this
    omega
   ·exact (hr0.set _).of_block rfl
   ·exact ((hfr.mono (S' := fun k => k = Bw + 1) (fun k _ h => h.elim)).setCell (fun _ => rfl) _).drew
  ·have d0 : decide (p < 0) = false := decide_eq_false hp0
   by_cases hpm : m < p
   ·have d1 : decide (m < p) = true := decide_eq_true hpm
    refine wpIn_round_held (S := fun W' => W' = W.drew) (by kernel_rfl) (by kernel_rfl) (by intro a w h; exact h) rfl (fun hHeld => ?_)
    refine tk2 (i := 0) (v := .pointer (some ⟨B, 0, none⟩)) ?_
    try simp only[pUt,pUn,sEt,sEz,sEs]
    refine tk2 (i := 1) (v := .pointer (some ⟨Bw, x, none⟩)) ?_
    try simp only[pUt,pUn,sEt,sEz,sEs]
    refine tk2 (i := 2) (v := .pointer (some ⟨Bw, x, none⟩)) ?_
    try simp only[pUt,pUn,sEt,sEz,sEs]
    refine tk2 (i := 3) (v := .int .i64 p) ?_
    try simp only[pUt,pUn,sEt,sEz,sEs]
    refine tk2 (i := 4) (v := .bool false) ?_
    try simp only[pUt,pUn,sEt,sEz,sEs]
    refine tk2 (i := 5) (v := .bool false) ?_
    try simp only[pUt,pUn,sEt,sEz,sEs]
    refine tk2 (i := 6) (v := .pointer (some ⟨B, 0, none⟩)) ?_
    try simp only[pUt,pUn,sEt,sEz,sEs]
    refine tk2 (i := 7) (v := .pointer (some ⟨Bw, x, none⟩)) ?_
    try simp only[pUt,pUn,sEt,sEz,sEs]
    refine tk2 (i := 8) (v := .pointer (some ⟨Bw, x, none⟩)) ?_
    try simp only[pUt,pUn,sEt,sEz,sEs]
    refine tk2 (i := 9) (v := .int .i64 p) ?_
    try simp only[pUt,pUn,sEt,sEz,sEs]
    refine tk2 (i := 10) (v := .pointer (some ⟨B, 1, none⟩)) ?_
    try simp only[pUt,pUn,sEt,sEz,sEs]
    refine tk2 (i := 11) (v := .int .i64 m) ?_
    try simp only[pUt,pUn,sEt,sEz,sEs]
    refine tk2 (i := 12) (v := .bool true) ?_
    try simp only[pUt,pUn,sEt,sEz,sEs]
    refine tk2 (i := 13) (v := .bool true) ?_
    try simp only[pUt,pUn,sEt,sEz,sEs]
    clear d0 d1
    refine wpAnyH_done (by kernel_rfl) ?_ _
    clear hHeld hcb hcm ka
    have hr0 : Box W (Bw + 1) (.bool false) := (R0.out.fr0 F1.out id).fr0 hfr id
    have c0 := hr0.cell
    have g0 := hr0.frozen
    gi_wp2
    refine ⟨fun k => k = Bw + 1, ?_, ?_, rfl, ?_, ?_, ?_⟩
    ·exact ((Fr0.refl (fun k => k = Bw + 1) W).setCell (fun _ => rfl) _).drew
    ·intro k hk h
     subst hk
     rcases h with h | h | h | h
     ·omega
     ·have := hXb _ h; rw [Hsz1.out] at this; omega
     ·rw [Hsz1.out] at h; omega
     ·rw [Hsz1.out] at h; omega
    ·unfold Hid; intro hc
     have := (okF_all k).1 hc x hi
     unfold okF at this
     rw [Hp.out, Hm.out] at this
     omega
    ·exact (hr0.set _).of_block rfl
    ·exact ((hfr.mono (S' := fun k => k = Bw + 1) (fun k _ h => h.elim)).setCell (fun _ => rfl) _).drew
   ·have d1 : decide (m < p) = false := decide_eq_false hpm
    refine wpIn_round_held (S := fun W' => W' = W.drew) (by kernel_rfl) (by kernel_rfl) (by intro a w h; exact h) rfl (fun hHeld => ?_)
    refine tk2 (i := 0) (v := .pointer (some ⟨B, 0, none⟩)) ?_
    try simp only[pUt,pUn,sEt,sEz,sEs]
    refine tk2 (i := 1) (v := .pointer (some ⟨Bw, x, none⟩)) ?_
    try simp only[pUt,pUn,sEt,sEz,sEs]
    refine tk2 (i := 2) (v := .pointer (some ⟨Bw, x, none⟩)) ?_
    try simp only[pUt,pUn,sEt,sEz,sEs]
    refine tk2 (i := 3) (v := .int .i64 p) ?_
    try simp only[pUt,pUn,sEt,sEz,sEs]
    refine tk2 (i := 4) (v := .bool false) ?_
    try simp only[pUt,pUn,sEt,sEz,sEs]
    refine tk2 (i := 5) (v := .bool false) ?_
    try simp only[pUt,pUn,sEt,sEz,sEs]
    refine tk2 (i := 6) (v := .pointer (some ⟨B, 0, none⟩)) ?_
    try simp only[pUt,pUn,sEt,sEz,sEs]
    refine tk2 (i := 7) (v := .pointer (some ⟨Bw, x, none⟩)) ?_
    try simp only[pUt,pUn,sEt,sEz,sEs]
    refine tk2 (i := 8) (v := .pointer (some ⟨Bw, x, none⟩)) ?_
    try simp only[pUt,pUn,sEt,sEz,sEs]
    refine tk2 (i := 9) (v := .int .i64 p) ?_
    try simp only[pUt,pUn,sEt,sEz,sEs]
    refine tk2 (i := 10) (v := .pointer (some ⟨B, 1, none⟩)) ?_
    try simp only[pUt,pUn,sEt,sEz,sEs]
    refine tk2 (i := 11) (v := .int .i64 m) ?_
    try simp only[pUt,pUn,sEt,sEz,sEs]
    refine tk2 (i := 12) (v := .bool false) ?_
    try simp only[pUt,pUn,sEt,sEz,sEs]
    refine tk2 (i := 13) (v := .bool false) ?_
    try simp only[pUt,pUn,sEt,sEz,sEs]
    refine wpAnyH_done (by kernel_rfl) ?_ _
    clear hHeld hcb hcm ka d0 d1
    gi_wp2
    refine ⟨none', ?_, fun k hk _ => hk, ?_, ?_⟩
    ·exact (Fr0.refl _ W).drew
    ·exact hfr.drew
    ·unfold Hid; intro j hj
     by_cases hjx : j = x
     ·subst hjx; unfold okF; rw [Hp.out, Hm.out]; omega
     ·exact hall.out j (by omega)
 case done =>
  rintro D X W hDe ⟨hfr, hall⟩ hK
  obtain rfl : true = R := by rw [← HR.out]; exact (decide_eq_true ((okF_all k).2 hall.out)).symm
  rw [Hsz1.out] at hDe
  subst hDe
  have hlt : Bw + 3 < W.heap.size := (Array.getElem?_eq_some_iff.1 hK).1
  have hr0 : Box W (Bw + 1) (.bool false) := (R0.out.fr0 F1.out id).fr0 hfr id
  have hk2 : Box (W.setCell ⟨Bw + 1, 0, none⟩ (.bool true)) (Bw + 1) (.bool true) := hr0.set _
  have hK2 : (W.setCell ⟨Bw + 1, 0, none⟩ (.bool true)).heap[Bw + 3]? = some (.deferred (some [])) := (Below.heap_setCell W ⟨Bw + 1, 0, none⟩ (.bool true) (Bw + 3) (by simp)).trans hK
  have hk1 : Box ((W.setCell ⟨Bw + 1, 0, none⟩ (.bool true)).putObj (Bw + 3) (.deferred none)) (Bw + 1) (.bool true) := hk2.of_block (World.putObj_heap_other (by omega))
  have c0 := hr0.cell
  have g0 := hr0.frozen
  have d1 := hk1.cell
  clear hK
  gi_wp2
  refine ⟨by simp, .inl ⟨_, _, rfl, run_takeDeferred hK2, ?_⟩⟩
  refine ⟨.bool true, by simp [results, Tryz.results71, go_sem, d1], rfl, ?_⟩
  have hz := HBw.out
  have h03 : Fr0 none' w W := F0.out.trans (F1.out.trans hfr)
  exact (h03.setCell (fun h => by omega) _).putObj (fun h => by omega) _
 case stop =>
  rintro D c W hDe ⟨rfl, hnr, h1, h3⟩ hK
  obtain rfl : false = R := by rw [← HR.out]; exact (decide_eq_false hnr.out).symm
  rw [Hsz1.out] at hDe
  subst hDe
  have hlt : Bw + 3 < W.heap.size := (Array.getElem?_eq_some_iff.1 hK).1
  have c1 := h1.cell
  have hk1 : Box (W.putObj (Bw + 3) (.deferred none)) (Bw + 1) (.bool false) := h1.of_block (World.putObj_heap_other (by omega))
  have d1 := hk1.cell
  have hK' := hK
  clear hK
  gi_wp2
  refine ⟨by simp, .inl ⟨_, _, rfl, run_takeDeferred hK', ?_⟩⟩
  refine ⟨.bool false, by simp [results, Tryz.results71, go_sem, d1], rfl, ?_⟩
  have hz := HBw.out
  have h03 : Fr0 none' w W1 := F0.out.trans F1.out
  exact (h03.trans' h3 (fun k hk h => by omega)).putObj (fun h => by omega) _
theorem Right_any (k : Key3) (w : World) :
  Calls Tryz.prog 71 #[keyV k] w fun e w' => e = .returned (.bool (decide (RightK k))) ∧ Fr0 none' w w' := callsIn_wide.1 (Right_in k w)
/-
  Keys that are not right, at Bytes, Text, Next, Back.
-/
end Go.Proofs.YtieeloealklkgaaGreat

/-
  A region that draws, walked by hand, whose last operation waits for all others and may undo what the loads lean on.
-/
namespace Go.Proofs.YtieeloealklkgaaGreat
open Go Go.RowKit
variable {P : Program} {ops : Array Oper} {Q : Exit → Act → World → Prop} {md : Region.Mode} {S : World → Prop} {z : Nat}

/-- Whatever order is picked from here on; S holds behind every operation but number z. -/
def wpAnyZ (P : Program) (md : Region.Mode) (ops : Array Oper) (Q : Exit → Act → World → Prop) (S : World → Prop) (z : Nat) : Nat → Array Bool → Act → World → Prop
 | 0, listed, a, w => Region.ready md ops listed = [] ∧ Q .normal a w
 | fuel + 1, listed, a, w =>
  (Region.ready md ops listed = [] → Q .normal a w) ∧
  ∀ i ∈ Region.ready md ops listed, wpOp P ops Q i (fun a' w' => (i = z ∨ S w') ∧ wpAnyZ P md ops Q S z fuel (listed.setIfInBounds i true) a' w') a w
theorem wpAny_of_Z : ∀ (fuel : Nat) (listed : Array Bool) (a : Act) (w : World), wpAnyZ P md ops Q S z fuel listed a w → wpAny P md ops Q fuel listed a w
 | 0, _, _, _, h => h
 | fuel + 1, _, _, _, h => ⟨h.1, fun i hi => wpOp_mono (fun a' w' h' => wpAny_of_Z fuel _ a' w' h'.2) (h.2 i hi)⟩

theorem wpAnyZ_first {i : Nat} {oi : Oper} {v : Value} (hi : ops[i]? = some oi) (hsel : ∀ (j : Nat) (o : Oper) cs b, ops[j]? = some o → o.op ≠ .select cs b)
  (hQ : ∀ c a w, Q (.panic c) (a.put oi.dst v) w → Q (.panic c) a w) (hz : ∀ listed : Array Bool, i ∈ Region.ready md ops listed → z ∈ Region.ready md ops listed → False) :
  ∀ (fuel : Nat) (listed : Array Bool) (a : Act) (w : World),
   (∀ j oj, ops[j]? = some oj → j ≠ i → listed.getD j true = false → (∀ e ∈ oj.after, Region.binds md e = true → e.on ≠ i) → oi.apart ops oj = true) →
   i ∈ Region.ready md ops listed → YieldsIf P ops S oi v a → S w →
   wpAnyZ P md ops Q S z fuel (listed.setIfInBounds i true) (a.put oi.dst v) w → wpAnyZ P md ops Q S z (fuel + 1) listed a w := by
 intro fuel
 induction fuel with
 | zero =>
  intro listed a w _ hr hy hS H
  refine ⟨fun h => (by rw [h] at hr; cases hr), fun j hj => ?_⟩
  by_cases hji : j = i
  ·subst hji; exact hy.wpOp hi hS ⟨.inr hS, H⟩
  ·have := ready_mono hj hji
   rw [H.1] at this
   cases this
 | succ fuel ih =>
  intro listed a w hfree hr hy hS H
  refine ⟨fun h => (by rw [h] at hr; cases hr), fun j hj => ?_⟩
  by_cases hji : j = i
  ·subst hji; exact hy.wpOp hi hS ⟨.inr hS, H⟩
  ·have h1 := H.2 j (ready_mono hj hji)
   obtain ⟨hjun, oj, hoj, hall⟩ := mem_ready.1 hj
   have hnot : ∀ e ∈ oj.after, Region.binds md e = true → e.on ≠ i := fun e he hb heq => by
    have h1 := hall e he hb
    have h0 := (mem_ready.1 hr).1
    rw [heq] at h1
    rcases Nat.lt_or_ge i listed.size with h' | h'
    ·simp [h'] at h0 h1; rw [h0] at h1; cases h1
    ·simp [Array.getElem?_eq_none h'] at h1
   have h2 := wpOp_putIf hoj (hfree j oj hoj hji hjun hnot) (fun cs b => hsel i oi cs b hi) (fun cs b => hsel j oj cs b hoj) hQ hy h1
   have hfree' : ∀ k ok, ops[k]? = some ok → k ≠ i → (listed.setIfInBounds j true).getD k true = false →
     (∀ e ∈ ok.after, Region.binds md e = true → e.on ≠ i) → oi.apart ops ok = true := fun k ok hk hki hun hno => by
    refine hfree k ok hk hki ?_ hno
    by_cases hjk : j = k
    ·subst hjk; exact hjun
    ·rw [getD_set_ne true hjk] at hun; exact hun
   have hjz : j ≠ z := fun h => hz listed hr (h ▸ hj)
   refine wpOp_mono (fun a' w' h3 => ?_) h2
   have hS' : S w' := h3.2.1.elim (fun h => absurd h hjz) id
   refine ⟨.inr hS', ih (listed.setIfInBounds j true) a' w' hfree' (ready_mono hr (Ne.symm hji)) h3.1 hS' ?_⟩
   rw [Array.setIfInBounds_comm _ _ hji]
   exact h3.2.2

/-- The last operation waits for number i. -/
def waits (md : Region.Mode) (ops : Array Oper) (z i : Nat) : Bool := match ops[z]? with
 | some o => o.after.toList.any (fun e => Region.binds md e && e.on == i)
 | none => false
theorem waits_not {i : Nat} (h : waits md ops z i = true) (listed : Array Bool) (hi : i ∈ Region.ready md ops listed) (hz : z ∈ Region.ready md ops listed) : False := by
 obtain ⟨_, oz, hoz, hall⟩ := mem_ready.1 hz
 unfold waits at h
 rw [hoz] at h
 obtain ⟨e, he, hb⟩ := List.any_eq_true.1 h
 replace he : e ∈ oz.after := by simpa using he
 simp only [Bool.and_eq_true, beq_iff_eq] at hb
 have h1 := hall e he hb.1
 have h0 := (mem_ready.1 hi).1
 rw [hb.2] at h1
 rcases Nat.lt_or_ge i listed.size with h' | h'
 ·simp [h'] at h0 h1; rw [h0] at h1; cases h1
 ·simp [Array.getElem?_eq_none h'] at h1
variable {i : Nat} {oi : Oper} {fuel : Nat} {listed : Array Bool} {a : Act} {w : World}
theorem takeZ_on {v : Value} (hi : ops.toList[i]? = some oi) (hz : waits md ops z i = true)
  (hs : Region.noSelect ops = true) (hf : Region.free md ops listed i = true) (hr : (Region.ready md ops listed).contains i = true)
  (hQ : ∀ c a w, Q (.panic c) (a.put oi.dst v) w → Q (.panic c) a w) (hw : Region.wanted oi (yielded ops a.tmps) = true) (hy : ∀ w, S w → (execOp a.eval oi).run P w = .ok (.value v) w) (hS : S w)
  (h : wpAnyZ P md ops Q S z fuel (listed.setIfInBounds i true) (a.put oi.dst v) w) : wpAnyZ P md ops Q S z (fuel + 1) listed a w :=
 wpAnyZ_first (op_at hi) (Region.noSelect_spec hs) hQ (fun l h1 h2 => waits_not hz l h1 h2) fuel listed a w (Region.free_spec (op_at hi) hf) (by simpa using hr) (.inl ⟨hw, hy⟩) hS h
theorem takeZ_call (hi : ops.toList[i]? = some oi) (hr : Region.ready md ops listed = [i]) (hw : Region.wanted oi (yielded ops a.tmps) = true)
  (h : ∀ K' : Act → World → Prop, Shut (∀ a w, (i = z ∨ S w) → wpAnyZ P md ops Q S z fuel (listed.setIfInBounds i true) a w → K' a w) → Oper.wp P oi a w K' Q) : wpAnyZ P md ops Q S z (fuel + 1) listed a w := by
 refine ⟨fun h0 => (by rw [hr] at h0; cases h0), fun j hj => ?_⟩
 rw [hr] at hj
 obtain rfl : j = i := by simpa using hj
 exact wpOp_step (op_at hi) (fun K' hK => by rw [if_pos hw]; exact h K' (fun a w h1 h2 => hK a w ⟨h1, h2⟩))
theorem wpAnyZ_done (hr : Region.ready md ops listed = []) (h : Q .normal a w) : ∀ fuel, wpAnyZ P md ops Q S z fuel listed a w
 | 0 => ⟨hr, h⟩
 | _ + 1 => ⟨fun _ => h, by rw [hr]; simp⟩
theorem wp_region_Z {id : Nat} (hm : P.follows .mixedOrders = true)
  (h : wpAnyZ P .any ops Q S z ops.size (Array.replicate ops.size false) a w.drew) : (Code.region id ops true).wp P Q a w := wp_region_any hm (wpAny_of_Z _ _ _ _ h)
end Go.Proofs.YtieeloealklkgaaGreat

/-
  A range over a function: the law with a state that has a footprint.
-/
namespace Go.Proofs.YtieeloealklkgaaGreat
open Go.RowKit

variable {P : Program}

end Go.Proofs.YtieeloealklkgaaGreat

/-
  Appends in a round's drawn region.
-/
namespace Go.Proofs.YtieeloealklkgaaGreat
open Go Go.RowKit
variable {P : Program} {ops : Array Oper} {Q : Exit → Act → World → Prop} {z : Nat} {l n : Nat}
theorem ownsRow_q_fr {S : Nat → Prop} {w w' : World} {base : Nat} {e : TypeId} {size : Nat} {v : Value} {n : Nat} {xs : List Value} (h : w.ownsRow base e size v n xs) (hf : Fr0 S w w')
  (hs : ∀ g, v.ownBlock = some g → ¬ S g) : w'.ownsRow base e size v n xs := by
 obtain ⟨h1, h2⟩ := h
 refine ⟨h1, ?_⟩
 rcases h2 with h2 | ⟨g, cap, cur, hv, hg, hh, r⟩
 ·exact .inl h2
 ·exact .inr ⟨g, cap, cur, hv, hg, (hf.block g (Array.getElem?_eq_some_iff.1 hh).1 (hs g (by rw [hv]; rfl))).trans hh, r⟩
end Go.Proofs.YtieeloealklkgaaGreat

/-
  A row of cells, some of them put anew.
-/
namespace Go.Proofs.YtieeloealklkgaaGreat

/-- The cells of a row, some of them put anew. -/
def over (cur : Array Value) : Nat → List Value → Array Value
 | _, [] => cur
 | o, v :: r => over (cur.setIfInBounds o v) (o + 1) r
theorem over_size : ∀ (vs : List Value) (o : Nat) (cur : Array Value), (over cur o vs).size = cur.size
 | [], _, _ => rfl
 | v :: r, o, cur => by rw [over, over_size r]; simp
theorem over_get : ∀ (vs : List Value) (o : Nat) (cur : Array Value) (j : Nat), (over cur o vs)[j]? = if o ≤ j ∧ j < o + vs.length ∧ j < cur.size then vs[j - o]? else cur[j]?
 | [], o, cur, j => by rw [over, if_neg]; simp; omega
 | v :: r, o, cur, j => by
  rw [over, over_get r (o + 1) _ j]
  simp only [Array.size_setIfInBounds, List.length_cons]
  by_cases h1 : j = o
  ·subst h1
   rw [if_neg (by omega)]
   by_cases h2 : j < cur.size
   ·rw [if_pos (by omega), Array.getElem?_setIfInBounds, if_pos rfl, if_pos h2]; simp
   ·rw [if_neg (by omega), Array.getElem?_setIfInBounds, if_pos rfl, if_neg h2, Array.getElem?_eq_none (by omega)]
  ·by_cases h2 : o + 1 ≤ j ∧ j < o + 1 + r.length ∧ j < cur.size
   ·rw [if_pos h2, if_pos (by omega), show j - o = (j - (o + 1)) + 1 by omega, List.getElem?_cons_succ]
   ·rw [if_neg h2, if_neg (by omega), Array.getElem?_setIfInBounds, if_neg (by omega)]
theorem heap_setCells_at {b : Nat} {e : TypeId} {fz : Nat × Nat} : ∀ (vs : List Value) (o : Nat) (w : World) (cur : Array Value), w.heap[b]? = some (.cells cur e fz) → (w.setCells b o vs).heap[b]? = some (.cells (over cur o vs) e fz)
 | [], _, _, _, h => h
 | v :: r, o, w, cur, h => by
  rw [World.setCells, over]
  refine heap_setCells_at r (o + 1) _ _ ?_
  simp [World.setCell, Array.getElem?_modify, h]
end Go.Proofs.YtieeloealklkgaaGreat

/-
  append in a region, onto an own row of elements of several cells.
-/
namespace Go.Proofs.YtieeloealklkgaaGreat
open Go.RowKit

theorem wp_append_k {P : Program} {w : World} {o : Oper} {a : Act} {K : Act → World → Prop} {Q : Exit → Act → World → Prop} (s x : Operand) (t tx : TypeId)
  (ho : o.op = .call { callee := .builtin .append, args := #[s, x], argTypes := #[t, tx] })
  (base : Nat) (e : TypeId) (i : TypeInfo) (z : Value) (size bytes : Nat) (ht : P.underlying t = some (.slice e)) (hi : P.info? e = some i) (hz : i.zero = some z)
  (hsize : i.size = size) (hby : i.bytes = bytes) (hzs : z.cells.size = size) (hsz : 0 < size)
  (v : Value) (n : Nat) (xs : List Value) (hs : a.eval s = v) (hown : w.ownsRow base e size v n xs)
  (xv : Value) (m : Nat) (news : List Value) (hx : a.eval x = xv) (hsrc : Src P size tx xv m news w)
  (h63 : n + m ≤ maxLen) (hbytes : (n + m) * bytes ≤ 140737488355328) (hbase : base ≤ w.heap.size)
  (h : ∀ v' w', w'.ownsRow base e size v' (n + m) (xs ++ news) → w.grownBy w' v.ownBlock → w.drawn ≤ w'.drawn → (v'.ownBlock = v.ownBlock ∨ v'.ownBlock = some w.heap.size) → K (a.put o.dst v') w') : o.wp P a w K Q := by
 obtain ⟨v', w', hr, h2, h3, h4, h5⟩ := run_append_own_k (P := P) w base t tx o.type e i z size bytes ht hi hz hsize hby hzs hsz v n xs hown xv m news hsrc h63 hbytes hbase
 unfold Oper.wp execOp
 simp only [ho, resolve, invoke, builtin, Sem.run_bind, Sem.run_pure, Result.andThen_ok, List.map_toArray, List.map_cons, List.map_nil, hs, hx, hr]
 exact h v' w' h2 h3 h4 h5
end Go.Proofs.YtieeloealklkgaaGreat

/-
  A heap in memory; find.
-/
namespace Go.Proofs.YtieeloealklkgaaGreat
open Go.RowKit
attribute [local go_sem ↓] Go.wp_at_zero Go.wp_at_succ

def entCells (e : Ent) : List Value := [.int .i64 e.key.time, .int .i64 e.key.source, .int .i64 e.key.seq, .int .i64 e.place]

/-- The world, but for the count of draws. -/
structure Alike (w w' : World) : Prop where
 heap : w'.heap = w.heap
 os : w'.os = w.os
 tape : w'.tape = w.tape
 output : w'.output = w.output
 drawn : w.drawn ≤ w'.drawn
theorem Alike.refl (w : World) : Alike w w := ⟨rfl, rfl, rfl, rfl, Nat.le_refl _⟩
theorem is_made (hb : Nat) (b : Bool) (w : World) (h0 : w.cell? ⟨hb, 0, none⟩ = some (.bool b)) : Calls Tryz.prog 95 #[.pointer (some ⟨hb, 0, none⟩)] w fun e w' => e = .returned (.bool b) ∧ w = w' := by
 go_enter Tryz.func95, Tryz.ntmps95
 go_wp2
 go_ret
 exact ⟨rfl, rfl⟩

/-- What find tells: where a place lies, or the error. -/
def findR (p : Int) (A : List Nat) : Int × Int :=
 if p < 0 ∨ (A.length : Int) ≤ p then (0, 80) else if A.getD p.toNat 0 = 0 then (0, 6) else ((A.getD p.toNat 0 : Int) - 1, 0)
def natV (n : Nat) : Value := .int .i64 n
/-- The table in memory. -/
def TabMem (w : World) (ba : Nat) (A : List Nat) : Prop := ∀ j x, A[j]? = some x → w.cell? ⟨ba, j, none⟩ = some (natV x)

set_option maxHeartbeats 4000000 in
theorem find_any (hb ba n ca : Nat) (p : Int) (A : List Nat) (w : World) (hn : A.length = n) (_ : n ≤ 100000) (hA : ∀ x ∈ A, x ≤ 100000) (h0 : w.cell? ⟨hb, 0, none⟩ = some (.bool true)) (h2 : w.cell? ⟨hb, 2, none⟩ = some (.slice (some ⟨ba, 0, none⟩) n ca)) (ht : TabMem w ba A) :
  Calls Tryz.prog 107 #[.pointer (some ⟨hb, 0, none⟩), .int .i64 p] w fun e w' => e = .returned (.tuple #[.int .i64 (findR p A).1, .int .i64 (findR p A).2]) ∧ Alike w w' := by
 by_cases c1 : p < 0
 ·have hr : findR p A = (0, 80) := by unfold findR; rw [if_pos (.inl c1)]
  rw [hr]
  have d1 : decide (p < 0) = true := decide_eq_true c1
  clear hr ht hA
  go_enter Tryz.func107, Tryz.ntmps107
  go_wp2_with (go_at_call 95; refine (is_made hb true _ h0).mono ?_; rintro e w' ⟨rfl, rfl⟩)
  go_ret2
  exact ⟨rfl, Alike.refl _⟩
 ·by_cases c2 : (n : Int) ≤ p
  ·have hr : findR p A = (0, 80) := by unfold findR; rw [hn, if_pos (.inr c2)]
   rw [hr]
   have q1 : ¬ p < 0 := c1
   have d1 : decide (p < 0) = false := decide_eq_false c1
   clear hr ht hA
   go_enter Tryz.func107, Tryz.ntmps107
   go_wp2_with (go_at_call 95; refine (is_made hb true _ h0).mono ?_; rintro e w' ⟨rfl, rfl⟩)
   go_ret2
   exact ⟨rfl, Alike.refl _⟩
  ·obtain ⟨j, rfl⟩ : ∃ j : Nat, p = j := ⟨p.toNat, by omega⟩
   have hj : j < n := by omega
   obtain ⟨x, hx⟩ : ∃ x, A[j]? = some x := ⟨_, List.getElem?_eq_getElem (by omega)⟩
   have hc := ht j x hx
   rw [natV] at hc
   have hxl := hA x (List.mem_of_getElem? hx)
   have hg : A.getD j 0 = x := by rw [List.getD_eq_getElem?_getD, hx]; rfl
   have hr : findR (j : Int) A = if x = 0 then (0, 6) else ((x : Int) - 1, 0) := by
    unfold findR; rw [hn, if_neg (by omega), Int.toNat_natCast, hg]
   rw [hr]
   clear hr hg hx ht hA
   have q1 : ¬ (j : Int) < 0 := by omega
   have q2 : ¬ (n : Int) ≤ (j : Int) := by omega
   have q3 : (j : Int) < (n : Int) := by omega
   have q4 : (0 : Int) ≤ (j : Int) := by omega
   have d1 : decide ((j : Int) < 0) = false := decide_eq_false q1
   by_cases hx0 : x = 0
   ·subst hx0
    rw [if_pos rfl]
    go_enter Tryz.func107, Tryz.ntmps107
    go_wp2_with (go_at_call 95; refine (is_made hb true _ h0).mono ?_; rintro e w' ⟨rfl, rfl⟩)
    go_ret2
    exact ⟨rfl, Alike.refl _⟩
   ·rw [if_neg hx0]
    have z1 : ((x : Int) == 0) = false := by simp; omega
    have z2 : ¬ (x : Int) = 0 := by omega
    have z3 : IntKind.i64.wrap ((x : Int) - 1) = (x : Int) - 1 := IntWalk.i64_in _ (by omega)
    go_enter Tryz.func107, Tryz.ntmps107
    go_wp2_with (go_at_call 95; refine (is_made hb true _ h0).mono ?_; rintro e w' ⟨rfl, rfl⟩)
    go_ret2
    exact ⟨rfl, Alike.refl _⟩
/-
  Heap.set.
-/

def entV (e : Ent) : Value := .agg #[.int .i64 e.key.time, .int .i64 e.key.source, .int .i64 e.key.seq, .int .i64 e.place]
theorem setCells_drew (b : Nat) : ∀ (vs : List Value) (o : Nat) (w : World), w.drew.setCells b o vs = (w.setCells b o vs).drew
 | [], _, _ => rfl
 | v :: r, o, w => by rw [World.setCells, World.setCells, ← setCells_drew b r]; rfl
theorem info_ent : (Tryz.prog.info? 192).map (·.size) = some 4 := by kernel_rfl

set_option maxHeartbeats 4000000 in
/-- An entry is put at an index: its cells, and its place's index in the table; one block more. -/
theorem set_any (hb bt ba n ca m cap i : Nat) (e : Ent) (v : Value) (w : World) (hi : i < m) (hp : e.place < n) (hm : m ≤ 10000) (h1 : w.cell? ⟨hb, 1, none⟩ = some (.slice (some ⟨bt, 0, none⟩) m cap)) (h2 : w.cell? ⟨hb, 2, none⟩ = some (.slice (some ⟨ba, 0, none⟩) n ca))
  (ht : w.there bt (4 * i) 4) (hv : w.cell? ⟨ba, e.place, none⟩ = some v) (f1 : w.frozen? ⟨ba, e.place, none⟩ = false) (ne1 : hb ≠ bt) (ne2 : hb ≠ ba) (ne3 : bt ≠ ba) :
  Calls Tryz.prog 118 #[.pointer (some ⟨hb, 0, none⟩), .int .i64 i, entV e] w fun e' w' => e' = .returned (.tuple #[]) ∧
   Alike (((w.alloc (.cells #[.int .i64 e.key.time, .int .i64 e.key.source, .int .i64 e.key.seq, .int .i64 e.place] 192)).setCells bt (4 * i) (entCells e)).setCell ⟨ba, e.place, none⟩ (.int .i64 ((i : Int) + 1))) w' := by
 have q1 : (0 : Int) ≤ (i : Int) := by omega
 have q2 : (i : Int) < (m : Int) := by omega
 have q3 : (0 : Int) ≤ (e.place : Int) := by omega
 have q4 : (e.place : Int) < (n : Int) := by omega
 obtain ⟨⟨t, s, q⟩, p⟩ := e
 simp only [entV, entCells] at *
 obtain ⟨B, hB⟩ : ∃ B, w.heap.size = B := ⟨_, rfl⟩
 obtain ⟨W0, hW0⟩ : ∃ W0, w.alloc (.cells #[.int .i64 t, .int .i64 s, .int .i64 q, .int .i64 p] 192) = W0 := ⟨_, rfl⟩
 have hlt : ∀ (a : Addr) (u : Value), w.cell? a = some u → W0.cell? a = some u := fun a u h => by rw [← hW0, World.cell?_alloc_some _ _ _ (by rw [h]; rfl)]; exact h
 have hbt : bt < w.heap.size := by
  obtain ⟨u, hu⟩ := Option.isSome_iff_exists.1 (ht 0 (by omega)).1
  exact World.block_lt_of_cell? w _ hu
 have hba : ba < w.heap.size := World.block_lt_of_cell? w _ hv
 have hfz : ∀ b o, b < w.heap.size → W0.frozen? ⟨b, o, none⟩ = w.frozen? ⟨b, o, none⟩ := fun b o hlt => by
  rw [← hW0]; exact World.frozen?_of_block (Below.heap_alloc w _ b hlt)
 have k1 := hlt _ _ h1
 have k2 := hlt _ _ h2
 have hv0 := hlt _ _ hv
 have hf0 : W0.frozen? ⟨ba, p, none⟩ = false := (hfz ba p hba).trans f1
 have ht0 : W0.there bt (4 * i) 4 := fun j hj => by
  obtain ⟨u, hu⟩ := Option.isSome_iff_exists.1 (ht j hj).1
  exact ⟨by rw [hlt _ _ hu]; rfl, (hfz bt _ hbt).trans (ht j hj).2⟩
 have hh : W0.heap[B]? = some (.cells #[.int .i64 t, .int .i64 s, .int .i64 q, .int .i64 p] 192 (0, 0)) := by rw [← hW0, ← hB]; exact World.alloc_heap_new w _
 have hcell : ∀ j, W0.cell? ⟨B, j, none⟩ = (#[Value.int .i64 t, .int .i64 s, .int .i64 q, .int .i64 p] : Array Value)[j]? := fun j => by simp only [World.cell?, hh]; rfl
 have x0 := hcell 0
 have x1 := hcell 1
 have x2 := hcell 2
 have x3 := hcell 3
 simp at x0 x1 x2 x3
 have HW0 := Lib.hid hW0
 have Hbt := Lib.hid hbt
 have neB : bt ≠ B := by omega
 have neB2 : ba ≠ B := by omega
 go_enter Tryz.func118, Tryz.ntmps118
 go_wp2
 clear hW0 hlt hfz hcell hh h1 h2 ht hv f1 hbt hba hB
 refine wp_region_held_drew (S := fun W => W.cell? ⟨hb, 1, none⟩ = some (.slice (some ⟨bt, 0, none⟩) m cap) ∧ W.cell? ⟨B, 0, none⟩ = some (.int .i64 t) ∧ W.cell? ⟨B, 1, none⟩ = some (.int .i64 s) ∧ W.cell? ⟨B, 2, none⟩ = some (.int .i64 q) ∧ W.cell? ⟨B, 3, none⟩ = some (.int .i64 p)) (by kernel_rfl) ⟨k1, x0, x1, x2, x3⟩ (fun hHeld => ?_)
 refine tk1 (i := 0) (v := .pointer (some ⟨hb, 0, none⟩)) ?_
 try simp only[pUt,pUn,sEt,sEz,sEs]
 refine tk1 (i := 1) (v := .pointer (some ⟨hb, 0, none⟩)) ?_
 try simp only[pUt,pUn,sEt,sEz,sEs]
 refine tk1 (i := 2) (v := .pointer (some ⟨hb, 1, none⟩)) ?_
 try simp only[pUt,pUn,sEt,sEz,sEs]
 refine tk1 (i := 3) (v := .slice (some ⟨bt, 0, none⟩) m cap) ?_
 try simp only[pUt,pUn,sEt,sEz,sEs]
 refine tk1 (i := 4) (v := .int .i64 i) ?_
 try simp only[pUt,pUn,sEt,sEz,sEs]
 refine tk1 (i := 5) (v := .agg #[.int .i64 t, .int .i64 s, .int .i64 q, .int .i64 p]) ?_
 try simp only[pUt,pUn,sEt,sEz,sEs]
 refine tk1 (i := 6) (v := .pointer (some ⟨bt, 4 * i, none⟩)) ?_
 try simp only[pUt,pUn,sEt,sEz,sEs]
 refine take_call (i := 7) rfl (by kernel_rfl) (by kernel_rfl) (fun K hK => ?_)
 refine wp_store_mid 192 _ _ rfl bt (4 * i) #[.int .i64 t, .int .i64 s, .int .i64 q, .int .i64 p] rfl rfl (fun j hj => ht0 j hj) info_ent (by simp [Value.oneCell']) ?_
 have hout : ∀ (b o : Nat) (u : Value), b ≠ bt → W0.cell? ⟨b, o, none⟩ = some u → (W0.drew.setCells bt (4 * i) [.int .i64 t, .int .i64 s, .int .i64 q, .int .i64 p]).cell? ⟨b, o, none⟩ = some u := fun b o u hb hu => by
  rw [World.cell?_setCells_out bt _ _ _ ⟨b, o, none⟩ (fun e => absurd e hb)]; exact hu
 refine hK.out _ _ ⟨hout _ _ _ ne1 k1, hout _ _ _ neB.symm x0, hout _ _ _ neB.symm x1, hout _ _ _ neB.symm x2, hout _ _ _ neB.symm x3⟩ (fun hHeld2 => ?_)
 clear hK K
 try simp only [Act.put]
 have k2' := hout _ _ _ ne1 k2
 have hv' := hout _ _ _ ne3.symm hv0
 have y3 := hout _ _ _ neB.symm x3
 have hf' : (W0.drew.setCells bt (4 * i) [.int .i64 t, .int .i64 s, .int .i64 q, .int .i64 p]).frozen? ⟨ba, p, none⟩ = false := by rw [World.frozen?_setCells]; exact hf0
 refine wpAnyH_done (by kernel_rfl) ?_ _
 obtain ⟨W1, hW1⟩ : ∃ W1, W0.drew.setCells bt (4 * i) [.int .i64 t, .int .i64 s, .int .i64 q, .int .i64 p] = W1 := ⟨_, rfl⟩
 simp only [hW1] at k2' hv' y3 hf' ⊢
 have HW1 := Lib.hid hW1
 clear hW1 hHeld2 hHeld hout k1 k2 x0 x1 x2 x3 hv0 hf0 ht0
 go_wp2
 refine wp_region_held_drew (S := fun W => W.cell? ⟨hb, 2, none⟩ = some (.slice (some ⟨ba, 0, none⟩) n ca) ∧ W.cell? ⟨B, 3, none⟩ = some (.int .i64 p)) (by kernel_rfl) ⟨k2', y3⟩ (fun hHeld => ?_)
 have q5 : IntKind.i64.wrap ((i : Int) + 1) = (i : Int) + 1 := IntWalk.i64_in _ (by omega)
 refine tk1 (i := 0) (v := .pointer (some ⟨hb, 0, none⟩)) ?_
 try simp only[pUt,pUn,sEt,sEz,sEs]
 refine tk1 (i := 1) (v := .pointer (some ⟨hb, 0, none⟩)) ?_
 try simp only[pUt,pUn,sEt,sEz,sEs]
 refine tk1 (i := 2) (v := .pointer (some ⟨hb, 2, none⟩)) ?_
 try simp only[pUt,pUn,sEt,sEz,sEs]
 refine tk1 (i := 3) (v := .slice (some ⟨ba, 0, none⟩) n ca) ?_
 try simp only[pUt,pUn,sEt,sEz,sEs]
 refine tk1 (i := 4) (v := .pointer (some ⟨B, 3, none⟩)) ?_
 try simp only[pUt,pUn,sEt,sEz,sEs]
 refine tk1 (i := 5) (v := .int .i64 p) ?_
 try simp only[pUt,pUn,sEt,sEz,sEs]
 refine tk1 (i := 6) (v := .int .i64 i) ?_
 try simp only[pUt,pUn,sEt,sEz,sEs]
 refine tk1 (i := 7) (v := .int .i64 ((i : Int) + 1)) ?_
 try simp only[pUt,pUn,sEt,sEz,sEs]
 refine tk1 (i := 8) (v := .pointer (some ⟨ba, p, none⟩)) ?_
 try simp only[pUt,pUn,sEt,sEz,sEs]
 refine take_call (i := 9) rfl (by kernel_rfl) (by kernel_rfl) (fun K hK => ?_)
 have hv2 : W1.drew.cell? ⟨ba, p, none⟩ = some v := hv'
 have hf2 : W1.drew.frozen? ⟨ba, p, none⟩ = false := hf'
 go_simp
 refine hK.out _ _ ⟨(World.cell?_setCell_far W1 ⟨ba, p, none⟩ ⟨hb, 2, none⟩ _ ne2.symm).trans k2', (World.cell?_setCell_far W1 ⟨ba, p, none⟩ ⟨B, 3, none⟩ _ neB2).trans y3⟩ (fun hHeld2 => ?_)
 clear hK K
 try simp only[pUt,pUn,sEt,sEz,sEs]
 refine wpAnyH_done (by kernel_rfl) ?_ _
 go_wp2
 go_end0
 refine ⟨rfl, ?_⟩
 rw [HW0.out, ← HW1.out, setCells_drew]
 exact ⟨rfl, rfl, rfl, rfl, Nat.le_trans (Nat.le_succ _) (Nat.le_succ _)⟩
end Go.Proofs.YtieeloealklkgaaGreat

/-
  A heap in memory, whole; set on it.
-/
namespace Go.Proofs.YtieeloealklkgaaGreat
open Go.RowKit

/-- A heap in memory: its three cells, its tree, its table. -/
structure MemH (w : World) (hb bt ba cap n ca : Nat) (t : List Ent) (A : List Nat) : Prop where
 hd : w.heap[hb]? = some (.cells #[.bool true, .slice (some ⟨bt, 0, none⟩) t.length cap, .slice (some ⟨ba, 0, none⟩) n ca] 150 (0, 0))
 tr : ∃ cur : Array Value, w.heap[bt]? = some (.cells cur 192 (0, 0)) ∧ cur.size = cap * 4 ∧ ∀ i, i < t.length → ∀ c, c < 4 → cur[4 * i + c]? = (entCells (at' t i))[c]?
 tb : ∃ cur : Array Value, w.heap[ba]? = some (.cells cur 3 (0, 0)) ∧ n ≤ cur.size ∧ A.length = n ∧ ∀ (p x : Nat), A[p]? = some x → cur[p]? = some (natV x)
 ne1 : hb ≠ bt
 ne2 : hb ≠ ba
 ne3 : bt ≠ ba
 len : t.length ≤ cap
 small : cap ≤ maxLen

theorem MemH.of_heap {w w' : World} {hb bt ba cap n ca : Nat} {t : List Ent} {A : List Nat} (h : MemH w hb bt ba cap n ca t A) (e1 : w'.heap[hb]? = w.heap[hb]?) (e2 : w'.heap[bt]? = w.heap[bt]?) (e3 : w'.heap[ba]? = w.heap[ba]?) : MemH w' hb bt ba cap n ca t A := by
 obtain ⟨h1, ⟨cu, h2, h3⟩, ⟨cv, h4, h5⟩, h6, h7, h8, h9, h10⟩ := h
 exact ⟨e1.trans h1, ⟨cu, e2.trans h2, h3⟩, ⟨cv, e3.trans h4, h5⟩, h6, h7, h8, h9, h10⟩
theorem cells_at {w : World} {b : Nat} {cu : Array Value} {ty : TypeId} (h : w.heap[b]? = some (.cells cu ty (0, 0))) (o : Nat) : w.cell? ⟨b, o, none⟩ = cu[o]? := by simp [World.cell?, h]
theorem frozen_at {w : World} {b : Nat} {cu : Array Value} {ty : TypeId} (h : w.heap[b]? = some (.cells cu ty (0, 0))) (o : Nat) : w.frozen? ⟨b, o, none⟩ = false := by simp [World.frozen?, h]

/-- The world behind set: the two blocks that turn, and one more block. -/
structure SetFr (bt ba : Nat) (w w' : World) : Prop where
 os : w'.os = w.os
 tape : w'.tape = w.tape
 output : w'.output = w.output
 size : w.heap.size ≤ w'.heap.size
 block : ∀ k, k < w.heap.size → k ≠ bt → k ≠ ba → w'.heap[k]? = w.heap[k]?
 drawn : w.drawn ≤ w'.drawn
theorem SetFr.refl (bt ba : Nat) (w : World) : SetFr bt ba w w := ⟨rfl, rfl, rfl, Nat.le_refl _, fun _ _ _ _ => rfl, Nat.le_refl _⟩
theorem SetFr.trans {bt ba : Nat} {a b c : World} (h : SetFr bt ba a b) (k : SetFr bt ba b c) : SetFr bt ba a c :=
 ⟨k.os.trans h.os, k.tape.trans h.tape, k.output.trans h.output, Nat.le_trans h.size k.size, fun i hi h1 h2 => (k.block i (Nat.lt_of_lt_of_le hi h.size) h1 h2).trans (h.block i hi h1 h2), Nat.le_trans h.drawn k.drawn⟩

theorem setCells_other (b : Nat) : ∀ (vs : List Value) (o : Nat) (w : World) (k : Nat), k ≠ b → (w.setCells b o vs).heap[k]? = w.heap[k]?
 | [], _, _, _, _ => rfl
 | v :: r, o, w, k, h => by
  rw [World.setCells, setCells_other b r (o + 1) _ k h]
  exact Below.heap_setCell w ⟨b, o, none⟩ v k h
theorem setCells_parts (b : Nat) : ∀ (vs : List Value) (o : Nat) (w : World), (w.setCells b o vs).os = w.os ∧ (w.setCells b o vs).tape = w.tape ∧ (w.setCells b o vs).output = w.output ∧ (w.setCells b o vs).heap.size = w.heap.size ∧ (w.setCells b o vs).drawn = w.drawn
 | [], _, _ => ⟨rfl, rfl, rfl, rfl, rfl⟩
 | v :: r, o, w => by
  obtain ⟨h1, h2, h3, h4, h5⟩ := setCells_parts b r (o + 1) (w.setCell ⟨b, o, none⟩ v)
  rw [World.setCells]
  exact ⟨h1, h2, h3, h4.trans (by simp [World.setCell]), h5⟩

set_option maxHeartbeats 1000000 in
theorem set_mem (hb bt ba cap n ca i : Nat) (t : List Ent) (A : List Nat) (e : Ent) (w : World) (h : MemH w hb bt ba cap n ca t A) (hi : i < t.length) (hm : t.length ≤ 10000) (hp : e.place < n) :
  Calls Tryz.prog 118 #[.pointer (some ⟨hb, 0, none⟩), .int .i64 i, entV e] w fun e' w' => e' = .returned (.tuple #[]) ∧ MemH w' hb bt ba cap n ca (t.set i e) (A.set e.place (i + 1)) ∧ SetFr bt ba w w' := by
 obtain ⟨cu, hcu, hcs, hct⟩ := h.tr
 obtain ⟨cv, hcv, hvs, hAl, hvt⟩ := h.tb
 have hl := h.len
 obtain ⟨u, hu⟩ : ∃ u, cv[e.place]? = some u := ⟨_, Array.getElem?_eq_getElem (by omega)⟩
 refine (set_any hb bt ba n ca t.length cap i e u w hi hp hm (by rw [cells_at h.hd]; rfl) (by rw [cells_at h.hd]; rfl)
  (fun j hj => ⟨by rw [cells_at hcu, Array.getElem?_eq_getElem (by omega)]; rfl, frozen_at hcu _⟩) (by rw [cells_at hcv]; exact hu) (frozen_at hcv _) h.ne1 h.ne2 h.ne3).mono ?_
 rintro e' w' ⟨rfl, ha⟩
 obtain ⟨W0, hW0⟩ : ∃ W0, w.alloc (.cells #[.int .i64 e.key.time, .int .i64 e.key.source, .int .i64 e.key.seq, .int .i64 e.place] 192) = W0 := ⟨_, rfl⟩
 rw [hW0] at ha
 have hlt : ∀ k, k < w.heap.size → W0.heap[k]? = w.heap[k]? := fun k hk => by rw [← hW0]; exact Below.heap_alloc w _ k hk
 have l1 : hb < w.heap.size := (Array.getElem?_eq_some_iff.1 h.hd).1
 have l2 : bt < w.heap.size := (Array.getElem?_eq_some_iff.1 hcu).1
 have l3 : ba < w.heap.size := (Array.getElem?_eq_some_iff.1 hcv).1
 have hbtc := heap_setCells_at (entCells e) (4 * i) W0 cu ((hlt bt l2).trans hcu)
 have hfar : ∀ k, k ≠ bt → k ≠ ba → w'.heap[k]? = W0.heap[k]? := fun k h1 h2 => by
  rw [ha.heap, Below.heap_setCell _ ⟨ba, e.place, none⟩ _ k h2, setCells_other bt _ _ _ k h1]
 have hbt2 : w'.heap[bt]? = some (.cells (over cu (4 * i) (entCells e)) 192 (0, 0)) := by
  rw [ha.heap, Below.heap_setCell _ ⟨ba, e.place, none⟩ _ bt h.ne3]; exact hbtc
 have hba2 : w'.heap[ba]? = some (.cells (cv.setIfInBounds e.place (natV (i + 1))) 3 (0, 0)) := by
  have h1 : (W0.setCells bt (4 * i) (entCells e)).heap[ba]? = some (.cells cv 3 (0, 0)) := by rw [setCells_other bt _ _ _ ba h.ne3.symm, hlt ba l3]; exact hcv
  rw [ha.heap]
  simp [World.setCell, Array.getElem?_modify, h1, natV]
 obtain ⟨p1, p2, p3, p4, p5⟩ := setCells_parts bt (entCells e) (4 * i) W0
 refine ⟨rfl, ⟨?_, ⟨_, hbt2, by rw [over_size, hcs], fun k hk c hc => ?_⟩, ⟨_, hba2, by simpa using hvs, by simpa using hAl, fun p x hx => ?_⟩, h.ne1, h.ne2, h.ne3, by simpa using hl, h.small⟩, ⟨?_, ?_, ?_, ?_, fun k hk h1 h2 => (hfar k h1 h2).trans (hlt k hk), ?_⟩⟩
 ·rw [hfar hb h.ne1 h.ne2, hlt hb l1, List.length_set]; exact h.hd
 ·simp only [List.length_set] at hk
  rw [over_get]
  have h4 : (entCells e).length = 4 := rfl
  by_cases hki : k = i
  ·subst hki
   rw [if_pos (by omega), at_set_same e hk]
   congr 1; omega
  ·rw [if_neg (by omega), at_set_ne e (fun x => hki x.symm)]
   exact hct k hk c hc
 ·by_cases hpe : p = e.place
  ·subst hpe
   rw [List.getElem?_set_self (by omega)] at hx
   injection hx with hx
   subst hx
   rw [Array.getElem?_setIfInBounds, if_pos rfl, if_pos (by omega)]
  ·rw [List.getElem?_set_ne (fun x => hpe x.symm)] at hx
   rw [Array.getElem?_setIfInBounds, if_neg (fun x => hpe x.symm)]
   exact hvt p x hx
 ·rw [ha.os]; exact p1.trans (by rw [← hW0]; rfl)
 ·rw [ha.tape]; exact p2.trans (by rw [← hW0]; rfl)
 ·rw [ha.output]; exact p3.trans (by rw [← hW0]; rfl)
 ·rw [ha.heap]; simp only [World.setCell, Array.size_modify]; rw [p4, ← hW0]; simp
 ·have e1 : (W0.setCells bt (4 * i) (entCells e)).drawn = w.drawn := p5.trans (by rw [← hW0]; rfl)
  exact Nat.le_trans (Nat.le_of_eq e1.symm) ha.drawn
end Go.Proofs.YtieeloealklkgaaGreat

/-
  Heap.rise, over a contract of the order.
-/
namespace Go.Proofs.YtieeloealklkgaaGreat
open Go.RowKit
attribute [local go_sem ↓] Go.wp_at_zero Go.wp_at_succ

/-- What is asked of the order of entries. -/
def OrderDoes (f : Ent → Ent → Int) : Prop := ∀ (a b : Ent) (W : World), Calls Tryz.prog 98 #[entV a, entV b] W fun e' W' => e' = .returned (.int .i64 (f a b)) ∧ Below W.heap.size W W' ∧ W.drawn ≤ W'.drawn
/-- An entry's cells in memory. -/
theorem MemH.ent {w : World} {hb bt ba cap n ca : Nat} {t : List Ent} {A : List Nat} (h : MemH w hb bt ba cap n ca t A) {i : Nat} (hi : i < t.length) :
  w.cell? ⟨bt, i * 4, none⟩ = some (.int .i64 (at' t i).key.time) ∧ w.cell? ⟨bt, i * 4 + 1, none⟩ = some (.int .i64 (at' t i).key.source) ∧ w.cell? ⟨bt, i * 4 + 2, none⟩ = some (.int .i64 (at' t i).key.seq) ∧ w.cell? ⟨bt, i * 4 + 3, none⟩ = some (.int .i64 (at' t i).place) := by
 obtain ⟨cu, hcu, _, hct⟩ := h.tr
 rw [Nat.mul_comm i 4]
 refine ⟨?_, ?_, ?_, ?_⟩
 ·rw [cells_at hcu]; exact hct i hi 0 (by omega)
 ·rw [cells_at hcu]; exact hct i hi 1 (by omega)
 ·rw [cells_at hcu]; exact hct i hi 2 (by omega)
 ·rw [cells_at hcu]; exact hct i hi 3 (by omega)

theorem MemH.lt {w : World} {hb bt ba cap n ca : Nat} {t : List Ent} {A : List Nat} (h : MemH w hb bt ba cap n ca t A) : hb < w.heap.size ∧ bt < w.heap.size ∧ ba < w.heap.size := by
 obtain ⟨cu, hcu, _⟩ := h.tr
 obtain ⟨cv, hcv, _⟩ := h.tb
 exact ⟨(Array.getElem?_eq_some_iff.1 h.hd).1, (Array.getElem?_eq_some_iff.1 hcu).1, (Array.getElem?_eq_some_iff.1 hcv).1⟩
theorem MemH.below {w w' : World} {hb bt ba cap n ca B : Nat} {t : List Ent} {A : List Nat} (h : MemH w hb bt ba cap n ca t A) (k : Below B w w') (h1 : hb < B) (h2 : bt < B) (h3 : ba < B) : MemH w' hb bt ba cap n ca t A :=
 h.of_heap (k.block _ h1) (k.block _ h2) (k.block _ h3)
theorem MemH.on {w w' : World} {hb bt ba cap n ca : Nat} {t : List Ent} {A : List Nat} (h : MemH w hb bt ba cap n ca t A) (k : Below w.heap.size w w') : MemH w' hb bt ba cap n ca t A :=
 h.below k h.lt.1 h.lt.2.1 h.lt.2.2
theorem SetFr.below {bt ba : Nat} {w a b : World} (h : SetFr bt ba w a) (k : Below a.heap.size a b) (hd : a.drawn ≤ b.drawn) : SetFr bt ba w b :=
 h.trans ⟨k.os, k.tape, k.output, k.size, fun i hi _ _ => k.block i hi, hd⟩
theorem SetFr.alloc (bt ba : Nat) (w : World) (o : Obj) : SetFr bt ba w (w.alloc o) :=
 ⟨rfl, rfl, rfl, by simp, fun k hk _ _ => Below.heap_alloc w _ k hk, Nat.le_refl _⟩
theorem SetFr.drew (bt ba : Nat) (w : World) : SetFr bt ba w w.drew := ⟨rfl, rfl, rfl, Nat.le_refl _, fun _ _ _ _ => rfl, Nat.le_succ _⟩
/-- An entry's own block. -/
def EntAt (w : World) (B : Nat) (x : Ent) : Prop := w.heap[B]? = some (.cells #[.int .i64 x.key.time, .int .i64 x.key.source, .int .i64 x.key.seq, .int .i64 x.place] 192 (0, 0))
theorem EntAt.ent {w : World} {B : Nat} {x : Ent} (h : EntAt w B x) : w.cell? ⟨B, 0, none⟩ = some (.int .i64 x.key.time) ∧ w.cell? ⟨B, 1, none⟩ = some (.int .i64 x.key.source) ∧ w.cell? ⟨B, 2, none⟩ = some (.int .i64 x.key.seq) ∧ w.cell? ⟨B, 3, none⟩ = some (.int .i64 x.place) := by
 refine ⟨?_, ?_, ?_, ?_⟩ <;> rw [cells_at h] <;> rfl
theorem EntAt.lt {w : World} {B : Nat} {x : Ent} (h : EntAt w B x) : B < w.heap.size := (Array.getElem?_eq_some_iff.1 h).1
theorem EntAt.new (w : World) (x : Ent) : EntAt (w.alloc (.cells #[.int .i64 x.key.time, .int .i64 x.key.source, .int .i64 x.key.seq, .int .i64 x.place] 192)) w.heap.size x := World.alloc_heap_new w _

set_option maxHeartbeats 4000000 in
theorem rise_mem (f : Ent → Ent → Int) (HO : OrderDoes f) (hb bt ba cap n ca i : Nat) (t : List Ent) (A : List Nat) (w : World) (h : MemH w hb bt ba cap n ca t A) (hi : i < t.length) (hm : t.length ≤ 10000) (hp : ∀ k, k < t.length → (at' t k).place < n) :
  Calls Tryz.prog 108 #[.pointer (some ⟨hb, 0, none⟩), .int .i64 i] w fun e' w' => e' = .returned (.tuple #[]) ∧ MemH w' hb bt ba cap n ca (riseL f (at' t i) t i) (riseA f Ent.place (at' t i) t A i) ∧ SetFr bt ba w w' := by
 obtain ⟨e0, e1, e2, e3⟩ := h.ent hi
 have k1 : w.cell? ⟨hb, 1, none⟩ = some (.slice (some ⟨bt, 0, none⟩) t.length cap) := by rw [cells_at h.hd]; rfl
 have q1 : (0 : Int) ≤ (i : Int) := by omega
 obtain ⟨x, hx⟩ : ∃ x, at' t i = x := ⟨_, rfl⟩
 have hxp : x.place < n := by rw [← hx]; exact hp i hi
 rw [hx] at e0 e1 e2 e3 ⊢
 have HO' := Lib.hid HO
 have hl := h.lt
 obtain ⟨m, hm'⟩ : ∃ m, t.length = m := ⟨_, rfl⟩
 obtain ⟨R, hR⟩ : ∃ R, riseL f x t i = R := ⟨_, rfl⟩
 obtain ⟨RA, hRA⟩ : ∃ RA, riseA f Ent.place x t A i = RA := ⟨_, rfl⟩
 obtain ⟨B, hB⟩ : ∃ B, w.heap.size = B := ⟨_, rfl⟩
 have hst : MemH (w.alloc (.cells #[.int .i64 x.key.time, .int .i64 x.key.source, .int .i64 x.key.seq, .int .i64 x.place] 192)) hb bt ba cap n ca t A ∧ t.length = m ∧ riseL f x t i = R ∧ riseA f Ent.place x t A i = RA ∧ ∀ k, k < m → (at' t k).place < n :=
  ⟨(h.on ((Below.refl _ w).alloc (Nat.le_refl _) _)), hm', hR, hRA, hm' ▸ hp⟩
 have hEB : EntAt (w.alloc (.cells #[.int .i64 x.key.time, .int .i64 x.key.source, .int .i64 x.key.seq, .int .i64 x.place] 192)) B x := hB ▸ EntAt.new w x
 have hne : B ≠ bt ∧ B ≠ ba ∧ B ≠ hb := by omega
 rw [hR, hRA]
 rw [hm'] at k1 hi hm
 have q2 : (i : Int) < (m : Int) := by omega
 have Hst := Lib.hid hst
 have HEB := Lib.hid hEB
 have HB := Lib.hid hB
 have Hne := Lib.hid hne
 clear h HO hp hm' hR hRA hst hEB hB hx hl hne
 go_enter Tryz.func108, Tryz.ntmps108
 apply wp_scope_straight
 go_wp2
 apply wp_label
 rw [HB.out]
 go_wp2
 clear k1 e0 e1 e2 e3
 go_loopw [1, 5] (fun i _ wr => ∃ (j : Nat) (t' : List Ent) (A' : List Nat), i = .int .i64 j ∧ j < m ∧ Hid (MemH wr hb bt ba cap n ca t' A' ∧ t'.length = m ∧ riseL f x t' j = R ∧ riseA f Ent.place x t' A' j = RA ∧ ∀ k, k < m → (at' t' k).place < n) ∧ Hid (EntAt wr B x) ∧ SetFr bt ba w wr) (fun i _ _ => (intOf i).toNat)
 case atStart => exact ⟨i, t, A, rfl, hi, Hst, HEB, SetFr.alloc _ _ _ _⟩
 case round =>
  obtain ⟨j, t', A', rfl, hj, hinv, hE, hfr⟩ := hrel
  obtain ⟨g1, g2, g3, g4⟩ := hE.out.ent
  have q1 : (0 : Int) ≤ (j : Int) := by omega
  by_cases hj0 : 0 < j
  ·have q2 : (0 : Int) < (j : Int) := by omega
   obtain ⟨p, hp⟩ : ∃ p, par j = p := ⟨_, rfl⟩
   have q3 : IntKind.i64.wrap ((j : Int) - 1) = (j : Int) - 1 := IntWalk.i64_in _ (by omega)
   have q4 : ((j : Int) - 1) / 4 = (p : Int) := by rw [← hp]; unfold par; omega
   obtain ⟨im, ilen, iR, iA, ip⟩ := hinv.out
   have hpj : p < j := by rw [← hp]; exact par_lt hj0
   obtain ⟨y, hy⟩ : ∃ y, at' t' p = y := ⟨_, rfl⟩
   obtain ⟨s0, s1, s2, s3⟩ := im.ent (i := p) (by omega)
   rw [hy] at s0 s1 s2 s3
   have k1 : wr.cell? ⟨hb, 1, none⟩ = some (.slice (some ⟨bt, 0, none⟩) m cap) := by rw [cells_at im.hd, ilen]; rfl
   have hyp : y.place < n := by rw [← hy]; exact ip p (by omega)
   have q5 : (p : Int) < (m : Int) := by omega
   have q6 : (0 : Int) ≤ (p : Int) := by omega
   have Him := Lib.hid im
   clear im
   go_wp2
   rw [q4]
   refine wp_region_held_drew (S := fun W => W.cell? ⟨B, 0, none⟩ = some (.int .i64 x.key.time) ∧ W.cell? ⟨B, 1, none⟩ = some (.int .i64 x.key.source) ∧ W.cell? ⟨B, 2, none⟩ = some (.int .i64 x.key.seq) ∧ W.cell? ⟨B, 3, none⟩ = some (.int .i64 x.place) ∧ W.cell? ⟨hb, 1, none⟩ = some (.slice (some ⟨bt, 0, none⟩) m cap) ∧ W.cell? ⟨bt, p * 4, none⟩ = some (.int .i64 y.key.time) ∧ W.cell? ⟨bt, p * 4 + 1, none⟩ = some (.int .i64 y.key.source) ∧ W.cell? ⟨bt, p * 4 + 2, none⟩ = some (.int .i64 y.key.seq) ∧ W.cell? ⟨bt, p * 4 + 3, none⟩ = some (.int .i64 y.place)) (by kernel_rfl) ⟨g1, g2, g3, g4, k1, s0, s1, s2, s3⟩ (fun hHeld => ?_)
   refine tk1 (i := 0) (v := .agg #[.int .i64 x.key.time, .int .i64 x.key.source, .int .i64 x.key.seq, .int .i64 x.place]) ?_
   try simp only[pUt,pUn,sEt,sEz,sEs]
   refine tk1 (i := 1) (v := .pointer (some ⟨hb, 0, none⟩)) ?_
   try simp only[pUt,pUn,sEt,sEz,sEs]
   refine tk1 (i := 2) (v := .pointer (some ⟨hb, 0, none⟩)) ?_
   try simp only[pUt,pUn,sEt,sEz,sEs]
   refine tk1 (i := 3) (v := .pointer (some ⟨hb, 1, none⟩)) ?_
   try simp only[pUt,pUn,sEt,sEz,sEs]
   refine tk1 (i := 4) (v := .slice (some ⟨bt, 0, none⟩) m cap) ?_
   try simp only[pUt,pUn,sEt,sEz,sEs]
   refine tk1 (i := 5) (v := .int .i64 p) ?_
   try simp only[pUt,pUn,sEt,sEz,sEs]
   refine tk1 (i := 6) (v := .pointer (some ⟨bt, p * 4, none⟩)) ?_
   try simp only[pUt,pUn,sEt,sEz,sEs]
   refine tk1 (i := 7) (v := .agg #[.int .i64 y.key.time, .int .i64 y.key.source, .int .i64 y.key.seq, .int .i64 y.place]) ?_
   try simp only[pUt,pUn,sEt,sEz,sEs]
   obtain ⟨c, hc⟩ : ∃ c, f x y = c := ⟨_, rfl⟩
   have HOxy : Calls Tryz.prog 98 #[entV x, entV y] wr.drew fun e' W' => e' = .returned (.int .i64 c) ∧ Below wr.drew.heap.size wr.drew W' ∧ wr.drew.drawn ≤ W'.drawn := hc ▸ HO'.out x y wr.drew
   refine take_call (i := 8) rfl (by kernel_rfl) (by kernel_rfl) (fun K hK => ?_)
   go_simp
   refine HOxy.mono ?_
   rintro e1 w1 ⟨rfl, hb1, hd1⟩
   go_wp2_with fail
   refine hK.out _ _ ⟨cell_later hb1 g1, cell_later hb1 g2, cell_later hb1 g3, cell_later hb1 g4, cell_later hb1 k1, cell_later hb1 s0, cell_later hb1 s1, cell_later hb1 s2, cell_later hb1 s3⟩ (fun hHeld => ?_)
   clear hK K HOxy
   have im1 : MemH w1 hb bt ba cap n ca t' A' := (Him.out.of_heap rfl rfl rfl : MemH wr.drew hb bt ba cap n ca t' A').on hb1
   have iE1 : EntAt w1 B x := (hb1.block B hE.out.lt).trans hE.out
   have fr1 : SetFr bt ba w w1 := (hfr.trans (SetFr.drew _ _ _)).below hb1 hd1
   have Hc := Lib.hid hc
   clear hc hb1 hd1 g1 g2 g3 g4 k1 s0 s1 s2 s3 hfr hE hinv Him
   try simp only[pUt,pUn,sEt,sEz,sEs]
   obtain ⟨g1, g2, g3, g4⟩ := iE1.ent
   obtain ⟨s0, s1, s2, s3⟩ := im1.ent (i := p) (by omega)
   rw [hy] at s0 s1 s2 s3
   have k1 : w1.cell? ⟨hb, 1, none⟩ = some (.slice (some ⟨bt, 0, none⟩) m cap) := by rw [cells_at im1.hd, ilen]; rfl
   have Him := Lib.hid im1
   have HiE := Lib.hid iE1
   have Hfr := Lib.hid fr1
   clear im1 iE1 fr1
   by_cases hc0 : c > 0
   ·have d0 : decide (0 < c) = true := decide_eq_true hc0
    refine tk1 (i := 9) (v := .bool true) ?_
    try simp only[pUt,pUn,sEt,sEz,sEs]
    refine wpAnyH_done (by kernel_rfl) ?_ _
    have hR1 : t'.set j x = R := by rw [← iR, riseL, dif_pos hj0, if_pos (by rw [hp, hy, Hc.out]; exact hc0)]
    have hA1 : A'.set x.place (j + 1) = RA := by rw [← iA, riseA, dif_pos hj0, if_pos (by rw [hp, hy, Hc.out]; exact hc0)]
    have HR1 := Lib.hid hR1
    have HA1 := Lib.hid hA1
    clear hR1 hA1 iR iA d0
    go_wp2_with (go_at_call 118; refine (set_mem hb bt ba cap n ca j t' A' x _ Him.out (by omega) (by omega) hxp).mono ?_; rintro e2 w2 ⟨rfl, hm2, hf2⟩)
    rw [Exit.noGoto_normal]
    go_end0
    exact ⟨rfl, HR1.out ▸ HA1.out ▸ hm2, Hfr.out.trans hf2⟩
   ·have d0 : decide (0 < c) = false := decide_eq_false hc0
    refine tk1 (i := 9) (v := .bool false) ?_
    try simp only[pUt,pUn,sEt,sEz,sEs]
    refine wpAnyH_done (by kernel_rfl) ?_ _
    have hR1 : riseL f x (t'.set j y) p = R := by rw [← iR, riseL.eq_def f x t' j, dif_pos hj0, if_neg (by rw [hp, hy, Hc.out]; exact hc0), hp, hy]
    have hA1 : riseA f Ent.place x (t'.set j y) (A'.set y.place (j + 1)) p = RA := by rw [← iA, riseA.eq_def f Ent.place x t' A' j, dif_pos hj0, if_neg (by rw [hp, hy, Hc.out]; exact hc0), hp, hy]
    have HR1 := Lib.hid hR1
    have HA1 := Lib.hid hA1
    clear hR1 hA1 iR iA d0
    go_wp2_with (go_at_call 118; refine (set_mem hb bt ba cap n ca j t' A' y _ Him.out (by omega) (by omega) hyp).mono ?_; rintro e2 w2 ⟨rfl, hm2, hf2⟩)
    refine ⟨⟨p, t'.set j y, A'.set y.place (j + 1), rfl, by omega, ⟨hm2, by simpa using ilen, HR1.out, HA1.out, fun k hk => ?_⟩, (hf2.block B HiE.out.lt Hne.out.1 Hne.out.2.1).trans HiE.out, Hfr.out.trans hf2⟩, by simp [intOf]; omega⟩
    by_cases hkj : k = j
    ·subst hkj; rw [at_set_same y (by omega)]; exact hyp
    ·rw [at_set_ne (t := t') y (fun e => hkj e.symm)]; exact ip k hk
  ·have q2 : ¬ (0 : Int) < (j : Int) := by omega
   have hjz : j = 0 := by omega
   subst hjz
   obtain ⟨im, ilen, iR, iA, ip⟩ := hinv.out
   have hR1 : t'.set 0 x = R := by rw [← iR, riseL, dif_neg (by omega)]
   have hA1 : A'.set x.place (0 + 1) = RA := by rw [← iA, riseA, dif_neg (by omega)]
   have HR1 := Lib.hid hR1
   have HA1 := Lib.hid hA1
   have Him := Lib.hid im
   clear hR1 hA1 iR iA im hinv
   go_wp2_with (go_at_call 118; refine (set_mem hb bt ba cap n ca 0 t' A' x _ Him.out (by omega) (by omega) hxp).mono ?_; rintro e2 w2 ⟨rfl, hm2, hf2⟩)
   rw [Exit.noGoto_normal]
   go_end0
   exact ⟨rfl, HR1.out ▸ HA1.out ▸ hm2, hfr.trans hf2⟩
end Go.Proofs.YtieeloealklkgaaGreat

/-
  Heap.below: the indices below one.
-/
namespace Go.Proofs.YtieeloealklkgaaGreat
open Go.RowKit
attribute [local go_sem ↓] Go.wp_at_zero Go.wp_at_succ
attribute [local go_sem] Oper.semAt_some wide_fn wide_depth wide_fnR wide_depthR

theorem below_any (hb i : Nat) (w : World) : Calls Tryz.prog 167 #[.pointer (some ⟨hb, 0, none⟩), .int .i64 i] w fun e w' =>
  e = .returned (.func (.func 168) #[] #[.pointer (some ⟨w.heap.size + 1, 0, none⟩), .pointer (some ⟨w.heap.size, 0, none⟩)]) ∧
   w' = (w.alloc (.cells #[.pointer (some ⟨hb, 0, none⟩)] 39)).alloc (.cells #[.int .i64 i] 3) := by
 go_enter Tryz.func167, Tryz.ntmps167
 go_wp2
 go_ret
 exact ⟨by simp, rfl⟩

/-- The heap's header: its tree's slice. -/
def Header (w : World) (hb bt N cap : Nat) : Prop := w.cell? ⟨hb, 1, none⟩ = some (.slice (some ⟨bt, 0, none⟩) N cap)

set_option maxHeartbeats 2000000 in
theorem below_iter (hb bt cap N i bi bh : Nat) (w : World) (hi : i < N) (hN : N ≤ 10000) (h1 : Box w bi (.int .i64 i)) (h2 : Box w bh (.pointer (some ⟨hb, 0, none⟩))) (h3 : Header w hb bt N cap) :
  Iter Tryz.prog 168 #[.pointer (some ⟨bi, 0, none⟩), .pointer (some ⟨bh, 0, none⟩)] (fun k : Nat => #[.int .i64 k]) (List.range' (4 * i + 1) (min (4 * i + 5) N - (4 * i + 1))) none' (fun k => k = bi ∨ k = bh ∨ k = hb) w := by
 intro l J Jx W hK hJ hJx hY h0
 have hbi : Box W bi (.int .i64 i) := h1.of_block (hK.2 bi (.inl rfl))
 have hbh : Box W bh (.pointer (some ⟨hb, 0, none⟩)) := h2.of_block (hK.2 bh (.inr (.inl rfl)))
 have hhd : Header W hb bt N cap := (World.cell?_of_block (hK.2 hb (.inr (.inr rfl)))).trans h3
 obtain ⟨m, hm⟩ : ∃ m, min (4 * i + 5) N - (4 * i + 1) = m := ⟨_, rfl⟩
 rw [hm] at hY ⊢
 have hxs : ∀ q, q < m → (List.range' (4 * i + 1) m)[q]? = some (4 * i + 1 + q) := fun q hq => by rw [List.getElem?_range' hq]; simp
 have hlen : (List.range' (4 * i + 1) m).length = m := List.length_range'
 rw [hlen]
 obtain ⟨xs, hX⟩ : ∃ xs, List.range' (4 * i + 1) m = xs := ⟨_, rfl⟩
 rw [hX] at hY hxs
 clear hX hlen h1 h2 h3 hK
 refine callsIn_of_wp Tryz.func168 rfl trivial ?_ rfl
 simp only [Tryz.ntmps168, List.size_toArray, List.length_cons, List.length_nil, Nat.reduceAdd, Nat.reduceSub, Array.replicate_succ, Array.replicate_zero, List.push_toArray, List.append_toArray, List.nil_append, List.cons_append]
 have c1 := hbi.cell
 have q1 : IntKind.i64.wrap (4 * (i : Int)) = 4 * (i : Int) := IntWalk.i64_in _ (by omega)
 have q2 : IntKind.i64.wrap (4 * (i : Int) + 1) = 4 * (i : Int) + 1 := IntWalk.i64_in _ (by omega)
 have q3 : IntKind.i64.wrap (4 * (i : Int) + 5) = 4 * (i : Int) + 5 := IntWalk.i64_in _ (by omega)
 gi_wp2
 clear c1
 gi_loopw [4] (fun k wr => ∃ (q c : Nat), q ≤ m ∧ c = 4 * i + 1 + q ∧ k = .int .i64 c ∧ Hid (Box wr bi (.int .i64 i) ∧ Box wr bh (.pointer (some ⟨hb, 0, none⟩)) ∧ Header wr hb bt N cap ∧ J q wr)) (fun k wr => m - (intOf k - (4 * (i : Int) + 1)).toNat)
 case atStart => exact ⟨0, 4 * i + 1, Nat.zero_le _, rfl, by congr 1, hbi, hbh, hhd, h0⟩
 case round =>
  obtain ⟨q, c, hq, hc, rfl, hinv⟩ := hrel
  obtain ⟨i1, i2, i3, i4⟩ := hinv.out
  have c1 := i1.cell
  have c2 := i2.cell
  have c3 : wr.cell? ⟨hb, 1, none⟩ = some (.slice (some ⟨bt, 0, none⟩) N cap) := i3
  gi_wp2
  refine wpIn_wide.2 ?_
  refine wp_region_held_drew (S := fun W => W = wr.drew) (by kernel_rfl) rfl (fun hHeld => ?_)
  refine tk2 (i := 0) (v := .int .i64 c) ?_
  try simp only[pUt,pUn,sEt,sEz,sEs]
  refine tk2 (i := 1) (v := .int .i64 i) ?_
  try simp only[pUt,pUn,sEt,sEz,sEs]
  refine tk2 (i := 2) (v := .int .i64 (4 * (i : Int))) ?_
  try simp only[pUt,pUn,sEt,sEz,sEs]
  refine tk2 (i := 3) (v := .int .i64 (4 * (i : Int) + 5)) ?_
  try simp only[pUt,pUn,sEt,sEz,sEs]
  refine tk2 (i := 4) (v := .pointer (some ⟨hb, 0, none⟩)) ?_
  try simp only[pUt,pUn,sEt,sEz,sEs]
  refine tk2 (i := 5) (v := .pointer (some ⟨hb, 0, none⟩)) ?_
  try simp only[pUt,pUn,sEt,sEz,sEs]
  refine tk2 (i := 6) (v := .pointer (some ⟨hb, 1, none⟩)) ?_
  try simp only[pUt,pUn,sEt,sEz,sEs]
  refine tk2 (i := 7) (v := .slice (some ⟨bt, 0, none⟩) N cap) ?_
  try simp only[pUt,pUn,sEt,sEz,sEs]
  refine tk2 (i := 8) (v := .int .i64 N) ?_
  try simp only[pUt,pUn,sEt,sEz,sEs]
  have hmin : min (4 * (i : Int) + 5) (N : Int) = ((min (4 * i + 5) N : Nat) : Int) := by omega
  obtain ⟨M, hM⟩ : ∃ M, min (4 * i + 5) N = M := ⟨_, rfl⟩
  refine tk2 (i := 9) (v := .int .i64 M) ?_
  try simp only[pUt,pUn,sEt,sEz,sEs]
  have Hc := Lib.hid hc
  have HM := Lib.hid hM
  have Hmin := Lib.hid hmin
  have hJ1 := hJ q wr wr.drew i4 (Fr.refl none' wr).drew
  by_cases hlt : q < m
  ·have hcM : (c : Int) < (M : Int) := by omega
   have hd : decide ((c : Int) < (M : Int)) = true := decide_eq_true hcM
   refine tk2 (i := 10) (v := .bool true) ?_
   try simp only[pUt,pUn,sEt,sEz,sEs]
   obtain ⟨fn, tmps, assign, body, hy, hR⟩ := hY q c wr.drew (by rw [hxs q hlt, Hc.out]) hJ1
   have q5 : IntKind.i64.wrap ((c : Int) + 1) = (c : Int) + 1 := IntWalk.i64_in _ (by omega)
   refine wpAnyH_done (by kernel_rfl) ?_ _
   clear hc hM hmin hcM hd hHeld c1 c2 c3
   gi_wp2
   refine hR.mono ?_
   rintro e W3 (⟨rfl, hJ3, hk3⟩ | ⟨rfl, hJx3⟩)
   ·gi_wp2
    have e1 : Box W3 bi (.int .i64 i) := i1.of_block (hk3.2 bi (.inl rfl))
    have e2 : Box W3 bh (.pointer (some ⟨hb, 0, none⟩)) := i2.of_block (hk3.2 bh (.inr (.inl rfl)))
    have e3 : Header W3 hb bt N cap := (World.cell?_of_block (w := wr.drew) (hk3.2 hb (.inr (.inr rfl)))).trans i3
    go_roundw
    case rel => exact ⟨q + 1, c + 1, hlt, by rw [Hc.out]; omega, by simp, e1, e2, e3, hJ3⟩
    case measure =>
     have := Hc.out
     simp [intOf]; omega
   ·gi_wp2
    refine bodyPost_ret (results_none rfl _ _ _) rfl ?_
    exact ⟨⟨_, rfl⟩, .inr hJx3⟩
  ·have hcM : ¬ (c : Int) < (M : Int) := by omega
   have hd : decide ((c : Int) < (M : Int)) = false := decide_eq_false hcM
   refine tk2 (i := 10) (v := .bool false) ?_
   try simp only[pUt,pUn,sEt,sEz,sEs]
   refine wpAnyH_done (by kernel_rfl) ?_ _
   clear hc hM hmin hcM hd hHeld c1 c2 c3
   obtain rfl : q = m := by omega
   gi_wp2
   go_end0
   exact ⟨⟨_, rfl⟩, .inl hJ1⟩
end Go.Proofs.YtieeloealklkgaaGreat

/-
  heap.order.
-/
namespace Go.Proofs.YtieeloealklkgaaGreat
open Go.RowKit
attribute [local go_sem ↓] Go.wp_at_zero Go.wp_at_succ

set_option maxHeartbeats 1000000 in
theorem Or_two (B : Nat) (c d : Int) (w : World) (h0 : w.cell? ⟨B, 0, none⟩ = some (.int .i64 c)) (h1 : w.cell? ⟨B, 1, none⟩ = some (.int .i64 d)) :
  Calls Tryz.prog 114 #[.slice (some ⟨B, 0, none⟩) 2 2] w fun e w' => e = .returned (.int .i64 (if c ≠ 0 then c else d)) ∧ w = w' := by
 by_cases hc : c = 0
 ·subst hc
  rw [if_neg (by simp)]
  by_cases hd : d = 0
  ·subst hd
   go_enter Tryz.func114, Tryz.ntmps114
   go_wp2
   refine wp_loop_rounds 3 ?_
   rw [rounds_succ]
   go_wp2
   rw [rounds_succ]
   go_wp2
   rw [rounds_succ]
   go_wp2
   go_ret
   exact ⟨rfl, rfl⟩
  ·have hb : (d != 0) = true := by simpa using hd
   go_enter Tryz.func114, Tryz.ntmps114
   go_wp2
   refine wp_loop_rounds 2 ?_
   rw [rounds_succ]
   go_wp2
   rw [rounds_succ]
   go_wp2
   go_ret
   exact ⟨rfl, rfl⟩
 ·rw [if_pos hc]
  have hb : (c != 0) = true := by simpa using hc
  go_enter Tryz.func114, Tryz.ntmps114
  go_wp2
  refine wp_loop_rounds 1 ?_
  rw [rounds_succ]
  go_wp2
  go_ret
  exact ⟨rfl, rfl⟩

set_option maxHeartbeats 1000000 in
theorem order_any (a b : Ent) (w : World) : Calls Tryz.prog 98 #[entV a, entV b] w fun e w' => e = .returned (.int .i64 (ordE a b)) ∧ Fr none' w w' := by
 obtain ⟨c, hc⟩ : ∃ c, cmpK a.key b.key = c := ⟨_, rfl⟩
 obtain ⟨d, hd⟩ : ∃ d, fieldK a.key b.key = d := ⟨_, rfl⟩
 obtain ⟨p, hp⟩ : ∃ p, cmpI a.place b.place = p := ⟨_, rfl⟩
 have HR : ordE a b = if c ≠ 0 then c else p := by unfold ordE; rw [hc, hp]
 rw [HR]
 obtain ⟨r, hr⟩ : ∃ r, (if c ≠ 0 then c else p) = r := ⟨_, rfl⟩
 have HO := fun B w h0 h1 => Or_two B c p w h0 h1
 rw [hr] at HO ⊢
 have HO' := Lib.hid HO
 have HC := fun w => Compare_any a.key b.key w
 simp only [hc, hd, keyV] at HC
 have HP := fun w => cmpInt_any a.place b.place w
 simp only [hp] at HP
 have HC' := Lib.hid HC
 have HP' := Lib.hid HP
 clear HR hc hd hp HC HP HO hr
 obtain ⟨⟨a1, a2, a3⟩, a4⟩ := a
 obtain ⟨⟨b1, b2, b3⟩, b4⟩ := b
 simp only [entV]
 go_enter Tryz.func98, Tryz.ntmps98
 go_wp2_with fail
 refine (HC'.out _).mono ?_
 rintro e w1 ⟨rfl, hf1⟩
 have e0 : ∀ o v, ((w.alloc (.cells #[.int .i64 a1, .int .i64 a2, .int .i64 a3, .int .i64 a4] 192)).alloc (.cells #[.int .i64 b1, .int .i64 b2, .int .i64 b3, .int .i64 b4] 192)).cell? o = some v → w1.cell? o = some v := fun o v h => by
  rw [hf1.cell (p := o) (World.block_lt_of_cell? _ _ h) id]; exact h
 have ea : w1.cell? ⟨w.heap.size, 3, none⟩ = some (.int .i64 a4) := e0 _ _ (by go_simp)
 have eb : w1.cell? ⟨w.heap.size + 1, 3, none⟩ = some (.int .i64 b4) := e0 _ _ (by go_simp)
 have F1 := Lib.hid hf1
 clear e0 hf1
 go_wp2_with fail
 refine (HP'.out _).mono ?_
 rintro e w2 ⟨rfl, rfl⟩
 go_wp2_with fail
 refine (HO'.out _ _ (by go_simp) (by go_simp)).mono ?_
 rintro e w2 ⟨rfl, rfl⟩
 go_wp2
 go_ret
 exact ⟨rfl, ((((Fr.refl _ _).alloc _).alloc _).trans F1.out).alloc _⟩
theorem order_does : OrderDoes ordE := fun a b W => (order_any a b W).mono fun _ _ h => ⟨h.1, h.2.below (Nat.le_refl _) (fun _ _ => id), h.2.drawn⟩
end Go.Proofs.YtieeloealklkgaaGreat
