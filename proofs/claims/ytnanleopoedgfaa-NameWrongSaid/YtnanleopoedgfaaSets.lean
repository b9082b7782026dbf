/-
  Sets of names: plain Lean.
-/
import Derived.Test.YtnanleopoedgfaaOrd
import Derived.Lib.SlicesCompact
set_option linter.unusedSimpArgs false
set_option linter.unusedVariables false
namespace Go.Proofs.Ytnanleopoedgfaa
open Go.RowKit

def SortedL (L : List Bs) : Prop := L.Pairwise (fun a b => ordN a b < 0)
def insB (x : Bs) : List Bs → List Bs
  | [] => [x]
  | y :: r => if ordN y x < 0 then y :: insB x r else if y = x then y :: r else x :: y :: r
/-- The set of names. -/
def ofB (xs : List Bs) : List Bs := xs.foldl (fun L x => insB x L) []

theorem ord_irrefl (a : Bs) : ¬ ordN a a < 0 := by have := (ordN_cmp.eq a a).2 rfl; omega
theorem ord_asymm {a b : Bs} (h : ordN a b < 0) : ¬ ordN b a < 0 := by have := ordN_cmp.anti a b; omega
theorem ord_total {a b : Bs} (h : ¬ ordN a b < 0) (hne : a ≠ b) : ordN b a < 0 := by
  have h1 := ordN_cmp.anti a b
  have h2 : ordN a b ≠ 0 := fun e => hne ((ordN_cmp.eq a b).1 e)
  omega
theorem insB_mem (x z : Bs) (L : List Bs) : z ∈ insB x L ↔ z = x ∨ z ∈ L := by
  induction L with
  | nil => simp [insB]
  | cons y r ih =>
    simp only [insB]
    split
    · simp only [List.mem_cons, ih]
      constructor
      · rintro (h | h | h)
        · exact .inr (.inl h)
        · exact .inl h
        · exact .inr (.inr h)
      · rintro (h | h | h)
        · exact .inr (.inl h)
        · exact .inl h
        · exact .inr (.inr h)
    · split
      · next h => subst h; simp
      · simp
theorem insB_sorted (x : Bs) (L : List Bs) (h : SortedL L) : SortedL (insB x L) := by
  induction L with
  | nil => simp [insB, SortedL]
  | cons y r ih =>
    obtain ⟨h1, h2⟩ := List.pairwise_cons.1 h
    simp only [insB]
    split
    · next hyx =>
      refine List.pairwise_cons.2 ⟨fun z hz => ?_, ih h2⟩
      rcases (insB_mem x z r).1 hz with rfl | hz
      · exact hyx
      · exact h1 z hz
    · next hyx =>
      split
      · exact h
      · next hne =>
        have hxy := ord_total hyx hne
        refine List.pairwise_cons.2 ⟨fun z hz => ?_, h⟩
        rcases List.mem_cons.1 hz with rfl | hz
        · exact hxy
        · exact ordN_cmp.trans _ _ _ hxy (h1 z hz)
theorem foldl_ins (xs L : List Bs) (h : SortedL L) : SortedL (xs.foldl (fun L x => insB x L) L) ∧ ∀ z, z ∈ xs.foldl (fun L x => insB x L) L ↔ z ∈ L ∨ z ∈ xs := by
  induction xs generalizing L with
  | nil => exact ⟨h, by simp⟩
  | cons x r ih =>
    obtain ⟨h1, h2⟩ := ih (insB x L) (insB_sorted x L h)
    refine ⟨h1, fun z => ?_⟩
    rw [List.foldl_cons, h2, insB_mem, List.mem_cons]
    constructor
    · rintro ((h | h) | h)
      · exact .inr (.inl h)
      · exact .inl h
      · exact .inr (.inr h)
    · rintro (h | h | h)
      · exact .inl (.inr h)
      · exact .inl (.inl h)
      · exact .inr h
theorem ofB_sorted (xs : List Bs) : SortedL (ofB xs) := (foldl_ins xs [] List.Pairwise.nil).1
theorem ofB_mem (xs : List Bs) (z : Bs) : z ∈ ofB xs ↔ z ∈ xs := by
  have := (foldl_ins xs [] List.Pairwise.nil).2 z
  unfold ofB; rw [this]; simp
theorem sorted_ext (L M : List Bs) (hL : SortedL L) (hM : SortedL M) (h : ∀ z, z ∈ L ↔ z ∈ M) : L = M := by
  induction L generalizing M with
  | nil =>
    cases M with
    | nil => rfl
    | cons b m => have := (h b).2 (by simp); simp at this
  | cons a l ih =>
    cases M with
    | nil => have := (h a).1 (by simp); simp at this
    | cons b m =>
      obtain ⟨h1, h2⟩ := List.pairwise_cons.1 hL
      obtain ⟨h3, h4⟩ := List.pairwise_cons.1 hM
      have hab : a = b := by
        rcases List.mem_cons.1 ((h a).1 (by simp)) with h5 | h5
        · exact h5
        · rcases List.mem_cons.1 ((h b).2 (by simp)) with h6 | h6
          · exact h6.symm
          · exact absurd (h1 b h6) (ord_asymm (h3 a h5))
      subst hab
      rw [ih m h2 h4 (fun z => ⟨fun hz => ?_, fun hz => ?_⟩)]
      · rcases List.mem_cons.1 ((h z).1 (by simp [hz])) with rfl | h5
        · exact absurd (h1 z hz) (ord_irrefl z)
        · exact h5
      · rcases List.mem_cons.1 ((h z).2 (by simp [hz])) with rfl | h5
        · exact absurd (h3 z hz) (ord_irrefl z)
        · exact h5

theorem compactUpTo_sorted (d : Array Bs) (hd : ∀ i j, i < j → j < d.size → ordN d[i]! d[j]! ≤ 0) (m : Nat) (hm : m ≤ d.size) :
    SortedL (Lib.compactUpTo d m) ∧ ∀ z, z ∈ Lib.compactUpTo d m ↔ ∃ j, j < m ∧ d[j]! = z := by
  induction m with
  | zero => exact ⟨by simp [Lib.compactUpTo, SortedL], fun z => by simp [Lib.compactUpTo]⟩
  | succ m ih =>
    obtain ⟨h1, h2⟩ := ih (by omega)
    rw [Lib.compactUpTo_succ]
    cases hk : Lib.keeps d m with
    | true =>
      simp only [if_true]
      refine ⟨List.pairwise_append.2 ⟨h1, by simp, fun a ha b hb => ?_⟩, fun z => ?_⟩
      · simp only [List.mem_singleton] at hb
        subst hb
        obtain ⟨j, hj, rfl⟩ := (h2 a).1 ha
        have hne : d[m]! ≠ d[m - 1]! := by
          simp only [Lib.keeps, decide_eq_true_eq] at hk
          rcases hk with hk | hk
          · omega
          · exact hk
        have h3 : ordN d[m - 1]! d[m]! < 0 := by
          have := hd (m - 1) m (by omega) (by omega)
          have h0 : ordN d[m - 1]! d[m]! ≠ 0 := fun e => hne ((ordN_cmp.eq _ _).1 e).symm
          omega
        by_cases hjm : j = m - 1
        · rw [hjm]; exact h3
        · have h4 := hd j (m - 1) (by omega) (by omega)
          by_cases h0 : ordN d[j]! d[m - 1]! = 0
          · rw [(ordN_cmp.eq _ _).1 h0]; exact h3
          · exact ordN_cmp.trans _ _ _ (by omega) h3
      · rw [List.mem_append, h2, List.mem_singleton]
        constructor
        · rintro (⟨j, hj, rfl⟩ | rfl)
          · exact ⟨j, by omega, rfl⟩
          · exact ⟨m, by omega, rfl⟩
        · rintro ⟨j, hj, rfl⟩
          by_cases hjm : j = m
          · subst hjm; exact .inr rfl
          · exact .inl ⟨j, by omega, rfl⟩
    | false =>
      have hk' : m ≠ 0 ∧ d[m]! = d[m - 1]! := by
        simp only [Lib.keeps, decide_eq_false_iff_not, not_or, Decidable.not_not] at hk
        exact hk
      simp only [Bool.false_eq_true, if_false, List.append_nil]
      refine ⟨h1, fun z => (h2 z).trans ⟨fun ⟨j, hj, h⟩ => ⟨j, by omega, h⟩, fun ⟨j, hj, h⟩ => ?_⟩⟩
      by_cases hjm : j = m
      · subst hjm; exact ⟨j - 1, by omega, by rw [← hk'.2]; exact h⟩
      · exact ⟨j, by omega, h⟩
theorem get_bang (l : List Bs) (i : Nat) (h : i < l.length) : l.toArray[i]! = l[i] := by
  rw [getElem!_pos l.toArray i (by simpa using h)]; simp
/-- What is sorted, without its doubles, is the set of it. -/
theorem compact_of (zs xs : List Bs) (hs : zs.Pairwise (fun a b => ordN a b ≤ 0)) (hm : ∀ z, z ∈ zs ↔ z ∈ xs) : Lib.compact zs = ofB xs := by
  have h := compactUpTo_sorted zs.toArray (fun i j hij hj => by
    have hj' : j < zs.length := by simpa using hj
    rw [get_bang zs i (by omega), get_bang zs j hj']
    exact List.pairwise_iff_getElem.1 hs i j (by omega) hj' hij) zs.length (by simp)
  refine sorted_ext _ _ h.1 (ofB_sorted xs) (fun z => ?_)
  rw [show Lib.compact zs = Lib.compactUpTo zs.toArray zs.length from rfl, h.2 z, ofB_mem, ← hm z]
  constructor
  · rintro ⟨j, hj, rfl⟩
    rw [get_bang zs j hj]; exact List.getElem_mem hj
  · intro hz
    obtain ⟨i, hi, rfl⟩ := List.getElem_of_mem hz
    exact ⟨i, hi, get_bang zs i hi⟩
end Go.Proofs.Ytnanleopoedgfaa
