/-
  Strings that are no names, lists that are no sets: plain Lean.
-/
import Derived.Test.YtnanleopoedgfaaFullM
set_option linter.unusedSimpArgs false
set_option linter.unusedVariables false
namespace Go.Proofs.Ytnanleopoedgfaa
open Go.RowKit

def badB (i : Nat) : Bs := [[], [65], [48, 97], [45, 97], [97, 45], [97, 46], [46, 97], [97, 46, 46, 98], [97, 95, 98]].getD i []
set_option maxRecDepth 100000 in
theorem badB_not : ∀ i, i < 9 → rightB (badB i) = false ∧ (badB i).length ≤ 4 ∧ joinOk [[97], badB i, [46]] = false := by decide +kernel
def zzB (i : Nat) : Bs := 122 :: 122 :: two i
/-- The lists that are no sets. -/
def wrongB (S : List Bs) (bad : Bs) : Nat → List Bs
  | 0 => S ++ [[122, 122], [122, 122]]
  | 1 => [122, 122] :: (S ++ [[97]])
  | 2 => S ++ [bad]
  | _ => S ++ (List.range 257).map zzB
theorem setB_allR {L : List Bs} (h : setB L = true) : ∀ x ∈ L, rightB x = true := fun x hx => by
  obtain ⟨i, hi, rfl⟩ := List.getElem_of_mem hx
  have := setB_right h i hi
  rwa [getD_lt hi] at this
theorem wrongB_not (S : List Bs) (bad : Bs) (hb : rightB bad = false) (d : Nat) : setB (wrongB S bad d) = false := by
  rw [Bool.eq_false_iff]
  intro h
  match d with
  | 0 =>
    have h1 := (List.pairwise_append.1 (sorted_of h)).2.1
    have := (List.pairwise_cons.1 h1).1 [122, 122] (by simp)
    exact ord_irrefl _ this
  | 1 =>
    have h1 := (List.pairwise_cons.1 (sorted_of h)).1 [97] (by simp)
    revert h1; decide
  | 2 =>
    have := setB_allR h bad (by simp [wrongB])
    rw [hb] at this; cases this
  | d + 3 =>
    have := setB_len h
    simp [wrongB] at this
theorem wrongB_short (S : List Bs) (bad : Bs) (hS : ∀ p ∈ S, p.length ≤ 32) (hb : bad.length ≤ 4) (d : Nat) : ∀ p ∈ wrongB S bad d, p.length ≤ 1000 := by
  intro p hp
  match d with
  | 0 =>
    rcases List.mem_append.1 hp with h | h
    · have := hS p h; omega
    · simp at h; rw [h]; decide
  | 1 =>
    rcases List.mem_cons.1 hp with h | h
    · rw [h]; decide
    · rcases List.mem_append.1 h with h | h
      · have := hS p h; omega
      · simp at h; rw [h]; decide
  | 2 =>
    rcases List.mem_append.1 hp with h | h
    · have := hS p h; omega
    · simp at h; rw [h]; omega
  | d + 3 =>
    rcases List.mem_append.1 hp with h | h
    · have := hS p h; omega
    · obtain ⟨i, _, rfl⟩ := List.mem_map.1 h
      simp [zzB, two]
theorem wrongB_len (S : List Bs) (bad : Bs) (d : Nat) : (wrongB S bad d).length ≤ S.length + 257 := by
  match d with
  | 0 => simp [wrongB]
  | 1 => simp [wrongB]
  | 2 => simp [wrongB]
  | d + 3 => simp [wrongB]
theorem add_wrong (L : List Bs) (s : Bs) (h : setB L = false) : addL L s = [] ∧ addE L s = 41 ∧ dropL L s = [] ∧ dropE L s = 41 := by
  unfold addL addE dropL dropE; rw [h]; exact ⟨rfl, rfl, rfl, rfl⟩
theorem add_bad (L : List Bs) (s : Bs) (h : setB L = true) (hs : rightB s = false) : addL L s = [] ∧ addE L s = 40 ∧ dropL L s = [] ∧ dropE L s = 40 := by
  unfold addL addE dropL dropE; rw [h, hs]; exact ⟨rfl, rfl, rfl, rfl⟩
theorem of_bad (L : List Bs) (s : Bs) (hs : rightB s = false) : ofL (L ++ [s]) = [] ∧ ofE (L ++ [s]) = 40 := by
  have : allR (L ++ [s]) = false := by simp [allR, hs]
  unfold ofL ofE; rw [this]; exact ⟨rfl, rfl⟩
end Go.Proofs.Ytnanleopoedgfaa
