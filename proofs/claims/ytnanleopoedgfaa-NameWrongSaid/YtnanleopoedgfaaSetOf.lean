/-
  The set of names of numbers is right. Plain Lean.
-/
import Derived.Test.YtnanleopoedgfaaMades
import Derived.Test.YtnanleopoedgfaaRange
set_option linter.unusedSimpArgs false
set_option linter.unusedVariables false
namespace Go.Proofs.Ytnanleopoedgfaa
open Go.RowKit

theorem setB_of {L : List Bs} (h : SortedL L) (hr : ∀ x ∈ L, rightB x = true) (hl : L.length ≤ 256) : setB L = true := by
  unfold setB
  rw [Bool.and_eq_true]
  refine ⟨List.all_eq_true.2 fun j hj => ?_, decide_eq_true hl⟩
  have hj := List.mem_range.1 hj
  have h1 : L.getD j [] = L[j] := getD_lt hj
  simp only [okAt, Bool.and_eq_true, Bool.or_eq_true, decide_eq_true_eq]
  rw [h1]
  refine ⟨hr _ (List.getElem_mem hj), ?_⟩
  by_cases h0 : j = 0
  · exact .inl h0
  · right
    rw [getD_lt (show j - 1 < L.length by omega)]
    exact List.pairwise_iff_getElem.1 h (j - 1) j (by omega) hj (by omega)
theorem sorted_of {L : List Bs} (h : setB L = true) : SortedL L :=
  List.pairwise_iff_getElem.2 fun i j hi hj hij => by
    have := setB_incr h i j hij hj
    rwa [getD_lt hi, getD_lt hj] at this
theorem madesB_len (ns : List Nat) : (madesB ns).length ≤ 40 := by unfold madesB; rw [List.length_map, List.length_take]; omega
theorem madesB_right (ns : List Nat) : allR (madesB ns) = true := List.all_eq_true.2 fun x hx => by
  obtain ⟨n, _, rfl⟩ := List.mem_map.1 hx
  exact madeB_right n
theorem madesB_short (ns : List Nat) : ∀ p ∈ madesB ns, p.length ≤ 1000 := fun x hx => by
  obtain ⟨n, _, rfl⟩ := List.mem_map.1 hx
  have := madeB_len n; omega
theorem ofB_set {xs : List Bs} (hr : allR xs = true) (hl : (ofB xs).length ≤ 256) : setB (ofB xs) = true :=
  setB_of (ofB_sorted xs) (fun x hx => List.all_eq_true.1 hr x ((ofB_mem xs x).1 hx)) hl
theorem ofL_mades (ns : List Nat) : ofL (madesB ns) = ofB (madesB ns) ∧ ofE (madesB ns) = 0 ∧ setB (ofB (madesB ns)) = true ∧ (ofB (madesB ns)).length ≤ 40 := by
  have h1 := madesB_right ns
  have h2 := madesB_len ns
  have h3 := ofB_len (madesB ns)
  have h4 : (ofB (madesB ns)).length ≤ 256 := by omega
  refine ⟨?_, ?_, ofB_set h1 h4, by omega⟩
  · unfold ofL; rw [h1, decide_eq_true h4]; rfl
  · unfold ofE; rw [h1, if_pos h4]; rfl
theorem setB_short {L : List Bs} (h : setB L = true) : ∀ p ∈ L, p.length ≤ 32 := fun p hp => by
  obtain ⟨i, hi, rfl⟩ := List.getElem_of_mem hp
  have := setB_right h i hi
  rw [getD_lt hi] at this
  exact rightB_len this
/-- Of names that are made: the set, and no error. -/
theorem Of_mades (a : Option Addr) (n cap : Nat) (ns : List Nat) (w : World) (hn : (madesB ns).length = n) (hc : Cells w a ((madesB ns).map strV)) :
    Calls Try.prog 17 #[.slice a n cap] w (RowPost (ofB (madesB ns)) (ofB (madesB ns)).length 0 w) := by
  have h := Of_any a n cap (madesB ns) w hn (by have := madesB_len ns; omega) (madesB_short ns) hc
  obtain ⟨h1, h2, _⟩ := ofL_mades ns
  rwa [h1, h2] at h
end Go.Proofs.Ytnanleopoedgfaa
