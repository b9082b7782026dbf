/-
  The names of NameFull: plain Lean.
-/
import Derived.Test.YtnanleopoedgfaaSorted0
set_option linter.unusedSimpArgs false
set_option linter.unusedVariables false
namespace Go.Proofs.Ytnanleopoedgfaa
open Go.RowKit

def two (i : Nat) : Bs := [(97 + i / 26).toUInt8, (97 + i % 26).toUInt8]
def nmB (i : Nat) : Bs := 110 :: two i
def fullB (k : Nat) : List Bs := (List.range k).map nmB
set_option maxRecDepth 100000 in
theorem nmB_right : ∀ i, i < 301 → rightB (nmB i) = true := by decide +kernel
set_option maxRecDepth 100000 in
theorem nmB_next : ∀ i, i < 300 → ordN (nmB i) (nmB (i + 1)) < 0 := by decide +kernel
set_option maxRecDepth 100000 in
theorem nmB_zz : ∀ i, i < 301 → ordN (nmB i) [122, 122] < 0 := by decide +kernel
theorem fullB_len (k : Nat) : (fullB k).length = k := by simp [fullB]
theorem fullB_get {k i : Nat} (h : i < k) : (fullB k)[i]? = some (nmB i) := by simp [fullB, h]
theorem fullB_getE {k i : Nat} (h : i < (fullB k).length) : (fullB k)[i] = nmB i := by simp [fullB]
theorem fullB_mem {k : Nat} {x : Bs} (h : x ∈ fullB k) : ∃ i, i < k ∧ x = nmB i := by
  obtain ⟨i, hi, rfl⟩ := List.mem_map.1 h
  exact ⟨i, List.mem_range.1 hi, rfl⟩
theorem fullB_sorted {k : Nat} (hk : k ≤ 301) : SortedL (fullB k) :=
  List.pairwise_iff_getElem.2 fun i j hi hj hij => by
    rw [fullB_getE, fullB_getE]
    rw [fullB_len] at hj
    exact ordN_cmp.incr nmB k (fun l hl => nmB_next l (by omega)) i j hij hj
theorem fullB_right {k : Nat} (hk : k ≤ 301) : ∀ x ∈ fullB k, rightB x = true := fun x hx => by
  obtain ⟨i, hi, rfl⟩ := fullB_mem hx
  exact nmB_right i (by omega)
theorem fullB_allR {k : Nat} (hk : k ≤ 301) : allR (fullB k ++ fullB k) = true := List.all_eq_true.2 fun x hx => by
  rcases List.mem_append.1 hx with h | h <;> exact fullB_right hk x h
theorem fullB_of {k : Nat} (hk : k ≤ 301) : ofB (fullB k ++ fullB k) = fullB k := sorted_ext _ _ (ofB_sorted _) (fullB_sorted hk) fun z => by rw [ofB_mem]; simp
theorem fullB_set {k : Nat} (hk : k ≤ 256) : setB (fullB k) = true := setB_of (fullB_sorted (by omega)) (fullB_right (by omega)) (by rw [fullB_len]; exact hk)
theorem insB_end (s : Bs) (L : List Bs) (h : ∀ x ∈ L, ordN x s < 0) : insB s L = L ++ [s] := by
  induction L with
  | nil => rfl
  | cons y r ih => rw [insB, if_pos (h y (by simp)), ih (fun x hx => h x (by simp [hx]))]; rfl
theorem zz_right : rightB [122, 122] = true := by decide
theorem zz_not {k : Nat} (hk : k ≤ 301) : ([122, 122] : Bs) ∉ fullB k := fun h => by
  obtain ⟨i, hi, he⟩ := fullB_mem h
  have := nmB_zz i (by omega)
  rw [← he] at this
  exact ord_irrefl _ this
theorem fullB_ofL {k : Nat} (hk : k ≤ 301) : ofL (fullB k ++ fullB k) = (if k ≤ 256 then fullB k else []) ∧ ofE (fullB k ++ fullB k) = (if k ≤ 256 then 0 else 5) := by
  unfold ofL ofE
  rw [fullB_allR hk, fullB_of hk, fullB_len]
  by_cases h : k ≤ 256
  · simp [h]
  · simp [h]
theorem fullB_add {k : Nat} (hk : k ≤ 256) : addL (fullB k) [122, 122] = (if k < 256 then fullB k ++ [[122, 122]] else []) ∧ addE (fullB k) [122, 122] = (if k < 256 then 0 else 5) := by
  unfold addL addE
  have hz := zz_not (k := k) (by omega)
  rw [fullB_set hk, zz_right, fullB_len, decide_eq_false hz, if_neg hz, insB_end _ _ (fun x hx => by obtain ⟨i, hi, rfl⟩ := fullB_mem hx; exact nmB_zz i (by omega))]
  by_cases h : k < 256
  · simp [h]
  · simp [h]
theorem fullB_again {k i : Nat} (hk : k ≤ 256) (hi : i < k) : addL (fullB k) (nmB i) = fullB k ∧ addE (fullB k) (nmB i) = 0 := by
  have hin : nmB i ∈ fullB k := List.mem_of_getElem? (fullB_get hi)
  unfold addL addE
  rw [fullB_set hk, nmB_right i (by omega), decide_eq_true hin, if_pos hin, (insB_same (fullB_sorted (by omega))).2 hin]
  exact ⟨rfl, rfl⟩
end Go.Proofs.Ytnanleopoedgfaa
