/-
  Add, Drop, Find, Compare on sets of names; plain facts for NameSorted.
-/
import Derived.Test.YtnanleopoedgfaaAdd
set_option linter.unusedSimpArgs false
set_option linter.unusedVariables false
namespace Go.Proofs.Ytnanleopoedgfaa
open Go.RowKit

theorem two_of_row {L : List Bs} {n : Nat} {E : Int} {w w' : World} {e : Ending} (h : RowPost L n E w e w') : TwoPost L n E w e w' := by
  obtain ⟨v, rfl, hrow, hb⟩ := h
  obtain ⟨A, cap, rfl, _, _, _, hc, _, _⟩ := ownsRow_cells hrow
  exact ⟨A, cap, rfl, hc, hb⟩
/-- A sorted list in a sorted list is not longer. -/
theorem sorted_filter {O S : List Bs} (hO : SortedL O) (hS : SortedL S) (h : ∀ z ∈ O, z ∈ S) : O = S.filter (fun z => decide (z ∈ O)) :=
  sorted_ext _ _ hO (hS.sublist List.filter_sublist) (fun z => by
    rw [List.mem_filter]
    exact ⟨fun hz => ⟨h z hz, decide_eq_true hz⟩, fun hz => of_decide_eq_true hz.2⟩)
theorem sorted_len {O S : List Bs} (hO : SortedL O) (hS : SortedL S) (h : ∀ z ∈ O, z ∈ S) : O.length ≤ S.length := by
  rw [sorted_filter hO hS h]; exact List.length_filter_le _ _
theorem setB_allR' {L : List Bs} (h : setB L = true) : ∀ x ∈ L, rightB x = true := fun x hx => by
  obtain ⟨i, hi, rfl⟩ := List.getElem_of_mem hx
  have := setB_right h i hi
  rwa [getD_lt hi] at this
theorem setB_sub {O S : List Bs} (hO : SortedL O) (hset : setB S = true) (h : ∀ z ∈ O, z ∈ S) : setB O = true :=
  setB_of hO (fun x hx => by
    obtain ⟨i, hi, rfl⟩ := List.getElem_of_mem (h x hx)
    have := setB_right hset i hi
    rwa [getD_lt hi] at this) (Nat.le_trans (sorted_len hO (sorted_of hset) h) (setB_len hset))

theorem Add_set (a : Option Addr) (n cap : Nat) (O : List Bs) (s : Bs) (hO : setB O = true) (hl : n < 256) (hs : rightB s = true) (hn : O.length = n) (W : World) (hc : Cells W a (O.map strV)) :
    Calls Try.prog 23 #[.slice a n cap, .string (bs s)] W (TwoPost (insB s O) (insB s O).length 0 W) := by
  have h := Add_any a n cap O s W hn (by omega) (fun p hp => by have := setB_short hO p hp; omega) (by have := rightB_len hs; omega) hc
  have h1 : addL O s = insB s O := by unfold addL; rw [hO, hs, hn, decide_eq_true hl, Bool.or_true]; rfl
  have h2 : addE O s = 0 := by unfold addE; rw [hO, hs, if_neg (by simp), if_neg (by simp), hn, if_pos hl]; split <;> rfl
  rw [h1, h2] at h
  exact h.mono fun _ _ h => two_of_row h
theorem Drop_in (a : Option Addr) (n cap : Nat) (O : List Bs) (s : Bs) (hO : setB O = true) (hs : rightB s = true) (hin : s ∈ O) (hn : O.length = n) (W : World) (hc : Cells W a (O.map strV)) :
    Calls Try.prog 26 #[.slice a n cap, .string (bs s)] W (TwoPost (delB s O) (delB s O).length 0 W) := by
  have h := Drop_any a n cap O s W hn (by have := setB_len hO; omega) (fun p hp => by have := setB_short hO p hp; omega) (by have := rightB_len hs; omega) hc
  have h1 : dropL O s = delB s O := by unfold dropL; rw [hO, hs, decide_eq_true hin]; rfl
  have h2 : dropE O s = 0 := by unfold dropE; rw [hO, hs, if_neg (by simp), if_neg (by simp), if_pos hin]
  rw [h1, h2] at h
  exact h.mono fun _ _ h => two_of_row h
theorem Drop_out (a : Option Addr) (n cap : Nat) (O : List Bs) (s : Bs) (hO : setB O = true) (hs : rightB s = true) (hin : s ∉ O) (hn : O.length = n) (W : World) (hc : Cells W a (O.map strV)) :
    Calls Try.prog 26 #[.slice a n cap, .string (bs s)] W (TwoPost [] 0 6 W) := by
  have h := Drop_any a n cap O s W hn (by have := setB_len hO; omega) (fun p hp => by have := setB_short hO p hp; omega) (by have := rightB_len hs; omega) hc
  have h1 : dropL O s = [] := by unfold dropL; rw [hO, hs, decide_eq_false hin]; rfl
  have h2 : dropE O s = 6 := by unfold dropE; rw [hO, hs, if_neg (by simp), if_neg (by simp), if_neg hin]
  rw [h1, h2] at h
  exact h.mono fun _ _ h => two_of_row h
theorem Find_mem (a : Option Addr) (n cap : Nat) (S : List Bs) (s : Bs) (hset : setB S = true) (hs : rightB s = true) (hn : S.length = n) (b : Bool) (hb : decide (s ∈ S) = b) (lo : Nat) (hlo : lowN S s = lo) (W : World) (hc : Cells W a (S.map strV)) :
    Calls Try.prog 20 #[.slice a n cap, .string (bs s)] W fun e w' => e = .returned (.tuple #[.int .i64 lo, .bool b]) ∧ Below W.heap.size W w' := by
  refine Find_set a n cap lo b S s hn hset hs hlo ?_ W hc
  rw [← hb, ← hlo, Bool.eq_iff_iff, isAt_mem (sorted_of hset)]
  exact decide_eq_true_iff.symm
/-- Where a name of a set lies. -/
theorem lowN_self {S : List Bs} (hset : setB S = true) {i : Nat} (hi : i < S.length) : lowN S S[i] = i := by
  have h0 := ordN_cmp.refl S[i]
  rcases Nat.lt_trichotomy (lowN S S[i]) i with h | h | h
  · have h1 := lowN_at (xs := S) (s := S[i]) (by omega)
    have h2 := setB_incr hset (lowN S S[i]) i h hi
    rw [getD_lt hi] at h2
    omega
  · exact h
  · have := lowN_before h
    rw [getD_lt hi] at this
    omega
theorem ins_del {S : List Bs} {s : Bs} (hS : SortedL S) : (s ∉ S → delB s (insB s S) = S) ∧ insB s (delB s (insB s S)) = insB s S := by
  have h1 := insB_sorted s S hS
  have h2 := delB_sorted s _ h1
  refine ⟨fun h => sorted_ext _ _ h2 hS fun z => ?_, sorted_ext _ _ (insB_sorted s _ h2) h1 fun z => ?_⟩
  · rw [delB_mem, insB_mem]
    constructor
    · rintro ⟨rfl | hz, hne⟩
      · exact absurd rfl hne
      · exact hz
    · exact fun hz => ⟨.inr hz, fun e => h (e ▸ hz)⟩
  · rw [insB_mem, delB_mem, insB_mem]
    constructor
    · rintro (rfl | ⟨rfl | hz, _⟩)
      · exact .inl rfl
      · exact .inl rfl
      · exact .inr hz
    · rintro (rfl | hz)
      · exact .inl rfl
      · by_cases he : z = s
        · exact .inl he
        · exact .inr ⟨.inr hz, he⟩
theorem insB_same {S : List Bs} {s : Bs} (hS : SortedL S) : insB s S = S ↔ s ∈ S := by
  constructor
  · intro h
    have := (insB_mem s s S).2 (.inl rfl)
    rwa [h] at this
  · exact fun h => insB_there s S ((isAt_mem hS).2 h)
end Go.Proofs.Ytnanleopoedgfaa
