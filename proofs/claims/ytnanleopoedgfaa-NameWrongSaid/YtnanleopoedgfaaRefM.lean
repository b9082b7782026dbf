/-
  The reference's parts: plain Lean.
-/
import Derived.Test.YtnanleopoedgfaaGlue
set_option linter.unusedSimpArgs false
set_option linter.unusedVariables false
namespace Go.Proofs.Ytnanleopoedgfaa
open Go.RowKit

/-- What the reference asks of the byte at an index of a part. -/
def pcOk (l : Bs) (i : Nat) : Bool :=
  !(decide ((l.getD i 0).toNat = 45) && (decide (i = 0) || decide (i + 1 = l.length))) && (decide ((l.getD i 0).toNat = 45) || okc (l.getD i 0))
def partB (l : Bs) : Bool := (List.range l.length).all (pcOk l) && decide (0 < l.length)

theorem partB_iff (l : Bs) : partB l = true ↔ 0 < l.length ∧ (∀ i, i < l.length → ((l.getD i 0).toNat = 45 ∨ okc (l.getD i 0) = true)) ∧ (l.getD 0 0).toNat ≠ 45 ∧ (l.getD (l.length - 1) 0).toNat ≠ 45 := by
  unfold partB
  simp only [Bool.and_eq_true, List.all_eq_true, List.mem_range, decide_eq_true_eq, pcOk, Bool.not_eq_true', Bool.and_eq_false_iff, Bool.or_eq_false_iff, Bool.or_eq_true, decide_eq_false_iff_not]
  constructor
  · rintro ⟨h, h0⟩
    refine ⟨h0, fun i hi => (h i hi).2, ?_, ?_⟩
    · rcases (h 0 h0).1 with h1 | h1
      · exact h1
      · exact absurd rfl h1.1
    · rcases (h (l.length - 1) (by omega)).1 with h1 | h1
      · exact h1
      · exact absurd (by omega) h1.2
  · rintro ⟨h0, h1, h2, h3⟩
    refine ⟨fun i hi => ⟨?_, h1 i hi⟩, h0⟩
    by_cases hi0 : i = 0
    · subst hi0; exact .inl h2
    · by_cases hil : i + 1 = l.length
      · left; rw [show i = l.length - 1 from by omega]; exact h3
      · exact .inr ⟨hi0, hil⟩

theorem scan_mid (p : Bs) (b : UInt8) (hb : b.toNat ≠ 46) (hf : ∀ c ∈ p, c ≠ 46) :
    endOk (scan b p) = (p.all (fun c => decide (c.toNat = 45) || okc c) && !decide (((b :: p).getLast (by simp)).toNat = 45)) := by
  induction p generalizing b with
  | nil => rw [Bool.eq_iff_iff]; simp [scan, endOk, hb]; exact ⟨fun h => decide_eq_false h, fun h => of_decide_eq_false h⟩
  | cons c r ih =>
    have hc : c ≠ 46 := hf c (by simp)
    have hcn : c.toNat ≠ 46 := fun e => hc (UInt8.toNat_inj.1 e)
    simp only [scan, stp]
    by_cases h1 : okc c = true
    · rw [if_pos h1, ih c hcn (fun x hx => hf x (by simp [hx]))]
      rw [Bool.eq_iff_iff]; simp [h1]; intro _; exact ⟨fun h => decide_eq_false h, fun h => of_decide_eq_false h⟩
    · by_cases h2 : c.toNat = 45
      · rw [if_neg h1, if_pos h2, if_neg hb]
        dsimp only
        rw [ih c hcn (fun x hx => hf x (by simp [hx]))]
        rw [Bool.eq_iff_iff]; simp [h2]; intro _; exact ⟨fun h => decide_eq_false h, fun h => of_decide_eq_false h⟩
      · rw [if_neg h1, if_neg h2, if_neg hcn]
        simp [endOk, h1, h2]

theorem scan_part (p : Bs) (hf : ∀ c ∈ p, c ≠ 46) : endOk (scan 46 p) = partB p := by
  rw [Bool.eq_iff_iff, partB_iff]
  cases p with
  | nil => simp [scan, endOk]
  | cons c r =>
    have hc : c ≠ 46 := hf c (by simp)
    have hcn : c.toNat ≠ 46 := fun e => hc (UInt8.toNat_inj.1 e)
    have hlast : ((c :: r).getD ((c :: r).length - 1) 0) = (c :: r).getLast (by simp) := by
      rw [List.getD_eq_getElem?_getD, List.getElem?_eq_getElem (by simp), List.getLast_eq_getElem]; rfl
    have hall : (∀ i, i < (c :: r).length → (((c :: r).getD i 0).toNat = 45 ∨ okc ((c :: r).getD i 0) = true)) ↔ (c.toNat = 45 ∨ okc c = true) ∧ (r.all (fun c => decide (c.toNat = 45) || okc c) = true) := by
      rw [List.all_eq_true]
      constructor
      · intro h
        refine ⟨h 0 (by simp), fun x hx => ?_⟩
        obtain ⟨i, hi, rfl⟩ := List.getElem_of_mem hx
        have := h (i + 1) (by simp; omega)
        rw [show (c :: r).getD (i + 1) 0 = r[i] from by simp [List.getD_eq_getElem?_getD, List.getElem?_eq_getElem hi]] at this
        simpa using this
      · rintro ⟨h1, h2⟩ i hi
        cases i with
        | zero => exact h1
        | succ i =>
          have hi' : i < r.length := by simpa using hi
          have := h2 r[i] (List.getElem_mem hi')
          rw [show (c :: r).getD (i + 1) 0 = r[i] from by simp [List.getD_eq_getElem?_getD, List.getElem?_eq_getElem hi']]
          simpa using this
    rw [hall, hlast]
    simp only [scan, stp]
    by_cases h1 : okc c = true
    · rw [if_pos h1]
      dsimp only
      rw [scan_mid r c hcn (fun x hx => hf x (by simp [hx]))]
      have h45 : c.toNat ≠ 45 := fun e => by rw [okc_iff] at h1; omega
      simp only [Bool.and_eq_true, decide_eq_true_eq]
      simp [h1, h45]
    · rw [if_neg h1]
      by_cases h2 : c.toNat = 45
      · simp [h2, endOk]
      · rw [if_neg h2, if_neg hcn]; simp [endOk, h1, h2]

theorem cut_free' (p : Bs) (h : ∀ c ∈ p, c ≠ 46) : cut p = [p] := by
  induction p with
  | nil => rfl
  | cons x r ih =>
    simp only [cut]
    rw [if_neg (h x (by simp)), ih (fun c hc => h c (by simp [hc]))]; rfl
/-- A string is its first part, and, behind a point, the rest. -/
theorem cut_split (l : Bs) : (∃ p, (∀ c ∈ p, c ≠ 46) ∧ l = p) ∨ (∃ p r, (∀ c ∈ p, c ≠ 46) ∧ l = p ++ 46 :: r) := by
  induction l with
  | nil => exact .inl ⟨[], by simp, rfl⟩
  | cons x t ih =>
    by_cases hx : x = 46
    · subst hx; exact .inr ⟨[], t, by simp, rfl⟩
    · rcases ih with ⟨p, hp, rfl⟩ | ⟨p, r, hp, rfl⟩
      · refine .inl ⟨x :: t, fun c hc => ?_, rfl⟩
        rcases List.mem_cons.1 hc with rfl | h
        · exact hx
        · exact hp c h
      · refine .inr ⟨x :: p, r, fun c hc => ?_, rfl⟩
        rcases List.mem_cons.1 hc with rfl | h
        · exact hx
        · exact hp c h
theorem scan_dead (p r : Bs) (h : endOk (scan 46 p) = false) : endOk (scan 46 (p ++ 46 :: r)) = false := by
  rw [scan_append]
  cases hs : scan 46 p with
  | none => rfl
  | some d =>
    rw [hs] at h
    simp only [scan, stp, endOk] at h ⊢
    have hd : d.toNat = 46 ∨ d.toNat = 45 := by
      simp at h; omega
    rw [if_neg (by decide), if_neg (by decide), if_pos (by decide), if_pos hd]
theorem scan_cut (l : Bs) : endOk (scan 46 l) = (cut l).all partB := by
  have key : ∀ n (l : Bs), l.length ≤ n → endOk (scan 46 l) = (cut l).all partB := by
    intro n
    induction n with
    | zero =>
      intro l hl
      obtain rfl : l = [] := List.length_eq_zero_iff.1 (by omega)
      rfl
    | succ n ih =>
      intro l hl
      rcases cut_split l with ⟨p, hp, rfl⟩ | ⟨p, r, hp, rfl⟩
      · rw [cut_free' _ hp, scan_part _ hp]; simp
      · rw [cut_dot, cut_free' _ hp]
        have h1 := scan_part _ hp
        by_cases h : endOk (scan 46 p) = true
        · rw [scan_dot _ _ h, ih r (by simp at hl; omega)]
          rw [h] at h1
          simp [← h1]
        · rw [Bool.not_eq_true] at h
          rw [scan_dead _ _ h]
          rw [h] at h1
          simp [← h1]
  exact key _ l (Nat.le_refl _)
theorem rightB_cut (l : Bs) : rightB l = (decide (l.length ≤ 32) && headOk l && (cut l).all partB) := by
  unfold rightB; rw [scan_cut]
end Go.Proofs.Ytnanleopoedgfaa
