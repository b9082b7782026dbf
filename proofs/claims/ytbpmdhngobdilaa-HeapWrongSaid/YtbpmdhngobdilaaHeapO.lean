/-
  What is put into a heap of four, cut out of it, changed in it, plain Lean.
-/
import Derived.Test.YtbpmdhngobdilaaHeapA
namespace Go.Proofs.Ytbpmdhngobdilaa
section
variable {α : Type} [Inhabited α] {f : α → α → Int} {pl : α → Nat}

/-- A heap and its table. -/
structure HeapOK (f : α → α → Int) (pl : α → Nat) (t : List α) (A : List Nat) : Prop where
  heap : Heap4 f t
  tab : Tab pl t A

theorem at_append_left {t : List α} (e : α) {k : Nat} (h : k < t.length) : at' (t ++ [e]) k = at' t k := by simp [at', h, List.getElem?_append_left]
theorem at_append_last (t : List α) (e : α) : at' (t ++ [e]) t.length = e := by simp [at']
theorem set_append_last {β : Type} (t : List β) (e : β) : (t ++ [e]).set t.length e = t ++ [e] := by simp

/-- An entry more. -/
def putT (f : α → α → Int) (e : α) (t : List α) : List α := riseL f e (t ++ [e]) t.length
def putA (f : α → α → Int) (pl : α → Nat) (e : α) (t : List α) (A : List Nat) : List Nat := riseA f pl e (t ++ [e]) A t.length
theorem put_ok (ho : OrdC f) {t : List α} {A : List Nat} (h : HeapOK f pl t A) (e : α) (hr : pl e < A.length) (hn : ∀ k, k < t.length → pl (at' t k) ≠ pl e) :
    HeapOK f pl (putT f e t) (putA f pl e t A) ∧ (putT f e t).Perm (t ++ [e]) ∧ (putA f pl e t A).length = A.length ∧ (putT f e t).length = t.length + 1 := by
  have hl : t.length < (t ++ [e]).length := by simp
  refine ⟨⟨riseL_heap ho e _ _ hl ?_, riseA_tab e _ A _ ?_⟩, ?_, riseA_length _ _ _ _, by rw [putT, riseL_length]; simp⟩
  · rw [set_append_last]
    refine ⟨fun j h1 h2 h3 => ?_, fun h1 c h2 h3 h4 => ?_⟩
    · simp only [List.length_append, List.length_singleton] at h2
      have hj : j < t.length := by omega
      have := par_lt h1
      rw [at_append_left e hj, at_append_left e (by omega)]
      exact h.heap j h1 hj
    · simp only [List.length_append, List.length_singleton] at h3
      have := par_lt h2
      omega
  · have h1 : ∀ k l, k < t.length → l < t.length → pl (at' t k) = pl (at' t l) → k = l := fun k l hk hl e => by
      have h2 := h.tab.here k hk
      rw [e, h.tab.here l hl] at h2
      injection h2 with h2
      omega
    refine ⟨hl, fun k hk hkl => ?_, fun k l hk hl' hkl hll e' => ?_, fun k hk hkl => ?_, hr, fun p hp hpe hno => ?_⟩
    · simp only [List.length_append, List.length_singleton] at hk
      rw [at_append_left e (by omega)]; exact h.tab.here k (by omega)
    · simp only [List.length_append, List.length_singleton] at hk hl'
      rw [at_append_left e (by omega), at_append_left e (by omega)] at e'
      exact h1 k l (by omega) (by omega) e'
    · simp only [List.length_append, List.length_singleton] at hk
      rw [at_append_left e (by omega)]; exact hn k (by omega)
    · refine h.tab.none p hp (fun k hk => ?_)
      have := hno k (by simp; omega) (by omega)
      rwa [at_append_left e hk] at this
  · have := riseL_perm (f := f) e (t ++ [e]) t.length hl
    rwa [set_append_last] at this

theorem set_self {t : List α} {i : Nat} {x : α} (hi : i < t.length) (h : at' t i = x) : t.set i x = t := by
  rw [at_get hi] at h
  rw [← h]; simp
/-- What lies at an index sinks, and rises from where it comes to lie. -/
def fixT (f : α → α → Int) (y : α) (t : List α) (i : Nat) : List α := riseL f y (sinkL f y t i).1 (sinkL f y t i).2
def fixA (f : α → α → Int) (pl : α → Nat) (y : α) (t : List α) (A : List Nat) (i : Nat) : List Nat := riseA f pl y (sinkL f y t i).1 (sinkA f pl y t A i) (sinkL f y t i).2
theorem fix_ok (ho : OrdC f) {t : List α} {A : List Nat} {i : Nat} {y : α} (hh : Hole f t i) (hT : TabBut pl t A i y) :
    HeapOK f pl (fixT f y t i) (fixA f pl y t A i) ∧ (fixT f y t i).Perm (t.set i y) ∧ (fixA f pl y t A i).length = A.length ∧ (fixT f y t i).length = t.length ∧
    (sinkL f y t i).2 < t.length ∧ at' (sinkL f y t i).1 (sinkL f y t i).2 = y ∧ (sinkA f pl y t A i)[pl y]? = some ((sinkL f y t i).2 + 1) ∧ (sinkL f y t i).1.length = t.length := by
  obtain ⟨r1, r2, r3, r4, r5, r6⟩ := sinkL_all ho y t i hT.lt hh
  have hTs := sinkA_tab ho y t A i hT
  have hp : (sinkL f y t i).2 < (sinkL f y t i).1.length := by omega
  have hself := set_self hp r4
  have hhole := hTs.hole hp
  rw [r4] at hhole
  refine ⟨⟨riseL_heap ho y _ _ hp (by rw [hself]; exact r6), riseA_tab y _ _ _ hhole⟩, ?_, by rw [fixA, riseA_length, sinkA_length ho], by rw [fixT, riseL_length, r1], r3, r4, ?_, r1⟩
  · have := riseL_perm (f := f) y _ _ hp
    rw [hself] at this
    exact this.trans r5
  · have := hTs.here _ hp
    rwa [r4] at this

theorem hole_of_heap (ho : OrdC f) {t : List α} (h : Heap4 f t) {i : Nat} (hi : i < t.length) : Hole f t i := by
  refine ⟨fun j h1 h2 _ _ => h j h1 h2, fun h1 c h2 h3 h4 => ?_⟩
  have e1 := h i h1 hi
  have e2 := h c h2 h3
  rw [h4] at e2
  exact ho.le_trans e1 e2
/-- An entry gets another key. -/
theorem change_ok (ho : OrdC f) {t : List α} {A : List Nat} (h : HeapOK f pl t A) {i : Nat} (hi : i < t.length) (e : α) (he : pl e = pl (at' t i)) :
    Hole f (t.set i e) i ∧ TabBut pl (t.set i e) A i e := by
  have hT := h.tab.hole hi
  have hh := hole_of_heap ho h.heap hi
  refine ⟨⟨fun j h1 h2 h3 h4 => ?_, fun h1 c h2 h3 h4 => ?_⟩, ⟨by simpa using hi, fun k hk hki => ?_, fun k l hk hl hki hli e' => ?_, fun k hk hki => ?_, by rw [he]; exact hT.room, fun p hp hpe hno => ?_⟩⟩
  · simp only [List.length_set] at h2
    rw [at_set_ne (t := t) e (fun x => h4 x.symm), at_set_ne (t := t) e (fun x => h3 x.symm)]
    exact hh.1 j h1 h2 h3 h4
  · simp only [List.length_set] at h3
    have := par_lt h1
    have := par_lt h2
    rw [at_set_ne (t := t) e (by omega : i ≠ par i), at_set_ne (t := t) e (by omega : i ≠ c)]
    exact hh.2 h1 c h2 h3 h4
  · simp only [List.length_set] at hk
    rw [at_set_ne (t := t) e (fun x => hki x.symm)]; exact hT.here k hk hki
  · simp only [List.length_set] at hk hl
    rw [at_set_ne (t := t) e (fun x => hki x.symm), at_set_ne (t := t) e (fun x => hli x.symm)] at e'
    exact hT.one k l hk hl hki hli e'
  · simp only [List.length_set] at hk
    rw [at_set_ne (t := t) e (fun x => hki x.symm), he]; exact hT.other k hk hki
  · rw [he] at hpe
    refine hT.none p hp hpe (fun k hk hki => ?_)
    have := hno k (by simpa using hk) hki
    rwa [at_set_ne (t := t) e (fun x => hki x.symm)] at this

theorem at_dropLast {t : List α} {k : Nat} (h : k < t.length - 1) : at' t.dropLast k = at' t k := by
  have h1 : k < t.dropLast.length := by simpa using h
  rw [at_get h1, at_get (by omega)]; simp
/-- What is cut out: the last entry comes to its index. -/
theorem cut_hole (ho : OrdC f) {t : List α} {A : List Nat} (h : HeapOK f pl t A) {i : Nat} (hi : i < t.length - 1) :
    Hole f (t.dropLast.set i (at' t (t.length - 1))) i ∧ TabBut pl (t.dropLast.set i (at' t (t.length - 1))) ((A.set (pl (at' t i)) 0).set (pl (at' t (t.length - 1))) (i + 1)) i (at' t (t.length - 1)) := by
  have hil : i < t.length := by omega
  have hT := h.tab.hole hil
  have hh := hole_of_heap ho h.heap hil
  have hl : t.length - 1 < t.length := by omega
  obtain ⟨y, hy⟩ : ∃ y, at' t (t.length - 1) = y := ⟨_, rfl⟩
  have h0 : TabBut pl t.dropLast (A.set (pl (at' t i)) 0) i y := by
    refine ⟨by simpa using hi, fun k hk hki => ?_, fun k l hk hl' hki hli e' => ?_, fun k hk hki => ?_, ?_, fun p hp hpe hno => ?_⟩
    · simp only [List.length_dropLast] at hk
      rw [at_dropLast hk, List.getElem?_set_ne (fun e => hT.other k (by omega) hki e.symm)]
      exact hT.here k (by omega) hki
    · simp only [List.length_dropLast] at hk hl'
      rw [at_dropLast hk, at_dropLast hl'] at e'
      exact hT.one k l (by omega) (by omega) hki hli e'
    · simp only [List.length_dropLast] at hk
      rw [at_dropLast hk, ← hy]
      intro e'
      have := hT.one k (t.length - 1) (by omega) hl hki (by omega) e'
      omega
    · have := hT.room' hl (by omega : t.length - 1 ≠ i)
      rw [hy] at this
      simpa using this
    · simp only [List.length_set] at hp
      by_cases hpx : p = pl (at' t i)
      · subst hpx; rw [List.getElem?_set_self hp]
      · rw [List.getElem?_set_ne (fun e => hpx e.symm)]
        refine hT.none p hp hpx (fun k hk hki => ?_)
        by_cases hkl : k = t.length - 1
        · rw [hkl, hy]; exact fun e => hpe e.symm
        · have hk2 : k < t.length - 1 := by omega
          have := hno k (by simpa using hk2) hki
          rwa [at_dropLast hk2] at this
  rw [hy]
  refine ⟨⟨fun j h1 h2 h3 h4 => ?_, fun h1 c h2 h3 h4 => ?_⟩, ?_⟩
  · simp only [List.length_set, List.length_dropLast] at h2
    have := par_lt h1
    rw [at_set_ne _ (fun x => h4 x.symm), at_set_ne _ (fun x => h3 x.symm), at_dropLast (by omega), at_dropLast h2]
    exact hh.1 j h1 (by omega) h3 h4
  · simp only [List.length_set, List.length_dropLast] at h3
    have := par_lt h1
    have := par_lt h2
    rw [at_set_ne _ (by omega : i ≠ par i), at_set_ne _ (by omega : i ≠ c), at_dropLast (by omega), at_dropLast h3]
    exact hh.2 h1 c h2 (by omega) h4
  · have hf := h0.fill
    have hi2 : i < (t.dropLast.set i y).length := by simpa using hi
    have := hf.hole hi2
    rwa [at_set_same _ (by simpa using hi)] at this
/-- Where the last one is cut out, nothing moves. -/
theorem cut_last {t : List α} {A : List Nat} (h : HeapOK f pl t A) (h0 : 0 < t.length) : HeapOK f pl t.dropLast (A.set (pl (at' t (t.length - 1))) 0) := by
  have hl : t.length - 1 < t.length := by omega
  have hT := h.tab.hole hl
  refine ⟨fun j h1 h2 => ?_, ⟨fun k hk => ?_, fun p hp hno => ?_⟩⟩
  · simp only [List.length_dropLast] at h2
    have := par_lt h1
    rw [at_dropLast (by omega), at_dropLast h2]
    exact h.heap j h1 (by omega)
  · simp only [List.length_dropLast] at hk
    rw [at_dropLast hk, List.getElem?_set_ne (fun e => hT.other k (by omega) (by omega) e.symm)]
    exact hT.here k (by omega) (by omega)
  · simp only [List.length_set] at hp
    by_cases hpx : p = pl (at' t (t.length - 1))
    · subst hpx; rw [List.getElem?_set_self hp]
    · rw [List.getElem?_set_ne (fun e => hpx e.symm)]
      refine hT.none p hp hpx (fun k hk hki => ?_)
      have hk2 : k < t.length - 1 := by omega
      have := hno k (by simpa using hk2)
      rwa [at_dropLast hk2] at this
/-- The first one comes before all. -/
theorem heap_first (ho : OrdC f) {t : List α} (h : Heap4 f t) (k : Nat) (hk : k < t.length) : f (at' t 0) (at' t k) ≤ 0 := by
  induction k using Nat.strongRecOn with
  | _ k ih =>
    by_cases h0 : k = 0
    · subst h0; rw [ho.refl]; exact Int.le_refl 0
    · have := par_lt (show 0 < k by omega)
      exact ho.le_trans (ih (par k) this (by omega)) (h k (by omega) hk)
/-- Of the same entries there is one list in order. -/
theorem order_one {β : Type} {f : β → β → Int} (ho : OrdC f) {L M : List β} (hL : L.Pairwise (fun a b => f a b ≤ 0)) (hM : M.Pairwise (fun a b => f a b ≤ 0)) (hp : L.Perm M) : L = M :=
  hp.eq_of_pairwise (le := fun a b => decide (f a b ≤ 0)) (fun a b _ _ h1 h2 => by
    have e1 := of_decide_eq_true h1
    have e2 := of_decide_eq_true h2
    have := ho.anti a b
    exact (ho.eq a b).1 (by omega)) (hL.imp (fun h => decide_eq_true h)) (hM.imp (fun h => decide_eq_true h))
end
end Go.Proofs.Ytbpmdhngobdilaa
