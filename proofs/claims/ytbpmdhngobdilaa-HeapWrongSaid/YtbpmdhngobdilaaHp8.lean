/-
  A heap in memory, with a tree that may be nil; what it has, as a list in order.
-/
import Derived.Test.YtbpmdhngobdilaaHp7
namespace Go.Proofs.Ytbpmdhngobdilaa
open Go.RowKit

def flatE (t : List Ent) : List Value := t.flatMap entCells
theorem flatE_length (t : List Ent) : (flatE t).length = t.length * 4 := by
  induction t with
  | nil => rfl
  | cons a r ih => simp only [flatE, List.flatMap_cons, List.length_append] at *; rw [ih]; simp [entCells]; omega
theorem flatE_get (t : List Ent) : ∀ (i c : Nat), i < t.length → c < 4 → (flatE t)[4 * i + c]? = (entCells (at' t i))[c]? := by
  induction t with
  | nil => intro i c h; simp at h
  | cons a r ih =>
    intro i c hi hc
    simp only [flatE, List.flatMap_cons]
    cases i with
    | zero => rw [List.getElem?_append_left (by simp [entCells]; omega)]; simp [at']
    | succ i =>
      rw [List.getElem?_append_right (by simp [entCells]; omega)]
      have := ih i c (by simpa using hi) hc
      rw [show 4 * (i + 1) + c - (entCells a).length = 4 * i + c by simp [entCells]; omega]
      exact this.trans (by simp [at'])
theorem flatE_one (t : List Ent) : ∀ v ∈ flatE t, v.oneCell' = true := by
  intro v hv
  obtain ⟨e, _, he⟩ := List.mem_flatMap.1 hv
  simp [entCells] at he
  rcases he with h | h | h | h <;> subst h <;> rfl

/-- A heap in memory; its tree's value is v. -/
structure HeapIn (w : World) (hb ba : Nat) (v : Value) (n ca : Nat) (t : List Ent) (A : List Nat) : Prop where
  hd : w.heap[hb]? = some (.cells #[.bool true, v, .slice (some ⟨ba, 0, none⟩) n ca] 64 (0, 0))
  tr : w.ownsRow 0 70 4 v t.length (flatE t)
  tb : ∃ cur : Array Value, w.heap[ba]? = some (.cells cur 3 (0, 0)) ∧ n ≤ cur.size ∧ A.length = n ∧ ∀ (p x : Nat), A[p]? = some x → cur[p]? = some (natV x)
  n1 : ∀ g, v.ownBlock = some g → g ≠ hb ∧ g ≠ ba
  n2 : hb ≠ ba

theorem MemH.heapIn {w : World} {hb bt ba cap n ca : Nat} {t : List Ent} {A : List Nat} (h : MemH w hb bt ba cap n ca t A) : HeapIn w hb ba (.slice (some ⟨bt, 0, none⟩) t.length cap) n ca t A := by
  obtain ⟨cu, h1, h2, h3⟩ := h.tr
  refine ⟨h.hd, ⟨flatE_length t, .inr ⟨bt, cap, cu, rfl, Nat.zero_le _, h1, h.len, h.small, h2, ?_⟩⟩, h.tb, fun g hg => ?_, h.ne2⟩
  · refine List.ext_getElem? (fun j => ?_)
    have hl := h.len
    by_cases hj : j < t.length * 4
    · rw [List.getElem?_take_of_lt hj, Array.getElem?_toList]
      have h4 : j = 4 * (j / 4) + j % 4 := by omega
      rw [h4, h3 (j / 4) (by omega) (j % 4) (by omega), flatE_get t (j / 4) (j % 4) (by omega) (by omega)]
    · rw [List.getElem?_eq_none (by rw [List.length_take]; simp; omega), List.getElem?_eq_none (by rw [flatE_length]; omega)]
  · cases hg; exact ⟨h.ne1.symm, h.ne3⟩
theorem HeapIn.mem {w : World} {hb ba n ca : Nat} {v : Value} {t : List Ent} {A : List Nat} (h : HeapIn w hb ba v n ca t A) (ht : t ≠ []) :
    ∃ bt cap, v = .slice (some ⟨bt, 0, none⟩) t.length cap ∧ MemH w hb bt ba cap n ca t A := by
  rcases h.tr.2 with ⟨_, h0⟩ | ⟨g, cap, cur, rfl, _, hh, h1, h2, h3, h4⟩
  · exact absurd (List.eq_nil_of_length_eq_zero h0) ht
  · refine ⟨g, cap, rfl, h.hd, ⟨cur, hh, h3, fun i hi c hc => ?_⟩, h.tb, (h.n1 g rfl).1.symm, h.n2, (h.n1 g rfl).2, h1, h2⟩
    have h5 : 4 * i + c < t.length * 4 := by omega
    have h6 : (cur.toList.take (t.length * 4))[4 * i + c]? = (entCells (at' t i))[c]? := by rw [h4]; exact flatE_get t i c hi hc
    rw [List.getElem?_take_of_lt h5, Array.getElem?_toList] at h6
    exact h6
theorem HeapIn.nil_or {w : World} {hb ba n ca : Nat} {v : Value} {t : List Ent} {A : List Nat} (h : HeapIn w hb ba v n ca t A) : ∃ a cap, v = .slice a t.length cap := by
  rcases h.tr.2 with ⟨h1, h0⟩ | ⟨g, cap, cur, rfl, _⟩
  · exact ⟨none, 0, by rw [h1, h0]⟩
  · exact ⟨_, _, rfl⟩

/-- The blocks of a heap. -/
def foot (hb ba : Nat) (v : Value) (k : Nat) : Prop := k = hb ∨ k = ba ∨ v.ownBlock = some k
theorem HeapIn.lt {w : World} {hb ba n ca : Nat} {v : Value} {t : List Ent} {A : List Nat} (h : HeapIn w hb ba v n ca t A) (k : Nat) (hk : foot hb ba v k) : k < w.heap.size := by
  obtain ⟨cv, h4, _⟩ := h.tb
  rcases hk with h1 | h1 | h1
  · subst h1; exact (Array.getElem?_eq_some_iff.1 h.hd).1
  · subst h1; exact (Array.getElem?_eq_some_iff.1 h4).1
  · exact (h.tr.lt k h1).2
theorem HeapIn.fr {S : Nat → Prop} {w w' : World} {hb ba n ca : Nat} {v : Value} {t : List Ent} {A : List Nat} (h : HeapIn w hb ba v n ca t A) (hf : Fr S w w') (hS : ∀ k, foot hb ba v k → ¬ S k) : HeapIn w' hb ba v n ca t A := by
  obtain ⟨cv, h4, h5⟩ := h.tb
  exact ⟨(hf.block _ (h.lt _ (.inl rfl)) (hS _ (.inl rfl))).trans h.hd, ownsRow_k_fr h.tr hf (fun g hg => hS g (.inr (.inr hg))), ⟨cv, (hf.block _ (h.lt _ (.inr (.inl rfl))) (hS _ (.inr (.inl rfl)))).trans h4, h5⟩, h.n1, h.n2⟩

/-- What a heap has. -/
structure HeapIs (w : World) (hb ba : Nat) (v : Value) (n : Nat) (L : List Ent) : Prop where
  some : ∃ ca t A, HeapIn w hb ba v n ca t A ∧ HeapOK ordE Ent.place t A ∧ t.Perm L
  sorted : Sorted L
  once : Once L
  place : ∀ e ∈ L, e.place < n
  size : n ≤ 4096
theorem HeapIs.lt {w : World} {hb ba n : Nat} {v : Value} {L : List Ent} (h : HeapIs w hb ba v n L) (k : Nat) (hk : foot hb ba v k) : k < w.heap.size := by
  obtain ⟨ca, t, A, h1, _⟩ := h.some; exact h1.lt k hk
theorem HeapIs.fr {S : Nat → Prop} {w w' : World} {hb ba n : Nat} {v : Value} {L : List Ent} (h : HeapIs w hb ba v n L) (hf : Fr S w w') (hS : ∀ k, foot hb ba v k → ¬ S k) : HeapIs w' hb ba v n L := by
  obtain ⟨ca, t, A, h1, h2⟩ := h.some; exact ⟨⟨ca, t, A, h1.fr hf hS, h2⟩, h.sorted, h.once, h.place, h.size⟩
theorem HeapIs.later {w w' : World} {hb ba n : Nat} {v : Value} {L : List Ent} (h : HeapIs w hb ba v n L) (hf : Fr none' w w') : HeapIs w' hb ba v n L := h.fr hf (fun _ _ h => h)
theorem del_perm {L : List Ent} (h : Once L) {e : Ent} (he : e ∈ L) : L.Perm (e :: delL e.place L) := by
  induction L with
  | nil => cases he
  | cons x r ih =>
    rcases List.mem_cons.1 he with h1 | h1
    · subst h1; rw [del_cons h]
    · have hne : x.place ≠ e.place := fun h2 => (List.nodup_cons.1 h).1 (List.mem_map.2 ⟨e, h1, h2.symm⟩)
      have h3 : delL e.place (x :: r) = x :: delL e.place r := by unfold delL; rw [List.filter_cons_of_pos (by simp [hne])]
      rw [h3]
      exact ((ih (List.nodup_cons.1 h).2 h1).cons x).trans (List.Perm.swap _ _ _)
theorem del_none {L : List Ent} {p : Nat} (h : look L p = none) : delL p L = L := by
  refine List.filter_eq_self.2 (fun e he => ?_)
  simp only [bne_iff_ne, ne_eq]
  exact look_none.1 h e he
theorem once_len {n : Nat} {L : List Ent} (h : Once L) (hp : ∀ e ∈ L, e.place < n) : L.length ≤ n := by
  induction n generalizing L with
  | zero => cases L with
    | nil => exact Nat.le_refl _
    | cons x r => have := hp x List.mem_cons_self; omega
  | succ n ih =>
    have h1 := ih (L := delL n L) (delL_once h) (fun e he => by
      have h2 := delL_mem.1 he
      have := hp e h2.1; omega)
    cases hl : look L n with
    | none => rw [del_none hl] at h1; omega
    | some k =>
      have := (del_perm h ((look_some h).1 hl)).length_eq
      simp only [List.length_cons] at this; omega
theorem HeapIs.len {w : World} {hb ba n : Nat} {v : Value} {L : List Ent} (h : HeapIs w hb ba v n L) : L.length ≤ n := once_len h.once h.place

/-- A step of a heap: its blocks may turn; its tree may come to lie in a new block. -/
structure HStep (hb ba : Nat) (v v' : Value) (w w' : World) : Prop where
  fr : Fr (foot hb ba v) w w'
  own : ∀ g, v'.ownBlock = some g → v.ownBlock = some g ∨ w.heap.size ≤ g
theorem HStep.refl (hb ba : Nat) (v : Value) (w : World) : HStep hb ba v v w w := ⟨Fr.refl _ _, fun _ h => .inl h⟩
theorem HStep.later {hb ba : Nat} {v v' : Value} {a b c : World} (h : HStep hb ba v v' a b) (hf : Fr none' b c) : HStep hb ba v v' a c := ⟨h.fr.trans' hf (fun _ _ h => h.elim), h.own⟩
theorem HStep.before {hb ba : Nat} {v v' : Value} {a b c : World} (hf : Fr none' a b) (h : HStep hb ba v v' b c) : HStep hb ba v v' a c :=
  ⟨(hf.mono (fun _ _ h => h.elim)).trans h.fr, fun g hg => (h.own g hg).imp id (fun h => Nat.le_trans hf.size h)⟩
theorem HStep.trans {hb ba : Nat} {v v' v'' : Value} {a b c : World} (h : HStep hb ba v v' a b) (k : HStep hb ba v' v'' b c) : HStep hb ba v v'' a c := by
  refine ⟨h.fr.trans' k.fr (fun i hi hs => ?_), fun g hg => ?_⟩
  · rcases hs with h1 | h1 | h1
    · exact .inl h1
    · exact .inr (.inl h1)
    · rcases h.own i h1 with h2 | h2
      · exact .inr (.inr h2)
      · omega
  · rcases k.own g hg with h1 | h1
    · exact h.own g h1
    · exact .inr (Nat.le_trans h.fr.size h1)
/-- Another heap is as it was, and apart. -/
theorem HStep.keep {hb ba : Nat} {v v' : Value} {w w' : World} (h : HStep hb ba v v' w w') {hb2 ba2 n : Nat} {v2 : Value} {L : List Ent} (k : HeapIs w hb2 ba2 v2 n L) (hd : ∀ k, foot hb ba v k → foot hb2 ba2 v2 k → False) :
    HeapIs w' hb2 ba2 v2 n L ∧ ∀ k, foot hb ba v' k → foot hb2 ba2 v2 k → False := by
  refine ⟨k.fr h.fr (fun i h1 h2 => hd i h2 h1), fun i h1 h2 => ?_⟩
  rcases h1 with h1 | h1 | h1
  · exact hd i (.inl h1) h2
  · exact hd i (.inr (.inl h1)) h2
  · rcases h.own i h1 with h3 | h3
    · exact hd i (.inr (.inr h3)) h2
    · have := k.lt i h2; omega

/-- What a place is told. -/
def errP (n : Nat) (L : List Ent) (p : Int) : Int := if p < 0 ∨ (n : Int) ≤ p then 80 else if look L p.toNat = none then 6 else 0

/-- The table and the list. -/
theorem find_tells {w : World} {hb ba n ca : Nat} {v : Value} {t : List Ent} {A : List Nat} {L : List Ent} (h : HeapIn w hb ba v n ca t A) (ok : HeapOK ordE Ent.place t A) (hp : t.Perm L) (ho : Once L) (p : Int) :
    (findR p A).2 = errP n L p ∧ (errP n L p = 0 → ∃ i : Nat, (findR p A).1 = i ∧ i < t.length ∧ (at' t i).place = p.toNat ∧ look L p.toNat = some (at' t i).key) := by
  obtain ⟨_, _, _, hA, _⟩ := h.tb
  unfold findR errP
  rw [hA]
  by_cases c1 : p < 0 ∨ (n : Int) ≤ p
  · rw [if_pos c1, if_pos c1]; exact ⟨rfl, fun h => by omega⟩
  · rw [if_neg c1, if_neg c1]
    obtain ⟨j, rfl⟩ : ∃ j : Nat, p = j := ⟨p.toNat, by omega⟩
    rw [Int.toNat_natCast]
    have hj : j < A.length := by omega
    obtain ⟨x, hx⟩ : ∃ x, A[j]? = some x := ⟨_, List.getElem?_eq_getElem hj⟩
    have hg : A.getD j 0 = x := by rw [List.getD_eq_getElem?_getD, hx]; rfl
    rw [hg]
    by_cases hc : ∃ k, k < t.length ∧ (at' t k).place = j
    · obtain ⟨k, hk, hkj⟩ := hc
      have h1 := ok.tab.here k hk
      rw [hkj, hx] at h1
      injection h1 with h1
      have hl : look L j = some (at' t k).key := (look_some ho).2 (hp.mem_iff.1 (by
        have h2 : at' t k ∈ t := by rw [at_get hk]; exact List.getElem_mem _
        rw [← hkj]; exact h2))
      rw [if_neg (by omega), if_neg (by rw [hl]; simp)]
      exact ⟨rfl, fun _ => ⟨k, by omega, hk, hkj, hl⟩⟩
    · have h1 := ok.tab.none j hj (fun k hk e => hc ⟨k, hk, e⟩)
      rw [hx] at h1
      injection h1 with h1
      have hl : look L j = none := look_none.2 (fun e he hej => by
        have h2 : e ∈ t := hp.mem_iff.2 he
        obtain ⟨k, hk, hke⟩ := List.getElem_of_mem h2
        exact hc ⟨k, hk, by rw [at_get hk, hke]; exact hej⟩)
      rw [if_pos h1, if_pos hl]
      exact ⟨rfl, fun h => by omega⟩
theorem HeapIs.table_le {w : World} {hb ba n ca : Nat} {v : Value} {t : List Ent} {A : List Nat} (_ : HeapIn w hb ba v n ca t A) (ok : HeapOK ordE Ent.place t A) (hl : t.length ≤ 100000 - 1) : ∀ x ∈ A, x ≤ 100000 := by
  intro x hx
  obtain ⟨j, hj, rfl⟩ := List.getElem_of_mem hx
  by_cases hc : ∃ k, k < t.length ∧ (at' t k).place = j
  · obtain ⟨k, hk, hkj⟩ := hc
    have h1 := ok.tab.here k hk
    rw [hkj, List.getElem?_eq_getElem hj] at h1
    injection h1 with h1
    omega
  · have h1 := ok.tab.none j hj (fun k hk e => hc ⟨k, hk, e⟩)
    rw [List.getElem?_eq_getElem hj] at h1
    injection h1 with h1
    omega

/-- find on a heap. -/
theorem find_is {w : World} {hb ba n ca : Nat} {v : Value} {t : List Ent} {A : List Nat} {L : List Ent} (h : HeapIn w hb ba v n ca t A) (ok : HeapOK ordE Ent.place t A) (hp : t.Perm L) (ho : Once L) (hn : n ≤ 4096) (hl : L.length ≤ n) (p : Int) :
    Calls Try.prog 29 #[.pointer (some ⟨hb, 0, none⟩), .int .i64 p] w fun e w' => e = .returned (.tuple #[.int .i64 (findR p A).1, .int .i64 (errP n L p)]) ∧ Fr none' w w' := by
  obtain ⟨cu, h4, h5, h6, h7⟩ := h.tb
  have := find_any hb ba n ca p A w h6 (by omega) (HeapIs.table_le h ok (by rw [hp.length_eq]; omega)) (by rw [cells_at h.hd]; rfl) (by rw [cells_at h.hd]; rfl) (fun j x hx => by rw [cells_at h4]; exact h7 j x hx)
  rw [(find_tells h ok hp ho p).1] at this
  exact this.mono fun _ _ h => ⟨h.1, ⟨h.2.os, h.2.tape, h.2.output, by rw [h.2.heap]; exact Nat.le_refl _, fun k _ _ => by rw [h.2.heap], h.2.drawn⟩⟩
end Go.Proofs.Ytbpmdhngobdilaa
