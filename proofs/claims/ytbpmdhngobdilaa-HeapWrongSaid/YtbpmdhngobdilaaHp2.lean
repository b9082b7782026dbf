/-
  A heap in memory, whole; set on it.
-/
import Derived.Test.YtbpmdhngobdilaaHp1
import Derived.Test.YtbpmdhngobdilaaOver
namespace Go.Proofs.Ytbpmdhngobdilaa
open Go.RowKit

/-- A heap in memory: its three cells, its tree, its table. -/
structure MemH (w : World) (hb bt ba cap n ca : Nat) (t : List Ent) (A : List Nat) : Prop where
  hd : w.heap[hb]? = some (.cells #[.bool true, .slice (some ⟨bt, 0, none⟩) t.length cap, .slice (some ⟨ba, 0, none⟩) n ca] 64 (0, 0))
  tr : ∃ cur : Array Value, w.heap[bt]? = some (.cells cur 70 (0, 0)) ∧ cur.size = cap * 4 ∧ ∀ i, i < t.length → ∀ c, c < 4 → cur[4 * i + c]? = (entCells (at' t i))[c]?
  tb : ∃ cur : Array Value, w.heap[ba]? = some (.cells cur 3 (0, 0)) ∧ n ≤ cur.size ∧ A.length = n ∧ ∀ (p x : Nat), A[p]? = some x → cur[p]? = some (natV x)
  ne1 : hb ≠ bt
  ne2 : hb ≠ ba
  ne3 : bt ≠ ba
  len : t.length ≤ cap
  small : cap ≤ maxLen

theorem MemH.of_heap {w w' : World} {hb bt ba cap n ca : Nat} {t : List Ent} {A : List Nat} (h : MemH w hb bt ba cap n ca t A) (e1 : w'.heap[hb]? = w.heap[hb]?) (e2 : w'.heap[bt]? = w.heap[bt]?) (e3 : w'.heap[ba]? = w.heap[ba]?) : MemH w' hb bt ba cap n ca t A := by
  obtain ⟨h1, ⟨cu, h2, h3⟩, ⟨cv, h4, h5⟩, h6, h7, h8, h9, h10⟩ := h
  exact ⟨e1.trans h1, ⟨cu, e2.trans h2, h3⟩, ⟨cv, e3.trans h4, h5⟩, h6, h7, h8, h9, h10⟩
theorem cells_at {w : World} {b : Nat} {cu : Array Value} {ty : TypeId} (h : w.heap[b]? = some (.cells cu ty (0, 0))) (o : Nat) : w.cell? ⟨b, o, none⟩ = cu[o]? := by simp [World.cell?, h]
theorem frozen_at {w : World} {b : Nat} {cu : Array Value} {ty : TypeId} (h : w.heap[b]? = some (.cells cu ty (0, 0))) (o : Nat) : w.frozen? ⟨b, o, none⟩ = false := by simp [World.frozen?, h]

/-- The world behind set: the two blocks that turn, and one more block. -/
structure SetFr (bt ba : Nat) (w w' : World) : Prop where
  os : w'.os = w.os
  tape : w'.tape = w.tape
  output : w'.output = w.output
  size : w.heap.size ≤ w'.heap.size
  block : ∀ k, k < w.heap.size → k ≠ bt → k ≠ ba → w'.heap[k]? = w.heap[k]?
  drawn : w.drawn ≤ w'.drawn
theorem SetFr.refl (bt ba : Nat) (w : World) : SetFr bt ba w w := ⟨rfl, rfl, rfl, Nat.le_refl _, fun _ _ _ _ => rfl, Nat.le_refl _⟩
theorem SetFr.trans {bt ba : Nat} {a b c : World} (h : SetFr bt ba a b) (k : SetFr bt ba b c) : SetFr bt ba a c :=
  ⟨k.os.trans h.os, k.tape.trans h.tape, k.output.trans h.output, Nat.le_trans h.size k.size, fun i hi h1 h2 => (k.block i (Nat.lt_of_lt_of_le hi h.size) h1 h2).trans (h.block i hi h1 h2), Nat.le_trans h.drawn k.drawn⟩

theorem setCells_other (b : Nat) : ∀ (vs : List Value) (o : Nat) (w : World) (k : Nat), k ≠ b → (w.setCells b o vs).heap[k]? = w.heap[k]?
  | [], _, _, _, _ => rfl
  | v :: r, o, w, k, h => by
    rw [World.setCells, setCells_other b r (o + 1) _ k h]
    exact Below.heap_setCell w ⟨b, o, none⟩ v k h
theorem setCells_parts (b : Nat) : ∀ (vs : List Value) (o : Nat) (w : World), (w.setCells b o vs).os = w.os ∧ (w.setCells b o vs).tape = w.tape ∧ (w.setCells b o vs).output = w.output ∧ (w.setCells b o vs).heap.size = w.heap.size ∧ (w.setCells b o vs).drawn = w.drawn
  | [], _, _ => ⟨rfl, rfl, rfl, rfl, rfl⟩
  | v :: r, o, w => by
    obtain ⟨h1, h2, h3, h4, h5⟩ := setCells_parts b r (o + 1) (w.setCell ⟨b, o, none⟩ v)
    rw [World.setCells]
    exact ⟨h1, h2, h3, h4.trans (by simp [World.setCell]), h5⟩

set_option maxHeartbeats 1000000 in
theorem set_mem (hb bt ba cap n ca i : Nat) (t : List Ent) (A : List Nat) (e : Ent) (w : World) (h : MemH w hb bt ba cap n ca t A) (hi : i < t.length) (hm : t.length ≤ 10000) (hp : e.place < n) :
    Calls Try.prog 47 #[.pointer (some ⟨hb, 0, none⟩), .int .i64 i, entV e] w fun e' w' => e' = .returned (.tuple #[]) ∧ MemH w' hb bt ba cap n ca (t.set i e) (A.set e.place (i + 1)) ∧ SetFr bt ba w w' := by
  obtain ⟨cu, hcu, hcs, hct⟩ := h.tr
  obtain ⟨cv, hcv, hvs, hAl, hvt⟩ := h.tb
  have hl := h.len
  obtain ⟨u, hu⟩ : ∃ u, cv[e.place]? = some u := ⟨_, Array.getElem?_eq_getElem (by omega)⟩
  refine (set_any hb bt ba n ca t.length cap i e u w hi hp hm (by rw [cells_at h.hd]; rfl) (by rw [cells_at h.hd]; rfl)
    (fun j hj => ⟨by rw [cells_at hcu, Array.getElem?_eq_getElem (by omega)]; rfl, frozen_at hcu _⟩) (by rw [cells_at hcv]; exact hu) (frozen_at hcv _) h.ne1 h.ne2 h.ne3).mono ?_
  rintro e' w' ⟨rfl, ha⟩
  obtain ⟨W0, hW0⟩ : ∃ W0, w.alloc (.cells #[.int .i64 e.key.time, .int .i64 e.key.source, .int .i64 e.key.seq, .int .i64 e.place] 70) = W0 := ⟨_, rfl⟩
  rw [hW0] at ha
  have hlt : ∀ k, k < w.heap.size → W0.heap[k]? = w.heap[k]? := fun k hk => by rw [← hW0]; exact Below.heap_alloc w _ k hk
  have l1 : hb < w.heap.size := (Array.getElem?_eq_some_iff.1 h.hd).1
  have l2 : bt < w.heap.size := (Array.getElem?_eq_some_iff.1 hcu).1
  have l3 : ba < w.heap.size := (Array.getElem?_eq_some_iff.1 hcv).1
  have hbtc := heap_setCells_at (entCells e) (4 * i) W0 cu ((hlt bt l2).trans hcu)
  have hfar : ∀ k, k ≠ bt → k ≠ ba → w'.heap[k]? = W0.heap[k]? := fun k h1 h2 => by
    rw [ha.heap, Below.heap_setCell _ ⟨ba, e.place, none⟩ _ k h2, setCells_other bt _ _ _ k h1]
  have hbt2 : w'.heap[bt]? = some (.cells (over cu (4 * i) (entCells e)) 70 (0, 0)) := by
    rw [ha.heap, Below.heap_setCell _ ⟨ba, e.place, none⟩ _ bt h.ne3]; exact hbtc
  have hba2 : w'.heap[ba]? = some (.cells (cv.setIfInBounds e.place (natV (i + 1))) 3 (0, 0)) := by
    have h1 : (W0.setCells bt (4 * i) (entCells e)).heap[ba]? = some (.cells cv 3 (0, 0)) := by rw [setCells_other bt _ _ _ ba h.ne3.symm, hlt ba l3]; exact hcv
    rw [ha.heap]
    simp [World.setCell, Array.getElem?_modify, h1, natV]
  obtain ⟨p1, p2, p3, p4, p5⟩ := setCells_parts bt (entCells e) (4 * i) W0
  refine ⟨rfl, ⟨?_, ⟨_, hbt2, by rw [over_size, hcs], fun k hk c hc => ?_⟩, ⟨_, hba2, by simpa using hvs, by simpa using hAl, fun p x hx => ?_⟩, h.ne1, h.ne2, h.ne3, by simpa using hl, h.small⟩, ⟨?_, ?_, ?_, ?_, fun k hk h1 h2 => (hfar k h1 h2).trans (hlt k hk), ?_⟩⟩
  · rw [hfar hb h.ne1 h.ne2, hlt hb l1, List.length_set]; exact h.hd
  · simp only [List.length_set] at hk
    rw [over_get]
    have h4 : (entCells e).length = 4 := rfl
    by_cases hki : k = i
    · subst hki
      rw [if_pos (by omega), at_set_same e hk]
      congr 1; omega
    · rw [if_neg (by omega), at_set_ne e (fun x => hki x.symm)]
      exact hct k hk c hc
  · by_cases hpe : p = e.place
    · subst hpe
      rw [List.getElem?_set_self (by omega)] at hx
      injection hx with hx
      subst hx
      rw [Array.getElem?_setIfInBounds, if_pos rfl, if_pos (by omega)]
    · rw [List.getElem?_set_ne (fun x => hpe x.symm)] at hx
      rw [Array.getElem?_setIfInBounds, if_neg (fun x => hpe x.symm)]
      exact hvt p x hx
  · rw [ha.os]; exact p1.trans (by rw [← hW0]; rfl)
  · rw [ha.tape]; exact p2.trans (by rw [← hW0]; rfl)
  · rw [ha.output]; exact p3.trans (by rw [← hW0]; rfl)
  · rw [ha.heap]; simp only [World.setCell, Array.size_modify]; rw [p4, ← hW0]; simp
  · have e1 : (W0.setCells bt (4 * i) (entCells e)).drawn = w.drawn := p5.trans (by rw [← hW0]; rfl)
    exact Nat.le_trans (Nat.le_of_eq e1.symm) ha.drawn
end Go.Proofs.Ytbpmdhngobdilaa
