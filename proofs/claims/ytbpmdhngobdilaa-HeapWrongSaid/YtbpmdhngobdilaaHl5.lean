/-
  The beginning of the heap's laws.
-/
import Derived.Test.YtbpmdhngobdilaaHl4
import Derived.Test.YtbpmdhngobdilaaHl2
namespace Go.Proofs.Ytbpmdhngobdilaa
open Go Go.RowKit
attribute [local go_sem ↓] Go.wp_at_zero Go.wp_at_succ

theorem SmallsAt.later {w w' : World} {v : Value} {xs : List Sm4} (h : SmallsAt w v xs) (hf : Fr0 none' w w') : SmallsAt w' v xs := by
  obtain ⟨a, cap, rfl, hcap, hc⟩ := h
  refine ⟨a, cap, rfl, hcap, fun j x hx => ?_⟩
  obtain ⟨hok, g, o, ha, c0, c1, c2, c3⟩ := hc j x hx
  exact ⟨hok, g, o, ha, hf.later c0, hf.later c1, hf.later c2, hf.later c3⟩
theorem setCells_at {b : Nat} {ty : TypeId} : ∀ (vs pre old : List Value) (w : World), w.heap[b]? = some (.cells (pre ++ old).toArray ty (0, 0)) → old.length = vs.length →
    (w.setCells b pre.length vs).heap[b]? = some (.cells (pre ++ vs).toArray ty (0, 0))
  | [], pre, old, w, h, hl => by
    obtain rfl : old = [] := List.eq_nil_of_length_eq_zero hl
    exact h
  | v :: r, pre, [], w, h, hl => by simp at hl
  | v :: r, pre, x :: old, w, h, hl => by
    rw [World.setCells]
    have h1 : (w.setCell ⟨b, pre.length, none⟩ v).heap[b]? = some (.cells ((pre ++ [v]) ++ old).toArray ty (0, 0)) := by
      rw [heap_setCell_same w b pre.length _ ty v h]
      simp
    have h2 := setCells_at r (pre ++ [v]) old _ h1 (by simpa using hl)
    simp only [List.length_append, List.length_cons, List.length_nil, Nat.zero_add] at h2
    rw [h2]
    simp
theorem setCells_whole {b : Nat} {ty : TypeId} {cs : Array Value} {w : World} (h : w.heap[b]? = some (.cells cs ty (0, 0))) (vs : List Value) (hl : cs.size = vs.length) :
    (w.setCells b 0 vs).heap[b]? = some (.cells vs.toArray ty (0, 0)) := by
  have := setCells_at (b := b) (ty := ty) vs [] cs.toList w (by simpa using h) (by simpa using hl)
  simpa using this
theorem Fr.setCells_other {w : World} {b k : Nat} (vs : List Value) (o : Nat) (hk : k < w.heap.size) (hne : k ≠ b) : (w.setCells b o vs).heap[k]? = w.heap[k]? :=
  (Fr.setCells (S := fun j => j = b) (fun _ => rfl) vs o (Fr.refl _ w)).block k hk hne

/-- The world behind the law's first line: the arrays are filled. -/
noncomputable def startW (w : World) (Ks : List Key3) (Ts : List Bool) : World :=
  (((w.alloc (.cells Try.zeroCells27 27)).alloc (.cells #[.bool false, .bool false, .bool false, .bool false, .bool false, .bool false, .bool false, .bool false, .bool false, .bool false, .bool false, .bool false, .bool false, .bool false, .bool false, .bool false, .bool false, .bool false, .bool false, .bool false, .bool false, .bool false, .bool false, .bool false] 28)).setCells w.heap.size 0 (cellsK Ks)).setCells (w.heap.size + 1) 0 (cellsB Ts)
theorem St.start {w0 w : World} {hb ba : Nat} {v : Value} {L : List Ent} {Ks : List Key3} {Ts : List Bool} (h : Own w0 w hb ba v 24 L) (hK : Ks.length = 24) (hT : Ts.length = 24) :
    St w0 (startW w Ks Ts) hb ba v L Ks Ts w.heap.size (w.heap.size + 1) [] := by
  obtain ⟨W, hW⟩ : ∃ W, (w.alloc (.cells Try.zeroCells27 27)).alloc (.cells #[.bool false, .bool false, .bool false, .bool false, .bool false, .bool false, .bool false, .bool false, .bool false, .bool false, .bool false, .bool false, .bool false, .bool false, .bool false, .bool false, .bool false, .bool false, .bool false, .bool false, .bool false, .bool false, .bool false, .bool false] 28) = W := ⟨_, rfl⟩
  have b1 : W.heap[w.heap.size]? = some (.cells Try.zeroCells27 27) := by rw [← hW]; exact heap_alloc2_old w _ _
  have b2 : W.heap[w.heap.size + 1]? = some (.cells (cellsB (List.replicate 24 false)).toArray 28) := by rw [← hW]; exact heap_alloc2_new w _ _
  have fA : Fr0 none' w W := by rw [← hW]; exact (((Fr.refl none' w).alloc _).alloc _).to0
  have l1 := (Array.getElem?_eq_some_iff.1 b1).1
  have l2 := (Array.getElem?_eq_some_iff.1 b2).1
  unfold startW
  rw [hW]
  have c1 := setCells_whole b1 (cellsK Ks) (by rw [cellsK_length, hK]; rfl)
  have c2 : (W.setCells w.heap.size 0 (cellsK Ks)).heap[w.heap.size + 1]? = _ := (Fr.setCells_other (cellsK Ks) 0 l2 (by omega)).trans b2
  have c3 := setCells_whole c2 (cellsB Ts) (by simp [cellsB, hT])
  have c4 : ((W.setCells w.heap.size 0 (cellsK Ks)).setCells (w.heap.size + 1) 0 (cellsB Ts)).heap[w.heap.size]? = _ := (Fr.setCells_other (cellsB Ts) 0 (Array.getElem?_eq_some_iff.1 c1).1 (by omega)).trans c1
  have hf : Fr0 none' w ((W.setCells w.heap.size 0 (cellsK Ks)).setCells (w.heap.size + 1) 0 (cellsB Ts)) :=
    fA.trans' ((Fr.setCells (S := fun j => w.heap.size ≤ j) (fun _ => by omega) (cellsB Ts) 0 (Fr.setCells (S := fun j => w.heap.size ≤ j) (fun _ => Nat.le_refl _) (cellsK Ks) 0 (Fr.refl _ W))).to0) (fun k hk hs => by omega)
  have hs := h.fr.size
  exact ⟨h.later hf, ⟨c4, fun hb => by have := h.lt _ hb; omega⟩, ⟨c3, fun hb => by have := h.lt _ hb; omega⟩, by omega, hs, by omega, fun x hx => by cases hx⟩
/-- The two arrays' blocks, ahead of their stores. -/
theorem start_there (w : World) (Ks : List Key3) (hK : Ks.length = 24) (o : Obj) : ((w.alloc (.cells Try.zeroCells27 27)).alloc o).there w.heap.size 0 (cellsK Ks).toArray.size := by
  have b1 : ((w.alloc (.cells Try.zeroCells27 27)).alloc o).heap[w.heap.size]? = some (.cells Try.zeroCells27 27) := heap_alloc2_old w _ _
  have sK : Try.zeroCells27.size = 72 := rfl
  exact fun j hj => ⟨by rw [cells_at b1]; simp [cellsK_length, hK] at hj; simp [sK]; omega, frozen_at b1 _⟩
theorem start_there2 (w : World) (Ts : List Bool) (hT : Ts.length = 24) (o : Obj) : ((w.alloc o).alloc (.cells #[.bool false, .bool false, .bool false, .bool false, .bool false, .bool false, .bool false, .bool false, .bool false, .bool false, .bool false, .bool false, .bool false, .bool false, .bool false, .bool false, .bool false, .bool false, .bool false, .bool false, .bool false, .bool false, .bool false, .bool false] 28)).there (w.heap.size + 1) 0 (cellsB Ts).toArray.size := by
  have b2 : ((w.alloc o).alloc (.cells (cellsB (List.replicate 24 false)).toArray 28)).heap[w.heap.size + 1]? = some (.cells (cellsB (List.replicate 24 false)).toArray 28) := heap_alloc2_new w _ _
  have sB : (cellsB (List.replicate 24 false)).toArray.size = 24 := rfl
  exact fun j hj => ⟨by show (World.cell? ((w.alloc o).alloc (.cells (cellsB (List.replicate 24 false)).toArray 28)) _).isSome = true; rw [cells_at b2]; simp [cellsB, hT] at hj; rw [Array.getElem?_eq_getElem (by rw [sB]; omega)]; rfl, frozen_at b2 _⟩
theorem index_lit (b0 b1 b2 b3 b4 b5 b6 b7 b8 b9 b10 b11 b12 b13 b14 b15 b16 b17 b18 b19 b20 b21 b22 b23 : Bool) (w : World) : ∀ j : Nat, j < 24 → (Go.Instr.index 28 (.agg (cellsB [b0, b1, b2, b3, b4, b5, b6, b7, b8, b9, b10, b11, b12, b13, b14, b15, b16, b17, b18, b19, b20, b21, b22, b23]).toArray) (.int .i64 (j : Int))).run Try.prog w = .ok (.bool ([b0, b1, b2, b3, b4, b5, b6, b7, b8, b9, b10, b11, b12, b13, b14, b15, b16, b17, b18, b19, b20, b21, b22, b23].getD j false)) w
  | 0, _ => by kernel_rfl
  | 1, _ => by kernel_rfl
  | 2, _ => by kernel_rfl
  | 3, _ => by kernel_rfl
  | 4, _ => by kernel_rfl
  | 5, _ => by kernel_rfl
  | 6, _ => by kernel_rfl
  | 7, _ => by kernel_rfl
  | 8, _ => by kernel_rfl
  | 9, _ => by kernel_rfl
  | 10, _ => by kernel_rfl
  | 11, _ => by kernel_rfl
  | 12, _ => by kernel_rfl
  | 13, _ => by kernel_rfl
  | 14, _ => by kernel_rfl
  | 15, _ => by kernel_rfl
  | 16, _ => by kernel_rfl
  | 17, _ => by kernel_rfl
  | 18, _ => by kernel_rfl
  | 19, _ => by kernel_rfl
  | 20, _ => by kernel_rfl
  | 21, _ => by kernel_rfl
  | 22, _ => by kernel_rfl
  | 23, _ => by kernel_rfl
  | _ + 24, h => by omega
/-- A mark of the array, by value. -/
theorem index_marks (Ts : List Bool) (hT : Ts.length = 24) (w : World) (j : Nat) (hj : j < 24) : (Go.Instr.index 28 (.agg (cellsB Ts).toArray) (.int .i64 (j : Int))).run Try.prog w = .ok (.bool (Ts.getD j false)) w := by
  match Ts, hT with
  | [b0, b1, b2, b3, b4, b5, b6, b7, b8, b9, b10, b11, b12, b13, b14, b15, b16, b17, b18, b19, b20, b21, b22, b23], _ => exact index_lit b0 b1 b2 b3 b4 b5 b6 b7 b8 b9 b10 b11 b12 b13 b14 b15 b16 b17 b18 b19 b20 b21 b22 b23 w j hj
/-- The two stores. -/
theorem start_store (w : World) (Ks : List Key3) (hK : Ks.length = 24) : (storeCells ⟨w.heap.size, 0, none⟩ (cellsK Ks)).run Try.prog ((w.alloc (.cells Try.zeroCells27 27)).alloc (.cells #[.bool false, .bool false, .bool false, .bool false, .bool false, .bool false, .bool false, .bool false, .bool false, .bool false, .bool false, .bool false, .bool false, .bool false, .bool false, .bool false, .bool false, .bool false, .bool false, .bool false, .bool false, .bool false, .bool false, .bool false] 28)) = .ok () (((w.alloc (.cells Try.zeroCells27 27)).alloc (.cells #[.bool false, .bool false, .bool false, .bool false, .bool false, .bool false, .bool false, .bool false, .bool false, .bool false, .bool false, .bool false, .bool false, .bool false, .bool false, .bool false, .bool false, .bool false, .bool false, .bool false, .bool false, .bool false, .bool false, .bool false] 28)).setCells w.heap.size 0 (cellsK Ks)) := by
  have ht := start_there w Ks hK (.cells #[.bool false, .bool false, .bool false, .bool false, .bool false, .bool false, .bool false, .bool false, .bool false, .bool false, .bool false, .bool false, .bool false, .bool false, .bool false, .bool false, .bool false, .bool false, .bool false, .bool false, .bool false, .bool false, .bool false, .bool false] 28)
  exact run_storeCells_cells (P := Try.prog) _ 0 (cellsK Ks) 0 _ (fun j hj => by have := (ht j (by simp only [List.size_toArray]; exact hj)).1; simpa using this) (fun j hj => by simp) (cellsK_one Ks)
theorem start_store2 (w : World) (Ks : List Key3) (Ts : List Bool) (hT : Ts.length = 24) : (storeCells ⟨w.heap.size + 1, 0, none⟩ (cellsB Ts)).run Try.prog (((w.alloc (.cells Try.zeroCells27 27)).alloc (.cells #[.bool false, .bool false, .bool false, .bool false, .bool false, .bool false, .bool false, .bool false, .bool false, .bool false, .bool false, .bool false, .bool false, .bool false, .bool false, .bool false, .bool false, .bool false, .bool false, .bool false, .bool false, .bool false, .bool false, .bool false] 28)).setCells w.heap.size 0 (cellsK Ks)) = .ok () (startW w Ks Ts) := by
  have ht := World.there_setCells (start_there2 w Ts hT (.cells Try.zeroCells27 27)) w.heap.size 0 (cellsK Ks)
  exact run_storeCells_cells (P := Try.prog) _ 0 (cellsB Ts) 0 _ (fun j hj => by simpa using (ht j (by simpa using hj)).1) (fun j hj => by simpa using (ht j (by simpa using hj)).2) (cellsB_one Ts)
end Go.Proofs.Ytbpmdhngobdilaa
