/-
  Heap.set.
-/
import Derived.Test.YtbpmdhngobdilaaHp0
import Derived.Test.YtbpmdhngobdilaaTake
import Derived.Deep.MidRow
import Derived.RangeFuncRecord
namespace Go.Proofs.Ytbpmdhngobdilaa
open Go.RowKit
attribute [local go_sem ↓] Go.wp_at_zero Go.wp_at_succ

def entV (e : Ent) : Value := .agg #[.int .i64 e.key.time, .int .i64 e.key.source, .int .i64 e.key.seq, .int .i64 e.place]
theorem setCells_drew (b : Nat) : ∀ (vs : List Value) (o : Nat) (w : World), w.drew.setCells b o vs = (w.setCells b o vs).drew
  | [], _, _ => rfl
  | v :: r, o, w => by rw [World.setCells, World.setCells, ← setCells_drew b r]; rfl
theorem info_ent : (Try.prog.info? 70).map (·.size) = some 4 := by kernel_rfl

set_option maxRecDepth 100000 in
set_option maxHeartbeats 4000000 in
/-- An entry is put at an index: its cells, and its place's index in the table; one block more. -/
theorem set_any (hb bt ba n ca m cap i : Nat) (e : Ent) (v : Value) (w : World) (hi : i < m) (hp : e.place < n) (hm : m ≤ 10000) (h1 : w.cell? ⟨hb, 1, none⟩ = some (.slice (some ⟨bt, 0, none⟩) m cap)) (h2 : w.cell? ⟨hb, 2, none⟩ = some (.slice (some ⟨ba, 0, none⟩) n ca))
    (ht : w.there bt (4 * i) 4) (hv : w.cell? ⟨ba, e.place, none⟩ = some v) (f1 : w.frozen? ⟨ba, e.place, none⟩ = false) (ne1 : hb ≠ bt) (ne2 : hb ≠ ba) (ne3 : bt ≠ ba) :
    Calls Try.prog 47 #[.pointer (some ⟨hb, 0, none⟩), .int .i64 i, entV e] w fun e' w' => e' = .returned (.tuple #[]) ∧
      Alike (((w.alloc (.cells #[.int .i64 e.key.time, .int .i64 e.key.source, .int .i64 e.key.seq, .int .i64 e.place] 70)).setCells bt (4 * i) (entCells e)).setCell ⟨ba, e.place, none⟩ (.int .i64 ((i : Int) + 1))) w' := by
  have q1 : (0 : Int) ≤ (i : Int) := by omega
  have q2 : (i : Int) < (m : Int) := by omega
  have q3 : (0 : Int) ≤ (e.place : Int) := by omega
  have q4 : (e.place : Int) < (n : Int) := by omega
  obtain ⟨⟨t, s, q⟩, p⟩ := e
  simp only [entV, entCells] at *
  obtain ⟨B, hB⟩ : ∃ B, w.heap.size = B := ⟨_, rfl⟩
  obtain ⟨W0, hW0⟩ : ∃ W0, w.alloc (.cells #[.int .i64 t, .int .i64 s, .int .i64 q, .int .i64 p] 70) = W0 := ⟨_, rfl⟩
  have hlt : ∀ (a : Addr) (u : Value), w.cell? a = some u → W0.cell? a = some u := fun a u h => by rw [← hW0, World.cell?_alloc_some _ _ _ (by rw [h]; rfl)]; exact h
  have hbt : bt < w.heap.size := by
    obtain ⟨u, hu⟩ := Option.isSome_iff_exists.1 (ht 0 (by omega)).1
    exact World.block_lt_of_cell? w _ hu
  have hba : ba < w.heap.size := World.block_lt_of_cell? w _ hv
  have hfz : ∀ b o, b < w.heap.size → W0.frozen? ⟨b, o, none⟩ = w.frozen? ⟨b, o, none⟩ := fun b o hlt => by
    rw [← hW0]; exact World.frozen?_of_block (Below.heap_alloc w _ b hlt)
  have k1 := hlt _ _ h1
  have k2 := hlt _ _ h2
  have hv0 := hlt _ _ hv
  have hf0 : W0.frozen? ⟨ba, p, none⟩ = false := (hfz ba p hba).trans f1
  have ht0 : W0.there bt (4 * i) 4 := fun j hj => by
    obtain ⟨u, hu⟩ := Option.isSome_iff_exists.1 (ht j hj).1
    exact ⟨by rw [hlt _ _ hu]; rfl, (hfz bt _ hbt).trans (ht j hj).2⟩
  have hh : W0.heap[B]? = some (.cells #[.int .i64 t, .int .i64 s, .int .i64 q, .int .i64 p] 70 (0, 0)) := by rw [← hW0, ← hB]; exact World.alloc_heap_new w _
  have hcell : ∀ j, W0.cell? ⟨B, j, none⟩ = (#[Value.int .i64 t, .int .i64 s, .int .i64 q, .int .i64 p] : Array Value)[j]? := fun j => by simp only [World.cell?, hh]; rfl
  have x0 := hcell 0
  have x1 := hcell 1
  have x2 := hcell 2
  have x3 := hcell 3
  simp at x0 x1 x2 x3
  have HW0 := Lib.hid hW0
  have Hbt := Lib.hid hbt
  have neB : bt ≠ B := by omega
  have neB2 : ba ≠ B := by omega
  go_enter Try.func47, Try.ntmps47
  go_wp2
  clear hW0 hlt hfz hcell hh h1 h2 ht hv f1 hbt hba hB
  refine wp_region_held_drew (S := fun W => W.cell? ⟨hb, 1, none⟩ = some (.slice (some ⟨bt, 0, none⟩) m cap) ∧ W.cell? ⟨B, 0, none⟩ = some (.int .i64 t) ∧ W.cell? ⟨B, 1, none⟩ = some (.int .i64 s) ∧ W.cell? ⟨B, 2, none⟩ = some (.int .i64 q) ∧ W.cell? ⟨B, 3, none⟩ = some (.int .i64 p)) (by kernel_rfl) ⟨k1, x0, x1, x2, x3⟩ (fun hHeld => ?_)
  refine take_on (i := 0) (v := .pointer (some ⟨hb, 0, none⟩)) rfl (by kernel_rfl) (by kernel_rfl) (by kernel_rfl) (fun _ _ _ h => h) (by kernel_rfl) (fun W hSW => ?_) (by assumption) ?_
  · (try dsimp only at hSW)
    first | (go_simp; done) | exact rfl | (go_simp; rfl) | (go_simp; omega)
  try simp only [Act.put, List.setIfInBounds_toArray, List.set_cons_zero, List.set_cons_succ]
  refine take_on (i := 1) (v := .pointer (some ⟨hb, 0, none⟩)) rfl (by kernel_rfl) (by kernel_rfl) (by kernel_rfl) (fun _ _ _ h => h) (by kernel_rfl) (fun W hSW => ?_) (by assumption) ?_
  · (try dsimp only at hSW)
    first | (go_simp; done) | exact rfl | (go_simp; rfl) | (go_simp; omega)
  try simp only [Act.put, List.setIfInBounds_toArray, List.set_cons_zero, List.set_cons_succ]
  refine take_on (i := 2) (v := .pointer (some ⟨hb, 1, none⟩)) rfl (by kernel_rfl) (by kernel_rfl) (by kernel_rfl) (fun _ _ _ h => h) (by kernel_rfl) (fun W hSW => ?_) (by assumption) ?_
  · (try dsimp only at hSW)
    first | (go_simp; done) | exact rfl | (go_simp; rfl) | (go_simp; omega)
  try simp only [Act.put, List.setIfInBounds_toArray, List.set_cons_zero, List.set_cons_succ]
  refine take_on (i := 3) (v := .slice (some ⟨bt, 0, none⟩) m cap) rfl (by kernel_rfl) (by kernel_rfl) (by kernel_rfl) (fun _ _ _ h => h) (by kernel_rfl) (fun W hSW => ?_) (by assumption) ?_
  · (try dsimp only at hSW)
    first | (go_simp; done) | exact rfl | (go_simp; rfl) | (go_simp; omega)
  try simp only [Act.put, List.setIfInBounds_toArray, List.set_cons_zero, List.set_cons_succ]
  refine take_on (i := 4) (v := .int .i64 i) rfl (by kernel_rfl) (by kernel_rfl) (by kernel_rfl) (fun _ _ _ h => h) (by kernel_rfl) (fun W hSW => ?_) (by assumption) ?_
  · (try dsimp only at hSW)
    first | (go_simp; done) | exact rfl | (go_simp; rfl) | (go_simp; omega)
  try simp only [Act.put, List.setIfInBounds_toArray, List.set_cons_zero, List.set_cons_succ]
  refine take_on (i := 5) (v := .agg #[.int .i64 t, .int .i64 s, .int .i64 q, .int .i64 p]) rfl (by kernel_rfl) (by kernel_rfl) (by kernel_rfl) (fun _ _ _ h => h) (by kernel_rfl) (fun W hSW => ?_) (by assumption) ?_
  · (try dsimp only at hSW)
    first | (go_simp; done) | exact rfl | (go_simp; rfl) | (go_simp; omega)
  try simp only [Act.put, List.setIfInBounds_toArray, List.set_cons_zero, List.set_cons_succ]
  refine take_on (i := 6) (v := .pointer (some ⟨bt, 4 * i, none⟩)) rfl (by kernel_rfl) (by kernel_rfl) (by kernel_rfl) (fun _ _ _ h => h) (by kernel_rfl) (fun W hSW => ?_) (by assumption) ?_
  · (try dsimp only at hSW)
    first | (go_simp; done) | exact rfl | (go_simp; rfl) | (go_simp; omega)
  try simp only [Act.put, List.setIfInBounds_toArray, List.set_cons_zero, List.set_cons_succ]
  refine take_call (i := 7) rfl (by kernel_rfl) (by kernel_rfl) (fun K hK => ?_)
  refine wp_store_mid 70 _ _ rfl bt (4 * i) #[.int .i64 t, .int .i64 s, .int .i64 q, .int .i64 p] rfl rfl (fun j hj => ht0 j hj) info_ent (by simp [Value.oneCell']) ?_
  have hout : ∀ (b o : Nat) (u : Value), b ≠ bt → W0.cell? ⟨b, o, none⟩ = some u → (W0.drew.setCells bt (4 * i) [.int .i64 t, .int .i64 s, .int .i64 q, .int .i64 p]).cell? ⟨b, o, none⟩ = some u := fun b o u hb hu => by
    rw [World.cell?_setCells_out bt _ _ _ ⟨b, o, none⟩ (fun e => absurd e hb)]; exact hu
  refine hK.out _ _ ⟨hout _ _ _ ne1 k1, hout _ _ _ neB.symm x0, hout _ _ _ neB.symm x1, hout _ _ _ neB.symm x2, hout _ _ _ neB.symm x3⟩ (fun hHeld2 => ?_)
  clear hK K
  try simp only [Act.put]
  have k2' := hout _ _ _ ne1 k2
  have hv' := hout _ _ _ ne3.symm hv0
  have y3 := hout _ _ _ neB.symm x3
  have hf' : (W0.drew.setCells bt (4 * i) [.int .i64 t, .int .i64 s, .int .i64 q, .int .i64 p]).frozen? ⟨ba, p, none⟩ = false := by rw [World.frozen?_setCells]; exact hf0
  refine wpAnyH_done (by kernel_rfl) ?_ _
  obtain ⟨W1, hW1⟩ : ∃ W1, W0.drew.setCells bt (4 * i) [.int .i64 t, .int .i64 s, .int .i64 q, .int .i64 p] = W1 := ⟨_, rfl⟩
  simp only [hW1] at k2' hv' y3 hf' ⊢
  have HW1 := Lib.hid hW1
  clear hW1 hHeld2 hHeld hout k1 k2 x0 x1 x2 x3 hv0 hf0 ht0
  go_wp2
  refine wp_region_held_drew (S := fun W => W.cell? ⟨hb, 2, none⟩ = some (.slice (some ⟨ba, 0, none⟩) n ca) ∧ W.cell? ⟨B, 3, none⟩ = some (.int .i64 p)) (by kernel_rfl) ⟨k2', y3⟩ (fun hHeld => ?_)
  have q5 : IntKind.i64.wrap ((i : Int) + 1) = (i : Int) + 1 := IntWalk.i64_in _ (by omega)
  refine take_on (i := 0) (v := .pointer (some ⟨hb, 0, none⟩)) rfl (by kernel_rfl) (by kernel_rfl) (by kernel_rfl) (fun _ _ _ h => h) (by kernel_rfl) (fun W hSW => ?_) (by assumption) ?_
  · (try dsimp only at hSW)
    first | (go_simp; done) | exact rfl | (go_simp; rfl) | (go_simp; omega)
  try simp only [Act.put, List.setIfInBounds_toArray, List.set_cons_zero, List.set_cons_succ]
  refine take_on (i := 1) (v := .pointer (some ⟨hb, 0, none⟩)) rfl (by kernel_rfl) (by kernel_rfl) (by kernel_rfl) (fun _ _ _ h => h) (by kernel_rfl) (fun W hSW => ?_) (by assumption) ?_
  · (try dsimp only at hSW)
    first | (go_simp; done) | exact rfl | (go_simp; rfl) | (go_simp; omega)
  try simp only [Act.put, List.setIfInBounds_toArray, List.set_cons_zero, List.set_cons_succ]
  refine take_on (i := 2) (v := .pointer (some ⟨hb, 2, none⟩)) rfl (by kernel_rfl) (by kernel_rfl) (by kernel_rfl) (fun _ _ _ h => h) (by kernel_rfl) (fun W hSW => ?_) (by assumption) ?_
  · (try dsimp only at hSW)
    first | (go_simp; done) | exact rfl | (go_simp; rfl) | (go_simp; omega)
  try simp only [Act.put, List.setIfInBounds_toArray, List.set_cons_zero, List.set_cons_succ]
  refine take_on (i := 3) (v := .slice (some ⟨ba, 0, none⟩) n ca) rfl (by kernel_rfl) (by kernel_rfl) (by kernel_rfl) (fun _ _ _ h => h) (by kernel_rfl) (fun W hSW => ?_) (by assumption) ?_
  · (try dsimp only at hSW)
    first | (go_simp; done) | exact rfl | (go_simp; rfl) | (go_simp; omega)
  try simp only [Act.put, List.setIfInBounds_toArray, List.set_cons_zero, List.set_cons_succ]
  refine take_on (i := 4) (v := .pointer (some ⟨B, 3, none⟩)) rfl (by kernel_rfl) (by kernel_rfl) (by kernel_rfl) (fun _ _ _ h => h) (by kernel_rfl) (fun W hSW => ?_) (by assumption) ?_
  · (try dsimp only at hSW)
    first | (go_simp; done) | exact rfl | (go_simp; rfl) | (go_simp; omega)
  try simp only [Act.put, List.setIfInBounds_toArray, List.set_cons_zero, List.set_cons_succ]
  refine take_on (i := 5) (v := .int .i64 p) rfl (by kernel_rfl) (by kernel_rfl) (by kernel_rfl) (fun _ _ _ h => h) (by kernel_rfl) (fun W hSW => ?_) (by assumption) ?_
  · (try dsimp only at hSW)
    first | (go_simp; done) | exact rfl | (go_simp; rfl) | (go_simp; omega)
  try simp only [Act.put, List.setIfInBounds_toArray, List.set_cons_zero, List.set_cons_succ]
  refine take_on (i := 6) (v := .int .i64 i) rfl (by kernel_rfl) (by kernel_rfl) (by kernel_rfl) (fun _ _ _ h => h) (by kernel_rfl) (fun W hSW => ?_) (by assumption) ?_
  · (try dsimp only at hSW)
    first | (go_simp; done) | exact rfl | (go_simp; rfl) | (go_simp; omega)
  try simp only [Act.put, List.setIfInBounds_toArray, List.set_cons_zero, List.set_cons_succ]
  refine take_on (i := 7) (v := .int .i64 ((i : Int) + 1)) rfl (by kernel_rfl) (by kernel_rfl) (by kernel_rfl) (fun _ _ _ h => h) (by kernel_rfl) (fun W hSW => ?_) (by assumption) ?_
  · (try dsimp only at hSW)
    first | (go_simp; done) | exact rfl | (go_simp; rfl) | (go_simp; omega)
  try simp only [Act.put, List.setIfInBounds_toArray, List.set_cons_zero, List.set_cons_succ]
  refine take_on (i := 8) (v := .pointer (some ⟨ba, p, none⟩)) rfl (by kernel_rfl) (by kernel_rfl) (by kernel_rfl) (fun _ _ _ h => h) (by kernel_rfl) (fun W hSW => ?_) (by assumption) ?_
  · (try dsimp only at hSW)
    first | (go_simp; done) | exact rfl | (go_simp; rfl) | (go_simp; omega)
  try simp only [Act.put, List.setIfInBounds_toArray, List.set_cons_zero, List.set_cons_succ]
  refine take_call (i := 9) rfl (by kernel_rfl) (by kernel_rfl) (fun K hK => ?_)
  have hv2 : W1.drew.cell? ⟨ba, p, none⟩ = some v := hv'
  have hf2 : W1.drew.frozen? ⟨ba, p, none⟩ = false := hf'
  go_simp
  refine hK.out _ _ ⟨(World.cell?_setCell_far W1 ⟨ba, p, none⟩ ⟨hb, 2, none⟩ _ ne2.symm).trans k2', (World.cell?_setCell_far W1 ⟨ba, p, none⟩ ⟨B, 3, none⟩ _ neB2).trans y3⟩ (fun hHeld2 => ?_)
  clear hK K
  try simp only [Act.put, List.setIfInBounds_toArray, List.set_cons_zero, List.set_cons_succ]
  refine wpAnyH_done (by kernel_rfl) ?_ _
  go_wp2
  go_end0
  refine ⟨rfl, ?_⟩
  rw [HW0.out, ← HW1.out, setCells_drew]
  exact ⟨rfl, rfl, rfl, rfl, Nat.le_trans (Nat.le_succ _) (Nat.le_succ _)⟩
end Go.Proofs.Ytbpmdhngobdilaa
