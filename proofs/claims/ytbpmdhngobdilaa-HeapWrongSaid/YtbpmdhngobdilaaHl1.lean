/-
  A heap of a law's own; its acts.
-/
import Derived.Test.YtbpmdhngobdilaaHl0
namespace Go.Proofs.Ytbpmdhngobdilaa
open Go.RowKit

/-- A heap that was made since w0. -/
structure Own (w0 w : World) (hb ba : Nat) (v : Value) (n : Nat) (L : List Ent) : Prop where
  is : HeapIs w hb ba v n L
  fr : Fr0 none' w0 w
  new : ∀ k, foot hb ba v k → w0.heap.size ≤ k
/-- What may have turned: the heap's blocks. -/
structure Step (hb ba : Nat) (v v' : Value) (w w' : World) : Prop where
  fr : Fr0 (foot hb ba v) w w'
  own : ∀ g, v'.ownBlock = some g → v.ownBlock = some g ∨ w.heap.size ≤ g
theorem HStep.to0 {hb ba : Nat} {v v' : Value} {w w' : World} (h : HStep hb ba v v' w w') : Step hb ba v v' w w' := ⟨h.fr.to0, h.own⟩
theorem Own.later {w0 w w' : World} {hb ba n : Nat} {v : Value} {L : List Ent} (h : Own w0 w hb ba v n L) (hf : Fr0 none' w w') : Own w0 w' hb ba v n L := ⟨h.is.later0 hf, h.fr.trans hf, h.new⟩
theorem Own.fr' {S : Nat → Prop} {w0 w w' : World} {hb ba n : Nat} {v : Value} {L : List Ent} (h : Own w0 w hb ba v n L) (hf : Fr0 S w w') (hS : ∀ k, foot hb ba v k → ¬ S k) (hS0 : ∀ k, S k → k < w0.heap.size → False) : Own w0 w' hb ba v n L := ⟨h.is.fr0 hf hS, h.fr.trans' hf (fun k hk hs => (hS0 k hs hk).elim), h.new⟩
theorem Own.step {w0 w w' : World} {hb ba n : Nat} {v v' : Value} {L L' : List Ent} (h : Own w0 w hb ba v n L) (hs : Step hb ba v v' w w') (h' : HeapIs w' hb ba v' n L') : Own w0 w' hb ba v' n L' :=
  ⟨h', h.fr.trans' hs.fr (fun k hk hf => by have := h.new k hf; omega), fun k hk => by
    rcases hk with h1 | h1 | h1
    · exact h.new k (.inl h1)
    · exact h.new k (.inr (.inl h1))
    · rcases hs.own k h1 with h2 | h2
      · exact h.new k (.inr (.inr h2))
      · exact Nat.le_trans h.fr.size h2⟩
theorem Own.lt {w0 w : World} {hb ba n : Nat} {v : Value} {L : List Ent} (h : Own w0 w hb ba v n L) : ∀ k, foot hb ba v k → k < w.heap.size := h.is.lt
/-- A block that is not the heap's stays so. -/
theorem Step.not {hb ba : Nat} {v v' : Value} {w w' : World} (h : Step hb ba v v' w w') {k : Nat} (hk : ¬ foot hb ba v k) (hl : k < w.heap.size) : ¬ foot hb ba v' k := fun hf => by
  rcases hf with h1 | h1 | h1
  · exact hk (.inl h1)
  · exact hk (.inr (.inl h1))
  · rcases h.own k h1 with h2 | h2
    · exact hk (.inr (.inr h2))
    · omega
theorem Step.refl (hb ba : Nat) (v : Value) (w : World) : Step hb ba v v w w := ⟨Fr0.refl _ _, fun _ h => .inl h⟩

variable {w0 w : World} {hb ba n : Nat} {v : Value} {L : List Ent}
theorem put_own (h : Own w0 w hb ba v n L) (p : Int) (k : Key3) : Calls Try.prog 13 #[.pointer (some ⟨hb, 0, none⟩), .int .i64 p, keyV k] w fun e w' => e = .returned (.int .i64 (putE n L p)) ∧ ∃ v', Own w0 w' hb ba v' n (putL n L p k) ∧ Step hb ba v v' w w' :=
  (Put_is h.is p k).mono fun _ _ ⟨he, v', h1, h2⟩ => ⟨he, v', h.step h2.to0 h1, h2.to0⟩
theorem rem_own (h : Own w0 w hb ba v n L) (p : Int) : Calls Try.prog 16 #[.pointer (some ⟨hb, 0, none⟩), .int .i64 p] w fun e w' => e = .returned (.tuple #[keyV (keyP n L p), .int .i64 (errP n L p)]) ∧ ∃ v', Own w0 w' hb ba v' n (delP n L p) ∧ Step hb ba v v' w w' :=
  (Remove_is h.is p).mono fun _ _ ⟨he, v', h1, h2⟩ => ⟨he, v', h.step h2.to0 h1, h2.to0⟩
theorem chg_own (h : Own w0 w hb ba v n L) (p : Int) (k : Key3) : Calls Try.prog 15 #[.pointer (some ⟨hb, 0, none⟩), .int .i64 p, keyV k] w fun e w' => e = .returned (.tuple #[keyV (keyP n L p), .int .i64 (errP n L p)]) ∧ ∃ v', Own w0 w' hb ba v' n (chgL n L p k) ∧ Step hb ba v v' w w' :=
  (Change_is h.is p k).mono fun _ _ ⟨he, v', h1, h2⟩ => ⟨he, v', h.step h2.to0 h1, h2.to0⟩
theorem take_own (h : Own w0 w hb ba v n L) : Calls Try.prog 17 #[.pointer (some ⟨hb, 0, none⟩)] w fun e w' => e = .returned (.tuple #[.int .i64 (leastP L), keyV (takeK L), .int .i64 (takeE L)]) ∧ ∃ v', Own w0 w' hb ba v' n L.tail ∧ Step hb ba v v' w w' :=
  (Take_is h.is).mono fun _ _ ⟨he, v', h1, h2⟩ => ⟨he, v', h.step h2.to0 h1, h2.to0⟩
theorem order_own (h : Own w0 w hb ba v n L) : Calls Try.prog 19 #[.pointer (some ⟨hb, 0, none⟩)] w fun e w' => ∃ u, e = .returned u ∧ IntsAt w' u (plI L) ∧ Fr0 none' w w' ∧ ∀ g, u.ownBlock = some g → w.heap.size ≤ g ∧ g < w'.heap.size :=
  (Order_is h.is).mono fun _ _ ⟨u, he, h1, h2⟩ => ⟨u, he, by rw [placesV_eq] at h1; exact .of_own h1, h2, fun g hg => h1.lt g hg⟩
theorem new_own (n : Nat) (w : World) (hn : n ≤ 4096) : Calls Try.prog 12 #[.int .i64 n] w fun e w' => ∃ hb ba, e = .returned (.tuple #[.pointer (some ⟨hb, 0, none⟩), .int .i64 0]) ∧ Own w w' hb ba (.slice none 0 0) n [] :=
  (New_is n w hn).mono fun _ _ ⟨hb, ba, he, h1, h2, h3, h4⟩ => ⟨hb, ba, he, h1, h2.to0, fun k hk => by
    rcases hk with h | h | h
    · omega
    · omega
    · cases h⟩

/-- A key in a block that is not the heap's. -/
structure KeyBox (w : World) (hb ba : Nat) (v : Value) (B : Nat) (k : Key3) : Prop where
  key : KeyAt w B k
  out : ¬ foot hb ba v B
theorem KeyBox.later {w w' : World} {hb ba : Nat} {v : Value} {B : Nat} {k : Key3} (h : KeyBox w hb ba v B k) (hf : Fr0 none' w w') : KeyBox w' hb ba v B k := ⟨(hf.block B h.key.lt id).trans h.key, h.out⟩
theorem KeyBox.step {w w' : World} {hb ba : Nat} {v v' : Value} {B : Nat} {k : Key3} (h : KeyBox w hb ba v B k) (hs : Step hb ba v v' w w') : KeyBox w' hb ba v' B k := ⟨(hs.fr.block B h.key.lt h.out).trans h.key, hs.not h.out h.key.lt⟩
theorem KeyBox.new {w0 w : World} {hb ba n : Nat} {v : Value} {L : List Ent} (h : Own w0 w hb ba v n L) (k : Key3) : KeyBox (w.alloc (.cells #[.int .i64 k.time, .int .i64 k.source, .int .i64 k.seq] 26)) hb ba v w.heap.size k :=
  ⟨World.alloc_heap_new w _, fun hf => by have := h.lt _ hf; omega⟩
/-- A row of ints that is not the heap's. -/
structure IntsBox (w : World) (hb ba : Nat) (v u : Value) (xs : List Int) : Prop where
  row : IntsAt w u xs
  out : ∀ g, u.ownBlock = some g → ¬ foot hb ba v g ∧ g < w.heap.size
theorem IntsAt.fr0 {S : Nat → Prop} {w w' : World} {u : Value} {xs : List Int} (h : IntsAt w u xs) (hf : Fr0 S w w') (hS : ∀ g, u.ownBlock = some g → ¬ S g) : IntsAt w' u xs := by
  obtain ⟨a, cap, rfl, hc⟩ := h
  refine ⟨a, cap, rfl, fun j x hx => ?_⟩
  obtain ⟨g, h1, h2⟩ := hc j x hx
  refine ⟨g, h1, ?_⟩
  rw [hf.cell (p := ⟨g, j, none⟩) (World.block_lt_of_cell? _ _ h2) (hS g (by rw [h1]; rfl))]; exact h2
theorem IntsBox.later {w w' : World} {hb ba : Nat} {v u : Value} {xs : List Int} (h : IntsBox w hb ba v u xs) (hf : Fr0 none' w w') : IntsBox w' hb ba v u xs := ⟨h.row.later hf, fun g hg => ⟨(h.out g hg).1, Nat.lt_of_lt_of_le (h.out g hg).2 hf.size⟩⟩
theorem IntsBox.step {w w' : World} {hb ba : Nat} {v v' u : Value} {xs : List Int} (h : IntsBox w hb ba v u xs) (hs : Step hb ba v v' w w') : IntsBox w' hb ba v' u xs :=
  ⟨h.row.fr0 hs.fr (fun g hg => (h.out g hg).1), fun g hg => ⟨hs.not (h.out g hg).1 (h.out g hg).2, Nat.lt_of_lt_of_le (h.out g hg).2 hs.fr.size⟩⟩
end Go.Proofs.Ytbpmdhngobdilaa
