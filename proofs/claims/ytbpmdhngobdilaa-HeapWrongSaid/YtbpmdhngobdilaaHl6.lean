/-
  Two heaps beside the arrays.
-/
import Derived.Test.YtbpmdhngobdilaaHl5
namespace Go.Proofs.Ytbpmdhngobdilaa
open Go Go.RowKit
variable {w0 w w' : World} {hb ba hb' ba' : Nat} {v v' v1 : Value} {L L' L1 : List Ent} {Ks : List Key3} {Ts : List Bool} {kb tb : Nat} {E : List (Nat × Obj)}

theorem start_fr (w : World) (Ks : List Key3) (Ts : List Bool) : Fr0 none' w (startW w Ks Ts) := by
  unfold startW
  exact (((Fr.refl none' w).alloc _).alloc _).to0.trans' ((Fr.setCells (S := fun j => w.heap.size ≤ j) (fun _ => by omega) (cellsB Ts) 0 (Fr.setCells (S := fun j => w.heap.size ≤ j) (fun _ => Nat.le_refl _) (cellsK Ks) 0 (Fr.refl _ _))).to0) (fun k hk hs => by omega)
theorem St.add (h : St w0 w hb ba v L Ks Ts kb tb E) {B : Nat} {o : Obj} (hB : ObjBox w hb ba v B o) (h1 : B ≠ kb) (h2 : B ≠ tb) : St w0 w hb ba v L Ks Ts kb tb ((B, o) :: E) :=
  ⟨h.own, h.keys, h.marks, h.ne, h.k0, h.t0, fun x hx => by
    rcases List.mem_cons.1 hx with rfl | hx
    · exact ⟨hB, h1, h2⟩
    · exact h.ex x hx⟩
/-- The other heap's blocks turn. -/
theorem St.other (h : St w0 w hb ba v L Ks Ts kb tb E) (g : St w0 w hb' ba' v' L' Ks Ts kb tb E) (hf : Fr0 (foot hb' ba' v') w w') (hd : ∀ k, foot hb ba v k → foot hb' ba' v' k → False) : St w0 w' hb ba v L Ks Ts kb tb E :=
  ⟨h.own.fr' hf (fun k h1 h2 => hd k h1 h2) (fun k h1 h2 => by have := g.own.new k h1; omega), h.keys.fr hf g.keys.out, h.marks.fr hf g.marks.out, h.ne, h.k0, h.t0, fun x hx => ⟨(h.ex x hx).1.fr hf (g.ex x hx).1.out, (h.ex x hx).2⟩⟩

structure Two (w0 w : World) (hb ba : Nat) (v : Value) (L : List Ent) (hb' ba' : Nat) (v' : Value) (L' : List Ent) (Ks : List Key3) (Ts : List Bool) (kb tb : Nat) (E : List (Nat × Obj)) : Prop where
  a : St w0 w hb ba v L Ks Ts kb tb E
  b : St w0 w hb' ba' v' L' Ks Ts kb tb E
  apart : ∀ k, foot hb ba v k → foot hb' ba' v' k → False
theorem Two.swap (h : Two w0 w hb ba v L hb' ba' v' L' Ks Ts kb tb E) : Two w0 w hb' ba' v' L' hb ba v L Ks Ts kb tb E := ⟨h.b, h.a, fun k h1 h2 => h.apart k h2 h1⟩
theorem Two.later (h : Two w0 w hb ba v L hb' ba' v' L' Ks Ts kb tb E) (hf : Fr0 none' w w') : Two w0 w' hb ba v L hb' ba' v' L' Ks Ts kb tb E := ⟨h.a.later hf, h.b.later hf, h.apart⟩
theorem Two.less {F : List (Nat × Obj)} (h : Two w0 w hb ba v L hb' ba' v' L' Ks Ts kb tb E) (hF : ∀ x ∈ F, x ∈ E) : Two w0 w hb ba v L hb' ba' v' L' Ks Ts kb tb F := ⟨h.a.less hF, h.b.less hF, h.apart⟩
theorem Two.alloc (h : Two w0 w hb ba v L hb' ba' v' L' Ks Ts kb tb E) (o : Obj) : Two w0 (w.alloc o) hb ba v L hb' ba' v' L' Ks Ts kb tb ((w.heap.size, o) :: E) := ⟨h.a.alloc o, h.b.alloc o, h.apart⟩
theorem Two.step (h : Two w0 w hb ba v L hb' ba' v' L' Ks Ts kb tb E) (ho : Own w0 w' hb ba v1 24 L1) (hs : Step hb ba v v1 w w') : Two w0 w' hb ba v1 L1 hb' ba' v' L' Ks Ts kb tb E := by
  refine ⟨h.a.step ho hs, h.b.other h.a hs.fr (fun k h1 h2 => h.apart k h2 h1), fun k h1 h2 => ?_⟩
  have hl := h.b.own.lt k h2
  rcases h1 with h1 | h1 | h1
  · exact h.apart k (.inl h1) h2
  · exact h.apart k (.inr (.inl h1)) h2
  · rcases hs.own k h1 with h3 | h3
    · exact h.apart k (.inr (.inr h3)) h2
    · omega
/-- A new heap comes beside. -/
theorem Two.of_new (h : St w0 w hb ba v L Ks Ts kb tb E) (hf : Fr0 none' w w') (hi : HeapIs w' hb' ba' v' 24 L') (hn : ∀ k, foot hb' ba' v' k → w.heap.size ≤ k) : Two w0 w' hb ba v L hb' ba' v' L' Ks Ts kb tb E := by
  have h1 := h.later hf
  refine ⟨h1, ⟨⟨hi, h1.own.fr, fun k hk => Nat.le_trans h.own.fr.size (hn k hk)⟩, ⟨h1.keys.obj, fun hk => ?_⟩, ⟨h1.marks.obj, fun hk => ?_⟩, h.ne, h.k0, h.t0, fun x hx => ⟨⟨(h1.ex x hx).1.obj, fun hk => ?_⟩, (h.ex x hx).2⟩⟩, fun k h2 h3 => ?_⟩
  · have := hn _ hk; have := h.keys.lt; omega
  · have := hn _ hk; have := h.marks.lt; omega
  · have := hn _ hk; have := (h.ex x hx).1.lt; omega
  · have := hn k h3; have := h.own.lt k h2; omega
/-- A row of ints that is neither heap's. -/
structure Row2 (w : World) (hb ba : Nat) (v : Value) (hb' ba' : Nat) (v' : Value) (u : Value) (xs : List Int) : Prop where
  a : IntsBox w hb ba v u xs
  b : IntsBox w hb' ba' v' u xs
variable {u : Value} {xs : List Int}
theorem Row2.swap (h : Row2 w hb ba v hb' ba' v' u xs) : Row2 w hb' ba' v' hb ba v u xs := ⟨h.b, h.a⟩
theorem Row2.later (h : Row2 w hb ba v hb' ba' v' u xs) (hf : Fr0 none' w w') : Row2 w' hb ba v hb' ba' v' u xs := ⟨h.a.later hf, h.b.later hf⟩
theorem Row2.step (h : Row2 w hb ba v hb' ba' v' u xs) (hs : Step hb ba v v1 w w') : Row2 w' hb ba v1 hb' ba' v' u xs :=
  ⟨h.a.step hs, ⟨h.a.row.fr0 hs.fr (fun g hg => (h.a.out g hg).1), fun g hg => ⟨(h.b.out g hg).1, Nat.lt_of_lt_of_le (h.b.out g hg).2 hs.fr.size⟩⟩⟩
/-- What Order returned. -/
theorem Row2.new (h : Two w0 w hb ba v L hb' ba' v' L' Ks Ts kb tb E) (hi : IntsAt w' u xs) (hg : ∀ g, u.ownBlock = some g → w.heap.size ≤ g ∧ g < w'.heap.size) : Row2 w' hb ba v hb' ba' v' u xs :=
  ⟨⟨hi, fun g h1 => ⟨fun hk => by have := h.a.own.lt g hk; have := (hg g h1).1; omega, (hg g h1).2⟩⟩, ⟨hi, fun g h1 => ⟨fun hk => by have := h.b.own.lt g hk; have := (hg g h1).1; omega, (hg g h1).2⟩⟩⟩
theorem has_err (h : Holds L Ks Ts) {p : Nat} (hp : p < 24) : (errP 24 L (p : Int) == 0) = Ts.getD p false := by
  rw [h.err hp]; cases Ts.getD p false <;> rfl
end Go.Proofs.Ytbpmdhngobdilaa
