/-
  A heap in memory; find.
-/
import Derived.Test.YtbpmdhngobdilaaKc
import Derived.WalkKit
import Derived.Deep.RegionHeld3
import Derived.Deep.DrawnRows
import Derived.Deep.QuietTactic
import Derived.BigQuiet
namespace Go.Proofs.Ytbpmdhngobdilaa
open Go.RowKit
attribute [local go_sem ↓] Go.wp_at_zero Go.wp_at_succ

def entCells (e : Ent) : List Value := [.int .i64 e.key.time, .int .i64 e.key.source, .int .i64 e.key.seq, .int .i64 e.place]

/-- The world, but for the count of draws. -/
structure Alike (w w' : World) : Prop where
  heap : w'.heap = w.heap
  os : w'.os = w.os
  tape : w'.tape = w.tape
  output : w'.output = w.output
  drawn : w.drawn ≤ w'.drawn
theorem Alike.refl (w : World) : Alike w w := ⟨rfl, rfl, rfl, rfl, Nat.le_refl _⟩
theorem Alike.trans {a b c : World} (h : Alike a b) (k : Alike b c) : Alike a c := ⟨k.heap.trans h.heap, k.os.trans h.os, k.tape.trans h.tape, k.output.trans h.output, Nat.le_trans h.drawn k.drawn⟩
theorem Alike.drewN (w : World) (n : Nat) : Alike w (w.drewN n) := ⟨rfl, rfl, rfl, rfl, Nat.le_add_right _ _⟩
theorem Alike.cell {w w' : World} (h : Alike w w') (a : Addr) : w'.cell? a = w.cell? a := by simp [World.cell?, h.heap]

set_option maxRecDepth 100000 in
theorem is_nil (w : World) : Calls Try.prog 33 #[.pointer none] w fun e w' => e = .returned (.bool false) ∧ w = w' := by
  go_enter Try.func33, Try.ntmps33
  go_wp2
  go_ret
  exact ⟨rfl, rfl⟩
set_option maxRecDepth 100000 in
theorem is_made (hb : Nat) (b : Bool) (w : World) (h0 : w.cell? ⟨hb, 0, none⟩ = some (.bool b)) : Calls Try.prog 33 #[.pointer (some ⟨hb, 0, none⟩)] w fun e w' => e = .returned (.bool b) ∧ w = w' := by
  go_enter Try.func33, Try.ntmps33
  go_wp2
  go_ret
  exact ⟨rfl, rfl⟩

set_option maxRecDepth 100000 in
set_option maxHeartbeats 4000000 in
theorem find_nil (p : Int) (w : World) : Calls Try.prog 29 #[.pointer none, .int .i64 p] w fun e w' => e = .returned (.tuple #[.int .i64 0, .int .i64 1]) ∧ Alike w w' := by
  go_enter Try.func29, Try.ntmps29
  go_wp2_with (go_at_call 33; refine (is_nil _).mono ?_; rintro e w' ⟨rfl, rfl⟩)
  go_ret2
  exact ⟨rfl, Alike.refl _⟩

/-- What find tells: where a place lies, or the error. -/
def findR (p : Int) (A : List Nat) : Int × Int :=
  if p < 0 ∨ (A.length : Int) ≤ p then (0, 80) else if A.getD p.toNat 0 = 0 then (0, 6) else ((A.getD p.toNat 0 : Int) - 1, 0)
def natV (n : Nat) : Value := .int .i64 n
/-- The table in memory. -/
def TabMem (w : World) (ba : Nat) (A : List Nat) : Prop := ∀ j x, A[j]? = some x → w.cell? ⟨ba, j, none⟩ = some (natV x)

set_option maxRecDepth 100000 in
set_option maxHeartbeats 4000000 in
theorem find_any (hb ba n ca : Nat) (p : Int) (A : List Nat) (w : World) (hn : A.length = n) (_ : n ≤ 100000) (hA : ∀ x ∈ A, x ≤ 100000) (h0 : w.cell? ⟨hb, 0, none⟩ = some (.bool true)) (h2 : w.cell? ⟨hb, 2, none⟩ = some (.slice (some ⟨ba, 0, none⟩) n ca)) (ht : TabMem w ba A) :
    Calls Try.prog 29 #[.pointer (some ⟨hb, 0, none⟩), .int .i64 p] w fun e w' => e = .returned (.tuple #[.int .i64 (findR p A).1, .int .i64 (findR p A).2]) ∧ Alike w w' := by
  by_cases c1 : p < 0
  · have hr : findR p A = (0, 80) := by unfold findR; rw [if_pos (.inl c1)]
    rw [hr]
    have d1 : decide (p < 0) = true := decide_eq_true c1
    clear hr ht hA
    go_enter Try.func29, Try.ntmps29
    go_wp2_with (go_at_call 33; refine (is_made hb true _ h0).mono ?_; rintro e w' ⟨rfl, rfl⟩)
    go_ret2
    exact ⟨rfl, Alike.refl _⟩
  · by_cases c2 : (n : Int) ≤ p
    · have hr : findR p A = (0, 80) := by unfold findR; rw [hn, if_pos (.inr c2)]
      rw [hr]
      have q1 : ¬ p < 0 := c1
      have d1 : decide (p < 0) = false := decide_eq_false c1
      clear hr ht hA
      go_enter Try.func29, Try.ntmps29
      go_wp2_with (go_at_call 33; refine (is_made hb true _ h0).mono ?_; rintro e w' ⟨rfl, rfl⟩)
      go_ret2
      exact ⟨rfl, Alike.refl _⟩
    · obtain ⟨j, rfl⟩ : ∃ j : Nat, p = j := ⟨p.toNat, by omega⟩
      have hj : j < n := by omega
      obtain ⟨x, hx⟩ : ∃ x, A[j]? = some x := ⟨_, List.getElem?_eq_getElem (by omega)⟩
      have hc := ht j x hx
      rw [natV] at hc
      have hxl := hA x (List.mem_of_getElem? hx)
      have hg : A.getD j 0 = x := by rw [List.getD_eq_getElem?_getD, hx]; rfl
      have hr : findR (j : Int) A = if x = 0 then (0, 6) else ((x : Int) - 1, 0) := by
        unfold findR; rw [hn, if_neg (by omega), Int.toNat_natCast, hg]
      rw [hr]
      clear hr hg hx ht hA
      have q1 : ¬ (j : Int) < 0 := by omega
      have q2 : ¬ (n : Int) ≤ (j : Int) := by omega
      have q3 : (j : Int) < (n : Int) := by omega
      have q4 : (0 : Int) ≤ (j : Int) := by omega
      have d1 : decide ((j : Int) < 0) = false := decide_eq_false q1
      by_cases hx0 : x = 0
      · subst hx0
        rw [if_pos rfl]
        go_enter Try.func29, Try.ntmps29
        go_wp2_with (go_at_call 33; refine (is_made hb true _ h0).mono ?_; rintro e w' ⟨rfl, rfl⟩)
        go_ret2
        exact ⟨rfl, Alike.refl _⟩
      · rw [if_neg hx0]
        have z1 : ((x : Int) == 0) = false := by simp; omega
        have z2 : ¬ (x : Int) = 0 := by omega
        have z3 : IntKind.i64.wrap ((x : Int) - 1) = (x : Int) - 1 := IntWalk.i64_in _ (by omega)
        go_enter Try.func29, Try.ntmps29
        go_wp2_with (go_at_call 33; refine (is_made hb true _ h0).mono ?_; rintro e w' ⟨rfl, rfl⟩)
        go_ret2
        exact ⟨rfl, Alike.refl _⟩
end Go.Proofs.Ytbpmdhngobdilaa
