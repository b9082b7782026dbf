/-
  What the laws on spaces lean on and what knows no space: rows, names, sets of names.
-/
import Derived.Lib.Hide
import Derived.WalkKit
import Derived.RangeFuncNested
import Derived.RangeFuncBound
import Derived.RangeFuncCalls
import Derived.RangeFuncLeaves
import Derived.Deep.Draws
import Derived.Deep.RegionHeld3
import Derived.Deep.DrawnRows
import Derived.Test.YtmbjfmlicffclaaProg
import Derived.WalkSpells
import Derived.WalkLawsBesides
import Derived.Lib.Bytealg
import Derived.Lib.Strings
import Derived.OwnWalkIn
import Derived.TacticsInMore
import Derived.LoopNIn
import Derived.LoopIn
import Derived.BigFrameIn
import Derived.Deep.AppendSrc
import Derived.Laws.AppendOwn
import Derived.Maps.AppendAt
import Derived.Lib.ItoaNum
import Derived.Lib.ItoaMem
import Derived.Lib.AtoiAll
import Derived.Lib.IndexAny
import Derived.OrdersIn
import Derived.Test.YtmbjfmlicffclaaChecked
import Derived.WalkMore
import Derived.TacticsIn
import Derived.Deep.QuietTactic
import Derived.Outline
import Derived.Laws.IdiomCopy
set_option linter.unusedSimpArgs false
set_option linter.unusedVariables false

/-
  A heap of four below each: rising and sinking, plain Lean.
-/
namespace Go.Proofs.Ytmbjfmlicffclaa

/-- An order of all: of two different ones just one comes first. -/
structure OrdC {α : Type} (f : α → α → Int) : Prop where
 eq : ∀ a b, f a b = 0 ↔ a = b
 anti : ∀ a b, f a b = - f b a
 trans : ∀ a b c, f a b < 0 → f b c < 0 → f a c < 0

section
variable {α : Type} [Inhabited α] {f : α → α → Int}

theorem OrdC.refl {β : Type} {f : β → β → Int} (h : OrdC f) (a : β) : f a a = 0 := (h.eq a a).2 rfl
theorem OrdC.le_trans {β : Type} {f : β → β → Int} (h : OrdC f) {a b c : β} (h1 : f a b ≤ 0) (h2 : f b c ≤ 0) : f a c ≤ 0 := by
 by_cases e1 : f a b = 0
 ·rw [(h.eq a b).1 e1]; exact h2
 ·by_cases e2 : f b c = 0
  ·rw [← (h.eq b c).1 e2]; exact h1
  ·have := h.trans a b c (by omega) (by omega); omega
/-- The value at an index. -/
def at' (t : List α) (i : Nat) : α := t.getD i default
theorem at_get {t : List α} {i : Nat} (h : i < t.length) : at' t i = t[i] := by simp [at', h]
end
end Go.Proofs.Ytmbjfmlicffclaa

/-
  The table that says where each place lies in the heap, plain Lean.
-/
namespace Go.Proofs.Ytmbjfmlicffclaa
section
variable {α : Type} [Inhabited α] {f : α → α → Int} {pl : α → Nat}

end
end Go.Proofs.Ytmbjfmlicffclaa

/-
  What is put into a heap of four, cut out of it, changed in it, plain Lean.
-/
namespace Go.Proofs.Ytmbjfmlicffclaa
section
variable {α : Type} [Inhabited α] {f : α → α → Int} {pl : α → Nat}

theorem set_self {t : List α} {i : Nat} {x : α} (hi : i < t.length) (h : at' t i = x) : t.set i x = t := by
 rw [at_get hi] at h
 rw [← h]; simp
end
end Go.Proofs.Ytmbjfmlicffclaa

/-
  What a heap has, as a list in order; plain Lean.
-/
namespace Go.Proofs.Ytmbjfmlicffclaa

/-- A key: time, source, number; an entry: a key and a place. -/
structure Key3 where
 time : Int
 source : Int
 seq : Int
deriving DecidableEq, Inhabited
/-- No key: the type's zero. -/
def zeroK : Key3 := ⟨0, 0, 0⟩
structure Ent where
 key : Key3
 place : Nat
deriving DecidableEq, Inhabited

def cmpI (a b : Int) : Int := if a < b then -1 else if b < a then 1 else 0
def cmpK (a b : Key3) : Int := if a.time ≠ b.time then cmpI a.time b.time else if a.source ≠ b.source then cmpI a.source b.source else cmpI a.seq b.seq
def fieldK (a b : Key3) : Int := if a.time ≠ b.time then 1 else if a.source ≠ b.source then 2 else if a.seq ≠ b.seq then 3 else 0
theorem cmpI_eq (a b : Int) : cmpI a b = 0 ↔ a = b := by unfold cmpI; split <;> (try split) <;> omega
theorem cmpI_anti (a b : Int) : cmpI a b = - cmpI b a := by unfold cmpI; repeat' split <;> omega
theorem cmpI_lt (a b : Int) : cmpI a b < 0 ↔ a < b := by unfold cmpI; split <;> (try split) <;> omega
theorem cmpK_eq (a b : Key3) : cmpK a b = 0 ↔ a = b := by
 obtain ⟨a1, a2, a3⟩ := a
 obtain ⟨b1, b2, b3⟩ := b
 simp only [cmpK, Key3.mk.injEq]
 have h1 := cmpI_eq a1 b1
 have h2 := cmpI_eq a2 b2
 have h3 := cmpI_eq a3 b3
 split
 ·next h => exact ⟨fun e => absurd (h1.1 e) h, fun e => absurd e.1 h⟩
 ·split
  ·next h' h => exact ⟨fun e => absurd (h2.1 e) h, fun e => absurd e.2.1 h⟩
  ·next h' h => exact ⟨fun e => ⟨Decidable.not_not.1 h', Decidable.not_not.1 h, h3.1 e⟩, fun e => h3.2 e.2.2⟩
theorem cmpK_anti (a b : Key3) : cmpK a b = - cmpK b a := by
 unfold cmpK
 have h1 := cmpI_anti a.time b.time
 have h2 := cmpI_anti a.source b.source
 have h3 := cmpI_anti a.seq b.seq
 by_cases e1 : a.time = b.time
 ·by_cases e2 : a.source = b.source
  ·rw [if_neg (by simp [e1]), if_neg (by simp [e2]), if_neg (by simp [e1]), if_neg (by simp [e2])]; exact h3
  ·rw [if_neg (by simp [e1]), if_pos e2, if_neg (by simp [e1]), if_pos (fun h => e2 h.symm)]; exact h2
 ·rw [if_pos e1, if_pos (fun h => e1 h.symm)]; exact h1
theorem cmpK_lt (a b : Key3) : cmpK a b < 0 ↔ a.time < b.time ∨ (a.time = b.time ∧ (a.source < b.source ∨ (a.source = b.source ∧ a.seq < b.seq))) := by
 unfold cmpK
 have h1 := cmpI_lt a.time b.time
 have h2 := cmpI_lt a.source b.source
 have h3 := cmpI_lt a.seq b.seq
 split
 ·rw [h1]; omega
 ·split
  ·rw [h2]; omega
  ·rw [h3]; omega
theorem cmpK_trans (a b c : Key3) (h1 : cmpK a b < 0) (h2 : cmpK b c < 0) : cmpK a c < 0 := by
 rw [cmpK_lt] at *; omega
/-- The key of a place. -/
def look (L : List Ent) (p : Nat) : Option Key3 := (L.find? (fun e => e.place == p)).map (·.key)
/-- Each place once. -/
def Once (L : List Ent) : Prop := (L.map (·.place)).Nodup

theorem Once.inj {L : List Ent} (h : Once L) {a b : Ent} (ha : a ∈ L) (hb : b ∈ L) (e : a.place = b.place) : a = b := by
 induction L with
 | nil => cases ha
 | cons x r ih =>
  have h' := List.nodup_cons.1 h
  rcases List.mem_cons.1 ha with h1 | h1
  ·rcases List.mem_cons.1 hb with h2 | h2
   ·rw [h1, h2]
   ·subst h1; exact absurd (List.mem_map.2 ⟨b, h2, e.symm⟩) h'.1
  ·rcases List.mem_cons.1 hb with h2 | h2
   ·subst h2; exact absurd (List.mem_map.2 ⟨a, h1, e⟩) h'.1
   ·exact ih h'.2 h1 h2
theorem Once.perm {L M : List Ent} (h : Once L) (hp : L.Perm M) : Once M := (hp.map _).nodup_iff.1 h
end Go.Proofs.Ytmbjfmlicffclaa

/-
  Rows of elements of several cells; plain Lean.
-/
namespace Go.Proofs.Ytmbjfmlicffclaa

section
variable {α β : Type} {f : α → List β} {k : Nat}
theorem flat_len (hk : ∀ x, (f x).length = k) (P : List α) : (P.flatMap f).length = P.length * k := by
 induction P with
 | nil => simp
 | cons x r ih => rw [List.flatMap_cons, List.length_append, ih, hk, List.length_cons, Nat.succ_mul]; omega
theorem flat_at (hk : ∀ x, (f x).length = k) (P : List α) (i j : Nat) (hj : j < k) : (P.flatMap f)[i * k + j]? = P[i]?.bind fun x => (f x)[j]? := by
 induction P generalizing i with
 | nil => simp
 | cons x r ih =>
  rw [List.flatMap_cons]
  cases i with
  | zero => rw [Nat.zero_mul, Nat.zero_add, List.getElem?_append_left (by rw [hk]; exact hj)]; rfl
  | succ i =>
   rw [List.getElem?_append_right (by rw [hk, Nat.succ_mul]; omega), hk, show (i + 1) * k + j - k = i * k + j by rw [Nat.succ_mul]; omega, ih]
   rfl
theorem flat_some (hk : ∀ x, (f x).length = k) {P : List α} {i : Nat} {x : α} (hx : P[i]? = some x) {j : Nat} (hj : j < k) {v : β} (hv : (f x)[j]? = some v) : (P.flatMap f)[i * k + j]? = some v := by
 rw [flat_at hk P i j hj, hx]; exact hv
end
end Go.Proofs.Ytmbjfmlicffclaa

/-
  Frames: 'Fr S w w'' says that of the blocks that were there only those in S may have turned.
-/
namespace Go.Proofs.Ytmbjfmlicffclaa
open Go.RowKit

/-- Of the blocks that were there only those in S may have turned; new ones may have come. -/
structure Fr (S : Nat → Prop) (w w' : World) : Prop where
 os : w'.os = w.os
 tape : w'.tape = w.tape
 output : w'.output = w.output
 size : w.heap.size ≤ w'.heap.size
 block : ∀ k, k < w.heap.size → ¬ S k → w'.heap[k]? = w.heap[k]?
 drawn : w.drawn ≤ w'.drawn

def none' : Nat → Prop := fun _ => False
theorem Fr.refl (S : Nat → Prop) (w : World) : Fr S w w := ⟨rfl, rfl, rfl, Nat.le_refl _, fun _ _ _ => rfl, Nat.le_refl _⟩
theorem Fr.trans {S : Nat → Prop} {a b c : World} (h : Fr S a b) (k : Fr S b c) : Fr S a c :=
 ⟨k.os.trans h.os, k.tape.trans h.tape, k.output.trans h.output, Nat.le_trans h.size k.size, fun i hi hs => (k.block i (Nat.lt_of_lt_of_le hi h.size) hs).trans (h.block i hi hs), Nat.le_trans h.drawn k.drawn⟩
theorem Fr.trans' {S S' : Nat → Prop} {a b c : World} (h : Fr S a b) (k : Fr S' b c) (hS : ∀ k, k < a.heap.size → S' k → S k) : Fr S a c :=
 ⟨k.os.trans h.os, k.tape.trans h.tape, k.output.trans h.output, Nat.le_trans h.size k.size, fun i hi hs => (k.block i (Nat.lt_of_lt_of_le hi h.size) (fun x => hs (hS i hi x))).trans (h.block i hi hs), Nat.le_trans h.drawn k.drawn⟩
theorem Fr.mono {S S' : Nat → Prop} {a b : World} (h : Fr S a b) (hS : ∀ k, k < a.heap.size → S k → S' k) : Fr S' a b :=
 ⟨h.os, h.tape, h.output, h.size, fun k hk hs => h.block k hk (fun x => hs (hS k hk x)), h.drawn⟩
theorem Fr.drew {S : Nat → Prop} {a w : World} (h : Fr S a w) : Fr S a w.drew := ⟨h.os, h.tape, h.output, h.size, h.block, Nat.le_trans h.drawn (Nat.le_succ _)⟩
theorem Fr.drewN {S : Nat → Prop} {a w : World} (h : Fr S a w) (n : Nat) : Fr S a (w.drewN n) := ⟨h.os, h.tape, h.output, h.size, h.block, Nat.le_trans h.drawn (Nat.le_add_right _ _)⟩
theorem Fr.alloc {S : Nat → Prop} {a w : World} (h : Fr S a w) (o : Obj) : Fr S a (w.alloc o) :=
 ⟨h.os, h.tape, h.output, by have := h.size; simp; omega, fun k hk hs => (Below.heap_alloc w o k (Nat.lt_of_lt_of_le hk h.size)).trans (h.block k hk hs), h.drawn⟩
theorem Fr.setCell {S : Nat → Prop} {a w : World} (h : Fr S a w) {b o : Nat} (hp : b < a.heap.size → S b) (u : Value) : Fr S a (w.setCell ⟨b, o, none⟩ u) :=
 ⟨h.os, h.tape, h.output, by have := h.size; simp [World.setCell]; omega, fun k hk hs => (Below.heap_setCell w ⟨b, o, none⟩ u k (fun e => hs (by subst e; exact hp hk))).trans (h.block k hk hs), h.drawn⟩
theorem Fr.grown {S : Nat → Prop} {a w w' : World} {row : Option Nat} (h : Fr S a w) (hg : w.grownBy w' row) (hd : w.drawn ≤ w'.drawn) (hr : ∀ k, row = some k → k < a.heap.size → S k) : Fr S a w' :=
 ⟨hg.os.trans h.os, hg.tape.trans h.tape, hg.output.trans h.output, Nat.le_trans h.size hg.size,
  fun k hk hs => (hg.block k (Nat.lt_of_lt_of_le hk h.size) (fun e => hs (hr k e.symm hk))).trans (h.block k hk hs), Nat.le_trans h.drawn hd⟩
theorem Fr.putObj {S : Nat → Prop} {a w : World} (h : Fr S a w) {r : Nat} (hp : r < a.heap.size → S r) (o : Obj) : Fr S a (w.putObj r o) :=
 ⟨h.os, h.tape, h.output, by have := h.size; simp [World.putObj]; omega, fun k hk hs => (World.putObj_heap_other (fun e => hs (by subst e; exact hp hk))).trans (h.block k hk hs), h.drawn⟩
theorem Fr.below {S : Nat → Prop} {B : Nat} {w w' : World} (h : Fr S w w') (hB : B ≤ w.heap.size) (hS : ∀ k, k < B → ¬ S k) : Below B w w' :=
 ⟨h.os, h.tape, h.output, h.size, fun k hk => h.block k (Nat.lt_of_lt_of_le hk hB) (hS k hk)⟩
theorem Fr.cell {S : Nat → Prop} {w w' : World} (h : Fr S w w') {p : Addr} (hp : p.block < w.heap.size) (hs : ¬ S p.block) : w'.cell? p = w.cell? p := World.cell?_of_block (w := w) (h.block p.block hp hs)
theorem Fr.frozen {S : Nat → Prop} {w w' : World} (h : Fr S w w') {p : Addr} (hp : p.block < w.heap.size) (hs : ¬ S p.block) : w'.frozen? p = w.frozen? p := World.frozen?_of_block (w := w) (h.block p.block hp hs)

/-- A block that is known whole: one cell, not frozen. -/
def Box (w : World) (b : Nat) (v : Value) : Prop := ∃ t, w.heap[b]? = some (.cells #[v] t (0, 0))
theorem Box.lt {w : World} {b : Nat} {v : Value} (h : Box w b v) : b < w.heap.size := by obtain ⟨t, h⟩ := h; exact (Array.getElem?_eq_some_iff.1 h).1
theorem Box.cell {w : World} {b : Nat} {v : Value} (h : Box w b v) : w.cell? ⟨b, 0, none⟩ = some v := by obtain ⟨t, h⟩ := h; simp [World.cell?, h]
theorem Box.frozen {w : World} {b : Nat} {v : Value} (h : Box w b v) : w.frozen? ⟨b, 0, none⟩ = false := by obtain ⟨t, h⟩ := h; simp [World.frozen?, h]
theorem Box.of_block {w w' : World} {b : Nat} {v : Value} (h : Box w b v) (e : w'.heap[b]? = w.heap[b]?) : Box w' b v := by obtain ⟨t, h⟩ := h; exact ⟨t, e.trans h⟩
theorem Box.fr {S : Nat → Prop} {w w' : World} {b : Nat} {v : Value} (h : Box w b v) (hf : Fr S w w') (hs : ¬ S b) : Box w' b v := h.of_block (hf.block b h.lt hs)
theorem Box.new (w : World) (v : Value) (t : TypeId) : Box (w.alloc (.cells #[v] t)) w.heap.size v := ⟨t, World.alloc_heap_new w _⟩
theorem Box.alloc {w : World} {b : Nat} {v : Value} (h : Box w b v) (o : Obj) : Box (w.alloc o) b v := h.of_block (Below.heap_alloc w o b h.lt)
theorem Box.set {w : World} {b : Nat} {v : Value} (h : Box w b v) (u : Value) : Box (w.setCell ⟨b, 0, none⟩ u) b u := by
 obtain ⟨t, h⟩ := h
 refine ⟨t, ?_⟩
 simp [World.setCell, Array.getElem?_modify, h]
theorem Box.setOther {w : World} {b : Nat} {v : Value} (h : Box w b v) {a : Addr} (hne : b ≠ a.block) (u : Value) : Box (w.setCell a u) b v := h.of_block (Below.heap_setCell w a u b hne)

theorem Below.keep {w w' : World} (h : Below w.heap.size w w') {p : Addr} {v : Value} (hc : w.cell? p = some v) : w'.cell? p = some v := by
 have hlt : p.block < w.heap.size := by
  rcases Nat.lt_or_ge p.block w.heap.size with h | h
  ·exact h
  ·simp [World.cell?, Array.getElem?_eq_none h] at hc
 rw [h.cell hlt]; exact hc
theorem ret_bool {a b : Bool} (h : a = b) : Ending.returned (.bool a) = .returned (.bool b) := by rw [h]
end Go.Proofs.Ytmbjfmlicffclaa

/-
  Frames without the count of draws.
-/
namespace Go.Proofs.Ytmbjfmlicffclaa
open Go.RowKit

/-- Of the blocks that were there only those in S may have turned; nothing is said of the count of draws. -/
structure Fr0 (S : Nat → Prop) (w w' : World) : Prop where
 os : w'.os = w.os
 tape : w'.tape = w.tape
 output : w'.output = w.output
 size : w.heap.size ≤ w'.heap.size
 block : ∀ k, k < w.heap.size → ¬ S k → w'.heap[k]? = w.heap[k]?
theorem Fr0.refl (S : Nat → Prop) (w : World) : Fr0 S w w := ⟨rfl, rfl, rfl, Nat.le_refl _, fun _ _ _ => rfl⟩
theorem Fr.to0 {S : Nat → Prop} {w w' : World} (h : Fr S w w') : Fr0 S w w' := ⟨h.os, h.tape, h.output, h.size, h.block⟩
theorem Fr0.trans' {S S' : Nat → Prop} {a b c : World} (h : Fr0 S a b) (k : Fr0 S' b c) (hS : ∀ k, k < a.heap.size → S' k → S k) : Fr0 S a c :=
 ⟨k.os.trans h.os, k.tape.trans h.tape, k.output.trans h.output, Nat.le_trans h.size k.size, fun i hi hs => (k.block i (Nat.lt_of_lt_of_le hi h.size) (fun x => hs (hS i hi x))).trans (h.block i hi hs)⟩
theorem Fr0.trans {S : Nat → Prop} {a b c : World} (h : Fr0 S a b) (k : Fr0 S b c) : Fr0 S a c := h.trans' k (fun _ _ h => h)
theorem Fr0.mono {S S' : Nat → Prop} {a b : World} (h : Fr0 S a b) (hS : ∀ k, k < a.heap.size → S k → S' k) : Fr0 S' a b := ⟨h.os, h.tape, h.output, h.size, fun k hk hs => h.block k hk (fun x => hs (hS k hk x))⟩
theorem Fr0.below {S : Nat → Prop} {B : Nat} {w w' : World} (h : Fr0 S w w') (hB : B ≤ w.heap.size) (hS : ∀ k, k < B → ¬ S k) : Below B w w' :=
 ⟨h.os, h.tape, h.output, h.size, fun k hk => h.block k (Nat.lt_of_lt_of_le hk hB) (hS k hk)⟩
theorem Fr0.cell {S : Nat → Prop} {w w' : World} (h : Fr0 S w w') {p : Addr} (hp : p.block < w.heap.size) (hs : ¬ S p.block) : w'.cell? p = w.cell? p := World.cell?_of_block (w := w) (h.block p.block hp hs)
theorem Fr0.later {w w' : World} (h : Fr0 none' w w') {p : Addr} {v : Value} (hc : w.cell? p = some v) : w'.cell? p = some v := by
 rw [h.cell (World.block_lt_of_cell? _ _ hc) id]; exact hc
theorem Box.fr0 {S : Nat → Prop} {w w' : World} {b : Nat} {v : Value} (h : Box w b v) (hf : Fr0 S w w') (hs : ¬ S b) : Box w' b v := h.of_block (hf.block b h.lt hs)
theorem ownsRow_fr0 {S : Nat → Prop} {w w' : World} {base : Nat} {e : TypeId} {size : Nat} {v : Value} {n : Nat} {xs : List Value} (h : w.ownsRow base e size v n xs) (hf : Fr0 S w w')
  (hs : ∀ g, v.ownBlock = some g → ¬ S g) : w'.ownsRow base e size v n xs := by
 obtain ⟨h1, h2⟩ := h
 refine ⟨h1, ?_⟩
 rcases h2 with h2 | ⟨g, cap, cur, hv, hg, hh, r⟩
 ·exact Or.inl h2
 ·refine Or.inr ⟨g, cap, cur, hv, hg, ?_, r⟩
  rw [hf.block g (Array.getElem?_eq_some_iff.1 hh).1 (hs g (by rw [hv]; rfl))]; exact hh
theorem Fr0.drew {S : Nat → Prop} {a w : World} (h : Fr0 S a w) : Fr0 S a w.drew := ⟨h.os, h.tape, h.output, h.size, h.block⟩
theorem Fr0.drewN {S : Nat → Prop} {a w : World} (h : Fr0 S a w) (n : Nat) : Fr0 S a (w.drewN n) := ⟨h.os, h.tape, h.output, h.size, h.block⟩
theorem Fr0.alloc {S : Nat → Prop} {a w : World} (h : Fr0 S a w) (o : Obj) : Fr0 S a (w.alloc o) :=
 ⟨h.os, h.tape, h.output, by have := h.size; simp; omega, fun k hk hs => (Below.heap_alloc w o k (Nat.lt_of_lt_of_le hk h.size)).trans (h.block k hk hs)⟩
theorem Fr0.setCell {S : Nat → Prop} {a w : World} (h : Fr0 S a w) {b o : Nat} (hp : b < a.heap.size → S b) (u : Value) : Fr0 S a (w.setCell ⟨b, o, none⟩ u) :=
 ⟨h.os, h.tape, h.output, by have := h.size; simp [World.setCell]; omega, fun k hk hs => (Below.heap_setCell w ⟨b, o, none⟩ u k (fun e => hs (by subst e; exact hp hk))).trans (h.block k hk hs)⟩
theorem Fr0.grown {S : Nat → Prop} {a w w' : World} {row : Option Nat} (h : Fr0 S a w) (hg : w.grownBy w' row) (hr : ∀ k, row = some k → k < a.heap.size → S k) : Fr0 S a w' :=
 ⟨hg.os.trans h.os, hg.tape.trans h.tape, hg.output.trans h.output, Nat.le_trans h.size hg.size, fun k hk hs => (hg.block k (Nat.lt_of_lt_of_le hk h.size) (fun e => hs (hr k e.symm hk))).trans (h.block k hk hs)⟩
theorem Fr0.putObj {S : Nat → Prop} {a w : World} (h : Fr0 S a w) {r : Nat} (hp : r < a.heap.size → S r) (o : Obj) : Fr0 S a (w.putObj r o) :=
 ⟨h.os, h.tape, h.output, by have := h.size; simp [World.putObj]; omega, fun k hk hs => (World.putObj_heap_other (fun e => hs (by subst e; exact hp hk))).trans (h.block k hk hs)⟩
end Go.Proofs.Ytmbjfmlicffclaa

/-
  A range over a function whose iterator gives a known list of values, may turn blocks of its own (captured variables), and reads blocks that the body keeps.
-/
namespace Go.Proofs.Ytmbjfmlicffclaa
open Go.RowKit

/-- The blocks in R are as they were. -/
def Keep (R : Nat → Prop) (w w' : World) : Prop := w.heap.size ≤ w'.heap.size ∧ ∀ k, R k → w'.heap[k]? = w.heap[k]?
theorem Keep.refl (R : Nat → Prop) (w : World) : Keep R w w := ⟨Nat.le_refl _, fun _ _ => rfl⟩
theorem Keep.trans {R : Nat → Prop} {a b c : World} (h : Keep R a b) (k : Keep R b c) : Keep R a c := ⟨Nat.le_trans h.1 k.1, fun i hi => (k.2 i hi).trans (h.2 i hi)⟩
theorem Fr.keep {S R : Nat → Prop} {w w' : World} (h : Fr S w w') (hR : ∀ k, R k → k < w.heap.size ∧ ¬ S k) : Keep R w w' := ⟨h.size, fun k hk => h.block k (hR k hk).1 (hR k hk).2⟩

/-- The iterator 'gf' with what it has captured, in w: it gives the values xs, one after the other; it turns no block but those in 'own', and it needs those in 'rd' kept. -/
def Iter {α : Type} (P : Program) (gf : Nat) (lb : Array Value) (encs : α → Array Value) (xs : List α) (own rd : Nat → Prop) (w : World) : Prop :=
 ∀ (l : Nat) (J : Nat → World → Prop) (Jx : World → Prop) (W : World), Keep rd w W →
  (∀ i W1 W2, J i W1 → Fr own W1 W2 → J i W2) → (∀ W1 W2, Jx W1 → Fr own W1 W2 → Jx W2) →
  (∀ i x W1, xs[i]? = some x → J i W1 → YieldAt Fence.wide 0 P l (encs x) W1 fun e W2 =>
   (e = .returned (.bool true) ∧ J (i + 1) W2 ∧ Keep rd W1 W2) ∨ (e = .returned (.bool false) ∧ Jx W2)) →
  J 0 W →
  CallsIn Fence.wide 0 P gf (#[.func (.yield l) #[] #[]] ++ lb) W fun e W' => (∃ v, e = .returned v) ∧ (J xs.length W' ∨ Jx W')

/-- How a round's body may be left. -/
def iterPost (S : Nat → Prop) (I : Nat → World → Prop) (Ix : Code → World → Prop) (i : Nat) (W : World) : Exit → Act → World → Prop
 | .normal, _, W' => ∃ S', Fr S' W W' ∧ (∀ k, S' k → S k → False) ∧ I i W'
 | .ret, _, W' => ∃ S', Fr S' W W' ∧ (∀ k, S' k → S k → False) ∧ Ix .ret W'
 | .exit id, _, W' => ∃ S', Fr S' W W' ∧ (∀ k, S' k → S k → False) ∧ Ix (.exit id) W'
 | .goto t, _, W' => ∃ S', Fr S' W W' ∧ (∀ k, S' k → S k → False) ∧ Ix (.goto t) W'
 | .panic _, _, _ => False
 | .outgrown, _, _ => False

variable {P : Program}

theorem Fr.putNew {a : World} {S : Nat → Prop} (r : Nat) (o : Obj) (hp : S r) : Fr S a (a.putObj r o) := (Fr.refl S a).putObj (fun _ => hp) o

theorem wide_fn (k : Nat) : Fence.wide.fn k = True := rfl
theorem wide_depth : Fence.wide.depth = none := rfl
theorem wide_fnR (l k : Nat) : (Fence.wide.inRound l).fn k = True := rfl
theorem wide_depthR (l : Nat) : (Fence.wide.inRound l).depth = none := rfl
end Go.Proofs.Ytmbjfmlicffclaa

/-
  A range over a function whose iterator keeps blocks of its own that it makes while it runs.
-/
namespace Go.Proofs.Ytmbjfmlicffclaa
open Go.RowKit

/-- Like Iter; the iterator may have blocks of its own, X, made since it was called; the body keeps them. -/
def IterX {α : Type} (P : Program) (gf : Nat) (lb : Array Value) (encs : α → Array Value) (xs : List α) (own rd : Nat → Prop) (w : World) : Prop :=
 ∀ (l : Nat) (J : Nat → (Nat → Prop) → World → Prop) (Jx : World → Prop) (W : World), Keep rd w W →
  (∀ i X Y W1 W2, J i X W1 → Fr (fun k => own k ∨ X k) W1 W2 → (∀ k, Y k → X k ∨ (W1.heap.size ≤ k ∧ k < W2.heap.size)) → J i Y W2) →
  (∀ W1 W2, Jx W1 → Fr own W1 W2 → Jx W2) →
  (∀ i x X W1, xs[i]? = some x → J i X W1 → YieldAt Fence.wide 0 P l (encs x) W1 fun e W2 =>
   (e = .returned (.bool true) ∧ J (i + 1) X W2 ∧ Keep (fun k => rd k ∨ X k) W1 W2) ∨ (e = .returned (.bool false) ∧ Jx W2)) →
  J 0 none' W →
  CallsIn Fence.wide 0 P gf (#[.func (.yield l) #[] #[]] ++ lb) W fun e W' => (∃ v, e = .returned v) ∧ ((∃ X, J xs.length X W') ∨ Jx W')
theorem Iter.x {α : Type} {P : Program} {gf : Nat} {lb : Array Value} {encs : α → Array Value} {xs : List α} {own rd : Nat → Prop} {w : World} (h : Iter P gf lb encs xs own rd w) : IterX P gf lb encs xs own rd w := by
 intro l J Jx W hK hJ hJx hY h0
 refine CallsIn.mono (h l (fun i W => J i none' W) Jx W hK (fun i W1 W2 h1 hf => hJ i none' none' W1 W2 h1 (hf.mono (fun k _ h => .inl h)) (fun k hk => hk.elim)) hJx (fun i x W1 hx h1 => ?_) h0) ?_
 ·obtain ⟨fn, tmps, assign, body, hy, hR⟩ := hY i x none' W1 hx h1
  refine ⟨fn, tmps, assign, body, hy, hR.mono ?_⟩
  rintro e W2 (⟨rfl, h2, hk⟩ | h2)
  ·exact .inl ⟨rfl, h2, hk.1, fun k hr => hk.2 k (.inl hr)⟩
  ·exact .inr h2
 ·rintro e W' ⟨hv, h1 | h1⟩
  ·exact ⟨hv, .inl ⟨_, h1⟩⟩
  ·exact ⟨hv, .inr h1⟩

variable {P : Program}

/-- THE LAW. 'I i W': i values have come. It must outlive turns of 'own' and of the loop's two blocks. The body must turn none of 'rd' and none of the loop's two blocks. -/
theorem wpIn_iterX {α : Type} {g : Operand} {ps : Array Tmp} {assign body : Code} {Q : Exit → Act → World → Prop} {a : Act} {w : World}
  {gf : Nat} {lb : Array Value} (hg : a.eval g = .func (.func gf) #[] lb) (eg : ∀ args w, (callFunc gf args).run P w = .ok (.enter gf args) w)
  {encs : α → Array Value} {xs : List α} {own rd : Nat → Prop} {w0 : World} (hseq : IterX P gf lb encs xs own rd w0) (hb0 : Keep rd w0 w) (hps : ∀ x, (encs x).size = ps.size)
  (hown : ∀ k, own k → k < w.heap.size) (hrd : ∀ k, rd k → k < w.heap.size)
  (I : Nat → (Nat → Prop) → World → Prop) (Ix : Code → World → Prop)
  (hI : ∀ i X Y W1 W2, I i X W1 → (∀ k, X k → w.heap.size + 1 < k ∧ k < W1.heap.size) → Fr (fun k => own k ∨ X k ∨ k = w.heap.size ∨ k = w.heap.size + 1) W1 W2 → (∀ k, Y k → X k ∨ (W1.heap.size ≤ k ∧ k < W2.heap.size)) → I i Y W2)
  (hIx : ∀ c W1 W2, Ix c W1 → Fr (fun k => own k ∨ k = w.heap.size ∨ k = w.heap.size + 1) W1 W2 → Ix c W2) (h0 : I 0 none' w) (a₁ : α → World → Act → Prop)
  (hassign : ∀ (l : Nat) (x : α) (W : World) (K : Act → World → Prop), w.heap.size + 1 < W.heap.size → (∀ a' W', a₁ x W' a' → Fr none' W W' → K a' W') →
   assign.wpIn (Fence.wide.inRound l) 0 P (Exit.then K (fun _ _ _ => False)) { tmps := (ps.zip (encs x)).foldl (fun t (p, v) => t.setIfInBounds p v) a.tmps, defers := [] } W)
  (ha₁ : ∀ x W1 W2 a', a₁ x W1 a' → Fr (fun k => k = w.heap.size + 1) W1 W2 → a₁ x W2 a')
  (hbody : ∀ (l i : Nat) (x : α) (X : Nat → Prop) (W : World) (a' : Act) (r : Loop), xs[i]? = some x → I i X W → (∀ k, X k → w.heap.size + 1 < k ∧ k < W.heap.size) → a₁ x W a' → W.heap[w.heap.size]? = some (.deferred (some [])) → W.heap[w.heap.size + 1]? = some (.loop r) →
   body.wpIn (Fence.wide.inRound l) 0 P (iterPost (fun k => rd k ∨ X k ∨ k = w.heap.size ∨ k = w.heap.size + 1) (fun i => I i X) Ix (i + 1) W) a' W)
  (hdone : ∀ (D : Nat) (X : Nat → Prop) (W : World), D = w.heap.size → I xs.length X W → W.heap[D]? = some (.deferred (some [])) → Q .normal { a with defers := { target := .collected D, args := #[] } :: a.defers } W)
  (hstop : ∀ (D : Nat) (c : Code) (W : World), D = w.heap.size → Ix c W → W.heap[D]? = some (.deferred (some [])) → c.wpIn Fence.wide 0 P Q { a with defers := { target := .collected D, args := #[] } :: a.defers } W) :
  (Code.rangeFunc g ps assign body).wpIn Fence.wide 0 P Q a w := by
 refine wpIn_rangeFunc ?_
 intro fn hfn
 obtain ⟨rec, hrec⟩ : ∃ rec : LoopState → Option Code → Loop, rec = fun st pe => { state := st, pending := pe, fn, tmps := a.tmps, params := ps, assign, body, defers := w.heap.size } := ⟨_, rfl⟩
 obtain ⟨B, hB⟩ : ∃ B, w.heap.size = B := ⟨_, rfl⟩
 obtain ⟨W1, hW1⟩ : ∃ W1, (w.alloc (.deferred (some []))).alloc (.loop (rec .ready none)) = W1 := ⟨_, rfl⟩
 have hf1 : Fr none' w W1 := by rw [← hW1]; exact ((Fr.refl _ _).alloc _).alloc _
 have hL1 : W1.heap[B + 1]? = some (.loop (rec .ready none)) := by
  rw [← hW1, ← hB]; have := World.alloc_heap_new (w.alloc (.deferred (some []))) (.loop (rec .ready none)); rwa [World.size_alloc] at this
 have hK1 : W1.heap[B]? = some (.deferred (some [])) := by
  rw [← hW1, ← hB]; exact (Below.heap_alloc _ _ _ (by simp)).trans (World.alloc_heap_new w _)
 rw [hB] at hI hIx hbody hdone hstop hassign ha₁ hown hrd
 have hI1 : I 0 none' W1 := hI _ _ none' _ _ h0 (fun k h => h.elim) (hf1.mono (fun k _ h => h.elim)) (fun k h => h.elim)
 refine ⟨B + 1, [{ target := .collected B, args := #[] }], W1, { target := .fn (.func gf) lb, args := #[.func (.yield (B + 1)) #[] #[]] }, W1, gf,
  #[.func (.yield (B + 1)) #[] #[]] ++ lb, W1, ?_, ?_, fun _ _ => trivial, ?_, fun h => by simp [Fence.wide] at h, ?_⟩
 ·have := run_enterLoop_outer (P := P) (w := w) fn a.tmps ps assign body
  rw [← hW1, hrec]
  simp only [hB] at this ⊢
  exact this
 ·simp only [resolve, hg]
  simp [go_sem]
 ·simp [invoke, go_sem, eg]
 ·refine CallsIn.mono ((hseq (B + 1)
   (fun i X W => I i X W ∧ (∀ k, X k → B + 1 < k ∧ k < W.heap.size) ∧ W.heap[B + 1]? = some (.loop (rec .ready none)) ∧ W.heap[B]? = some (.deferred (some [])))
   (fun W => ∃ c, Ix c W ∧ W.heap[B + 1]? = some (.loop (rec .done (some c))) ∧ W.heap[B]? = some (.deferred (some [])))
   W1 (hb0.trans (hf1.keep (fun k hk => ⟨by rw [hB]; exact hrd k hk, id⟩)))
   ?_ ?_ ?_ ⟨hI1, fun k h => h.elim, hL1, hK1⟩)) ?_
  ·rintro i X Y A C ⟨hi, hX, hl, hk⟩ hf hY
   have l1 := (Array.getElem?_eq_some_iff.1 hl).1
   have l2 := hf.size
   refine ⟨hI i X Y A C hi hX (hf.mono (fun k _ h => h.elim .inl (fun h => .inr (.inl h)))) hY, fun k hk => ?_, (hf.block _ l1 (fun h => ?_)).trans hl, (hf.block _ (by omega) (fun h => ?_)).trans hk⟩
   ·rcases hY k hk with h | h
    ·have := hX k h; omega
    ·omega
   ·rcases h with h | h
    ·have := hown _ h; omega
    ·have := hX _ h; omega
   ·rcases h with h | h
    ·have := hown _ h; omega
    ·have := hX _ h; omega
  ·rintro A C ⟨c, hi, hl, hk⟩ hf
   have l1 := (Array.getElem?_eq_some_iff.1 hl).1
   exact ⟨c, hIx c A C hi (hf.mono (fun k _ h => .inl h)), (hf.block _ l1 (fun h => by have := hown _ h; omega)).trans hl, (hf.block _ (by omega) (fun h => by have := hown _ h; omega)).trans hk⟩
  ·rintro i x X W hx ⟨hi, hX, hl, hk⟩
   have hlt : B + 1 < W.heap.size := (Array.getElem?_eq_some_iff.1 hl).1
   have hy := run_yield (P := P) (args := encs x) hl (by rw [hrec]; exact hps x)
   rw [hrec] at hy
   refine ⟨fn, _, assign, body, hy, roundIn_of_wpIn (n := 0) hfn (hassign _ x W _ hlt ?_)⟩
   intro a' W' ha' hf'
   have hl' : W'.heap[B + 1]? = some (.loop (rec .ready none)) := (hf'.block _ hlt id).trans hl
   have hk' : W'.heap[B]? = some (.deferred (some [])) := (hf'.block _ (by omega) id).trans hk
   have hlt' : B + 1 < W'.heap.size := (Array.getElem?_eq_some_iff.1 hl').1
   refine ⟨_, run_beginRound hl' (by rw [hrec]), ?_⟩
   obtain ⟨W2, hW2⟩ : ∃ W2, W'.putObj (B + 1) (.loop { rec .ready none with state := .busy }) = W2 := ⟨_, rfl⟩
   have hf2 : Fr (fun k => k = B + 1) W' W2 := by rw [← hW2]; exact Fr.putNew _ _ rfl
   have hl2 : W2.heap[B + 1]? = some (.loop { rec .ready none with state := .busy }) := by rw [← hW2]; exact World.putObj_heap_same hlt'
   have hk2 : W2.heap[B]? = some (.deferred (some [])) := (hf2.block _ (by omega) (by omega)).trans hk'
   rw [hW2]
   have hX' : ∀ k, X k → B + 1 < k ∧ k < W'.heap.size := fun k hk => ⟨(hX k hk).1, Nat.lt_of_lt_of_le (hX k hk).2 hf'.size⟩
   have hX2 : ∀ k, X k → B + 1 < k ∧ k < W2.heap.size := fun k hk => ⟨(hX k hk).1, Nat.lt_of_lt_of_le (hX' k hk).2 hf2.size⟩
   have hi2 : I i X W2 := hI _ _ _ _ _ (hI _ _ _ _ _ hi hX (hf'.mono (fun k _ h => h.elim)) (fun k h => .inl h)) hX' (hf2.mono (fun k _ h => .inr (.inr (.inr h)))) (fun k h => .inl h)
   have hrx : ∀ k, (rd k ∨ X k) → k < W.heap.size ∧ k ≠ B ∧ k ≠ B + 1 := fun k h => by
    rcases h with h | h
    ·have := hrd k h; omega
    ·have := hX k h; omega
   have z1 := hf'.size
   have z2 := hf2.size
   have kW2 : Keep (fun k => rd k ∨ X k) W W2 := (hf'.keep (fun k hk => ⟨(hrx k hk).1, id⟩)).trans (hf2.keep (fun k hk => ⟨by have := hrx k hk; omega, (hrx k hk).2.2⟩))
   refine wpIn_mono (hbody _ i x X W2 a' _ hx hi2 hX2 (ha₁ _ _ _ _ ha' hf2) hk2 hl2) ?_
   have fin : ∀ (jump : Option Code) (W3 : World) (S' : Nat → Prop), Fr S' W2 W3 → (∀ k, S' k → (rd k ∨ X k ∨ k = B ∨ k = B + 1) → False) →
     (Instr.endRound (B + 1) jump).run P W3 = .ok (.bool jump.isNone) (W3.putObj (B + 1) (.loop (rec (if jump.isNone then .ready else .done) jump))) ∧
     (W3.putObj (B + 1) (.loop (rec (if jump.isNone then .ready else .done) jump))).heap[B + 1]? = some (.loop (rec (if jump.isNone then .ready else .done) jump)) ∧
     (W3.putObj (B + 1) (.loop (rec (if jump.isNone then .ready else .done) jump))).heap[B]? = some (.deferred (some [])) ∧
     Fr (fun k => own k ∨ k = B ∨ k = B + 1) W3 (W3.putObj (B + 1) (.loop (rec (if jump.isNone then .ready else .done) jump))) ∧
     Keep (fun k => rd k ∨ X k) W (W3.putObj (B + 1) (.loop (rec (if jump.isNone then .ready else .done) jump))) := by
    intro jump W3 S' hf3 hS'
    have l2 := (Array.getElem?_eq_some_iff.1 hl2).1
    have hl3 := (hf3.block _ l2 (fun h => hS' _ h (.inr (.inr (.inr rfl))))).trans hl2
    have hk3 := (hf3.block _ (by omega) (fun h => hS' _ h (.inr (.inr (.inl rfl))))).trans hk2
    have l3 := (Array.getElem?_eq_some_iff.1 hl3).1
    have := run_endRound (P := P) jump hl3
    rw [hrec] at this ⊢
    refine ⟨this, World.putObj_heap_same l3, (World.putObj_heap_other (by omega)).trans hk3, Fr.putNew _ _ (.inr (.inr rfl)), ?_⟩
    have z3 := hf3.size
    refine (kW2.trans (hf3.keep (fun k hk => ⟨by have := hrx k hk; omega, fun h => hS' _ h (hk.elim .inl (fun h => .inr (.inl h)))⟩))).trans ?_
    exact (Fr.putNew (S := fun k => k = B + 1) _ _ rfl).keep (fun k hk => ⟨by have := hrx k hk; omega, (hrx k hk).2.2⟩)
   rintro e a3 W3 hp
   cases e with
   | normal =>
    obtain ⟨S', hf3, hS', hi3⟩ := hp
    obtain ⟨hr, hl4, hk4, hf4, hk5⟩ := fin none W3 S' hf3 hS'
    have z3 := hf3.size
    have z4 := hf4.size
    exact ⟨_, _, hr, .inl ⟨rfl, ⟨hI _ _ _ _ _ hi3 (fun k hk => ⟨(hX k hk).1, by have := hX2 k hk; omega⟩) (hf4.mono (fun k _ h => h.elim .inl (fun h => .inr (.inr h)))) (fun k h => .inl h), fun k hk => ⟨(hX k hk).1, by have := hX2 k hk; omega⟩, hl4, hk4⟩, hk5⟩⟩
   | ret =>
    obtain ⟨S', hf3, hS', hi3⟩ := hp
    obtain ⟨hr, hl4, hk4, hf4, hk5⟩ := fin (some .ret) W3 S' hf3 hS'
    exact ⟨_, _, hr, .inr ⟨rfl, .ret, hIx _ _ _ hi3 hf4, hl4, hk4⟩⟩
   | exit id =>
    obtain ⟨S', hf3, hS', hi3⟩ := hp
    obtain ⟨hr, hl4, hk4, hf4, hk5⟩ := fin (some (.exit id)) W3 S' hf3 hS'
    exact ⟨_, _, hr, .inr ⟨rfl, .exit id, hIx _ _ _ hi3 hf4, hl4, hk4⟩⟩
   | goto t =>
    obtain ⟨S', hf3, hS', hi3⟩ := hp
    obtain ⟨hr, hl4, hk4, hf4, hk5⟩ := fin (some (.goto t)) W3 S' hf3 hS'
    exact ⟨_, _, hr, .inr ⟨rfl, .goto t, hIx _ _ _ hi3 hf4, hl4, hk4⟩⟩
   | panic ch => exact hp.elim
   | outgrown => exact hp.elim
  ·rintro e W2 ⟨⟨v, rfl⟩, (⟨X, hi, hX, hl, hk⟩ | ⟨c, hi, hl, hk⟩)⟩
   ·exact ⟨none, _, by have := run_endLoop (P := P) hl (by rw [hrec]; simp); rw [hrec] at this; exact this, hdone _ X _ rfl (hI _ _ _ _ _ hi hX (Fr.putNew _ _ (.inr (.inr (.inr rfl)))) (fun k h => .inl h)) ((World.putObj_heap_other (by omega)).trans hk)⟩
   ·exact ⟨some c, _, by have := run_endLoop (P := P) hl (by rw [hrec]; simp); rw [hrec] at this; exact this, hstop _ c _ rfl (hIx c _ _ hi (Fr.putNew _ _ (.inr (.inr rfl)))) ((World.putObj_heap_other (by omega)).trans hk)⟩

/-- Marks of ranges that have ended. -/
def mark' (D : Nat) : Deferred := { target := .collected D, args := #[] }
def Marks (B : Nat) (ds : List Deferred) (w : World) : Prop := ∃ Ds : List Nat, ds = Ds.map mark' ∧ Ds.Nodup ∧ ∀ D ∈ Ds, B ≤ D ∧ w.heap[D]? = some (.deferred (some []))
theorem Marks.nil (B : Nat) (w : World) : Marks B [] w := ⟨[], rfl, List.nodup_nil, fun _ h => by cases h⟩
theorem Marks.fr {B : Nat} {ds : List Deferred} {S : Nat → Prop} {w w' : World} (h : Marks B ds w) (hf : Fr S w w') (hS : ∀ k, S k → k < w.heap.size → k < B) : Marks B ds w' := by
 obtain ⟨Ds, h1, h2, h3⟩ := h
 refine ⟨Ds, h1, h2, fun D hD => ⟨(h3 D hD).1, ?_⟩⟩
 have hlt := (Array.getElem?_eq_some_iff.1 (h3 D hD).2).1
 exact (hf.block D hlt (fun hs => by have := hS D hs hlt; have := (h3 D hD).1; omega)).trans (h3 D hD).2
/-- One mark more. -/
theorem Marks.cons {B : Nat} {ds : List Deferred} {S : Nat → Prop} {w w' : World} {D : Nat} (h : Marks B ds w) (hf : Fr S w w') (hS : ∀ k, S k → k < w.heap.size → k < B) (hB : B ≤ D) (hD : w.heap.size ≤ D) (hd : w'.heap[D]? = some (.deferred (some []))) :
  Marks B ({ target := .collected D, args := #[] } :: ds) w' := by
 obtain ⟨Ds, h1, h2, h3⟩ := h.fr hf hS
 obtain ⟨Es, g1, g2, g3⟩ := h
 have hE : Es = Ds := by
  have hinj : ∀ {x y : Nat}, mark' x = mark' y → x = y := fun {x y} e => by
   have := congrArg Deferred.target e
   simp [mark'] at this; exact this
  rw [h1] at g1
  clear h1 h2 h3 g2 g3 hf hd
  induction Ds generalizing Es with
  | nil => cases Es with
   | nil => rfl
   | cons x r => simp at g1
  | cons y t ih => cases Es with
   | nil => simp at g1
   | cons x r =>
    simp only [List.map_cons, List.cons.injEq] at g1
    rw [ih r g1.2, hinj g1.1]
 refine ⟨D :: Ds, by rw [List.map_cons, ← h1]; rfl, List.nodup_cons.2 ⟨fun hm => ?_, h2⟩, fun E hE' => ?_⟩
 ·have := (Array.getElem?_eq_some_iff.1 (g3 D (hE ▸ hm)).2).1
  omega
 ·rcases List.mem_cons.1 hE' with rfl | hE'
  ·exact ⟨hB, hd⟩
  ·exact h3 E hE'
end Go.Proofs.Ytmbjfmlicffclaa

/-
  Ranges over functions, with frames that do not speak of the count of draws.
-/
namespace Go.Proofs.Ytmbjfmlicffclaa
open Go.RowKit

theorem Fr0.keep {S R : Nat → Prop} {w w' : World} (h : Fr0 S w w') (hR : ∀ k, R k → k < w.heap.size ∧ ¬ S k) : Keep R w w' := ⟨h.size, fun k hk => h.block k (hR k hk).1 (hR k hk).2⟩
theorem Fr0.putNew {a : World} {S : Nat → Prop} (r : Nat) (o : Obj) (hp : S r) : Fr0 S a (a.putObj r o) := (Fr0.refl S a).putObj (fun _ => hp) o

/-- Like Iter; the iterator may have blocks of its own, X, made since it was called; the body keeps them. -/
def IterX0 {α : Type} (P : Program) (gf : Nat) (lb : Array Value) (encs : α → Array Value) (xs : List α) (own rd : Nat → Prop) (w : World) : Prop :=
 ∀ (l : Nat) (J : Nat → (Nat → Prop) → World → Prop) (Jx : World → Prop) (W : World), Keep rd w W →
  (∀ i X Y W1 W2, J i X W1 → Fr0 (fun k => own k ∨ X k) W1 W2 → (∀ k, Y k → X k ∨ (W1.heap.size ≤ k ∧ k < W2.heap.size)) → J i Y W2) →
  (∀ W1 W2, Jx W1 → Fr0 own W1 W2 → Jx W2) →
  (∀ i x X W1, xs[i]? = some x → J i X W1 → YieldAt Fence.wide 0 P l (encs x) W1 fun e W2 =>
   (e = .returned (.bool true) ∧ J (i + 1) X W2 ∧ Keep (fun k => rd k ∨ X k) W1 W2) ∨ (e = .returned (.bool false) ∧ Jx W2)) →
  J 0 none' W →
  CallsIn Fence.wide 0 P gf (#[.func (.yield l) #[] #[]] ++ lb) W fun e W' => (∃ v, e = .returned v) ∧ ((∃ X, J xs.length X W') ∨ Jx W')
/-- How a round's body may be left. -/
def iterPost0 (S : Nat → Prop) (I : Nat → World → Prop) (Ix : Code → World → Prop) (i : Nat) (W : World) : Exit → Act → World → Prop
 | .normal, _, W' => ∃ S', Fr0 S' W W' ∧ (∀ k, S' k → S k → False) ∧ I i W'
 | .ret, _, W' => ∃ S', Fr0 S' W W' ∧ (∀ k, S' k → S k → False) ∧ Ix .ret W'
 | .exit id, _, W' => ∃ S', Fr0 S' W W' ∧ (∀ k, S' k → S k → False) ∧ Ix (.exit id) W'
 | .goto t, _, W' => ∃ S', Fr0 S' W W' ∧ (∀ k, S' k → S k → False) ∧ Ix (.goto t) W'
 | .panic _, _, _ => False
 | .outgrown, _, _ => False

variable {P : Program}

/-- THE LAW. 'I i W': i values have come. It must outlive turns of 'own' and of the loop's two blocks. The body must turn none of 'rd' and none of the loop's two blocks. -/
theorem wpIn_iterX0 {α : Type} {g : Operand} {ps : Array Tmp} {assign body : Code} {Q : Exit → Act → World → Prop} {a : Act} {w : World}
  {gf : Nat} {lb : Array Value} (hg : a.eval g = .func (.func gf) #[] lb) (eg : ∀ args w, (callFunc gf args).run P w = .ok (.enter gf args) w)
  {encs : α → Array Value} {xs : List α} {own rd : Nat → Prop} {w0 : World} (hseq : IterX0 P gf lb encs xs own rd w0) (hb0 : Keep rd w0 w) (hps : ∀ x, (encs x).size = ps.size)
  (hown : ∀ k, own k → k < w.heap.size) (hrd : ∀ k, rd k → k < w.heap.size)
  (I : Nat → (Nat → Prop) → World → Prop) (Ix : Code → World → Prop)
  (hI : ∀ i X Y W1 W2, I i X W1 → (∀ k, X k → w.heap.size + 1 < k ∧ k < W1.heap.size) → Fr0 (fun k => own k ∨ X k ∨ k = w.heap.size ∨ k = w.heap.size + 1) W1 W2 → (∀ k, Y k → X k ∨ (W1.heap.size ≤ k ∧ k < W2.heap.size)) → I i Y W2)
  (hIx : ∀ c W1 W2, Ix c W1 → Fr0 (fun k => own k ∨ k = w.heap.size ∨ k = w.heap.size + 1) W1 W2 → Ix c W2) (h0 : I 0 none' w) (a₁ : α → World → Act → Prop)
  (hassign : ∀ (l : Nat) (x : α) (W : World) (K : Act → World → Prop), w.heap.size + 1 < W.heap.size → (∀ a' W', a₁ x W' a' → Fr0 none' W W' → K a' W') →
   assign.wpIn (Fence.wide.inRound l) 0 P (Exit.then K (fun _ _ _ => False)) { tmps := (ps.zip (encs x)).foldl (fun t (p, v) => t.setIfInBounds p v) a.tmps, defers := [] } W)
  (ha₁ : ∀ x W1 W2 a', a₁ x W1 a' → Fr0 (fun k => k = w.heap.size + 1) W1 W2 → a₁ x W2 a')
  (hbody : ∀ (l i : Nat) (x : α) (X : Nat → Prop) (W : World) (a' : Act) (r : Loop), xs[i]? = some x → I i X W → (∀ k, X k → w.heap.size + 1 < k ∧ k < W.heap.size) → a₁ x W a' → W.heap[w.heap.size]? = some (.deferred (some [])) → W.heap[w.heap.size + 1]? = some (.loop r) →
   body.wpIn (Fence.wide.inRound l) 0 P (iterPost0 (fun k => rd k ∨ X k ∨ k = w.heap.size ∨ k = w.heap.size + 1) (fun i => I i X) Ix (i + 1) W) a' W)
  (hdone : ∀ (D : Nat) (X : Nat → Prop) (W : World), D = w.heap.size → I xs.length X W → W.heap[D]? = some (.deferred (some [])) → Q .normal { a with defers := { target := .collected D, args := #[] } :: a.defers } W)
  (hstop : ∀ (D : Nat) (c : Code) (W : World), D = w.heap.size → Ix c W → W.heap[D]? = some (.deferred (some [])) → c.wpIn Fence.wide 0 P Q { a with defers := { target := .collected D, args := #[] } :: a.defers } W) :
  (Code.rangeFunc g ps assign body).wpIn Fence.wide 0 P Q a w := by
 refine wpIn_rangeFunc ?_
 intro fn hfn
 obtain ⟨rec, hrec⟩ : ∃ rec : LoopState → Option Code → Loop, rec = fun st pe => { state := st, pending := pe, fn, tmps := a.tmps, params := ps, assign, body, defers := w.heap.size } := ⟨_, rfl⟩
 obtain ⟨B, hB⟩ : ∃ B, w.heap.size = B := ⟨_, rfl⟩
 obtain ⟨W1, hW1⟩ : ∃ W1, (w.alloc (.deferred (some []))).alloc (.loop (rec .ready none)) = W1 := ⟨_, rfl⟩
 have hf1 : Fr0 none' w W1 := by rw [← hW1]; exact ((Fr0.refl _ _).alloc _).alloc _
 have hL1 : W1.heap[B + 1]? = some (.loop (rec .ready none)) := by
  rw [← hW1, ← hB]; have := World.alloc_heap_new (w.alloc (.deferred (some []))) (.loop (rec .ready none)); rwa [World.size_alloc] at this
 have hK1 : W1.heap[B]? = some (.deferred (some [])) := by
  rw [← hW1, ← hB]; exact (Below.heap_alloc _ _ _ (by simp)).trans (World.alloc_heap_new w _)
 rw [hB] at hI hIx hbody hdone hstop hassign ha₁ hown hrd
 have hI1 : I 0 none' W1 := hI _ _ none' _ _ h0 (fun k h => h.elim) (hf1.mono (fun k _ h => h.elim)) (fun k h => h.elim)
 refine ⟨B + 1, [{ target := .collected B, args := #[] }], W1, { target := .fn (.func gf) lb, args := #[.func (.yield (B + 1)) #[] #[]] }, W1, gf,
  #[.func (.yield (B + 1)) #[] #[]] ++ lb, W1, ?_, ?_, fun _ _ => trivial, ?_, fun h => by simp [Fence.wide] at h, ?_⟩
 ·have := run_enterLoop_outer (P := P) (w := w) fn a.tmps ps assign body
  rw [← hW1, hrec]
  simp only [hB] at this ⊢
  exact this
 ·simp only [resolve, hg]
  simp [go_sem]
 ·simp [invoke, go_sem, eg]
 ·refine CallsIn.mono ((hseq (B + 1)
   (fun i X W => I i X W ∧ (∀ k, X k → B + 1 < k ∧ k < W.heap.size) ∧ W.heap[B + 1]? = some (.loop (rec .ready none)) ∧ W.heap[B]? = some (.deferred (some [])))
   (fun W => ∃ c, Ix c W ∧ W.heap[B + 1]? = some (.loop (rec .done (some c))) ∧ W.heap[B]? = some (.deferred (some [])))
   W1 (hb0.trans (hf1.keep (fun k hk => ⟨by rw [hB]; exact hrd k hk, id⟩)))
   ?_ ?_ ?_ ⟨hI1, fun k h => h.elim, hL1, hK1⟩)) ?_
  ·rintro i X Y A C ⟨hi, hX, hl, hk⟩ hf hY
   have l1 := (Array.getElem?_eq_some_iff.1 hl).1
   have l2 := hf.size
   refine ⟨hI i X Y A C hi hX (hf.mono (fun k _ h => h.elim .inl (fun h => .inr (.inl h)))) hY, fun k hk => ?_, (hf.block _ l1 (fun h => ?_)).trans hl, (hf.block _ (by omega) (fun h => ?_)).trans hk⟩
   ·rcases hY k hk with h | h
    ·have := hX k h; omega
    ·omega
   ·rcases h with h | h
    ·have := hown _ h; omega
    ·have := hX _ h; omega
   ·rcases h with h | h
    ·have := hown _ h; omega
    ·have := hX _ h; omega
  ·rintro A C ⟨c, hi, hl, hk⟩ hf
   have l1 := (Array.getElem?_eq_some_iff.1 hl).1
   exact ⟨c, hIx c A C hi (hf.mono (fun k _ h => .inl h)), (hf.block _ l1 (fun h => by have := hown _ h; omega)).trans hl, (hf.block _ (by omega) (fun h => by have := hown _ h; omega)).trans hk⟩
  ·rintro i x X W hx ⟨hi, hX, hl, hk⟩
   have hlt : B + 1 < W.heap.size := (Array.getElem?_eq_some_iff.1 hl).1
   have hy := run_yield (P := P) (args := encs x) hl (by rw [hrec]; exact hps x)
   rw [hrec] at hy
   refine ⟨fn, _, assign, body, hy, roundIn_of_wpIn (n := 0) hfn (hassign _ x W _ hlt ?_)⟩
   intro a' W' ha' hf'
   have hl' : W'.heap[B + 1]? = some (.loop (rec .ready none)) := (hf'.block _ hlt id).trans hl
   have hk' : W'.heap[B]? = some (.deferred (some [])) := (hf'.block _ (by omega) id).trans hk
   have hlt' : B + 1 < W'.heap.size := (Array.getElem?_eq_some_iff.1 hl').1
   refine ⟨_, run_beginRound hl' (by rw [hrec]), ?_⟩
   obtain ⟨W2, hW2⟩ : ∃ W2, W'.putObj (B + 1) (.loop { rec .ready none with state := .busy }) = W2 := ⟨_, rfl⟩
   have hf2 : Fr0 (fun k => k = B + 1) W' W2 := by rw [← hW2]; exact Fr0.putNew _ _ rfl
   have hl2 : W2.heap[B + 1]? = some (.loop { rec .ready none with state := .busy }) := by rw [← hW2]; exact World.putObj_heap_same hlt'
   have hk2 : W2.heap[B]? = some (.deferred (some [])) := (hf2.block _ (by omega) (by omega)).trans hk'
   rw [hW2]
   have hX' : ∀ k, X k → B + 1 < k ∧ k < W'.heap.size := fun k hk => ⟨(hX k hk).1, Nat.lt_of_lt_of_le (hX k hk).2 hf'.size⟩
   have hX2 : ∀ k, X k → B + 1 < k ∧ k < W2.heap.size := fun k hk => ⟨(hX k hk).1, Nat.lt_of_lt_of_le (hX' k hk).2 hf2.size⟩
   have hi2 : I i X W2 := hI _ _ _ _ _ (hI _ _ _ _ _ hi hX (hf'.mono (fun k _ h => h.elim)) (fun k h => .inl h)) hX' (hf2.mono (fun k _ h => .inr (.inr (.inr h)))) (fun k h => .inl h)
   have hrx : ∀ k, (rd k ∨ X k) → k < W.heap.size ∧ k ≠ B ∧ k ≠ B + 1 := fun k h => by
    rcases h with h | h
    ·have := hrd k h; omega
    ·have := hX k h; omega
   have z1 := hf'.size
   have z2 := hf2.size
   have kW2 : Keep (fun k => rd k ∨ X k) W W2 := (hf'.keep (fun k hk => ⟨(hrx k hk).1, id⟩)).trans (hf2.keep (fun k hk => ⟨by have := hrx k hk; omega, (hrx k hk).2.2⟩))
   refine wpIn_mono (hbody _ i x X W2 a' _ hx hi2 hX2 (ha₁ _ _ _ _ ha' hf2) hk2 hl2) ?_
   have fin : ∀ (jump : Option Code) (W3 : World) (S' : Nat → Prop), Fr0 S' W2 W3 → (∀ k, S' k → (rd k ∨ X k ∨ k = B ∨ k = B + 1) → False) →
     (Instr.endRound (B + 1) jump).run P W3 = .ok (.bool jump.isNone) (W3.putObj (B + 1) (.loop (rec (if jump.isNone then .ready else .done) jump))) ∧
     (W3.putObj (B + 1) (.loop (rec (if jump.isNone then .ready else .done) jump))).heap[B + 1]? = some (.loop (rec (if jump.isNone then .ready else .done) jump)) ∧
     (W3.putObj (B + 1) (.loop (rec (if jump.isNone then .ready else .done) jump))).heap[B]? = some (.deferred (some [])) ∧
     Fr0 (fun k => own k ∨ k = B ∨ k = B + 1) W3 (W3.putObj (B + 1) (.loop (rec (if jump.isNone then .ready else .done) jump))) ∧
     Keep (fun k => rd k ∨ X k) W (W3.putObj (B + 1) (.loop (rec (if jump.isNone then .ready else .done) jump))) := by
    intro jump W3 S' hf3 hS'
    have l2 := (Array.getElem?_eq_some_iff.1 hl2).1
    have hl3 := (hf3.block _ l2 (fun h => hS' _ h (.inr (.inr (.inr rfl))))).trans hl2
    have hk3 := (hf3.block _ (by omega) (fun h => hS' _ h (.inr (.inr (.inl rfl))))).trans hk2
    have l3 := (Array.getElem?_eq_some_iff.1 hl3).1
    have := run_endRound (P := P) jump hl3
    rw [hrec] at this ⊢
    refine ⟨this, World.putObj_heap_same l3, (World.putObj_heap_other (by omega)).trans hk3, Fr0.putNew _ _ (.inr (.inr rfl)), ?_⟩
    have z3 := hf3.size
    refine (kW2.trans (hf3.keep (fun k hk => ⟨by have := hrx k hk; omega, fun h => hS' _ h (hk.elim .inl (fun h => .inr (.inl h)))⟩))).trans ?_
    exact (Fr0.putNew (S := fun k => k = B + 1) _ _ rfl).keep (fun k hk => ⟨by have := hrx k hk; omega, (hrx k hk).2.2⟩)
   rintro e a3 W3 hp
   cases e with
   | normal =>
    obtain ⟨S', hf3, hS', hi3⟩ := hp
    obtain ⟨hr, hl4, hk4, hf4, hk5⟩ := fin none W3 S' hf3 hS'
    have z3 := hf3.size
    have z4 := hf4.size
    exact ⟨_, _, hr, .inl ⟨rfl, ⟨hI _ _ _ _ _ hi3 (fun k hk => ⟨(hX k hk).1, by have := hX2 k hk; omega⟩) (hf4.mono (fun k _ h => h.elim .inl (fun h => .inr (.inr h)))) (fun k h => .inl h), fun k hk => ⟨(hX k hk).1, by have := hX2 k hk; omega⟩, hl4, hk4⟩, hk5⟩⟩
   | ret =>
    obtain ⟨S', hf3, hS', hi3⟩ := hp
    obtain ⟨hr, hl4, hk4, hf4, hk5⟩ := fin (some .ret) W3 S' hf3 hS'
    exact ⟨_, _, hr, .inr ⟨rfl, .ret, hIx _ _ _ hi3 hf4, hl4, hk4⟩⟩
   | exit id =>
    obtain ⟨S', hf3, hS', hi3⟩ := hp
    obtain ⟨hr, hl4, hk4, hf4, hk5⟩ := fin (some (.exit id)) W3 S' hf3 hS'
    exact ⟨_, _, hr, .inr ⟨rfl, .exit id, hIx _ _ _ hi3 hf4, hl4, hk4⟩⟩
   | goto t =>
    obtain ⟨S', hf3, hS', hi3⟩ := hp
    obtain ⟨hr, hl4, hk4, hf4, hk5⟩ := fin (some (.goto t)) W3 S' hf3 hS'
    exact ⟨_, _, hr, .inr ⟨rfl, .goto t, hIx _ _ _ hi3 hf4, hl4, hk4⟩⟩
   | panic ch => exact hp.elim
   | outgrown => exact hp.elim
  ·rintro e W2 ⟨⟨v, rfl⟩, (⟨X, hi, hX, hl, hk⟩ | ⟨c, hi, hl, hk⟩)⟩
   ·exact ⟨none, _, by have := run_endLoop (P := P) hl (by rw [hrec]; simp); rw [hrec] at this; exact this, hdone _ X _ rfl (hI _ _ _ _ _ hi hX (Fr0.putNew _ _ (.inr (.inr (.inr rfl)))) (fun k h => .inl h)) ((World.putObj_heap_other (by omega)).trans hk)⟩
   ·exact ⟨some c, _, by have := run_endLoop (P := P) hl (by rw [hrec]; simp); rw [hrec] at this; exact this, hstop _ c _ rfl (hIx c _ _ hi (Fr0.putNew _ _ (.inr (.inr rfl)))) ((World.putObj_heap_other (by omega)).trans hk)⟩

theorem Marks.fr0 {B : Nat} {ds : List Deferred} {S : Nat → Prop} {w w' : World} (h : Marks B ds w) (hf : Fr0 S w w') (hS : ∀ k, S k → k < w.heap.size → k < B) : Marks B ds w' := by
 obtain ⟨Ds, h1, h2, h3⟩ := h
 refine ⟨Ds, h1, h2, fun D hD => ⟨(h3 D hD).1, ?_⟩⟩
 have hlt := (Array.getElem?_eq_some_iff.1 (h3 D hD).2).1
 exact (hf.block D hlt (fun hs => by have := hS D hs hlt; have := (h3 D hD).1; omega)).trans (h3 D hD).2
end Go.Proofs.Ytmbjfmlicffclaa

/-
  A region that draws, walked by hand: the operations one by one, in an order of one's own where the order does not matter.
-/
namespace Go.Proofs.Ytmbjfmlicffclaa
open Go.RowKit

section
variable {P : Program} {ops : Array Oper} {Q : Exit → Act → World → Prop} {md : Region.Mode} {S : World → Prop} {i : Nat} {oi : Oper} {fuel : Nat} {listed : Array Bool} {a : Act} {w : World}
theorem op_at (hi : ops.toList[i]? = some oi) : ops[i]? = some oi := by rw [← Array.getElem?_toList]; exact hi
/-- An operation of a region that draws is taken first: one that runs. -/
theorem take_on {v : Value} (hi : ops.toList[i]? = some oi)
  (hs : Region.noSelect ops = true) (hf : Region.free md ops listed i = true) (hr : (Region.ready md ops listed).contains i = true)
  (hQ : ∀ c a w, Q (.panic c) (a.put oi.dst v) w → Q (.panic c) a w) (hw : Region.wanted oi (yielded ops a.tmps) = true) (hy : ∀ w, S w → (execOp a.eval oi).run P w = .ok (.value v) w) (hS : S w)
  (h : wpAnyH P md ops Q S fuel (listed.setIfInBounds i true) (a.put oi.dst v) w) : wpAnyH P md ops Q S (fuel + 1) listed a w :=
 wpAnyH_take (op_at hi) hs hf hr hQ (.inl ⟨hw, hy⟩) hS h
/-- .. and one that its guard keeps off. -/
theorem take_off (hi : ops.toList[i]? = some oi)
  (hs : Region.noSelect ops = true) (hf : Region.free md ops listed i = true) (hr : (Region.ready md ops listed).contains i = true)
  (hQ : ∀ c a w, Q (.panic c) (a.put oi.dst undef) w → Q (.panic c) a w) (hw : Region.wanted oi (yielded ops a.tmps) = false) (hS : S w)
  (h : wpAnyH P md ops Q S fuel (listed.setIfInBounds i true) (a.put oi.dst undef) w) : wpAnyH P md ops Q S (fuel + 1) listed a w :=
 wpAnyH_take (op_at hi) hs hf hr hQ (.inr ⟨hw, rfl⟩) hS h
/-- .. and the only one that may come up. -/
theorem take_call (hi : ops.toList[i]? = some oi) (hr : Region.ready md ops listed = [i]) (hw : Region.wanted oi (yielded ops a.tmps) = true)
  (h : ∀ K' : Act → World → Prop, Shut (∀ a w, S w → (S w → wpAnyH P md ops Q S fuel (listed.setIfInBounds i true) a w) → K' a w) → Oper.wp P oi a w K' Q) : wpAnyH P md ops Q S (fuel + 1) listed a w :=
 wpAnyH_ready hr (by simp) (AllReadyH.cons (op_at hi) (fun K hK => by rw [if_pos hw]; exact h K hK) AllReadyH.nil)
end
section
variable {P : Program} {ops : Array Oper} {Q : Exit → Act → World → Prop} {md : Region.Mode} {S : World → Prop} {i : Nat} {oi : Oper} {fuel : Nat} {listed : Array Bool} {a : Act} {w : World}
/-- take_on, what the kernel sees by itself left to it. -/
theorem tkn {v : Value} (hy : ∀ w, S w → (execOp a.eval oi).run P w = .ok (.value v) w) (h : wpAnyH P md ops Q S fuel (listed.setIfInBounds i true) (a.put oi.dst v) w) (hi : ops.toList[i]? = some oi := by rfl) (hs : Region.noSelect ops = true := by kernel_rfl)
  (hf : Region.free md ops listed i = true := by kernel_rfl) (hr : (Region.ready md ops listed).contains i = true := by kernel_rfl) (hQ : ∀ c a w, Q (.panic c) (a.put oi.dst v) w → Q (.panic c) a w := by exact fun _ _ _ h => h)
  (hw : Region.wanted oi (yielded ops a.tmps) = true := by kernel_rfl) (hS : S w := by assumption) : wpAnyH P md ops Q S (fuel + 1) listed a w := take_on hi hs hf hr hQ hw hy hS h
end
theorem pUt (t : Array Value) (d : List Deferred) (k : Tmp) (v : Value) : Act.put { tmps := t, defers := d } (some k) v = { tmps := t.setIfInBounds k v, defers := d } := rfl
theorem pUn (a : Act) (v : Value) : a.put none v = a := rfl
theorem sEt {α : Type} (l : List α) (i : Nat) (a : α) : l.toArray.setIfInBounds i a = (l.set i a).toArray := List.setIfInBounds_toArray ..
theorem sEz {α : Type} (x : α) (l : List α) (a : α) : (x :: l).set 0 a = a :: l := rfl
theorem sEs {α : Type} (x : α) (l : List α) (i : Nat) (a : α) : (x :: l).set (i + 1) a = x :: l.set i a := rfl
end Go.Proofs.Ytmbjfmlicffclaa

/-
  The library's functions on strings at one byte, and the splitting of a string at points.
-/
namespace Go.Proofs.Ytmbjfmlicffclaa
open Go.RowKit

theorem Below.draws {B : Nat} {w w' : World} (h : Below B w w') : Below B w w'.drew := h.drew

end Go.Proofs.Ytmbjfmlicffclaa

/-
  name.parts: the iterator over the parts of a string.
-/
namespace Go.Proofs.Ytmbjfmlicffclaa
open Go.RowKit
attribute [local go_sem] Oper.semAt_some wide_fn wide_depth wide_fnR wide_depthR

abbrev Bs := List UInt8
/-- The parts of a string: what is between its points. -/
def cut : Bs → List Bs
 | [] => [[]]
 | c :: l => if c = 46 then [] :: cut l else ((c :: (cut l).headD []) :: (cut l).tail)
end Go.Proofs.Ytmbjfmlicffclaa

/-
  append onto an own row of one-cell elements, whatever the source; the count of draws does not fall.
-/
namespace Go.Proofs.Ytmbjfmlicffclaa
open Go.RowKit
variable {P : Program}

end Go.Proofs.Ytmbjfmlicffclaa

/-
  slices.Collect and slices.AppendSeq at strings, over an iterator.
-/
namespace Go.Proofs.Ytmbjfmlicffclaa
open Go.RowKit
attribute [local go_sem] Oper.semAt_some wide_fn wide_depth wide_fnR wide_depthR

end Go.Proofs.Ytmbjfmlicffclaa

/-
  The order of strings and of lists of strings; cmp.Compare and slices.Compare; name.order.
-/
namespace Go.Proofs.Ytmbjfmlicffclaa
open Go.RowKit

/-- The cells of a slice of one-cell elements. -/
def Cells (w : World) (a : Option Addr) (xs : List Value) : Prop := ∀ j x, xs[j]? = some x → ∃ b off, a = some ⟨b, off, none⟩ ∧ w.cell? ⟨b, off + j, none⟩ = some x

theorem Cells.of_blocks {S : Nat → Prop} {w w' : World} {a : Option Addr} {xs : List Value} (h : Cells w a xs) (hf : ∀ k, k < w.heap.size → ¬ S k → w'.heap[k]? = w.heap[k]?) (hs : ∀ b off s, a = some ⟨b, off, s⟩ → ¬ S b) : Cells w' a xs := by
 intro j x hx
 obtain ⟨b, off, rfl, hc⟩ := h j x hx
 refine ⟨b, off, rfl, ?_⟩
 have hlt : b < w.heap.size := by
  rcases Nat.lt_or_ge b w.heap.size with h | h
  ·exact h
  ·simp [World.cell?, Array.getElem?_eq_none h] at hc
 rw [World.cell?_of_block (w := w) (a := ⟨b, off + j, none⟩) (hf b hlt (hs _ _ _ rfl))]; exact hc
theorem Cells.fr {S : Nat → Prop} {w w' : World} {a : Option Addr} {xs : List Value} (h : Cells w a xs) (hf : Fr S w w') (hs : ∀ b off s, a = some ⟨b, off, s⟩ → ¬ S b) : Cells w' a xs := h.of_blocks hf.block hs

end Go.Proofs.Ytmbjfmlicffclaa

/-
  append at slices of one-cell elements: an own row, whatever source.
-/
namespace Go.Proofs.Ytmbjfmlicffclaa
open Go.RowKit
variable {P : Program}

theorem Cells.alloc {w : World} {a : Option Addr} {xs : List Value} (h : Cells w a xs) (o : Obj) : Cells (w.alloc o) a xs := h.fr ((Fr.refl none' w).alloc o) (fun _ _ _ _ => id)
theorem Cells.below {w w' : World} {a : Option Addr} {xs : List Value} (h : Cells w a xs) (hb : Below w.heap.size w w') : Cells w' a xs := h.of_blocks (S := none') (fun k hk _ => hb.block k hk) (fun _ _ _ _ => id)
theorem Cells.at {w : World} {a : Option Addr} {xs : List Value} (h : Cells w a xs) {k : Nat} {x : Value} (hk : xs[k]? = some x) : ∃ b off, a = some ⟨b, off, none⟩ ∧ w.cell? ⟨b, off + k, none⟩ = some x := h k x hk
end Go.Proofs.Ytmbjfmlicffclaa

/-
  Keys, their bytes, their texts; plain Lean.
-/
namespace Go.Proofs.Ytmbjfmlicffclaa

def RightK (k : Key3) : Prop := 0 ≤ k.time ∧ k.time ≤ 281474976710656 ∧ 0 ≤ k.source ∧ k.source ≤ 16 ∧ 0 ≤ k.seq ∧ k.seq ≤ 4294967295
instance (k : Key3) : Decidable (RightK k) := by unfold RightK; infer_instance

/-! ### Bytes -/
/-! ### Texts -/
/-! ### Steps -/
end Go.Proofs.Ytmbjfmlicffclaa

/-
  A region that draws, within a round's body: from the walk outside of any fence.
-/
namespace Go.Proofs.Ytmbjfmlicffclaa
open Go.RowKit

def noDefer (o : Oper) : Bool := match o.op with
 | .defer _ => false
 | _ => true
theorem noDefer_ne {o : Oper} (h : noDefer o = true) : ∀ c, o.op ≠ .defer c := fun c e => by simp [noDefer, e] at h

section
variable {P : Program} {ops : Array Oper} {Q : Exit → Act → World → Prop} {md : Region.Mode} {n l : Nat}

theorem callsIn_round {f : FuncId} {args : Array Value} {w : World} {R : Ending → World → Prop} (h : Calls P f args w R) : CallsIn (Fence.wide.inRound l) n P f args w R :=
 callsIn_wide (n := n).2 h

theorem op_in_round {o : Oper} (hd : noDefer o = true) (hQ : ∀ a w, ¬ Q .outgrown a w) {a : Act} {w : World} {K : Act → World → Prop} (h : o.wp P a w K Q ∨ (o.asks P a w ∧ LetsOut Q)) : o.wpIn (Fence.wide.inRound l) n P a w K Q := by
 have hno : ¬ LetsOut Q := fun ⟨a, w, h⟩ => hQ a w h
 rcases h with h | ⟨_, h⟩
 ·refine ⟨fun _ _ => trivial, ?_⟩
  rw [Oper.semAt_eq _ _ _ (noDefer_ne hd)]
  unfold Oper.wp at h
  generalize (execOp a.eval o).run P w = r at *
  cases r with
  | ok x w' =>
   cases x with
   | value v => exact h
   | skip => exact h
   | defer d => exact h
   | enter f args => exact ⟨fun h => by simp [Fence.wide, Fence.inRound] at h, callsIn_round h⟩
   | row row args =>
    refine ⟨fun h => by simp [Fence.wide, Fence.inRound] at h, fun c cs _ => ?_⟩
    obtain ⟨v, w', r, s⟩ := h c cs
    exact ⟨v, w', r, stepsIn_wide.2 s⟩
   | _ => exact h.elim
  | halt x w' => cases x <;> exact h
 ·exact absurd h hno

theorem any_in_round (hd : ops.all noDefer = true) (hQ : ∀ a w, ¬ Q .outgrown a w) : ∀ (fuel : Nat) (listed : Array Bool) (a : Act) (w : World), wpAny P md ops Q fuel listed a w → wpAnyIn (Fence.wide.inRound l) n P md ops Q fuel listed a w
 | 0, _, _, _, h => h
 | fuel + 1, listed, a, w, h => by
  refine ⟨h.1, fun i hi => ?_⟩
  have h1 := h.2 i hi
  unfold wpOp at h1
  unfold wpOpIn
  split
  ·rename_i ho; simp only [ho] at h1; exact any_in_round hd hQ fuel _ _ _ h1
  ·rename_i o ho
   simp only [ho] at h1
   have hdo : noDefer o = true := by
    rw [Array.all_eq_true] at hd
    obtain ⟨hlt, he⟩ := Array.getElem?_eq_some_iff.1 ho
    rw [← he]; exact hd i hlt
   split
   ·rename_i hw
    simp only [hw, if_true] at h1
    exact Oper.wpIn_mono (fun a w h => any_in_round hd hQ fuel _ a w h) (op_in_round hdo hQ h1)
   ·rename_i hw
    simp only [hw] at h1
    exact ⟨fun _ _ => trivial, any_in_round hd hQ fuel _ _ _ h1⟩

/-- The beginning of the walk over a region that draws, in a round's body. -/
theorem wpIn_round_held {S : World → Prop} {id : Nat} {a : Act} {w : World} (hm : P.follows .mixedOrders = true) (hd : ops.all noDefer = true) (hQ : ∀ a w, ¬ Q .outgrown a w) (hS : S w.drew)
  (h : S w.drew → wpAnyH P .any ops Q S ops.size (Array.replicate ops.size false) a w.drew) : (Code.region id ops true).wpIn (Fence.wide.inRound l) n P Q a w :=
 wpIn_region_any hm (any_in_round hd hQ _ _ _ _ (wpAny_of_held _ _ _ _ (h hS)))
end
end Go.Proofs.Ytmbjfmlicffclaa

/-
  key.fields: the iterator over the fields of a key.
-/
namespace Go.Proofs.Ytmbjfmlicffclaa
open Go.RowKit
attribute [local go_sem ↓] Go.wp_at_zero Go.wp_at_succ
attribute [local go_sem] Oper.semAt_some wide_fn wide_depth wide_fnR wide_depthR

/-- A field of a key: where it is, its greatest value, its bytes, what is before it in a text. -/
def fMost (i : Nat) : Int := if i = 0 then 281474976710656 else if i = 1 then 16 else 4294967295
def fSize (i : Nat) : Int := if i = 0 then 7 else if i = 1 then 1 else 4
def fMark (i : Nat) : ByteArray := if i = 0 then ⟨#[]⟩ else if i = 1 then ⟨#[64]⟩ else ⟨#[35]⟩
def fC (b i : Nat) : List Value := [.pointer (some ⟨b, i, none⟩), .int .i64 (fMost i), .int .i64 (fSize i), .string (fMark i)]
def fV (b i : Nat) : Value := .agg #[.pointer (some ⟨b, i, none⟩), .int .i64 (fMost i), .int .i64 (fSize i), .string (fMark i)]

theorem cells_of {w : World} {b : Nat} {cu : Array Value} {ty : TypeId} (h : w.heap[b]? = some (.cells cu ty (0, 0))) (o : Nat) : w.cell? ⟨b, o, none⟩ = cu[o]? := by simp [World.cell?, h]
set_option maxHeartbeats 1000000 in
theorem fields_any (b : Nat) (w : World) :
  Calls Try.prog 102 #[.pointer (some ⟨b, 0, none⟩)] w fun e w' => e = .returned (.func (.func 108) #[] #[.pointer (some ⟨w.heap.size, 0, none⟩)]) ∧ w' = w.alloc (.cells #[.pointer (some ⟨b, 0, none⟩)] 180) := by
 go_enter Try.func102, Try.ntmps102
 go_wp2
 go_ret
 exact ⟨rfl, rfl⟩

set_option maxRecDepth 100000 in
set_option maxHeartbeats 2000000 in
theorem fields_iter (b bp : Nat) (w : World) (hb : Box w bp (.pointer (some ⟨b, 0, none⟩))) :
  IterX Try.prog 108 #[.pointer (some ⟨bp, 0, none⟩)] (fun i : Nat => #[fV b i]) [0, 1, 2] none' (fun k => k = bp) w := by
 intro l J Jx W hK hJ hJx hY h0
 have hbW : Box W bp (.pointer (some ⟨b, 0, none⟩)) := hb.of_block (hK.2 bp rfl)
 have hc := hbW.cell
 have hf0 : (fMost 0 = 281474976710656 ∧ fMost 1 = 16 ∧ fMost 2 = 4294967295 ∧ fSize 0 = 7 ∧ fSize 1 = 1 ∧ fSize 2 = 4) ∧ fMark 0 = ⟨#[]⟩ ∧ fMark 1 = ⟨#[64]⟩ ∧ fMark 2 = ⟨#[35]⟩ := ⟨⟨rfl, rfl, rfl, rfl, rfl, rfl⟩, rfl, rfl, rfl⟩
 have HF := Lib.hid hf0
 have HY := Lib.hid hY
 have HJ := Lib.hid hJ
 clear hY hJ hK hb hf0
 refine callsIn_of_wp Try.func108 rfl trivial ?_ rfl
 simp only [Try.ntmps108, List.size_toArray, List.length_cons, List.length_nil, Nat.reduceAdd, Nat.reduceSub, Array.replicate_succ, Array.replicate_zero, List.push_toArray, List.append_toArray, List.nil_append, List.cons_append]
 gi_wp2
 refine wpIn_wide.2 ?_
 refine wp_region_held_drew (S := fun W' => W'.cell? ⟨bp, 0, none⟩ = some (.pointer (some ⟨b, 0, none⟩))) (by kernel_rfl) hc (fun hHeld => ?_)
 refine tkn (i := 0) (v := .pointer (some ⟨b, 0, none⟩)) (fun W hSW => ?_) ?_
 ·(try dsimp only at hSW); (try subst hSW)
  first | (go_simp; done) | exact rfl | (go_simp; rfl) | (go_simp; omega)
 try simp only [pUt, pUn, sEt, sEz, sEs]
 refine tkn (i := 1) (v := .pointer (some ⟨b, 0, none⟩)) (fun W hSW => ?_) ?_
 ·(try dsimp only at hSW); (try subst hSW)
  first | (go_simp; done) | exact rfl | (go_simp; rfl) | (go_simp; omega)
 try simp only [pUt, pUn, sEt, sEz, sEs]
 refine tkn (i := 2) (v := .pointer (some ⟨b, 0, none⟩)) (fun W hSW => ?_) ?_
 ·(try dsimp only at hSW); (try subst hSW)
  first | (go_simp; done) | exact rfl | (go_simp; rfl) | (go_simp; omega)
 try simp only [pUt, pUn, sEt, sEz, sEs]
 refine tkn (i := 3) (v := .agg #[.pointer (some ⟨b, 0, none⟩), .int .i64 281474976710656, .int .i64 7, .string ⟨#[]⟩]) (fun W hSW => ?_) ?_
 ·(try dsimp only at hSW); (try subst hSW)
  first | (go_simp; done) | exact rfl | (go_simp; rfl) | (go_simp; omega)
 try simp only [pUt, pUn, sEt, sEz, sEs]
 refine tkn (i := 4) (v := .pointer (some ⟨b, 0, none⟩)) (fun W hSW => ?_) ?_
 ·(try dsimp only at hSW); (try subst hSW)
  first | (go_simp; done) | exact rfl | (go_simp; rfl) | (go_simp; omega)
 try simp only [pUt, pUn, sEt, sEz, sEs]
 refine tkn (i := 5) (v := .pointer (some ⟨b, 0, none⟩)) (fun W hSW => ?_) ?_
 ·(try dsimp only at hSW); (try subst hSW)
  first | (go_simp; done) | exact rfl | (go_simp; rfl) | (go_simp; omega)
 try simp only [pUt, pUn, sEt, sEz, sEs]
 refine tkn (i := 6) (v := .pointer (some ⟨b, 1, none⟩)) (fun W hSW => ?_) ?_
 ·(try dsimp only at hSW); (try subst hSW)
  first | (go_simp; done) | exact rfl | (go_simp; rfl) | (go_simp; omega)
 try simp only [pUt, pUn, sEt, sEz, sEs]
 refine tkn (i := 7) (v := .agg #[.pointer (some ⟨b, 1, none⟩), .int .i64 16, .int .i64 1, .string ⟨#[64]⟩]) (fun W hSW => ?_) ?_
 ·(try dsimp only at hSW); (try subst hSW)
  first | (go_simp; done) | exact rfl | (go_simp; rfl) | (go_simp; omega)
 try simp only [pUt, pUn, sEt, sEz, sEs]
 refine tkn (i := 8) (v := .pointer (some ⟨b, 0, none⟩)) (fun W hSW => ?_) ?_
 ·(try dsimp only at hSW); (try subst hSW)
  first | (go_simp; done) | exact rfl | (go_simp; rfl) | (go_simp; omega)
 try simp only [pUt, pUn, sEt, sEz, sEs]
 refine tkn (i := 9) (v := .pointer (some ⟨b, 0, none⟩)) (fun W hSW => ?_) ?_
 ·(try dsimp only at hSW); (try subst hSW)
  first | (go_simp; done) | exact rfl | (go_simp; rfl) | (go_simp; omega)
 try simp only [pUt, pUn, sEt, sEz, sEs]
 refine tkn (i := 10) (v := .pointer (some ⟨b, 2, none⟩)) (fun W hSW => ?_) ?_
 ·(try dsimp only at hSW); (try subst hSW)
  first | (go_simp; done) | exact rfl | (go_simp; rfl) | (go_simp; omega)
 try simp only [pUt, pUn, sEt, sEz, sEs]
 refine tkn (i := 11) (v := .agg #[.pointer (some ⟨b, 2, none⟩), .int .i64 4294967295, .int .i64 4, .string ⟨#[35]⟩]) (fun W hSW => ?_) ?_
 ·(try dsimp only at hSW); (try subst hSW)
  first | (go_simp; done) | exact rfl | (go_simp; rfl) | (go_simp; omega)
 try simp only [pUt, pUn, sEt, sEz, sEs]
 refine tkn (i := 14) (v := .int .i64 0) (fun W hSW => ?_) ?_
 ·(try dsimp only at hSW); (try subst hSW)
  first | (go_simp; done) | exact rfl | (go_simp; rfl) | (go_simp; omega)
 try simp only [pUt, pUn, sEt, sEz, sEs]
 refine take_call (i := 12) rfl (by kernel_rfl) (by kernel_rfl) (fun K hK => ?_)
 go_simp
 refine hK.out _ _ (World.cell?_alloc_some _ _ _ (by rw [hc]; rfl) |>.trans hc) (fun hHeld2 => ?_)
 clear hK K
 try simp only [pUt, pUn, sEt, sEz, sEs]
 refine tkn (i := 13) (v := .int .i64 3) (fun W hSW => ?_) ?_
 ·(try dsimp only at hSW); (try subst hSW)
  first | (go_simp; done) | exact rfl | (go_simp; rfl) | (go_simp; omega)
 try simp only [pUt, pUn, sEt, sEz, sEs]
 refine wpAnyH_done (by kernel_rfl) ?_ _
 clear hHeld hHeld2
 obtain ⟨R, hR0⟩ : ∃ R, W.heap.size = R := ⟨_, rfl⟩
 obtain ⟨W1, hW1⟩ : ∃ W1, (W.alloc (.cells #[.pointer (some ⟨b, 0, none⟩), .int .i64 281474976710656, .int .i64 7, .string ⟨#[]⟩, .pointer (some ⟨b, 1, none⟩), .int .i64 16, .int .i64 1, .string ⟨#[64]⟩, .pointer (some ⟨b, 2, none⟩), .int .i64 4294967295, .int .i64 4, .string ⟨#[35]⟩] 176)).drew = W1 := ⟨_, rfl⟩
 have hrow : W1.heap[R]? = some (.cells #[.pointer (some ⟨b, 0, none⟩), .int .i64 281474976710656, .int .i64 7, .string ⟨#[]⟩, .pointer (some ⟨b, 1, none⟩), .int .i64 16, .int .i64 1, .string ⟨#[64]⟩, .pointer (some ⟨b, 2, none⟩), .int .i64 4294967295, .int .i64 4, .string ⟨#[35]⟩] 176 (0, 0)) := by rw [← hW1, ← hR0]; exact World.alloc_heap_new W _
 have hj1 : J 0 (fun k => k = R) W1 := HJ.out 0 none' _ W W1 h0 (hW1 ▸ ((Fr.refl _ _).alloc _).drew) (fun k hk => .inr (by subst hk; rw [← hW1, ← hR0]; simp))
 have cs := cells_of hrow
 rw [hR0, hW1]
 have HW1 := Lib.hid hW1
 clear hW1 h0 hbW hc
 gi_wp2
 refine wpIn_loop_rounds 4 ?_
 have c0 := cs 0
 have c1 := cs 1
 have c2 := cs 2
 have c3 := cs 3
 simp at c0 c1 c2 c3
 have Hrow := Lib.hid hrow
 clear cs hrow
 have hy := HY.out 0 0 (fun k => k = R) (W1.alloc (.cells #[.pointer (some ⟨b, 0, none⟩), .int .i64 281474976710656, .int .i64 7, .string ⟨#[]⟩] 176)) rfl (HJ.out 0 _ _ _ _ hj1 ((Fr.refl _ _).alloc _) (fun k hk => .inl hk))
 rw [show fV b 0 = .agg #[.pointer (some ⟨b, 0, none⟩), .int .i64 281474976710656, .int .i64 7, .string ⟨#[]⟩] from rfl] at hy
 obtain ⟨fn, tmps, assign, body, hy, hR⟩ := hy
 have Hrow' := Lib.hid (show (W1.alloc (.cells #[.pointer (some ⟨b, 0, none⟩), .int .i64 281474976710656, .int .i64 7, .string ⟨#[]⟩] 176)).heap[R]? = _ from (Below.heap_alloc W1 _ R (Array.getElem?_eq_some_iff.1 Hrow.out).1).trans Hrow.out)
 rw [roundsIn_succ]
 gi_wp2
 refine hR.mono ?_
 rintro e W2 (⟨rfl, hj, hk⟩ | ⟨rfl, hx⟩)
 rotate_left
 ·gi_wp2
  refine bodyPost_ret (results_none rfl _ _ _) rfl ?_
  exact ⟨⟨_, rfl⟩, .inr hx⟩
 clear hy hR c0 c1 c2 c3
 have Hrow := Lib.hid ((hk.2 R (.inr rfl)).trans Hrow'.out)
 clear Hrow' hk
 have c0 := cells_of Hrow.out 4
 have c1 := cells_of Hrow.out (4 + 1)
 have c2 := cells_of Hrow.out (4 + 2)
 have c3 := cells_of Hrow.out (4 + 3)
 simp at c0 c1 c2 c3
 gi_wp2
 have hy := HY.out 1 1 (fun k => k = R) (W2.alloc (.cells #[.pointer (some ⟨b, 1, none⟩), .int .i64 16, .int .i64 1, .string ⟨#[64]⟩] 176)) rfl (HJ.out 1 _ _ _ _ hj ((Fr.refl _ _).alloc _) (fun k hk => .inl hk))
 rw [show fV b 1 = .agg #[.pointer (some ⟨b, 1, none⟩), .int .i64 16, .int .i64 1, .string ⟨#[64]⟩] from rfl] at hy
 obtain ⟨fn, tmps, assign, body, hy, hR⟩ := hy
 have Hrow' := Lib.hid (show (W2.alloc (.cells #[.pointer (some ⟨b, 1, none⟩), .int .i64 16, .int .i64 1, .string ⟨#[64]⟩] 176)).heap[R]? = _ from (Below.heap_alloc W2 _ R (Array.getElem?_eq_some_iff.1 Hrow.out).1).trans Hrow.out)
 rw [roundsIn_succ]
 gi_wp2
 refine hR.mono ?_
 rintro e W3 (⟨rfl, hj, hk⟩ | ⟨rfl, hx⟩)
 rotate_left
 ·gi_wp2
  refine bodyPost_ret (results_none rfl _ _ _) rfl ?_
  exact ⟨⟨_, rfl⟩, .inr hx⟩
 clear hy hR c0 c1 c2 c3
 have Hrow := Lib.hid ((hk.2 R (.inr rfl)).trans Hrow'.out)
 clear Hrow' hk
 have c0 := cells_of Hrow.out 8
 have c1 := cells_of Hrow.out (8 + 1)
 have c2 := cells_of Hrow.out (8 + 2)
 have c3 := cells_of Hrow.out (8 + 3)
 simp at c0 c1 c2 c3
 gi_wp2
 have hy := HY.out 2 2 (fun k => k = R) (W3.alloc (.cells #[.pointer (some ⟨b, 2, none⟩), .int .i64 4294967295, .int .i64 4, .string ⟨#[35]⟩] 176)) rfl (HJ.out 2 _ _ _ _ hj ((Fr.refl _ _).alloc _) (fun k hk => .inl hk))
 rw [show fV b 2 = .agg #[.pointer (some ⟨b, 2, none⟩), .int .i64 4294967295, .int .i64 4, .string ⟨#[35]⟩] from rfl] at hy
 obtain ⟨fn, tmps, assign, body, hy, hR⟩ := hy
 have Hrow' := Lib.hid (show (W3.alloc (.cells #[.pointer (some ⟨b, 2, none⟩), .int .i64 4294967295, .int .i64 4, .string ⟨#[35]⟩] 176)).heap[R]? = _ from (Below.heap_alloc W3 _ R (Array.getElem?_eq_some_iff.1 Hrow.out).1).trans Hrow.out)
 rw [roundsIn_succ]
 gi_wp2
 refine hR.mono ?_
 rintro e W4 (⟨rfl, hj, hk⟩ | ⟨rfl, hx⟩)
 rotate_left
 ·gi_wp2
  refine bodyPost_ret (results_none rfl _ _ _) rfl ?_
  exact ⟨⟨_, rfl⟩, .inr hx⟩
 clear hy hR c0 c1 c2 c3
 have Hrow := Lib.hid ((hk.2 R (.inr rfl)).trans Hrow'.out)
 clear Hrow' hk
 have c0 := cells_of Hrow.out 8
 have c1 := cells_of Hrow.out (8 + 1)
 have c2 := cells_of Hrow.out (8 + 2)
 have c3 := cells_of Hrow.out (8 + 3)
 simp at c0 c1 c2 c3
 gi_wp2
 rw [roundsIn_succ]
 gi_wp2
 go_end0
 exact ⟨⟨_, rfl⟩, .inl ⟨_, hj⟩⟩
end Go.Proofs.Ytmbjfmlicffclaa

/-
  append onto an own row of elements of any size, whatever the source; the count of draws does not fall.
-/
namespace Go.Proofs.Ytmbjfmlicffclaa
open Go.RowKit
variable {P : Program}

theorem run_append_own_k (w : World) (base : Nat) (t tx ty e : TypeId) (i : TypeInfo) (z : Value) (size bytes : Nat) (ht : P.underlying t = some (.slice e)) (hi : P.info? e = some i) (hz : i.zero = some z)
  (hsize : i.size = size) (hby : i.bytes = bytes) (hzs : z.cells.size = size) (hsz : 0 < size)
  (v : Value) (n : Nat) (xs : List Value) (hown : w.ownsRow base e size v n xs)
  (x : Value) (m : Nat) (news : List Value) (hs : Src P size tx x m news w)
  (h63 : n + m ≤ maxLen) (hbytes : (n + m) * bytes ≤ 140737488355328) (hbase : base ≤ w.heap.size) :
  ∃ v' w', (Builtin.append_ #[t, tx] ty #[v, x]).run P w = .ok v' w' ∧ w'.ownsRow base e size v' (n + m) (xs ++ news) ∧ w.grownBy w' v.ownBlock ∧ w.drawn ≤ w'.drawn ∧ (v'.ownBlock = v.ownBlock ∨ v'.ownBlock = some w.heap.size) := by
 subst hsize
 subst hby
 have hl := hs.newsLen
 have hxl := hown.1
 have hlen : (xs ++ news).length = (n + m) * i.size := by rw [List.length_append, hxl, hl, Nat.add_mul]
 have grown : ∀ (old : Nat), old < n + m → ∀ (row : Option Nat),
   (w.drew.alloc (.cells ((xs ++ news).toArray ++ Builtin.zeroCells z.cells (grownCap w (n + m) old e - (n + m))) e)).ownsRow base e i.size
    (.slice (some ⟨w.heap.size, 0, none⟩) (n + m) (grownCap w (n + m) old e)) (n + m) (xs ++ news) ∧
   w.grownBy (w.drew.alloc (.cells ((xs ++ news).toArray ++ Builtin.zeroCells z.cells (grownCap w (n + m) old e - (n + m))) e)) row := by
  intro old ho row
  have hge := grownCap_ge w (n + m) old e
  have hcm : grownCap w (n + m) old e ≤ maxLen := grownCap_le_maxLen w (n + m) old e h63
  refine ⟨⟨hlen, .inr ⟨w.heap.size, _, _, rfl, hbase, heap_alloc_new w.drew _, hge, hcm, ?_, ?_⟩⟩, ⟨rfl, rfl, rfl, by simp, fun k hk _ => heap_alloc_old w.drew _ hk⟩⟩
  ·simp only [Array.size_append, List.size_toArray, size_zeroCells, hzs, hlen, ← Nat.add_mul]
   congr 1
   omega
  ·simp only [Array.toList_append]
   rw [← hlen]
   exact List.take_left
 rcases hown.2 with ⟨rfl, rfl⟩ | ⟨g, cap, cur, rfl, hbg, hg, hnc, hcm, hcs, htake⟩
 ·have hx : xs = [] := List.eq_nil_of_length_eq_zero (by simpa using hxl)
  subst hx
  by_cases hm : m = 0
  ·subst hm
   have hn : news = [] := List.eq_nil_of_length_eq_zero (by simpa using hl)
   subst hn
   refine ⟨.slice none 0 0, w, ?_, World.ownsRow_nil w base e i.size, ⟨rfl, rfl, rfl, Nat.le_refl _, fun _ _ _ => rfl⟩, Nat.le_refl _, .inl rfl⟩
   have hc := hs.cells
   rcases hs.kind with ⟨e', hk⟩ | hk <;> simp [Builtin.append_, run_underlying ht, run_underlying hk, sizeOf, typeInfo, hi, hs.len, hc]
  ·have hr := run_append_grow_src w t tx ty e i z ht hi hz none 0 0 [] (by simp [Builtin.firstCells, Sem.run_pure]) x m news hs (by omega) (by simp only [maxLen] at h63; omega) (growslice_fits (by omega) hbytes)
   have hgr := grown 0 (by omega) (Value.ownBlock (.slice none 0 0))
   exact ⟨_, _, hr, hgr.1, hgr.2, Nat.le_succ _, .inr rfl⟩
 ·by_cases hroom : n + m ≤ cap
  ·have hfit : n * i.size + news.length ≤ cur.size := by rw [hl, hcs, ← Nat.add_mul]; exact Nat.mul_le_mul_right _ hroom
   have hst := run_storeCells_at P g (n * i.size) e news 0 cur w hg (by simpa using hfit) hs.one
   simp only [Nat.add_zero] at hst
   have hr : (Builtin.append_ #[t, tx] ty #[.slice (some ⟨g, 0, none⟩) n cap, x]).run P w =
     .ok (.slice (some ⟨g, 0, none⟩) (n + m) cap) (w.setRow g (cur.toList.take (n * i.size) ++ news ++ cur.toList.drop (n * i.size + news.length)).toArray) := by
    have hc := hs.cells
    rcases hs.kind with ⟨e', hk⟩ | hk <;> simp [Builtin.append_, run_underlying ht, run_underlying hk, sizeOf, typeInfo, hi, hs.len, hroom, hc, Addr.add_lit, hst]
   refine ⟨_, _, hr, ⟨hlen, .inr ⟨g, cap, _, rfl, hbg, setRow_heap w g cur _ e _ hg, hroom, hcm, ?_, ?_⟩⟩, ⟨rfl, rfl, rfl, by simp, fun k _ hk => setRow_other w g k _ (fun e => hk (by simp [Value.ownBlock, e]))⟩, Nat.le_refl _, .inl rfl⟩
   ·simp only [List.size_toArray, List.length_append, List.length_take, List.length_drop, Array.length_toList]
    omega
   ·rw [htake, ← hlen]
    exact List.take_left
  ·have holds : ∀ j u, xs[j]? = some u → w.drew.cell? ((⟨g, 0, none⟩ : Addr).add j) = some u := fun j u hj => by simpa using hown.cells (g := g) rfl j u hj
   have hr := run_append_grow_src w t tx ty e i z ht hi hz (some ⟨g, 0, none⟩) n cap xs (run_firstCells_some w.drew i.size n ⟨g, 0, none⟩ n cap xs hxl holds) x m news hs (by omega) (by simp only [maxLen] at h63; omega) (growslice_fits (by omega) hbytes)
   have hgr := grown cap (by omega) (Value.ownBlock (.slice (some ⟨g, 0, none⟩) n cap))
   exact ⟨_, _, hr, hgr.1, hgr.2, Nat.le_succ _, .inr rfl⟩

theorem wpList_append_k {w : World} {ops : Array Oper} {rest : List Oper} {o : Oper} {a : Act} {Q : Exit → Act → World → Prop} (hgd : o.guard = none) (s x : Operand) (t tx : TypeId)
  (ho : o.op = .call { callee := .builtin .append, args := #[s, x], argTypes := #[t, tx] })
  (base : Nat) (e : TypeId) (i : TypeInfo) (z : Value) (size bytes : Nat) (ht : P.underlying t = some (.slice e)) (hi : P.info? e = some i) (hz : i.zero = some z)
  (hsize : i.size = size) (hby : i.bytes = bytes) (hzs : z.cells.size = size) (hsz : 0 < size)
  (v : Value) (n : Nat) (xs : List Value) (hs : a.eval s = v) (hown : w.ownsRow base e size v n xs)
  (xv : Value) (m : Nat) (news : List Value) (hx : a.eval x = xv) (hsrc : Src P size tx xv m news w)
  (h63 : n + m ≤ maxLen) (hbytes : (n + m) * bytes ≤ 140737488355328) (hbase : base ≤ w.heap.size)
  (h : ∀ v' w', w'.ownsRow base e size v' (n + m) (xs ++ news) → w.grownBy w' v.ownBlock → w.drawn ≤ w'.drawn → (v'.ownBlock = v.ownBlock ∨ v'.ownBlock = some w.heap.size) → wpList P ops Q rest (a.put o.dst v') w') : wpList P ops Q (o :: rest) a w :=
 wpList_plain hgd fun _ hK => by
  obtain ⟨v', w', hr, h2, h3, h4, h5⟩ := run_append_own_k (P := P) w base t tx o.type e i z size bytes ht hi hz hsize hby hzs hsz v n xs hown xv m news hsrc h63 hbytes hbase
  unfold Oper.wp execOp
  simp only [ho, resolve, invoke, builtin, Sem.run_bind, Sem.run_pure, Result.andThen_ok, List.map_toArray, List.map_cons, List.map_nil, hs, hx, hr]
  exact hK _ _ (h v' w' h2 h3 h4 h5)

theorem wpListIn_append_k {F : Fence} {fn : Nat} {w : World} {ops : Array Oper} {rest : List Oper} {o : Oper} {a : Act} {Q : Exit → Act → World → Prop} (hgd : o.guard = none) (s x : Operand) (t tx : TypeId)
  (ho : o.op = .call { callee := .builtin .append, args := #[s, x], argTypes := #[t, tx] })
  (base : Nat) (e : TypeId) (i : TypeInfo) (z : Value) (size bytes : Nat) (ht : P.underlying t = some (.slice e)) (hi : P.info? e = some i) (hz : i.zero = some z)
  (hsize : i.size = size) (hby : i.bytes = bytes) (hzs : z.cells.size = size) (hsz : 0 < size)
  (v : Value) (n : Nat) (xs : List Value) (hs : a.eval s = v) (hown : w.ownsRow base e size v n xs)
  (xv : Value) (m : Nat) (news : List Value) (hx : a.eval x = xv) (hsrc : Src P size tx xv m news w)
  (h63 : n + m ≤ maxLen) (hbytes : (n + m) * bytes ≤ 140737488355328) (hbase : base ≤ w.heap.size)
  (h : ∀ v' w', w'.ownsRow base e size v' (n + m) (xs ++ news) → w.grownBy w' v.ownBlock → w.drawn ≤ w'.drawn → (v'.ownBlock = v.ownBlock ∨ v'.ownBlock = some w.heap.size) → wpListIn F fn P ops Q rest (a.put o.dst v') w') : wpListIn F fn P ops Q (o :: rest) a w := by
 refine wpListIn_plain hgd fun K hK' => ?_
 obtain ⟨v', w', hr, h2, h3, h4, h5⟩ := run_append_own_k (P := P) w base t tx o.type e i z size bytes ht hi hz hsize hby hzs hsz v n xs hown xv m news hsrc h63 hbytes hbase
 unfold Oper.wpIn
 refine ⟨?_, ?_⟩
 ·simp [Oper.about, ho, resolve, Target.leads, Sem.run_pure]
 ·rw [Oper.semAt_plain F _ _ (by rw [ho]; intro c hc'; cases hc')]
  simp [execOp, ho, resolve, invoke, builtin, hs, hx, hr, Result.andThen]
  exact hK' _ _ (h v' w' h2 h3 h4 h5)

/-- A row of cells that has just been made, as the source. -/
theorem Src.newRow {size : Nat} {tx e' ty : TypeId} (w : World) (hk : P.underlying tx = some (.slice e')) (n c : Nat) (news : List Value) (hl : news.length = n * size) (h1 : ∀ u ∈ news, u.oneCell' = true) :
  Src P size tx (.slice (some ⟨w.heap.size, 0, none⟩) n c) n news (w.alloc (.cells news.toArray ty)) :=
 Src.ofSlice _ hk _ n c news hl (fun j u hj => by
  have h := World.alloc_heap_new w (.cells news.toArray ty)
  unfold Addr.add
  by_cases hj0 : j = 0
  ·subst hj0; simp only [World.cell?, if_true, h]; simpa using hj
  ·rw [if_neg hj0]; simp only [World.cell?, h]; simpa using hj) h1
theorem ownsRow_k_fr {S : Nat → Prop} {w w' : World} {base : Nat} {e : TypeId} {size : Nat} {v : Value} {n : Nat} {xs : List Value} (h : w.ownsRow base e size v n xs) (hf : Fr S w w')
  (hs : ∀ g, v.ownBlock = some g → ¬ S g) : w'.ownsRow base e size v n xs := by
 obtain ⟨h1, h2⟩ := h
 refine ⟨h1, ?_⟩
 rcases h2 with h2 | ⟨g, cap, cur, hv, hg, hh, r⟩
 ·exact Or.inl h2
 ·refine Or.inr ⟨g, cap, cur, hv, hg, ?_, r⟩
  rw [hf.block g (Array.getElem?_eq_some_iff.1 hh).1 (hs g (by rw [hv]; rfl))]; exact hh
theorem ownsRow_k_mono {w : World} {base base' : Nat} {e : TypeId} {size : Nat} {v : Value} {n : Nat} {xs : List Value} (h : w.ownsRow base e size v n xs) (hb : base' ≤ base) : w.ownsRow base' e size v n xs := by
 obtain ⟨h1, h2⟩ := h
 refine ⟨h1, ?_⟩
 rcases h2 with h2 | ⟨g, cap, cur, hv, hg, hh, r⟩
 ·exact Or.inl h2
 ·exact Or.inr ⟨g, cap, cur, hv, Nat.le_trans hb hg, hh, r⟩
theorem ownsRow_k_raise {w : World} {base base' : Nat} {e : TypeId} {size : Nat} {v : Value} {n : Nat} {xs : List Value} (h : w.ownsRow base e size v n xs) (hb : ∀ g, v.ownBlock = some g → base' ≤ g) : w.ownsRow base' e size v n xs := by
 obtain ⟨h1, h2⟩ := h
 refine ⟨h1, ?_⟩
 rcases h2 with h2 | ⟨g, cap, cur, hv, hg, hh, r⟩
 ·exact Or.inl h2
 ·exact Or.inr ⟨g, cap, cur, hv, hb g (by rw [hv]; rfl), hh, r⟩
theorem ownsRow_k_succ {w : World} {base : Nat} {e : TypeId} {size : Nat} {v : Value} {n : Nat} {xs : List Value} (h : w.ownsRow base e size v (n + 1) xs) : ∃ g cap, v = .slice (some ⟨g, 0, none⟩) (n + 1) cap := by
 rcases h.2 with ⟨_, h⟩ | ⟨g, cap, cur, h, _⟩
 ·omega
 ·exact ⟨g, cap, h⟩
end Go.Proofs.Ytmbjfmlicffclaa

/-
  slices.Collect at the fields of a key.
-/
namespace Go.Proofs.Ytmbjfmlicffclaa
open Go.RowKit
attribute [local go_sem] Oper.semAt_some wide_fn wide_depth wide_fnR wide_depthR

theorem info_field : (Try.prog.info? 176).map (fun i => (i.zero, i.size, i.bytes)) = some (some (.agg #[.pointer none, .int .i64 0, .int .i64 0, .string ⟨#[]⟩]), 4, 40) := by kernel_rfl
def fCs (b : Nat) (l : List Nat) : List Value := l.flatMap (fC b)
theorem fCs_snoc (b : Nat) (l : List Nat) (i : Nat) : fCs b (l ++ [i]) = fCs b l ++ fC b i := by simp [fCs]

set_option maxRecDepth 100000 in
set_option maxHeartbeats 2000000 in
theorem AppendSeqF (gf : Nat) (lb : Array Value) (b : Nat) (xs : List Nat) (own rd : Nat → Prop) (w : World) (eg : ∀ args w, (callFunc gf args).run Try.prog w = .ok (.enter gf args) w)
  (hit : IterX Try.prog gf lb (fun i : Nat => #[fV b i]) xs own rd w) (ho : ∀ k, own k → k < w.heap.size) (hr : ∀ k, rd k → k < w.heap.size) (hlen : xs.length ≤ 1000000) :
  CallsIn Fence.wide 0 Try.prog 107 #[.slice none 0 0, .func (.func gf) #[] lb] w fun e w' =>
   ∃ v, e = .returned v ∧ w'.ownsRow w.heap.size 176 4 v xs.length (fCs b xs) ∧ Fr own w w' := by
 obtain ⟨i0, hi, hz0, hz1, hz2⟩ := info_parts info_field
 refine callsIn_of_wp_marks Try.func107 rfl trivial ?_ rfl
 simp only [Try.ntmps107, List.size_toArray, List.length_cons, List.length_nil, Nat.reduceAdd, Nat.reduceSub, Array.replicate_succ, Array.replicate_zero, List.push_toArray, List.append_toArray, List.nil_append, List.cons_append]
 gi_wp2_with fail
 refine wpIn_iterX (gf := gf) (lb := lb) rfl eg hit (Fr.keep ((Fr.refl none' w).alloc _) (fun k hk => ⟨hr k hk, id⟩)) (fun _ => rfl) (fun k hk => by have := ho k hk; simp; omega) (fun k hk => by have := hr k hk; simp; omega)
  (fun i X W => ∃ v, Box W w.heap.size v ∧ W.ownsRow (w.heap.size + 3) 176 4 v i (fCs b (xs.take i)) ∧ Fr own w W ∧ ∀ g, v.ownBlock = some g → ¬ X g)
  (fun _ _ => False) ?hI (fun _ _ _ h _ => h.elim) ?h0
  (fun x W a' => ∃ B, a' = { tmps := #[.slice none 0 0, .func (.func gf) #[] lb, .pointer (some ⟨w.heap.size, 0, none⟩), undef, .slice none 0 0, .pointer (some ⟨B, 0, none⟩), .func (.func gf) #[] lb, fV b x, undef, undef, undef, undef, undef], defers := [] } ∧ w.heap.size + 2 < B ∧ W.heap[B]? = some (.cells (fC b x).toArray 176 (0, 0)))
  ?assign ?keep ?body ?done (fun _ _ _ _ h _ => h.elim)
 case hI =>
  rintro i X Y W1 W2 ⟨v, hb, hrow, hfr, hX⟩ hXb hf hY
  simp only [World.size_alloc] at hf hXb
  refine ⟨v, hb.fr hf (fun h => ?_), ownsRow_k_fr hrow hf (fun g hg h => ?_), hfr.trans' hf (fun k hk h => ?_), fun g hg hy => ?_⟩
  ·rcases h with h | h | h | h
   ·have := ho _ h; omega
   ·have := hXb _ h; omega
   ·omega
   ·omega
  ·have hlt := hrow.lt g hg
   rcases h with h | h | h | h
   ·have := ho _ h; omega
   ·exact hX g hg h
   ·omega
   ·omega
  ·rcases h with h | h | h | h
   ·exact h
   ·have := hXb _ h; omega
   ·omega
   ·omega
  ·rcases hY g hy with h | h
   ·exact hX g hg h
   ·have := hrow.lt g hg; omega
 case h0 =>
  exact ⟨_, Box.new w _ _, World.ownsRow_nil _ _ _ _, (Fr.refl _ _).alloc _, fun g hg => by cases hg⟩
 case keep =>
  rintro x W1 W2 a' ⟨B, rfl, hB, hc⟩ hf
  refine ⟨B, rfl, hB, (hf.block B (Array.getElem?_eq_some_iff.1 hc).1 (by simp; omega)).trans hc⟩
 case assign =>
  intro l x W K hlt hK
  simp only [World.size_alloc] at hlt
  simp only [fV]
  gi_wp2
  exact hK _ _ ⟨W.heap.size, by simp [fV], by omega, World.alloc_heap_new W _⟩ ((Fr.refl _ _).alloc _)
 case body =>
  rintro l i x X W a' r hxi ⟨v, hb, hrow, hfr, hX⟩ hXb ⟨B, rfl, hB, hcB⟩ hD hL
  have hlt : i < xs.length := (List.getElem?_eq_some_iff.1 hxi).1
  have hsz : w.heap.size + 2 < W.heap.size := by have := (Array.getElem?_eq_some_iff.1 hL).1; simpa using this
  have hc := hb.cell
  have hf := hb.frozen
  simp only [World.size_alloc] at hXb
  have Hxi := Lib.hid hxi
  have b0 := cells_of hcB 0
  have b1 := cells_of hcB 1
  have b2 := cells_of hcB 2
  have b3 := cells_of hcB 3
  simp [fC] at b0 b1 b2 b3
  have HX := Lib.hid hX
  have HXb := Lib.hid hXb
  clear hxi hD hL hcB hX hXb
  have hsrc := Src.newRow (P := Try.prog) (size := 4) (tx := 173) (ty := 176) W Try.underlying173 1 1 (fC b x) rfl (by simp [Value.oneCell', fC])
  simp only [fC] at hsrc
  gi_wp2_with (gi_at_builtin; refine wpListIn_append_k rfl _ _ 173 173 rfl (w.heap.size + 3) 176 i0 (.agg #[.pointer none, .int .i64 0, .int .i64 0, .string ⟨#[]⟩]) 4 40 Try.underlying173 hi hz0 hz1 hz2 rfl (by decide) v i _ rfl (hrow.alloc _) (.slice (some ⟨W.heap.size, 0, none⟩) 1 1) 1 _ rfl hsrc (by unfold maxLen; omega) (by omega) (by simp; omega) ?_; intro v' w1 hown' hgrow hdr hob; obtain ⟨g', cap', rfl⟩ := ownsRow_k_succ hown'; have hfg := ((Fr.refl (fun k => v.ownBlock = some k) W).alloc _).grown hgrow hdr (fun k hk _ => hk); have hb1 := hb.fr hfg (fun h => by have := (hrow.lt _ h).1; omega); have hc1 := hb1.cell; have hf1 := hb1.frozen)
  have hb2 := hb1.set (.slice (some ⟨g', 0, none⟩) (i + 1) cap')
  have hf2 := (hfg.mono (S' := fun k => k = w.heap.size ∨ v.ownBlock = some k) (fun k _ h => .inr h)).setCell (b := w.heap.size) (o := 0) (fun _ => .inl rfl) (.slice (some ⟨g', 0, none⟩) (i + 1) cap')
  refine ⟨_, hf2, ?_, ⟨_, hb2, ?_, ?_, ?_⟩⟩
  ·intro k h1 h2
   simp only [World.size_alloc] at h2
   rcases h1 with h1 | h1
   ·rcases h2 with h | h | h | h
    ·have := hr _ h; omega
    ·have := HXb.out _ h; omega
    ·omega
    ·omega
   ·have h3 := hrow.lt _ h1
    rcases h2 with h | h | h | h
    ·have := hr _ h; omega
    ·exact HX.out _ h1 h
    ·omega
    ·omega
  ·have h3 := ownsRow_setCell_below hown' (a := ⟨w.heap.size, 0, none⟩) (by simp) (.slice (some ⟨g', 0, none⟩) (i + 1) cap')
   rw [show List.take (i + 1) xs = List.take i xs ++ [x] from by
    rw [List.take_add_one, Hxi.out]; simp, fCs_snoc]
   exact h3
  ·exact hfr.trans' hf2 (fun k hk h => by
    rcases h with h | h
    ·omega
    ·have := hrow.lt _ h; omega)
  ·intro g hg hXg
   rcases hob with h | h
   ·rw [hg] at h; exact HX.out _ h.symm hXg
   ·rw [hg] at h
    injection h with h
    have := HXb.out _ hXg
    simp at h; omega
 case done =>
  rintro D X W hDe ⟨v, hb, hrow, hfr, _⟩ hK
  obtain rfl : D = w.heap.size + 1 := by simpa using hDe
  have hc := hb.cell
  rw [List.take_of_length_le (Nat.le_refl _)] at hrow
  have hD : w.heap.size + 1 < W.heap.size := by have := (Array.getElem?_eq_some_iff.1 hK).1; simpa using this
  have hfe : Fr own w (W.putObj (w.heap.size + 1) (.deferred none)) := hfr.putObj (fun h => by omega) _
  have hrow' : (W.putObj (w.heap.size + 1) (.deferred none)).ownsRow w.heap.size 176 4 v xs.length (fCs b xs) := by
   refine ownsRow_k_fr (ownsRow_k_mono hrow (by omega)) (Fr.putNew (S := fun k => k = w.heap.size + 1) _ _ rfl) (fun g hg h => ?_)
   have := (hrow.lt g hg).1; omega
  have hK' := hK
  have hfv : ∃ a n c, v = .slice a n c := by
   rcases hrow.2 with ⟨rfl, _⟩ | ⟨g, cap, cur, rfl, _⟩
   ·exact ⟨_, _, _, rfl⟩
   ·exact ⟨_, _, _, rfl⟩
  clear hrow hb hfr hK
  obtain ⟨sa, sn, sc, rfl⟩ := hfv
  gi_wp2
  refine ⟨by simp, .inl ⟨_, _, rfl, run_takeDeferred hK', ?_⟩⟩
  refine ⟨_, results_tmp rfl _ _ _, _, rfl, ?_, hfe⟩
  exact hrow'

set_option maxRecDepth 100000 in
set_option maxHeartbeats 2000000 in
theorem CollectF (gf : Nat) (lb : Array Value) (b : Nat) (xs : List Nat) (own rd : Nat → Prop) (w : World) (eg : ∀ args w, (callFunc gf args).run Try.prog w = .ok (.enter gf args) w)
  (hit : IterX Try.prog gf lb (fun i : Nat => #[fV b i]) xs own rd w) (ho : ∀ k, own k → k < w.heap.size) (hr : ∀ k, rd k → k < w.heap.size) (hlen : xs.length ≤ 1000000) :
  Calls Try.prog 101 #[.func (.func gf) #[] lb] w fun e w' =>
   ∃ v, e = .returned v ∧ w'.ownsRow w.heap.size 176 4 v xs.length (fCs b xs) ∧ Fr own w w' := by
 have HC := Lib.hid (callsIn_wide.1 (AppendSeqF gf lb b xs own rd w eg hit ho hr hlen))
 clear hit
 go_enter Try.func101, Try.ntmps101
 go_wp2_with fail
 refine HC.out.mono ?_
 rintro e w1 ⟨v, rfl, hrow, hfr⟩
 go_wp2
 go_ret
 exact ⟨_, rfl, hrow, hfr⟩
end Go.Proofs.Ytmbjfmlicffclaa

/-
  key.Compare.
-/
namespace Go.Proofs.Ytmbjfmlicffclaa
open Go.RowKit
attribute [local go_sem ↓] Go.wp_at_zero Go.wp_at_succ
attribute [local go_sem] Oper.semAt_some wide_fn wide_depth wide_fnR wide_depthR

def keyV (k : Key3) : Value := .agg #[.int .i64 k.time, .int .i64 k.source, .int .i64 k.seq]
set_option maxHeartbeats 1000000 in
theorem isNaNI_any (s : Int) (w : World) : Calls Try.prog 90 #[.int .i64 s] w fun e w' => e = .returned (.bool false) ∧ w = w' := by
 have h : (s != s) = false := by simp
 go_enter Try.func90, Try.ntmps90
 go_wp2
 go_ret
 exact ⟨rfl, rfl⟩
set_option maxHeartbeats 1000000 in
theorem cmpInt_any (a b : Int) (w : World) : Calls Try.prog 103 #[.int .i64 a, .int .i64 b] w fun e w' => e = .returned (.int .i64 (cmpI a b)) ∧ w = w' := by
 obtain ⟨c, hc⟩ : ∃ c, cmpI a b = c := ⟨_, rfl⟩
 rw [hc]
 unfold cmpI at hc
 by_cases h1 : a < b
 ·rw [if_pos h1] at hc
  subst hc
  have d1 : decide (a < b) = true := decide_eq_true h1
  go_enter Try.func103, Try.ntmps103
  go_wp2_with (go_at_call 90; refine (isNaNI_any _ _).mono ?_; rintro e w' ⟨rfl, rfl⟩)
  go_ret
  exact ⟨rfl, rfl⟩
 ·rw [if_neg h1] at hc
  have d1 : decide (a < b) = false := decide_eq_false h1
  by_cases h2 : b < a
  ·rw [if_pos h2] at hc
   subst hc
   have d2 : decide (b < a) = true := decide_eq_true h2
   go_enter Try.func103, Try.ntmps103
   go_wp2_with (go_at_call 90; refine (isNaNI_any _ _).mono ?_; rintro e w' ⟨rfl, rfl⟩)
   go_ret
   exact ⟨rfl, rfl⟩
  ·rw [if_neg h2] at hc
   subst hc
   have d2 : decide (b < a) = false := decide_eq_false h2
   go_enter Try.func103, Try.ntmps103
   go_wp2_with (go_at_call 90; refine (isNaNI_any _ _).mono ?_; rintro e w' ⟨rfl, rfl⟩)
   go_ret
   exact ⟨rfl, rfl⟩

/-- The three numbers of a key. -/
def nth3 (k : Key3) (i : Nat) : Int := if i = 0 then k.time else if i = 1 then k.source else k.seq

set_option maxRecDepth 100000 in
set_option maxHeartbeats 1000000 in
theorem eql_key (a b : Key3) (w : World) : (Go.binOp .eql 45 (keyV a) (keyV b)).run Try.prog w = .ok (.bool (decide (a = b))) w := by
 have h : decide (a = b) = (a.time == b.time && (a.source == b.source && a.seq == b.seq)) := by
  obtain ⟨a1, a2, a3⟩ := a
  obtain ⟨b1, b2, b3⟩ := b
  simp only [Key3.mk.injEq]
  rw [Bool.eq_iff_iff]; simp
 rw [h]
 unfold keyV
 go_simp
 by_cases h1 : a.time = b.time <;> by_cases h2 : a.source = b.source <;> by_cases h3 : a.seq = b.seq <;> simp [h1, h2, h3]

/-- A key in memory. -/
def KeyAt (w : World) (B : Nat) (k : Key3) : Prop := w.heap[B]? = some (.cells #[.int .i64 k.time, .int .i64 k.source, .int .i64 k.seq] 45 (0, 0))
theorem KeyAt.cell {w : World} {B : Nat} {k : Key3} (h : KeyAt w B k) {i : Nat} (hi : i < 3) : w.cell? ⟨B, i, none⟩ = some (.int .i64 (nth3 k i)) := by
 rw [cells_of h]
 have : i = 0 ∨ i = 1 ∨ i = 2 := by omega
 rcases this with rfl | rfl | rfl <;> rfl
theorem KeyAt.fr {S : Nat → Prop} {w w' : World} {B : Nat} {k : Key3} (h : KeyAt w B k) (hf : Fr S w w') (hs : ¬ S B) : KeyAt w' B k := (hf.block B (Array.getElem?_eq_some_iff.1 h).1 hs).trans h
theorem KeyAt.lt {w : World} {B : Nat} {k : Key3} (h : KeyAt w B k) : B < w.heap.size := (Array.getElem?_eq_some_iff.1 h).1
theorem nth3_ext {a b : Key3} (h : ∀ j, j < 3 → nth3 a j = nth3 b j) : a = b := by
 have h0 := h 0 (by omega)
 have h1 := h 1 (by omega)
 have h2 := h 2 (by omega)
 simp [nth3] at h0 h1 h2
 cases a; cases b; simp at h0 h1 h2; simp [h0, h1, h2]
theorem cmp_first {a b : Key3} {i : Nat} (hi : i < 3) (h : ∀ j, j < i → nth3 a j = nth3 b j) (hne : nth3 a i ≠ nth3 b i) : cmpK a b = cmpI (nth3 a i) (nth3 b i) ∧ fieldK a b = (i : Int) + 1 := by
 have : i = 0 ∨ i = 1 ∨ i = 2 := by omega
 rcases this with rfl | rfl | rfl
 ·simp [nth3] at hne
  simp [cmpK, fieldK, nth3, hne]
 ·have h0 := h 0 (by omega)
  simp [nth3] at hne h0
  simp [cmpK, fieldK, nth3, hne, h0]
 ·have h0 := h 0 (by omega)
  have h1 := h 1 (by omega)
  simp [nth3] at hne h0 h1
  simp [cmpK, fieldK, nth3, hne, h0, h1]

set_option maxRecDepth 100000 in
set_option maxHeartbeats 2000000 in
theorem Compare_same (a : Key3) (w : World) :
  Calls Try.prog 80 #[keyV a, keyV a] w fun e w' => e = .returned (.tuple #[.int .i64 0, .int .i64 0]) ∧ Fr none' w w' := by
 have hq := fun w => (eql_key a a w).trans (by rw [decide_eq_true rfl])
 simp only [keyV] at hq ⊢
 go_enter Try.func80, Try.ntmps80
 go_wp2
 refine bodyPost_ret (v := .tuple #[.int .i64 0, .int .i64 0]) (by simp [results, Try.results80, go_sem]) rfl ⟨rfl, ?_⟩
 exact ((((Fr.refl _ _).alloc _).alloc _).alloc _).alloc _

set_option maxRecDepth 100000 in
set_option maxHeartbeats 2000000 in
theorem Compare_in (a b : Key3) (hab : a ≠ b) (w : World) :
  CallsIn Fence.wide 0 Try.prog 80 #[keyV a, keyV b] w fun e w' => e = .returned (.tuple #[.int .i64 (cmpK a b), .int .i64 (fieldK a b)]) ∧ Fr none' w w' := by
 have hq := fun w => (eql_key a b w).trans (by rw [decide_eq_false hab])
 have Hab := Lib.hid hab
 clear hab
 refine callsIn_of_wp_marks Try.func80 rfl trivial ?_ rfl
 simp only [keyV] at hq
 simp only [keyV, Try.ntmps80, List.size_toArray, List.length_cons, List.length_nil, Nat.reduceAdd, Nat.reduceSub, Array.replicate_succ, Array.replicate_zero, List.push_toArray, List.append_toArray, List.nil_append, List.cons_append]
 gi_wp2_with fail
 obtain ⟨Bw, hBw⟩ : ∃ Bw, w.heap.size = Bw := ⟨_, rfl⟩
 obtain ⟨W0, hW0⟩ : ∃ W0, (((w.alloc (.cells #[.int .i64 a.time, .int .i64 a.source, .int .i64 a.seq] 45)).alloc (.cells #[.int .i64 b.time, .int .i64 b.source, .int .i64 b.seq] 45)).alloc (.cells #[.int .i64 0] 3)).alloc (.cells #[.int .i64 0] 3) = W0 := ⟨_, rfl⟩
 rw [hW0, hBw]
 have hsz : W0.heap.size = Bw + 4 := by rw [← hW0, ← hBw]; simp
 have ka : KeyAt W0 Bw a := by
  rw [← hW0, ← hBw]
  exact (KeyAt.fr (S := none') (World.alloc_heap_new w _) ((((Fr.refl _ _).alloc _).alloc _).alloc _) id)
 have kb : KeyAt W0 (Bw + 1) b := by
  rw [← hW0, ← hBw]
  have := World.alloc_heap_new (w.alloc (.cells #[.int .i64 a.time, .int .i64 a.source, .int .i64 a.seq] 45)) (.cells #[.int .i64 b.time, .int .i64 b.source, .int .i64 b.seq] 45)
  rw [World.size_alloc] at this
  exact (KeyAt.fr (S := none') this (((Fr.refl _ _).alloc _).alloc _) id)
 have r0 : Box W0 (Bw + 1 + 1) (.int .i64 0) := by
  rw [← hW0, ← hBw]
  refine Box.alloc ?_ _
  have := Box.new ((w.alloc (.cells #[.int .i64 a.time, .int .i64 a.source, .int .i64 a.seq] 45)).alloc (.cells #[.int .i64 b.time, .int .i64 b.source, .int .i64 b.seq] 45)) (.int .i64 0) 3
  simpa using this
 have r1 : Box W0 (Bw + 1 + 1 + 1) (.int .i64 0) := by
  rw [← hW0, ← hBw]
  have := Box.new (((w.alloc (.cells #[.int .i64 a.time, .int .i64 a.source, .int .i64 a.seq] 45)).alloc (.cells #[.int .i64 b.time, .int .i64 b.source, .int .i64 b.seq] 45)).alloc (.cells #[.int .i64 0] 3)) (.int .i64 0) 3
  simpa using this
 have f0 : Fr none' w W0 := by rw [← hW0]; exact ((((Fr.refl _ _).alloc _).alloc _).alloc _).alloc _
 have F0 := Lib.hid f0
 have HBw := Lib.hid hBw
 have Ka := Lib.hid ka
 have Kb := Lib.hid kb
 have R0 := Lib.hid r0
 have R1 := Lib.hid r1
 have Hsz := Lib.hid hsz
 clear hq hW0 hBw ka kb r0 r1 f0 hsz
 refine (callsIn_wide.2 (fields_any _ _)).mono ?_
 rintro e w1 ⟨rfl, rfl⟩
 gi_wp2_with fail
 refine (callsIn_wide.2 (CollectF _ _ (Bw + 1) [0, 1, 2] _ _ _ (by intro args w; rfl) (fields_iter (Bw + 1) W0.heap.size _ (Box.new _ _ _)) (fun k hk => hk.elim) (fun k hk => by subst hk; simp) (by simp))).mono ?_
 rintro e W1 ⟨v, rfl, hrow, hfr⟩
 obtain ⟨g, cap, rfl⟩ := ownsRow_k_succ (n := 2) hrow
 have hg := hrow.lt g rfl
 have Hrow := Lib.hid hrow
 have f1 : Fr none' W0 W1 := ((Fr.refl _ _).alloc _).trans hfr
 have F1 := Lib.hid f1
 simp only [World.size_alloc] at hg
 have hs1 := f1.size
 clear hrow hfr f1
 gi_wp2_with fail
 obtain ⟨N, hN⟩ : ∃ N, W1.heap.size = N := ⟨_, rfl⟩
 obtain ⟨W2, hW2⟩ : ∃ W2, (W1.alloc (.cells #[.slice (some ⟨g, 0, none⟩) 3 cap] 173)).alloc (.cells #[.int .i64 0] 3) = W2 := ⟨_, rfl⟩
 rw [hN] at hg hs1 ⊢
 rw [hW2]
 have f2 : Fr none' W1 W2 := by rw [← hW2]; exact ((Fr.refl _ _).alloc _).alloc _
 have hsz2 : W2.heap.size = N + 2 := by rw [← hW2, ← hN]; simp
 have bo : Box W2 N (.slice (some ⟨g, 0, none⟩) 3 cap) := by rw [← hW2, ← hN]; exact (Box.new _ _ _).alloc _
 have bn : Box W2 (N + 1) (.int .i64 0) := by
  rw [← hW2, ← hN]
  have := Box.new (W1.alloc (.cells #[.slice (some ⟨g, 0, none⟩) 3 cap] 173)) (.int .i64 0) 3
  rwa [World.size_alloc] at this
 have Bo := Lib.hid bo
 have Bn := Lib.hid bn
 have F2 := Lib.hid f2
 have Hsz2 := Lib.hid hsz2
 have HN := Lib.hid hN
 clear bo bn f2 hsz2 hN hW2
 refine (callsIn_wide.2 (fields_any _ _)).mono ?_
 rintro e w3 ⟨rfl, rfl⟩
 gi_wp2_with fail
 obtain ⟨W3, hW3⟩ : ∃ W3, W2.alloc (.cells #[.pointer (some ⟨Bw, 0, none⟩)] 180) = W3 := ⟨_, rfl⟩
 have it := fields_iter Bw W2.heap.size _ (Box.new W2 _ _ : Box (W2.alloc (.cells #[.pointer (some ⟨Bw, 0, none⟩)] 180)) _ _)
 rw [hW3, Hsz2.out] at it
 rw [hW3, Hsz2.out]
 have f3 : Fr none' W2 W3 := by rw [← hW3]; exact (Fr.refl _ _).alloc _
 have hsz3 : W3.heap.size = N + 3 := by rw [← hW3, World.size_alloc, Hsz2.out]
 have F3 := Lib.hid f3
 have Hsz3 := Lib.hid hsz3
 clear hW3 f3 hsz3
 have hN0 : Bw + 5 ≤ N := by have := Hsz.out; omega
 refine wpIn_iterX (gf := 108) (lb := #[.pointer (some ⟨N + 2, 0, none⟩)]) rfl (by intro args w; rfl) it (Keep.refl _ _) (fun _ => rfl) (fun k hk => hk.elim) (fun k hk => by subst hk; rw [Hsz3.out]; omega)
  (fun i X W => Fr (fun k => k = N + 1) W3 W ∧ Box W (N + 1) (.int .i64 i) ∧ Hid (∀ j, j < i → nth3 a j = nth3 b j))
  (fun c W => c = .ret ∧ Box W (Bw + 1 + 1) (.int .i64 (cmpK a b)) ∧ Box W (Bw + 1 + 1 + 1) (.int .i64 (fieldK a b)) ∧ Fr (fun k => k = N + 1 ∨ k = Bw + 1 + 1 ∨ k = Bw + 1 + 1 + 1) W3 W) ?hI ?hIx ?h0
  (fun x W a' => ∃ B, a' = { tmps := #[.agg #[.int .i64 a.time, .int .i64 a.source, .int .i64 a.seq], .agg #[.int .i64 b.time, .int .i64 b.source, .int .i64 b.seq], .pointer (some ⟨Bw, 0, none⟩), .pointer (some ⟨Bw + 1, 0, none⟩), .pointer (some ⟨Bw + 1 + 1, 0, none⟩), .pointer (some ⟨Bw + 1 + 1 + 1, 0, none⟩), .pointer (some ⟨N, 0, none⟩), .pointer (some ⟨N + 1, 0, none⟩), .pointer (some ⟨B, 0, none⟩), undef, .agg #[.int .i64 a.time, .int .i64 a.source, .int .i64 a.seq], .agg #[.int .i64 b.time, .int .i64 b.source, .int .i64 b.seq], .bool false, .func (.func 108) #[] #[.pointer (some ⟨W0.heap.size, 0, none⟩)], .slice (some ⟨g, 0, none⟩) 3 cap, .func (.func 108) #[] #[.pointer (some ⟨N + 2, 0, none⟩)], fV Bw x, undef, undef, undef, undef, undef, undef, undef, undef, undef, undef, undef, undef, undef, undef, undef, undef, undef, undef, undef], defers := [] } ∧ N + 4 < B ∧ W.heap[B]? = some (.cells (fC Bw x).toArray 176 (0, 0)))
  ?assign ?keep ?body ?done ?stop
 case hI =>
  rintro i X Y W4 W5 ⟨h1, h2, h3⟩ hX hf hY
  have hlt : ∀ k, k < N + 3 → ¬ (none' k ∨ X k ∨ k = W3.heap.size ∨ k = W3.heap.size + 1) := fun k hk h => by
   have hz := Hsz3.out
   rcases h with h | h | h | h
   ·exact h
   ·have := hX k h; omega
   ·omega
   ·omega
  exact ⟨h1.trans' hf (fun k hk h => absurd h (hlt k (by rw [Hsz3.out] at hk; exact hk))), h2.fr hf (hlt _ (by omega)), h3⟩
 case hIx =>
  rintro c W4 W5 ⟨h0, h1, h2, h3⟩ hf
  have hlt : ∀ k, k < N + 3 → ¬ (none' k ∨ k = W3.heap.size ∨ k = W3.heap.size + 1) := fun k hk h => by
   have hz := Hsz3.out
   rcases h with h | h | h
   ·exact h
   ·omega
   ·omega
  exact ⟨h0, h1.fr hf (hlt _ (by omega)), h2.fr hf (hlt _ (by omega)), h3.trans' hf (fun k hk h => absurd h (hlt k (by rw [Hsz3.out] at hk; exact hk)))⟩
 case h0 =>
  exact ⟨Fr.refl _ _, Bn.out.fr F3.out id, fun j hj => by omega⟩
 case keep =>
  rintro x W4 W5 a' ⟨B, rfl, hB, hc⟩ hf
  refine ⟨B, rfl, hB, (hf.block B (Array.getElem?_eq_some_iff.1 hc).1 (by rw [Hsz3.out]; omega)).trans hc⟩
 case assign =>
  intro l x W K hlt hK
  rw [Hsz3.out] at hlt
  simp only [fV]
  gi_wp2
  exact hK _ _ ⟨W.heap.size, by simp [fV], by omega, World.alloc_heap_new W _⟩ ((Fr.refl _ _).alloc _)
 case body =>
  rintro l i x X W a' r hxi ⟨hfr, hbn, hall⟩ hXb ⟨B, rfl, hB, hcB⟩ hD hL
  have hi : i < 3 ∧ x = i := by
   have : i < 3 := (List.getElem?_eq_some_iff.1 hxi).1
   have h3 : i = 0 ∨ i = 1 ∨ i = 2 := by omega
   rcases h3 with rfl | rfl | rfl <;> simp at hxi <;> omega
  obtain ⟨hi, rfl⟩ := hi
  clear hxi hD hL
  have hcb := cells_of hcB 0
  simp [fC] at hcb
  have hcell : ∀ k o u, k ≠ N + 1 → W3.cell? ⟨k, o, none⟩ = some u → W.cell? ⟨k, o, none⟩ = some u := fun k o u hk hu => by
   rw [hfr.cell (p := ⟨k, o, none⟩) (World.block_lt_of_cell? W3 _ hu) hk]; exact hu
  have h13 : Fr none' W1 W3 := F2.out.trans F3.out
  have h03 : Fr none' W0 W3 := F1.out.trans h13
  have ka := hcell _ _ _ (by omega) ((Ka.out.fr h03 id).cell hi)
  have kb := hcell _ _ _ (by omega) ((Kb.out.fr h03 id).cell hi)
  have bo := hcell _ _ _ (by omega) (Bo.out.fr F3.out id).cell
  have bn := hbn.cell
  have hrc := hcell _ _ _ (by omega) ((h13.cell (p := ⟨g, x * 4, none⟩) (by rw [HN.out]; exact hg.2) id).trans (show W1.cell? ⟨g, x * 4, none⟩ = some (.pointer (some ⟨Bw + 1, x, none⟩)) from by
   have := (ownsRow_k_raise Hrow.out (base' := 0) (fun _ _ => Nat.zero_le _)).cells (g := g) rfl (x * 4) (.pointer (some ⟨Bw + 1, x, none⟩)) (by
    have h3 : x = 0 ∨ x = 1 ∨ x = 2 := by omega
    rcases h3 with rfl | rfl | rfl <;> rfl)
   unfold Addr.add at this
   split at this
   ·next h => rw [h]; exact this
   ·simpa using this))
  have Hcell := Lib.hid hcell
  clear hcell hcB h13 h03
  obtain ⟨p, hp⟩ : ∃ p, nth3 a x = p := ⟨_, rfl⟩
  obtain ⟨q, hq⟩ : ∃ q, nth3 b x = q := ⟨_, rfl⟩
  rw [hp] at ka
  rw [hq] at kb
  have Hp := Lib.hid hp
  have Hq := Lib.hid hq
  clear hp hq
  have z1 : (0 : Int) ≤ (x : Int) := by omega
  have z2 : (x : Int) < 3 := by omega
  have z3 : IntKind.i64.wrap ((x : Int) + 1) = (x : Int) + 1 := IntWalk.i64_in _ (by omega)
  gi_wp2
  refine wpIn_round_held (S := fun W' => W' = W.drew) (by kernel_rfl) (by kernel_rfl) (by intro a w h; exact h) rfl (fun hHeld => ?_)
  refine tkn (i := 0) (v := .pointer (some ⟨B, 0, none⟩)) (fun W' hSW => ?_) ?_
  ·(try dsimp only at hSW); (try subst hSW)
   first | (go_simp; done) | exact rfl | (go_simp; rfl) | (go_simp; omega)
  try simp only [pUt, pUn, sEt, sEz, sEs]
  refine tkn (i := 1) (v := .pointer (some ⟨Bw, x, none⟩)) (fun W' hSW => ?_) ?_
  ·(try dsimp only at hSW); (try subst hSW)
   first | (go_simp; done) | exact rfl | (go_simp; rfl) | (go_simp; omega)
  try simp only [pUt, pUn, sEt, sEz, sEs]
  refine tkn (i := 2) (v := .pointer (some ⟨Bw, x, none⟩)) (fun W' hSW => ?_) ?_
  ·(try dsimp only at hSW); (try subst hSW)
   first | (go_simp; done) | exact rfl | (go_simp; rfl) | (go_simp; omega)
  try simp only [pUt, pUn, sEt, sEz, sEs]
  refine tkn (i := 3) (v := .int .i64 p) (fun W' hSW => ?_) ?_
  ·(try dsimp only at hSW); (try subst hSW)
   first | (go_simp; done) | exact rfl | (go_simp; rfl) | (go_simp; omega)
  try simp only [pUt, pUn, sEt, sEz, sEs]
  refine tkn (i := 4) (v := .slice (some ⟨g, 0, none⟩) 3 cap) (fun W' hSW => ?_) ?_
  ·(try dsimp only at hSW); (try subst hSW)
   first | (go_simp; done) | exact rfl | (go_simp; rfl) | (go_simp; omega)
  try simp only [pUt, pUn, sEt, sEz, sEs]
  refine tkn (i := 5) (v := .int .i64 x) (fun W' hSW => ?_) ?_
  ·(try dsimp only at hSW); (try subst hSW)
   first | (go_simp; done) | exact rfl | (go_simp; rfl) | (go_simp; omega)
  try simp only [pUt, pUn, sEt, sEz, sEs]
  refine tkn (i := 6) (v := .pointer (some ⟨g, x * 4, none⟩)) (fun W' hSW => ?_) ?_
  ·(try dsimp only at hSW); (try subst hSW)
   first | (go_simp; done) | exact rfl | (go_simp; rfl) | (go_simp; omega)
  try simp only [pUt, pUn, sEt, sEz, sEs]
  refine tkn (i := 7) (v := .pointer (some ⟨g, x * 4, none⟩)) (fun W' hSW => ?_) ?_
  ·(try dsimp only at hSW); (try subst hSW)
   first | (go_simp; done) | exact rfl | (go_simp; rfl) | (go_simp; omega)
  try simp only [pUt, pUn, sEt, sEz, sEs]
  refine tkn (i := 8) (v := .pointer (some ⟨Bw + 1, x, none⟩)) (fun W' hSW => ?_) ?_
  ·(try dsimp only at hSW); (try subst hSW)
   first | (go_simp; done) | exact rfl | (go_simp; rfl) | (go_simp; omega)
  try simp only [pUt, pUn, sEt, sEz, sEs]
  refine tkn (i := 9) (v := .pointer (some ⟨Bw + 1, x, none⟩)) (fun W' hSW => ?_) ?_
  ·(try dsimp only at hSW); (try subst hSW)
   first | (go_simp; done) | exact rfl | (go_simp; rfl) | (go_simp; omega)
  try simp only [pUt, pUn, sEt, sEz, sEs]
  refine tkn (i := 10) (v := .int .i64 q) (fun W' hSW => ?_) ?_
  ·(try dsimp only at hSW); (try subst hSW)
   first | (go_simp; done) | exact rfl | (go_simp; rfl) | (go_simp; omega)
  try simp only [pUt, pUn, sEt, sEz, sEs]
  refine take_call (i := 11) rfl (by kernel_rfl) (by kernel_rfl) (fun K hK => ?_)
  go_simp
  refine (cmpInt_any _ _ _).mono ?_
  rintro e w1 ⟨rfl, rfl⟩
  go_wp2_with fail
  refine hK.out _ _ rfl (fun hHeld => ?_)
  clear hK K
  try simp only [pUt, pUn, sEt, sEz, sEs]
  refine tkn (i := 12) (v := .int .i64 (cmpI p q)) (fun W' hSW => ?_) ?_
  ·(try dsimp only at hSW); (try subst hSW)
   first | (go_simp; done) | exact rfl | (go_simp; rfl) | (go_simp; omega)
  try simp only [pUt, pUn, sEt, sEz, sEs]
  refine wpAnyH_done (by kernel_rfl) ?_ _
  clear hHeld hcb ka kb bo hrc
  have bf := hbn.frozen
  by_cases hpq : p = q
  ·have hc0 : cmpI p q = 0 := (cmpI_eq p q).2 hpq
   rw [hc0]
   gi_wp2
   refine ⟨fun k => k = N + 1, ?_, ?_, ?_, ?_, ?_⟩
   ·exact ((Fr.refl (fun k => k = N + 1) W).setCell (fun _ => rfl) _).drew
   ·intro k hk h
    subst hk
    rcases h with h | h | h | h
    ·omega
    ·have := hXb _ h; rw [Hsz3.out] at this; omega
    ·rw [Hsz3.out] at h; omega
    ·rw [Hsz3.out] at h; omega
   ·exact (hfr.setCell (fun _ => rfl) _).drew
   ·exact hbn.set _
   ·intro j hj
    by_cases hjx : j = x
    ·subst hjx; rw [Hp.out, Hq.out]; exact hpq
    ·exact hall.out j (by omega)
  ·have hc0 : (cmpI p q != 0) = true := by
    have := cmpI_eq p q
    simp; omega
   have hr0 : Box W (Bw + 1 + 1) (.int .i64 0) := ((R0.out.fr (F1.out.trans (F2.out.trans F3.out)) id).fr hfr (by omega))
   have hr1 : Box W (Bw + 1 + 1 + 1) (.int .i64 0) := ((R1.out.fr (F1.out.trans (F2.out.trans F3.out)) id).fr hfr (by omega))
   have c0 := hr0.cell
   have c1 := hr1.cell
   have g0 := hr0.frozen
   have g1 := hr1.frozen
   gi_wp2
   refine wpIn_round_held (S := fun W' => W'.cell? ⟨N + 1, 0, none⟩ = some (.int .i64 x)) (by kernel_rfl) (by kernel_rfl) (by intro a w h; exact h) bn (fun hHeld => ?_)
   refine tkn (i := 0) (v := .int .i64 (cmpI p q)) (fun W' hSW => ?_) ?_
   ·(try dsimp only at hSW); (try subst hSW)
    first | (go_simp; done) | exact rfl | (go_simp; rfl) | (go_simp; omega)
   try simp only [pUt, pUn, sEt, sEz, sEs]
   refine tkn (i := 1) (v := .int .i64 x) (fun W' hSW => ?_) ?_
   ·(try dsimp only at hSW); (try subst hSW)
    first | (go_simp; done) | exact rfl | (go_simp; rfl) | (go_simp; omega)
   try simp only [pUt, pUn, sEt, sEz, sEs]
   refine tkn (i := 2) (v := .int .i64 ((x : Int) + 1)) (fun W' hSW => ?_) ?_
   ·(try dsimp only at hSW); (try subst hSW)
    first | (go_simp; done) | exact rfl | (go_simp; rfl) | (go_simp; omega)
   try simp only [pUt, pUn, sEt, sEz, sEs]
   refine take_call (i := 3) rfl (by kernel_rfl) (by kernel_rfl) (fun K hK => ?_)
   go_simp
   refine hK.out _ _ ((World.cell?_setCell_far W ⟨Bw + 1 + 1, 0, none⟩ ⟨N + 1, 0, none⟩ _ (by simp; omega)).trans bn) (fun hHeld2 => ?_)
   clear hK K
   try simp only [pUt, pUn, sEt, sEz, sEs]
   have c1' := (World.cell?_setCell_far W ⟨Bw + 1 + 1, 0, none⟩ ⟨Bw + 1 + 1 + 1, 0, none⟩ (.int .i64 (cmpI p q)) (by simp)).trans c1
   refine take_call (i := 4) rfl (by kernel_rfl) (by kernel_rfl) (fun K hK => ?_)
   go_simp
   refine hK.out _ _ ((World.cell?_setCell_far _ ⟨Bw + 1 + 1 + 1, 0, none⟩ ⟨N + 1, 0, none⟩ _ (by simp; omega)).trans ((World.cell?_setCell_far W ⟨Bw + 1 + 1, 0, none⟩ ⟨N + 1, 0, none⟩ _ (by simp; omega)).trans bn)) (fun hHeld3 => ?_)
   clear hK K
   try simp only [pUt, pUn, sEt, sEz, sEs]
   refine wpAnyH_done (by kernel_rfl) ?_ _
   clear c0 c1 g0 g1 c1' bn bf hHeld hHeld2 hHeld3
   gi_wp2
   obtain ⟨hv1, hv2⟩ := cmp_first hi hall.out (by rw [Hp.out, Hq.out]; exact hpq)
   rw [Hp.out, Hq.out] at hv1
   have key : ∀ {V : World}, V.heap = ((W.setCell ⟨Bw + 1 + 1, 0, none⟩ (.int .i64 (cmpI p q))).setCell ⟨Bw + 1 + 1 + 1, 0, none⟩ (.int .i64 ((x : Int) + 1))).heap → Box V (Bw + 1 + 1) (.int .i64 (cmpK a b)) ∧ Box V (Bw + 1 + 1 + 1) (.int .i64 (fieldK a b)) := fun {V} hV => by
    rw [hv1, hv2]
    refine ⟨Box.of_block ?_ (congrArg (·[Bw + 1 + 1]?) hV), Box.of_block ?_ (congrArg (·[Bw + 1 + 1 + 1]?) hV)⟩
    ·exact (hr0.set _).setOther (by simp) _
    ·exact (hr1.setOther (by simp) _).set _
   have kf : ∀ {A : World} {S : Nat → Prop}, Fr S A W → S (Bw + 1 + 1) → S (Bw + 1 + 1 + 1) → Fr S A (((W.setCell ⟨Bw + 1 + 1, 0, none⟩ (.int .i64 (cmpI p q))).setCell ⟨Bw + 1 + 1 + 1, 0, none⟩ (.int .i64 ((x : Int) + 1)))) := fun {A S} h h1 h2 => (h.setCell (fun _ => h1) _).setCell (fun _ => h2) _
   refine ⟨fun k => k = Bw + 1 + 1 ∨ k = Bw + 1 + 1 + 1, ?_, ?_, rfl, ?_, ?_, ?_⟩
   ·exact (((kf (Fr.refl _ W) (.inl rfl) (.inr rfl)).drew).drew)
   ·intro k hk h
    rcases h with h | h | h | h
    ·omega
    ·have := hXb _ h; rw [Hsz3.out] at this; omega
    ·rw [Hsz3.out] at h; omega
    ·rw [Hsz3.out] at h; omega
   ·exact (key rfl).1
   ·exact (key rfl).2
   ·exact (((kf (hfr.mono (fun k _ h => .inl h)) (.inr (.inl rfl)) (.inr (.inr rfl))).drew).drew)
 case done =>
  rintro D X W hDe ⟨hfr, hbn, hall⟩ hK
  exact absurd (nth3_ext hall.out) Hab.out
 case stop =>
  rintro D c W hDe ⟨rfl, h1, h2, h3⟩ hK
  have c1 := h1.cell
  have c2 := h2.cell
  rw [Hsz3.out] at hDe
  subst hDe
  have hlt : N + 3 < W.heap.size := (Array.getElem?_eq_some_iff.1 hK).1
  have hk1 : Box (W.putObj (N + 3) (.deferred none)) (Bw + 1 + 1) (.int .i64 (cmpK a b)) := h1.of_block (World.putObj_heap_other (by omega))
  have hk2 : Box (W.putObj (N + 3) (.deferred none)) (Bw + 1 + 1 + 1) (.int .i64 (fieldK a b)) := h2.of_block (World.putObj_heap_other (by omega))
  have d1 := hk1.cell
  have d2 := hk2.cell
  have hK' := hK
  clear hK
  gi_wp2
  refine ⟨by simp, .inl ⟨_, _, rfl, run_takeDeferred hK', ?_⟩⟩
  refine ⟨.tuple #[.int .i64 (cmpK a b), .int .i64 (fieldK a b)], by simp [results, Try.results80, go_sem, d1, d2], rfl, ?_⟩
  have hz := HBw.out
  have h03 : Fr none' w W3 := F0.out.trans (F1.out.trans (F2.out.trans F3.out))
  exact (h03.trans' h3 (fun k hk h => by omega)).putObj (fun h => by omega) _
theorem Compare_any (a b : Key3) (w : World) :
  Calls Try.prog 80 #[keyV a, keyV b] w fun e w' => e = .returned (.tuple #[.int .i64 (cmpK a b), .int .i64 (fieldK a b)]) ∧ Fr none' w w' := by
 by_cases h : a = b
 ·subst h
  have h1 : cmpK a a = 0 := (cmpK_eq a a).2 rfl
  have h2 : fieldK a a = 0 := by simp [fieldK]
  rw [h1, h2]
  exact Compare_same a w
 ·exact callsIn_wide.1 (Compare_in a b h w)
end Go.Proofs.Ytmbjfmlicffclaa

/-
  Marks of ranges that have ended, where rows of cells turn beside them.
-/
namespace Go.Proofs.Ytmbjfmlicffclaa
open Go.RowKit

end Go.Proofs.Ytmbjfmlicffclaa

/-
  Rows of keys.
-/
namespace Go.Proofs.Ytmbjfmlicffclaa
open Go Go.RowKit
attribute [local go_sem ↓] Go.wp_at_zero Go.wp_at_succ

theorem IterX.to0 {α : Type} {P : Program} {gf : Nat} {lb : Array Value} {encs : α → Array Value} {xs : List α} {own rd : Nat → Prop} {w : World} (h : IterX P gf lb encs xs own rd w) : IterX0 P gf lb encs xs own rd w := by
 intro l J Jx W hK hJ hJx hY h0
 exact h l J Jx W hK (fun i X Y W1 W2 h1 hf h2 => hJ i X Y W1 W2 h1 hf.to0 h2) (fun W1 W2 h1 hf => hJx W1 W2 h1 hf.to0) hY h0

def ckey (k : Key3) : List Value := [.int .i64 k.time, .int .i64 k.source, .int .i64 k.seq]
def flatKy (l : List Key3) : List Value := l.flatMap ckey
theorem flatKy_at (l : List Key3) (k c : Nat) (p : Key3) (hk : l[k]? = some p) (hc : c < 3) : (flatKy l)[k * 3 + c]? = (ckey p)[c]? := by
 induction l generalizing k with
 | nil => simp at hk
 | cons x r ih =>
  rw [flatKy, List.flatMap_cons]
  cases k with
  | zero =>
   simp only [List.getElem?_cons_zero, Option.some.injEq] at hk
   subst hk
   rw [List.getElem?_append_left (by simp [ckey]; omega)]
   simp
  | succ k =>
   rw [List.getElem?_append_right (by simp [ckey]; omega)]
   have := ih k (by simpa using hk)
   rw [← this]
   congr 1
   simp [ckey]; omega

/-- The three cells of a key. -/
def KAt (w : World) (g o : Nat) (p : Key3) : Prop := w.cell? ⟨g, o, none⟩ = some (.int .i64 p.time) ∧ w.cell? ⟨g, o + 1, none⟩ = some (.int .i64 p.source) ∧ w.cell? ⟨g, o + 2, none⟩ = some (.int .i64 p.seq)
def KsIn (w : World) (a : Option Addr) (L : List Key3) : Prop := ∀ i p, L[i]? = some p → ∃ g o, a = some ⟨g, o, none⟩ ∧ KAt w g (o + i * 3) p
def KsAt (w : World) (v : Value) (L : List Key3) : Prop := ∃ a cap, v = .slice a L.length cap ∧ KsIn w a L
theorem KAt.later {w w' : World} {g o : Nat} {p : Key3} (h : KAt w g o p) (hf : Fr0 none' w w') : KAt w' g o p := ⟨hf.later h.1, hf.later h.2.1, hf.later h.2.2⟩
theorem KAt.fr0 {S : Nat → Prop} {w w' : World} {g o : Nat} {p : Key3} (h : KAt w g o p) (hf : Fr0 S w w') (hS : ¬ S g) : KAt w' g o p := by
 have hl := World.block_lt_of_cell? _ _ h.1
 exact ⟨(hf.cell (p := ⟨g, o, none⟩) hl hS).trans h.1, (hf.cell (p := ⟨g, o + 1, none⟩) hl hS).trans h.2.1, (hf.cell (p := ⟨g, o + 2, none⟩) hl hS).trans h.2.2⟩
theorem KsIn.fr0 {S : Nat → Prop} {w w' : World} {a : Option Addr} {L : List Key3} (h : KsIn w a L) (hf : Fr0 S w w') (hS : ∀ g o s, a = some ⟨g, o, s⟩ → ¬ S g) : KsIn w' a L := fun i p hp => by
 obtain ⟨g, o, rfl, hc⟩ := h i p hp
 exact ⟨g, o, rfl, hc.fr0 hf (hS g o none rfl)⟩
theorem KsIn.later {w w' : World} {a : Option Addr} {L : List Key3} (h : KsIn w a L) (hf : Fr0 none' w w') : KsIn w' a L := h.fr0 hf (fun _ _ _ _ h => h)
theorem KsAt.later {w w' : World} {v : Value} {L : List Key3} (h : KsAt w v L) (hf : Fr0 none' w w') : KsAt w' v L := by
 obtain ⟨a, cap, rfl, h⟩ := h
 exact ⟨a, cap, rfl, h.later hf⟩
theorem cellsK_at {w : World} {b : Nat} {cu : Array Value} {ty : TypeId} (h : w.heap[b]? = some (.cells cu ty (0, 0))) (o : Nat) : w.cell? ⟨b, o, none⟩ = cu[o]? := by simp [World.cell?, h]
theorem KsIn.of_cells {w : World} {g n : Nat} {cu : Array Value} {ty : TypeId} {L : List Key3} (hg : w.heap[g]? = some (.cells cu ty (0, 0))) (ht : cu.toList.take (n * 3) = flatKy L) (hn : L.length = n) : KsIn w (some ⟨g, 0, none⟩) L := fun i p hp => by
 refine ⟨g, 0, rfl, ?_, ?_, ?_⟩
 all_goals
  have hi := (List.getElem?_eq_some_iff.1 hp).1
  have h1 : ∀ j, j < n * 3 → cu.toList[j]? = (flatKy L)[j]? := fun j hj => by rw [← ht, List.getElem?_take_of_lt hj]
  have h2 := flatKy_at L i
  rw [cellsK_at hg, ← Array.getElem?_toList, Nat.zero_add]
 ·have := h2 0 p hp (by omega); rw [Nat.add_zero] at this; rw [h1 _ (by omega), this]; rfl
 ·rw [h1 _ (by omega), h2 1 p hp (by omega)]; rfl
 ·rw [h1 _ (by omega), h2 2 p hp (by omega)]; rfl
theorem KsAt.of_own {w : World} {base : Nat} {v : Value} {n : Nat} {L : List Key3} (h : w.ownsRow base 45 3 v n (flatKy L)) (hn : L.length = n) : KsAt w v L := by
 rcases h.2 with ⟨rfl, h0⟩ | ⟨g, cap, cur, rfl, hb, hg, hn', hcm, hs, ht⟩
 ·have : L = [] := List.eq_nil_of_length_eq_zero (by omega)
  subst this
  exact ⟨none, 0, rfl, fun i p hp => by simp at hp⟩
 ·exact ⟨_, cap, by rw [hn], KsIn.of_cells hg ht hn⟩
theorem KsIn.nil (w : World) (a : Option Addr) : KsIn w a [] := fun i p hp => by simp at hp
end Go.Proofs.Ytmbjfmlicffclaa

/-
  key.Right.
-/
namespace Go.Proofs.Ytmbjfmlicffclaa
open Go Go.RowKit
attribute [local go_sem ↓] Go.wp_at_zero Go.wp_at_succ
attribute [local go_sem] Oper.semAt_some wide_fn wide_depth wide_fnR wide_depthR

/-- One field is right. -/
def okF (k : Key3) (i : Nat) : Prop := 0 ≤ nth3 k i ∧ nth3 k i ≤ fMost i
theorem okF_all (k : Key3) : RightK k ↔ ∀ i, i < 3 → okF k i := by
 constructor
 ·intro h i hi
  have h3 : i = 0 ∨ i = 1 ∨ i = 2 := by omega
  obtain ⟨h1, h2, h3', h4, h5, h6⟩ := h
  rcases h3 with rfl | rfl | rfl <;> simp [okF, nth3, fMost] <;> omega
 ·intro h
  have h0 := h 0 (by omega)
  have h1 := h 1 (by omega)
  have h2 := h 2 (by omega)
  simp [okF, nth3, fMost] at h0 h1 h2
  exact ⟨h0.1, h0.2, h1.1, h1.2, h2.1, h2.2⟩

set_option maxRecDepth 100000 in
set_option maxHeartbeats 2000000 in
theorem Right_in (k : Key3) (w : World) :
  CallsIn Fence.wide 0 Try.prog 92 #[keyV k] w fun e w' => e = .returned (.bool (decide (RightK k))) ∧ Fr0 none' w w' := by
 obtain ⟨R, hR⟩ : ∃ R, decide (RightK k) = R := ⟨_, rfl⟩
 rw [hR]
 have HR := Lib.hid hR
 clear hR
 refine callsIn_of_wp_marks Try.func92 rfl trivial ?_ rfl
 simp only [keyV, Try.ntmps92, List.size_toArray, List.length_cons, List.length_nil, Nat.reduceAdd, Nat.reduceSub, Array.replicate_succ, Array.replicate_zero, List.push_toArray, List.append_toArray, List.nil_append, List.cons_append]
 gi_wp2_with fail
 obtain ⟨Bw, hBw⟩ : ∃ Bw, w.heap.size = Bw := ⟨_, rfl⟩
 obtain ⟨W0, hW0⟩ : ∃ W0, (w.alloc (.cells #[.int .i64 k.time, .int .i64 k.source, .int .i64 k.seq] 45)).alloc (.cells #[.bool false] 4) = W0 := ⟨_, rfl⟩
 rw [hW0, hBw]
 have hsz : W0.heap.size = Bw + 2 := by rw [← hW0, ← hBw]; simp
 have ka : KeyAt W0 Bw k := by
  rw [← hW0, ← hBw]
  exact (KeyAt.fr (S := none') (World.alloc_heap_new w _) ((Fr.refl _ _).alloc _) id)
 have r0 : Box W0 (Bw + 1) (.bool false) := by
  rw [← hW0, ← hBw]
  have := Box.new (w.alloc (.cells #[.int .i64 k.time, .int .i64 k.source, .int .i64 k.seq] 45)) (.bool false) 4
  simpa using this
 have f0 : Fr0 none' w W0 := by rw [← hW0]; exact ((Fr0.refl _ _).alloc _).alloc _
 have F0 := Lib.hid f0
 have HBw := Lib.hid hBw
 have Ka := Lib.hid ka
 have R0 := Lib.hid r0
 clear hW0 hBw ka r0 f0
 refine (callsIn_wide.2 (fields_any _ _)).mono ?_
 rintro e w1 ⟨rfl, rfl⟩
 gi_wp2_with fail
 obtain ⟨W1, hW1⟩ : ∃ W1, W0.alloc (.cells #[.pointer (some ⟨Bw, 0, none⟩)] 180) = W1 := ⟨_, rfl⟩
 have it := (fields_iter Bw W0.heap.size _ (Box.new W0 _ _ : Box (W0.alloc (.cells #[.pointer (some ⟨Bw, 0, none⟩)] 180)) _ _)).to0
 rw [hW1, hsz] at it
 rw [hW1]
 have f1 : Fr0 none' W0 W1 := by rw [← hW1]; exact (Fr0.refl _ _).alloc _
 have hsz1 : W1.heap.size = Bw + 3 := by rw [← hW1, World.size_alloc, hsz]
 have F1 := Lib.hid f1
 have Hsz1 := Lib.hid hsz1
 clear hW1 f1 hsz1 hsz
 refine wpIn_iterX0 (gf := 108) (lb := #[.pointer (some ⟨Bw + 2, 0, none⟩)]) rfl (by intro args w; rfl) it (Keep.refl _ _) (fun _ => rfl) (fun k hk => hk.elim) (fun k hk => by subst hk; rw [Hsz1.out]; omega)
  (fun i X W => Fr0 none' W1 W ∧ Hid (∀ j, j < i → okF k j))
  (fun c W => c = .ret ∧ Hid (¬ RightK k) ∧ Box W (Bw + 1) (.bool false) ∧ Fr0 (fun k => k = Bw + 1) W1 W) ?hI ?hIx ?h0
  (fun x W a' => ∃ B, a' = { tmps := #[.agg #[.int .i64 k.time, .int .i64 k.source, .int .i64 k.seq], .pointer (some ⟨Bw, 0, none⟩), .pointer (some ⟨Bw + 1, 0, none⟩), .pointer (some ⟨B, 0, none⟩), .func (.func 108) #[] #[.pointer (some ⟨Bw + 2, 0, none⟩)], fV Bw x, undef, undef, undef, undef, undef, undef, undef, undef, undef, undef, undef, undef, undef, undef], defers := [] } ∧ Bw + 4 < B ∧ W.heap[B]? = some (.cells (fC Bw x).toArray 176 (0, 0)))
  ?assign ?keep ?body ?done ?stop
 case hI =>
  rintro i X Y W4 W5 ⟨h1, h3⟩ hX hf hY
  exact ⟨h1.trans' hf (fun k hk h => by
   rw [Hsz1.out] at hk
   rcases h with h | h | h | h
   ·exact h
   ·have := hX k h; rw [Hsz1.out] at this; omega
   ·rw [Hsz1.out] at h; omega
   ·rw [Hsz1.out] at h; omega), h3⟩
 case hIx =>
  rintro c W4 W5 ⟨h0, h1, h2, h3⟩ hf
  have hlt : ∀ k, k < Bw + 3 → ¬ (none' k ∨ k = W1.heap.size ∨ k = W1.heap.size + 1) := fun k hk h => by
   have hz := Hsz1.out
   rcases h with h | h | h
   ·exact h
   ·omega
   ·omega
  exact ⟨h0, h1, h2.fr0 hf (hlt _ (by omega)), h3.trans' hf (fun k hk h => absurd h (hlt k (by rw [Hsz1.out] at hk; exact hk)))⟩
 case h0 =>
  exact ⟨Fr0.refl _ _, fun j hj => by omega⟩
 case keep =>
  rintro x W4 W5 a' ⟨B, rfl, hB, hc⟩ hf
  refine ⟨B, rfl, hB, (hf.block B (Array.getElem?_eq_some_iff.1 hc).1 (by rw [Hsz1.out]; omega)).trans hc⟩
 case assign =>
  intro l x W K hlt hK
  rw [Hsz1.out] at hlt
  simp only [fV]
  gi_wp2
  exact hK _ _ ⟨W.heap.size, by simp [fV], by omega, World.alloc_heap_new W _⟩ ((Fr0.refl _ _).alloc _)
 case body =>
  rintro l i x X W a' r hxi ⟨hfr, hall⟩ hXb ⟨B, rfl, hB, hcB⟩ hD hL
  have hi : i < 3 ∧ x = i := by
   have : i < 3 := (List.getElem?_eq_some_iff.1 hxi).1
   have h3 : i = 0 ∨ i = 1 ∨ i = 2 := by omega
   rcases h3 with rfl | rfl | rfl <;> simp at hxi <;> omega
  obtain ⟨hi, rfl⟩ := hi
  clear hxi hD hL
  have hcb := cells_of hcB 0
  have hcm := cells_of hcB 1
  simp [fC] at hcb hcm
  have ka : W.cell? ⟨Bw, x, none⟩ = some (.int .i64 (nth3 k x)) := hfr.later (F1.out.later (Ka.out.cell hi))
  clear hcB
  obtain ⟨p, hp⟩ : ∃ p, nth3 k x = p := ⟨_, rfl⟩
  obtain ⟨m, hm⟩ : ∃ m, fMost x = m := ⟨_, rfl⟩
  rw [hp] at ka
  rw [hm] at hcm
  have Hp := Lib.hid hp
  have Hm := Lib.hid hm
  clear hp hm
  gi_wp2
  by_cases hp0 : p < 0
  ·have d0 : decide (p < 0) = true := decide_eq_true hp0
   refine wpIn_round_held (S := fun W' => W' = W.drew) (by kernel_rfl) (by kernel_rfl) (by intro a w h; exact h) rfl (fun hHeld => ?_)
   refine tkn (i := 0) (v := .pointer (some ⟨B, 0, none⟩)) (fun W' hSW => ?_) ?_
   ·(try dsimp only at hSW); (try subst hSW)
    first | (go_simp; done) | exact rfl | (go_simp; rfl) | (go_simp; omega)
   try simp only [pUt, pUn, sEt, sEz, sEs]
   refine tkn (i := 1) (v := .pointer (some ⟨Bw, x, none⟩)) (fun W' hSW => ?_) ?_
   ·(try dsimp only at hSW); (try subst hSW)
    first | (go_simp; done) | exact rfl | (go_simp; rfl) | (go_simp; omega)
   try simp only [pUt, pUn, sEt, sEz, sEs]
   refine tkn (i := 2) (v := .pointer (some ⟨Bw, x, none⟩)) (fun W' hSW => ?_) ?_
   ·(try dsimp only at hSW); (try subst hSW)
    first | (go_simp; done) | exact rfl | (go_simp; rfl) | (go_simp; omega)
   try simp only [pUt, pUn, sEt, sEz, sEs]
   refine tkn (i := 3) (v := .int .i64 p) (fun W' hSW => ?_) ?_
   ·(try dsimp only at hSW); (try subst hSW)
    first | (go_simp; done) | exact rfl | (go_simp; rfl) | (go_simp; omega)
   try simp only [pUt, pUn, sEt, sEz, sEs]
   refine tkn (i := 4) (v := .bool true) (fun W' hSW => ?_) ?_
   ·(try dsimp only at hSW); (try subst hSW)
    first | (go_simp; done) | exact rfl | (go_simp; rfl) | (go_simp; omega)
   try simp only [pUt, pUn, sEt, sEz, sEs]
   refine tkn (i := 5) (v := .bool true) (fun W' hSW => ?_) ?_
   ·(try dsimp only at hSW); (try subst hSW)
    first | (go_simp; done) | exact rfl | (go_simp; rfl) | (go_simp; omega)
   try simp only [pUt, pUn, sEt, sEz, sEs]
   refine take_off (i := 6) rfl (by kernel_rfl) (by kernel_rfl) (by kernel_rfl) (fun _ _ _ h => h) (by kernel_rfl) (by assumption) ?_
   try simp only [pUt, pUn, sEt, sEz, sEs]
   refine take_off (i := 7) rfl (by kernel_rfl) (by kernel_rfl) (by kernel_rfl) (fun _ _ _ h => h) (by kernel_rfl) (by assumption) ?_
   try simp only [pUt, pUn, sEt, sEz, sEs]
   refine take_off (i := 8) rfl (by kernel_rfl) (by kernel_rfl) (by kernel_rfl) (fun _ _ _ h => h) (by kernel_rfl) (by assumption) ?_
   try simp only [pUt, pUn, sEt, sEz, sEs]
   refine take_off (i := 9) rfl (by kernel_rfl) (by kernel_rfl) (by kernel_rfl) (fun _ _ _ h => h) (by kernel_rfl) (by assumption) ?_
   try simp only [pUt, pUn, sEt, sEz, sEs]
   refine take_off (i := 10) rfl (by kernel_rfl) (by kernel_rfl) (by kernel_rfl) (fun _ _ _ h => h) (by kernel_rfl) (by assumption) ?_
   try simp only [pUt, pUn, sEt, sEz, sEs]
   refine take_off (i := 11) rfl (by kernel_rfl) (by kernel_rfl) (by kernel_rfl) (fun _ _ _ h => h) (by kernel_rfl) (by assumption) ?_
   try simp only [pUt, pUn, sEt, sEz, sEs]
   refine take_off (i := 12) rfl (by kernel_rfl) (by kernel_rfl) (by kernel_rfl) (fun _ _ _ h => h) (by kernel_rfl) (by assumption) ?_
   try simp only [pUt, pUn, sEt, sEz, sEs]
   refine tkn (i := 13) (v := .bool true) (fun W' hSW => ?_) ?_
   ·(try dsimp only at hSW); (try subst hSW)
    first | (go_simp; done) | exact rfl | (go_simp; rfl) | (go_simp; omega)
   try simp only [pUt, pUn, sEt, sEz, sEs]
   clear d0
   refine wpAnyH_done (by kernel_rfl) ?_ _
   clear hHeld hcb hcm ka
   have hr0 : Box W (Bw + 1) (.bool false) := (R0.out.fr0 F1.out id).fr0 hfr id
   have c0 := hr0.cell
   have g0 := hr0.frozen
   gi_wp2
   refine ⟨fun k => k = Bw + 1, ?_, ?_, rfl, ?_, ?_, ?_⟩
   ·exact ((Fr0.refl (fun k => k = Bw + 1) W).setCell (fun _ => rfl) _).drew
   ·intro k hk h
    subst hk
    rcases h with h | h | h | h
    ·omega
    ·have := hXb _ h; rw [Hsz1.out] at this; omega
    ·rw [Hsz1.out] at h; omega
    ·rw [Hsz1.out] at h; omega
   ·unfold Hid; intro hc
    have := (okF_all k).1 hc x hi
    unfold okF at this
    rw [Hp.out, Hm.out] at this
    omega
   ·exact (hr0.set _).of_block rfl
   ·exact ((hfr.mono (S' := fun k => k = Bw + 1) (fun k _ h => h.elim)).setCell (fun _ => rfl) _).drew
  ·have d0 : decide (p < 0) = false := decide_eq_false hp0
   by_cases hpm : m < p
   ·have d1 : decide (m < p) = true := decide_eq_true hpm
    refine wpIn_round_held (S := fun W' => W' = W.drew) (by kernel_rfl) (by kernel_rfl) (by intro a w h; exact h) rfl (fun hHeld => ?_)
    refine tkn (i := 0) (v := .pointer (some ⟨B, 0, none⟩)) (fun W' hSW => ?_) ?_
    ·(try dsimp only at hSW); (try subst hSW)
     first | (go_simp; done) | exact rfl | (go_simp; rfl) | (go_simp; omega)
    try simp only [pUt, pUn, sEt, sEz, sEs]
    refine tkn (i := 1) (v := .pointer (some ⟨Bw, x, none⟩)) (fun W' hSW => ?_) ?_
    ·(try dsimp only at hSW); (try subst hSW)
     first | (go_simp; done) | exact rfl | (go_simp; rfl) | (go_simp; omega)
    try simp only [pUt, pUn, sEt, sEz, sEs]
    refine tkn (i := 2) (v := .pointer (some ⟨Bw, x, none⟩)) (fun W' hSW => ?_) ?_
    ·(try dsimp only at hSW); (try subst hSW)
     first | (go_simp; done) | exact rfl | (go_simp; rfl) | (go_simp; omega)
    try simp only [pUt, pUn, sEt, sEz, sEs]
    refine tkn (i := 3) (v := .int .i64 p) (fun W' hSW => ?_) ?_
    ·(try dsimp only at hSW); (try subst hSW)
     first | (go_simp; done) | exact rfl | (go_simp; rfl) | (go_simp; omega)
    try simp only [pUt, pUn, sEt, sEz, sEs]
    refine tkn (i := 4) (v := .bool false) (fun W' hSW => ?_) ?_
    ·(try dsimp only at hSW); (try subst hSW)
     first | (go_simp; done) | exact rfl | (go_simp; rfl) | (go_simp; omega)
    try simp only [pUt, pUn, sEt, sEz, sEs]
    refine tkn (i := 5) (v := .bool false) (fun W' hSW => ?_) ?_
    ·(try dsimp only at hSW); (try subst hSW)
     first | (go_simp; done) | exact rfl | (go_simp; rfl) | (go_simp; omega)
    try simp only [pUt, pUn, sEt, sEz, sEs]
    refine tkn (i := 6) (v := .pointer (some ⟨B, 0, none⟩)) (fun W' hSW => ?_) ?_
    ·(try dsimp only at hSW); (try subst hSW)
     first | (go_simp; done) | exact rfl | (go_simp; rfl) | (go_simp; omega)
    try simp only [pUt, pUn, sEt, sEz, sEs]
    refine tkn (i := 7) (v := .pointer (some ⟨Bw, x, none⟩)) (fun W' hSW => ?_) ?_
    ·(try dsimp only at hSW); (try subst hSW)
     first | (go_simp; done) | exact rfl | (go_simp; rfl) | (go_simp; omega)
    try simp only [pUt, pUn, sEt, sEz, sEs]
    refine tkn (i := 8) (v := .pointer (some ⟨Bw, x, none⟩)) (fun W' hSW => ?_) ?_
    ·(try dsimp only at hSW); (try subst hSW)
     first | (go_simp; done) | exact rfl | (go_simp; rfl) | (go_simp; omega)
    try simp only [pUt, pUn, sEt, sEz, sEs]
    refine tkn (i := 9) (v := .int .i64 p) (fun W' hSW => ?_) ?_
    ·(try dsimp only at hSW); (try subst hSW)
     first | (go_simp; done) | exact rfl | (go_simp; rfl) | (go_simp; omega)
    try simp only [pUt, pUn, sEt, sEz, sEs]
    refine tkn (i := 10) (v := .pointer (some ⟨B, 1, none⟩)) (fun W' hSW => ?_) ?_
    ·(try dsimp only at hSW); (try subst hSW)
     first | (go_simp; done) | exact rfl | (go_simp; rfl) | (go_simp; omega)
    try simp only [pUt, pUn, sEt, sEz, sEs]
    refine tkn (i := 11) (v := .int .i64 m) (fun W' hSW => ?_) ?_
    ·(try dsimp only at hSW); (try subst hSW)
     first | (go_simp; done) | exact rfl | (go_simp; rfl) | (go_simp; omega)
    try simp only [pUt, pUn, sEt, sEz, sEs]
    refine tkn (i := 12) (v := .bool true) (fun W' hSW => ?_) ?_
    ·(try dsimp only at hSW); (try subst hSW)
     first | (go_simp; done) | exact rfl | (go_simp; rfl) | (go_simp; omega)
    try simp only [pUt, pUn, sEt, sEz, sEs]
    refine tkn (i := 13) (v := .bool true) (fun W' hSW => ?_) ?_
    ·(try dsimp only at hSW); (try subst hSW)
     first | (go_simp; done) | exact rfl | (go_simp; rfl) | (go_simp; omega)
    try simp only [pUt, pUn, sEt, sEz, sEs]
    clear d0 d1
    refine wpAnyH_done (by kernel_rfl) ?_ _
    clear hHeld hcb hcm ka
    have hr0 : Box W (Bw + 1) (.bool false) := (R0.out.fr0 F1.out id).fr0 hfr id
    have c0 := hr0.cell
    have g0 := hr0.frozen
    gi_wp2
    refine ⟨fun k => k = Bw + 1, ?_, ?_, rfl, ?_, ?_, ?_⟩
    ·exact ((Fr0.refl (fun k => k = Bw + 1) W).setCell (fun _ => rfl) _).drew
    ·intro k hk h
     subst hk
     rcases h with h | h | h | h
     ·omega
     ·have := hXb _ h; rw [Hsz1.out] at this; omega
     ·rw [Hsz1.out] at h; omega
     ·rw [Hsz1.out] at h; omega
    ·unfold Hid; intro hc
     have := (okF_all k).1 hc x hi
     unfold okF at this
     rw [Hp.out, Hm.out] at this
     omega
    ·exact (hr0.set _).of_block rfl
    ·exact ((hfr.mono (S' := fun k => k = Bw + 1) (fun k _ h => h.elim)).setCell (fun _ => rfl) _).drew
   ·have d1 : decide (m < p) = false := decide_eq_false hpm
    refine wpIn_round_held (S := fun W' => W' = W.drew) (by kernel_rfl) (by kernel_rfl) (by intro a w h; exact h) rfl (fun hHeld => ?_)
    refine tkn (i := 0) (v := .pointer (some ⟨B, 0, none⟩)) (fun W' hSW => ?_) ?_
    ·(try dsimp only at hSW); (try subst hSW)
     first | (go_simp; done) | exact rfl | (go_simp; rfl) | (go_simp; omega)
    try simp only [pUt, pUn, sEt, sEz, sEs]
    refine tkn (i := 1) (v := .pointer (some ⟨Bw, x, none⟩)) (fun W' hSW => ?_) ?_
    ·(try dsimp only at hSW); (try subst hSW)
     first | (go_simp; done) | exact rfl | (go_simp; rfl) | (go_simp; omega)
    try simp only [pUt, pUn, sEt, sEz, sEs]
    refine tkn (i := 2) (v := .pointer (some ⟨Bw, x, none⟩)) (fun W' hSW => ?_) ?_
    ·(try dsimp only at hSW); (try subst hSW)
     first | (go_simp; done) | exact rfl | (go_simp; rfl) | (go_simp; omega)
    try simp only [pUt, pUn, sEt, sEz, sEs]
    refine tkn (i := 3) (v := .int .i64 p) (fun W' hSW => ?_) ?_
    ·(try dsimp only at hSW); (try subst hSW)
     first | (go_simp; done) | exact rfl | (go_simp; rfl) | (go_simp; omega)
    try simp only [pUt, pUn, sEt, sEz, sEs]
    refine tkn (i := 4) (v := .bool false) (fun W' hSW => ?_) ?_
    ·(try dsimp only at hSW); (try subst hSW)
     first | (go_simp; done) | exact rfl | (go_simp; rfl) | (go_simp; omega)
    try simp only [pUt, pUn, sEt, sEz, sEs]
    refine tkn (i := 5) (v := .bool false) (fun W' hSW => ?_) ?_
    ·(try dsimp only at hSW); (try subst hSW)
     first | (go_simp; done) | exact rfl | (go_simp; rfl) | (go_simp; omega)
    try simp only [pUt, pUn, sEt, sEz, sEs]
    refine tkn (i := 6) (v := .pointer (some ⟨B, 0, none⟩)) (fun W' hSW => ?_) ?_
    ·(try dsimp only at hSW); (try subst hSW)
     first | (go_simp; done) | exact rfl | (go_simp; rfl) | (go_simp; omega)
    try simp only [pUt, pUn, sEt, sEz, sEs]
    refine tkn (i := 7) (v := .pointer (some ⟨Bw, x, none⟩)) (fun W' hSW => ?_) ?_
    ·(try dsimp only at hSW); (try subst hSW)
     first | (go_simp; done) | exact rfl | (go_simp; rfl) | (go_simp; omega)
    try simp only [pUt, pUn, sEt, sEz, sEs]
    refine tkn (i := 8) (v := .pointer (some ⟨Bw, x, none⟩)) (fun W' hSW => ?_) ?_
    ·(try dsimp only at hSW); (try subst hSW)
     first | (go_simp; done) | exact rfl | (go_simp; rfl) | (go_simp; omega)
    try simp only [pUt, pUn, sEt, sEz, sEs]
    refine tkn (i := 9) (v := .int .i64 p) (fun W' hSW => ?_) ?_
    ·(try dsimp only at hSW); (try subst hSW)
     first | (go_simp; done) | exact rfl | (go_simp; rfl) | (go_simp; omega)
    try simp only [pUt, pUn, sEt, sEz, sEs]
    refine tkn (i := 10) (v := .pointer (some ⟨B, 1, none⟩)) (fun W' hSW => ?_) ?_
    ·(try dsimp only at hSW); (try subst hSW)
     first | (go_simp; done) | exact rfl | (go_simp; rfl) | (go_simp; omega)
    try simp only [pUt, pUn, sEt, sEz, sEs]
    refine tkn (i := 11) (v := .int .i64 m) (fun W' hSW => ?_) ?_
    ·(try dsimp only at hSW); (try subst hSW)
     first | (go_simp; done) | exact rfl | (go_simp; rfl) | (go_simp; omega)
    try simp only [pUt, pUn, sEt, sEz, sEs]
    refine tkn (i := 12) (v := .bool false) (fun W' hSW => ?_) ?_
    ·(try dsimp only at hSW); (try subst hSW)
     first | (go_simp; done) | exact rfl | (go_simp; rfl) | (go_simp; omega)
    try simp only [pUt, pUn, sEt, sEz, sEs]
    refine tkn (i := 13) (v := .bool false) (fun W' hSW => ?_) ?_
    ·(try dsimp only at hSW); (try subst hSW)
     first | (go_simp; done) | exact rfl | (go_simp; rfl) | (go_simp; omega)
    try simp only [pUt, pUn, sEt, sEz, sEs]
    refine wpAnyH_done (by kernel_rfl) ?_ _
    clear hHeld hcb hcm ka d0 d1
    gi_wp2
    refine ⟨none', ?_, fun k hk _ => hk, ?_, ?_⟩
    ·exact (Fr0.refl _ W).drew
    ·exact hfr.drew
    ·unfold Hid; intro j hj
     by_cases hjx : j = x
     ·subst hjx; unfold okF; rw [Hp.out, Hm.out]; omega
     ·exact hall.out j (by omega)
 case done =>
  rintro D X W hDe ⟨hfr, hall⟩ hK
  obtain rfl : true = R := by rw [← HR.out]; exact (decide_eq_true ((okF_all k).2 hall.out)).symm
  rw [Hsz1.out] at hDe
  subst hDe
  have hlt : Bw + 3 < W.heap.size := (Array.getElem?_eq_some_iff.1 hK).1
  have hr0 : Box W (Bw + 1) (.bool false) := (R0.out.fr0 F1.out id).fr0 hfr id
  have hk2 : Box (W.setCell ⟨Bw + 1, 0, none⟩ (.bool true)) (Bw + 1) (.bool true) := hr0.set _
  have hK2 : (W.setCell ⟨Bw + 1, 0, none⟩ (.bool true)).heap[Bw + 3]? = some (.deferred (some [])) := (Below.heap_setCell W ⟨Bw + 1, 0, none⟩ (.bool true) (Bw + 3) (by simp)).trans hK
  have hk1 : Box ((W.setCell ⟨Bw + 1, 0, none⟩ (.bool true)).putObj (Bw + 3) (.deferred none)) (Bw + 1) (.bool true) := hk2.of_block (World.putObj_heap_other (by omega))
  have c0 := hr0.cell
  have g0 := hr0.frozen
  have d1 := hk1.cell
  clear hK
  gi_wp2
  refine ⟨by simp, .inl ⟨_, _, rfl, run_takeDeferred hK2, ?_⟩⟩
  refine ⟨.bool true, by simp [results, Try.results92, go_sem, d1], rfl, ?_⟩
  have hz := HBw.out
  have h03 : Fr0 none' w W := F0.out.trans (F1.out.trans hfr)
  exact (h03.setCell (fun h => by omega) _).putObj (fun h => by omega) _
 case stop =>
  rintro D c W hDe ⟨rfl, hnr, h1, h3⟩ hK
  obtain rfl : false = R := by rw [← HR.out]; exact (decide_eq_false hnr.out).symm
  rw [Hsz1.out] at hDe
  subst hDe
  have hlt : Bw + 3 < W.heap.size := (Array.getElem?_eq_some_iff.1 hK).1
  have c1 := h1.cell
  have hk1 : Box (W.putObj (Bw + 3) (.deferred none)) (Bw + 1) (.bool false) := h1.of_block (World.putObj_heap_other (by omega))
  have d1 := hk1.cell
  have hK' := hK
  clear hK
  gi_wp2
  refine ⟨by simp, .inl ⟨_, _, rfl, run_takeDeferred hK', ?_⟩⟩
  refine ⟨.bool false, by simp [results, Try.results92, go_sem, d1], rfl, ?_⟩
  have hz := HBw.out
  have h03 : Fr0 none' w W1 := F0.out.trans F1.out
  exact (h03.trans' h3 (fun k hk h => by omega)).putObj (fun h => by omega) _
theorem Right_any (k : Key3) (w : World) :
  Calls Try.prog 92 #[keyV k] w fun e w' => e = .returned (.bool (decide (RightK k))) ∧ Fr0 none' w w' := callsIn_wide.1 (Right_in k w)
end Go.Proofs.Ytmbjfmlicffclaa

/-
  Keys that are not right, at Bytes, Text, Next, Back.
-/
namespace Go.Proofs.Ytmbjfmlicffclaa
open Go Go.RowKit
attribute [local go_sem ↓] Go.wp_at_zero Go.wp_at_succ
attribute [local go_sem] Oper.semAt_some wide_fn wide_depth wide_fnR wide_depthR
theorem KeyAt.frozen {w : World} {B : Nat} {k : Key3} (h : KeyAt w B k) (i : Nat) : w.frozen? ⟨B, i, none⟩ = false := by
 unfold KeyAt at h
 simp [World.frozen?, h]
theorem KeyAt.fr0 {S : Nat → Prop} {w w' : World} {B : Nat} {k : Key3} (h : KeyAt w B k) (hf : Fr0 S w w') (hs : ¬ S B) : KeyAt w' B k := (hf.block B (Array.getElem?_eq_some_iff.1 h).1 hs).trans h
theorem KeyAt.setOther {w : World} {B : Nat} {k : Key3} (h : KeyAt w B k) {a : Addr} (hne : B ≠ a.block) (u : Value) : KeyAt (w.setCell a u) B k := (Below.heap_setCell w a u B hne).trans h
theorem KeyAt.alloc {w : World} {B : Nat} {k : Key3} (h : KeyAt w B k) (o : Obj) : KeyAt (w.alloc o) B k := (Below.heap_alloc w o B h.lt).trans h
end Go.Proofs.Ytmbjfmlicffclaa

/-
  A region that draws, walked by hand, whose last operation waits for all others and may undo what the loads lean on.
-/
namespace Go.Proofs.Ytmbjfmlicffclaa
open Go Go.RowKit
variable {P : Program} {ops : Array Oper} {Q : Exit → Act → World → Prop} {md : Region.Mode} {S : World → Prop} {z : Nat}

/-- Whatever order is picked from here on; S holds behind every operation but number z. -/
def wpAnyZ (P : Program) (md : Region.Mode) (ops : Array Oper) (Q : Exit → Act → World → Prop) (S : World → Prop) (z : Nat) : Nat → Array Bool → Act → World → Prop
 | 0, listed, a, w => Region.ready md ops listed = [] ∧ Q .normal a w
 | fuel + 1, listed, a, w =>
  (Region.ready md ops listed = [] → Q .normal a w) ∧
  ∀ i ∈ Region.ready md ops listed, wpOp P ops Q i (fun a' w' => (i = z ∨ S w') ∧ wpAnyZ P md ops Q S z fuel (listed.setIfInBounds i true) a' w') a w
theorem wpAny_of_Z : ∀ (fuel : Nat) (listed : Array Bool) (a : Act) (w : World), wpAnyZ P md ops Q S z fuel listed a w → wpAny P md ops Q fuel listed a w
 | 0, _, _, _, h => h
 | fuel + 1, _, _, _, h => ⟨h.1, fun i hi => wpOp_mono (fun a' w' h' => wpAny_of_Z fuel _ a' w' h'.2) (h.2 i hi)⟩

theorem wpAnyZ_first {i : Nat} {oi : Oper} {v : Value} (hi : ops[i]? = some oi) (hsel : ∀ (j : Nat) (o : Oper) cs b, ops[j]? = some o → o.op ≠ .select cs b)
  (hQ : ∀ c a w, Q (.panic c) (a.put oi.dst v) w → Q (.panic c) a w) (hz : ∀ listed : Array Bool, i ∈ Region.ready md ops listed → z ∈ Region.ready md ops listed → False) :
  ∀ (fuel : Nat) (listed : Array Bool) (a : Act) (w : World),
   (∀ j oj, ops[j]? = some oj → j ≠ i → listed.getD j true = false → (∀ e ∈ oj.after, Region.binds md e = true → e.on ≠ i) → oi.apart ops oj = true) →
   i ∈ Region.ready md ops listed → YieldsIf P ops S oi v a → S w →
   wpAnyZ P md ops Q S z fuel (listed.setIfInBounds i true) (a.put oi.dst v) w → wpAnyZ P md ops Q S z (fuel + 1) listed a w := by
 intro fuel
 induction fuel with
 | zero =>
  intro listed a w _ hr hy hS H
  refine ⟨fun h => (by rw [h] at hr; cases hr), fun j hj => ?_⟩
  by_cases hji : j = i
  ·subst hji; exact hy.wpOp hi hS ⟨.inr hS, H⟩
  ·have := ready_mono hj hji
   rw [H.1] at this
   cases this
 | succ fuel ih =>
  intro listed a w hfree hr hy hS H
  refine ⟨fun h => (by rw [h] at hr; cases hr), fun j hj => ?_⟩
  by_cases hji : j = i
  ·subst hji; exact hy.wpOp hi hS ⟨.inr hS, H⟩
  ·have h1 := H.2 j (ready_mono hj hji)
   obtain ⟨hjun, oj, hoj, hall⟩ := mem_ready.1 hj
   have hnot : ∀ e ∈ oj.after, Region.binds md e = true → e.on ≠ i := fun e he hb heq => by
    have h1 := hall e he hb
    have h0 := (mem_ready.1 hr).1
    rw [heq] at h1
    rcases Nat.lt_or_ge i listed.size with h' | h'
    ·simp [h'] at h0 h1; rw [h0] at h1; cases h1
    ·simp [Array.getElem?_eq_none h'] at h1
   have h2 := wpOp_putIf hoj (hfree j oj hoj hji hjun hnot) (fun cs b => hsel i oi cs b hi) (fun cs b => hsel j oj cs b hoj) hQ hy h1
   have hfree' : ∀ k ok, ops[k]? = some ok → k ≠ i → (listed.setIfInBounds j true).getD k true = false →
     (∀ e ∈ ok.after, Region.binds md e = true → e.on ≠ i) → oi.apart ops ok = true := fun k ok hk hki hun hno => by
    refine hfree k ok hk hki ?_ hno
    by_cases hjk : j = k
    ·subst hjk; exact hjun
    ·rw [getD_set_ne true hjk] at hun; exact hun
   have hjz : j ≠ z := fun h => hz listed hr (h ▸ hj)
   refine wpOp_mono (fun a' w' h3 => ?_) h2
   have hS' : S w' := h3.2.1.elim (fun h => absurd h hjz) id
   refine ⟨.inr hS', ih (listed.setIfInBounds j true) a' w' hfree' (ready_mono hr (Ne.symm hji)) h3.1 hS' ?_⟩
   rw [Array.setIfInBounds_comm _ _ hji]
   exact h3.2.2

/-- The last operation waits for number i. -/
def waits (md : Region.Mode) (ops : Array Oper) (z i : Nat) : Bool := match ops[z]? with
 | some o => o.after.toList.any (fun e => Region.binds md e && e.on == i)
 | none => false
theorem waits_not {i : Nat} (h : waits md ops z i = true) (listed : Array Bool) (hi : i ∈ Region.ready md ops listed) (hz : z ∈ Region.ready md ops listed) : False := by
 obtain ⟨_, oz, hoz, hall⟩ := mem_ready.1 hz
 unfold waits at h
 rw [hoz] at h
 obtain ⟨e, he, hb⟩ := List.any_eq_true.1 h
 replace he : e ∈ oz.after := by simpa using he
 simp only [Bool.and_eq_true, beq_iff_eq] at hb
 have h1 := hall e he hb.1
 have h0 := (mem_ready.1 hi).1
 rw [hb.2] at h1
 rcases Nat.lt_or_ge i listed.size with h' | h'
 ·simp [h'] at h0 h1; rw [h0] at h1; cases h1
 ·simp [Array.getElem?_eq_none h'] at h1
variable {i : Nat} {oi : Oper} {fuel : Nat} {listed : Array Bool} {a : Act} {w : World}
theorem takeZ_on {v : Value} (hi : ops.toList[i]? = some oi) (hz : waits md ops z i = true)
  (hs : Region.noSelect ops = true) (hf : Region.free md ops listed i = true) (hr : (Region.ready md ops listed).contains i = true)
  (hQ : ∀ c a w, Q (.panic c) (a.put oi.dst v) w → Q (.panic c) a w) (hw : Region.wanted oi (yielded ops a.tmps) = true) (hy : ∀ w, S w → (execOp a.eval oi).run P w = .ok (.value v) w) (hS : S w)
  (h : wpAnyZ P md ops Q S z fuel (listed.setIfInBounds i true) (a.put oi.dst v) w) : wpAnyZ P md ops Q S z (fuel + 1) listed a w :=
 wpAnyZ_first (op_at hi) (Region.noSelect_spec hs) hQ (fun l h1 h2 => waits_not hz l h1 h2) fuel listed a w (Region.free_spec (op_at hi) hf) (by simpa using hr) (.inl ⟨hw, hy⟩) hS h
theorem takeZ_call (hi : ops.toList[i]? = some oi) (hr : Region.ready md ops listed = [i]) (hw : Region.wanted oi (yielded ops a.tmps) = true)
  (h : ∀ K' : Act → World → Prop, Shut (∀ a w, (i = z ∨ S w) → wpAnyZ P md ops Q S z fuel (listed.setIfInBounds i true) a w → K' a w) → Oper.wp P oi a w K' Q) : wpAnyZ P md ops Q S z (fuel + 1) listed a w := by
 refine ⟨fun h0 => (by rw [hr] at h0; cases h0), fun j hj => ?_⟩
 rw [hr] at hj
 obtain rfl : j = i := by simpa using hj
 exact wpOp_step (op_at hi) (fun K' hK => by rw [if_pos hw]; exact h K' (fun a w h1 h2 => hK a w ⟨h1, h2⟩))
theorem wpAnyZ_done (hr : Region.ready md ops listed = []) (h : Q .normal a w) : ∀ fuel, wpAnyZ P md ops Q S z fuel listed a w
 | 0 => ⟨hr, h⟩
 | _ + 1 => ⟨fun _ => h, by rw [hr]; simp⟩
theorem wp_region_Z {id : Nat} (hm : P.follows .mixedOrders = true)
  (h : wpAnyZ P .any ops Q S z ops.size (Array.replicate ops.size false) a w.drew) : (Code.region id ops true).wp P Q a w := wp_region_any hm (wpAny_of_Z _ _ _ _ h)
end Go.Proofs.Ytmbjfmlicffclaa

/-
  A range over a function: the law with a state that has a footprint.
-/
namespace Go.Proofs.Ytmbjfmlicffclaa
open Go.RowKit

variable {P : Program}

end Go.Proofs.Ytmbjfmlicffclaa

/-
  Appends in a round's drawn region.
-/
namespace Go.Proofs.Ytmbjfmlicffclaa
open Go Go.RowKit
variable {P : Program} {ops : Array Oper} {Q : Exit → Act → World → Prop} {z : Nat} {l n : Nat}
theorem ownsRow_q_fr {S : Nat → Prop} {w w' : World} {base : Nat} {e : TypeId} {size : Nat} {v : Value} {n : Nat} {xs : List Value} (h : w.ownsRow base e size v n xs) (hf : Fr0 S w w')
  (hs : ∀ g, v.ownBlock = some g → ¬ S g) : w'.ownsRow base e size v n xs := by
 obtain ⟨h1, h2⟩ := h
 refine ⟨h1, ?_⟩
 rcases h2 with h2 | ⟨g, cap, cur, hv, hg, hh, r⟩
 ·exact .inl h2
 ·exact .inr ⟨g, cap, cur, hv, hg, (hf.block g (Array.getElem?_eq_some_iff.1 hh).1 (hs g (by rw [hv]; rfl))).trans hh, r⟩
end Go.Proofs.Ytmbjfmlicffclaa

/-
  A row of cells, some of them put anew.
-/
namespace Go.Proofs.Ytmbjfmlicffclaa

/-- The cells of a row, some of them put anew. -/
def over (cur : Array Value) : Nat → List Value → Array Value
 | _, [] => cur
 | o, v :: r => over (cur.setIfInBounds o v) (o + 1) r
theorem over_size : ∀ (vs : List Value) (o : Nat) (cur : Array Value), (over cur o vs).size = cur.size
 | [], _, _ => rfl
 | v :: r, o, cur => by rw [over, over_size r]; simp
theorem over_get : ∀ (vs : List Value) (o : Nat) (cur : Array Value) (j : Nat), (over cur o vs)[j]? = if o ≤ j ∧ j < o + vs.length ∧ j < cur.size then vs[j - o]? else cur[j]?
 | [], o, cur, j => by rw [over, if_neg]; simp; omega
 | v :: r, o, cur, j => by
  rw [over, over_get r (o + 1) _ j]
  simp only [Array.size_setIfInBounds, List.length_cons]
  by_cases h1 : j = o
  ·subst h1
   rw [if_neg (by omega)]
   by_cases h2 : j < cur.size
   ·rw [if_pos (by omega), Array.getElem?_setIfInBounds, if_pos rfl, if_pos h2]; simp
   ·rw [if_neg (by omega), Array.getElem?_setIfInBounds, if_pos rfl, if_neg h2, Array.getElem?_eq_none (by omega)]
  ·by_cases h2 : o + 1 ≤ j ∧ j < o + 1 + r.length ∧ j < cur.size
   ·rw [if_pos h2, if_pos (by omega), show j - o = (j - (o + 1)) + 1 by omega, List.getElem?_cons_succ]
   ·rw [if_neg h2, if_neg (by omega), Array.getElem?_setIfInBounds, if_neg (by omega)]
theorem heap_setCells_at {b : Nat} {e : TypeId} {fz : Nat × Nat} : ∀ (vs : List Value) (o : Nat) (w : World) (cur : Array Value), w.heap[b]? = some (.cells cur e fz) → (w.setCells b o vs).heap[b]? = some (.cells (over cur o vs) e fz)
 | [], _, _, _, h => h
 | v :: r, o, w, cur, h => by
  rw [World.setCells, over]
  refine heap_setCells_at r (o + 1) _ _ ?_
  simp [World.setCell, Array.getElem?_modify, h]
end Go.Proofs.Ytmbjfmlicffclaa
