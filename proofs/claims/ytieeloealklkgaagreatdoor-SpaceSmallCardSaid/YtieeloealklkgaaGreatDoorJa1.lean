/-
  What the laws on spaces lean on and what knows no space: rows, names, sets of names.
-/
import Derived.WalkKit
import Derived.Lib.Hide
import Derived.RangeFuncNested
import Derived.RangeFuncBound
import Derived.RangeFuncCalls
import Derived.RangeFuncLeaves
import Derived.Deep.Draws
import Derived.Test.YtieeloealklkgaaGreatDoorProg
import Derived.WalkSpells
import Derived.WalkLawsBesides
import Derived.Lib.Bytealg
import Derived.Lib.Strings
import Derived.OwnWalkIn
import Derived.TacticsInMore
import Derived.LoopNIn
import Derived.LoopIn
import Derived.BigFrameIn
import Derived.Deep.AppendSrc
import Derived.Laws.AppendOwn
import Derived.Maps.AppendAt
import Derived.Lib.SlicesCompact
import Derived.Deep.LoopGhost
import Derived.Deep.RegionHeld3
import Derived.Deep.DrawnRows
import Derived.OrdersIn
import Derived.Deep.QuietTactic
import Derived.BigQuiet
import Derived.Test.YtieeloealklkgaaGreatDoorShelf
import Derived.Sort.OwnSorted
import Derived.Lib.QuietBelow
import Derived.Shelf.SlSortCmp.NoneTotal
import Derived.Lib.OwnBridge
import Derived.Lib.Join
import Derived.Maps.RangeWalk
import Derived.Maps.StringElems
import Derived.Sort.KeysCollected
import Derived.Laws.BytesArg
import Derived.Laws.IdiomStrings
set_option linter.unusedSimpArgs false
set_option linter.unusedVariables false

/-
  Frames: 'Fr S w w'' says that of the blocks that were there only those in S may have turned.
-/
namespace Go.Proofs.YtieeloealklkgaaGreatDoor
open Go.RowKit

/-- Of the blocks that were there only those in S may have turned; new ones may have come. -/
structure Fr (S : Nat → Prop) (w w' : World) : Prop where
  os : w'.os = w.os
  tape : w'.tape = w.tape
  output : w'.output = w.output
  size : w.heap.size ≤ w'.heap.size
  block : ∀ k, k < w.heap.size → ¬ S k → w'.heap[k]? = w.heap[k]?
  drawn : w.drawn ≤ w'.drawn

def none' : Nat → Prop := fun _ => False
def from' (B : Nat) : Nat → Prop := fun k => B ≤ k

theorem Fr.refl (S : Nat → Prop) (w : World) : Fr S w w := ⟨rfl, rfl, rfl, Nat.le_refl _, fun _ _ _ => rfl, Nat.le_refl _⟩
theorem Fr.trans {S : Nat → Prop} {a b c : World} (h : Fr S a b) (k : Fr S b c) : Fr S a c :=
  ⟨k.os.trans h.os, k.tape.trans h.tape, k.output.trans h.output, Nat.le_trans h.size k.size, fun i hi hs => (k.block i (Nat.lt_of_lt_of_le hi h.size) hs).trans (h.block i hi hs), Nat.le_trans h.drawn k.drawn⟩
theorem Fr.trans' {S S' : Nat → Prop} {a b c : World} (h : Fr S a b) (k : Fr S' b c) (hS : ∀ k, k < a.heap.size → S' k → S k) : Fr S a c :=
  ⟨k.os.trans h.os, k.tape.trans h.tape, k.output.trans h.output, Nat.le_trans h.size k.size, fun i hi hs => (k.block i (Nat.lt_of_lt_of_le hi h.size) (fun x => hs (hS i hi x))).trans (h.block i hi hs), Nat.le_trans h.drawn k.drawn⟩
theorem Fr.mono {S S' : Nat → Prop} {a b : World} (h : Fr S a b) (hS : ∀ k, k < a.heap.size → S k → S' k) : Fr S' a b :=
  ⟨h.os, h.tape, h.output, h.size, fun k hk hs => h.block k hk (fun x => hs (hS k hk x)), h.drawn⟩
theorem Fr.drew {S : Nat → Prop} {a w : World} (h : Fr S a w) : Fr S a w.drew := ⟨h.os, h.tape, h.output, h.size, h.block, Nat.le_trans h.drawn (Nat.le_succ _)⟩
theorem Fr.alloc {S : Nat → Prop} {a w : World} (h : Fr S a w) (o : Obj) : Fr S a (w.alloc o) :=
  ⟨h.os, h.tape, h.output, by have := h.size; simp; omega, fun k hk hs => (Below.heap_alloc w o k (Nat.lt_of_lt_of_le hk h.size)).trans (h.block k hk hs), h.drawn⟩
theorem Fr.setCell {S : Nat → Prop} {a w : World} (h : Fr S a w) {b o : Nat} (hp : b < a.heap.size → S b) (u : Value) : Fr S a (w.setCell ⟨b, o, none⟩ u) :=
  ⟨h.os, h.tape, h.output, by have := h.size; simp [World.setCell]; omega, fun k hk hs => (Below.heap_setCell w ⟨b, o, none⟩ u k (fun e => hs (by subst e; exact hp hk))).trans (h.block k hk hs), h.drawn⟩
theorem Fr.grown {S : Nat → Prop} {a w w' : World} {row : Option Nat} (h : Fr S a w) (hg : w.grownBy w' row) (hd : w.drawn ≤ w'.drawn) (hr : ∀ k, row = some k → k < a.heap.size → S k) : Fr S a w' :=
  ⟨hg.os.trans h.os, hg.tape.trans h.tape, hg.output.trans h.output, Nat.le_trans h.size hg.size,
    fun k hk hs => (hg.block k (Nat.lt_of_lt_of_le hk h.size) (fun e => hs (hr k e.symm hk))).trans (h.block k hk hs), Nat.le_trans h.drawn hd⟩
theorem Fr.putObj {S : Nat → Prop} {a w : World} (h : Fr S a w) {r : Nat} (hp : r < a.heap.size → S r) (o : Obj) : Fr S a (w.putObj r o) :=
  ⟨h.os, h.tape, h.output, by have := h.size; simp [World.putObj]; omega, fun k hk hs => (World.putObj_heap_other (fun e => hs (by subst e; exact hp hk))).trans (h.block k hk hs), h.drawn⟩
/-- What a callee did, with no block of ours in its set. -/
theorem Fr.of_below {S : Nat → Prop} {a w w' : World} (h : Fr S a w) (hb : Below w.heap.size w w') (hd : w.drawn ≤ w'.drawn) : Fr S a w' :=
  ⟨hb.os.trans h.os, hb.tape.trans h.tape, hb.output.trans h.output, Nat.le_trans h.size hb.size, fun k hk hs => (hb.block k (Nat.lt_of_lt_of_le hk h.size)).trans (h.block k hk hs), Nat.le_trans h.drawn hd⟩
theorem Fr.below {S : Nat → Prop} {B : Nat} {w w' : World} (h : Fr S w w') (hB : B ≤ w.heap.size) (hS : ∀ k, k < B → ¬ S k) : Below B w w' :=
  ⟨h.os, h.tape, h.output, h.size, fun k hk => h.block k (Nat.lt_of_lt_of_le hk hB) (hS k hk)⟩
theorem Fr.cell {S : Nat → Prop} {w w' : World} (h : Fr S w w') {p : Addr} (hp : p.block < w.heap.size) (hs : ¬ S p.block) : w'.cell? p = w.cell? p := World.cell?_of_block (w := w) (h.block p.block hp hs)
theorem Fr.frozen {S : Nat → Prop} {w w' : World} (h : Fr S w w') {p : Addr} (hp : p.block < w.heap.size) (hs : ¬ S p.block) : w'.frozen? p = w.frozen? p := World.frozen?_of_block (w := w) (h.block p.block hp hs)

/-- A block that is known whole: one cell, not frozen. -/
def Box (w : World) (b : Nat) (v : Value) : Prop := ∃ t, w.heap[b]? = some (.cells #[v] t (0, 0))
theorem Box.lt {w : World} {b : Nat} {v : Value} (h : Box w b v) : b < w.heap.size := by obtain ⟨t, h⟩ := h; exact (Array.getElem?_eq_some_iff.1 h).1
theorem Box.cell {w : World} {b : Nat} {v : Value} (h : Box w b v) : w.cell? ⟨b, 0, none⟩ = some v := by obtain ⟨t, h⟩ := h; simp [World.cell?, h]
theorem Box.frozen {w : World} {b : Nat} {v : Value} (h : Box w b v) : w.frozen? ⟨b, 0, none⟩ = false := by obtain ⟨t, h⟩ := h; simp [World.frozen?, h]
theorem Box.of_block {w w' : World} {b : Nat} {v : Value} (h : Box w b v) (e : w'.heap[b]? = w.heap[b]?) : Box w' b v := by obtain ⟨t, h⟩ := h; exact ⟨t, e.trans h⟩
theorem Box.fr {S : Nat → Prop} {w w' : World} {b : Nat} {v : Value} (h : Box w b v) (hf : Fr S w w') (hs : ¬ S b) : Box w' b v := h.of_block (hf.block b h.lt hs)
theorem Box.new (w : World) (v : Value) (t : TypeId) : Box (w.alloc (.cells #[v] t)) w.heap.size v := ⟨t, World.alloc_heap_new w _⟩
theorem Box.alloc {w : World} {b : Nat} {v : Value} (h : Box w b v) (o : Obj) : Box (w.alloc o) b v := h.of_block (Below.heap_alloc w o b h.lt)
theorem Box.set {w : World} {b : Nat} {v : Value} (h : Box w b v) (u : Value) : Box (w.setCell ⟨b, 0, none⟩ u) b u := by
  obtain ⟨t, h⟩ := h
  refine ⟨t, ?_⟩
  simp [World.setCell, Array.getElem?_modify, h]
theorem Below.keep {w w' : World} (h : Below w.heap.size w w') {p : Addr} {v : Value} (hc : w.cell? p = some v) : w'.cell? p = some v := by
  have hlt : p.block < w.heap.size := by
    rcases Nat.lt_or_ge p.block w.heap.size with h | h
    · exact h
    · simp [World.cell?, Array.getElem?_eq_none h] at hc
  rw [h.cell hlt]; exact hc
theorem ret_int {k : IntKind} {a b : Int} (h : a = b) : Ending.returned (.int k a) = .returned (.int k b) := by rw [h]
theorem ret_bool {a b : Bool} (h : a = b) : Ending.returned (.bool a) = .returned (.bool b) := by rw [h]
end Go.Proofs.YtieeloealklkgaaGreatDoor

/-
  A range over a function whose iterator gives a known list of values, may turn blocks of its own (captured variables), and reads blocks that the body keeps.
-/
namespace Go.Proofs.YtieeloealklkgaaGreatDoor
open Go.RowKit

/-- The blocks in R are as they were. -/
def Keep (R : Nat → Prop) (w w' : World) : Prop := w.heap.size ≤ w'.heap.size ∧ ∀ k, R k → w'.heap[k]? = w.heap[k]?
theorem Keep.refl (R : Nat → Prop) (w : World) : Keep R w w := ⟨Nat.le_refl _, fun _ _ => rfl⟩
theorem Keep.trans {R : Nat → Prop} {a b c : World} (h : Keep R a b) (k : Keep R b c) : Keep R a c := ⟨Nat.le_trans h.1 k.1, fun i hi => (k.2 i hi).trans (h.2 i hi)⟩
theorem Fr.keep {S R : Nat → Prop} {w w' : World} (h : Fr S w w') (hR : ∀ k, R k → k < w.heap.size ∧ ¬ S k) : Keep R w w' := ⟨h.size, fun k hk => h.block k (hR k hk).1 (hR k hk).2⟩

/-- The iterator 'gf' with what it has captured, in w: it gives the values xs, one after the other; it turns no block but those in 'own', and it needs those in 'rd' kept. -/
def Iter {α : Type} (P : Program) (gf : Nat) (lb : Array Value) (encs : α → Array Value) (xs : List α) (own rd : Nat → Prop) (w : World) : Prop :=
  ∀ (l : Nat) (J : Nat → World → Prop) (Jx : World → Prop) (W : World), Keep rd w W →
    (∀ i W1 W2, J i W1 → Fr own W1 W2 → J i W2) → (∀ W1 W2, Jx W1 → Fr own W1 W2 → Jx W2) →
    (∀ i x W1, xs[i]? = some x → J i W1 → YieldAt Fence.wide 0 P l (encs x) W1 fun e W2 =>
      (e = .returned (.bool true) ∧ J (i + 1) W2 ∧ Keep rd W1 W2) ∨ (e = .returned (.bool false) ∧ Jx W2)) →
    J 0 W →
    CallsIn Fence.wide 0 P gf (#[.func (.yield l) #[] #[]] ++ lb) W fun e W' => (∃ v, e = .returned v) ∧ (J xs.length W' ∨ Jx W')

/-- How a round's body may be left. -/
def iterPost (S : Nat → Prop) (I : Nat → World → Prop) (Ix : Code → World → Prop) (i : Nat) (W : World) : Exit → Act → World → Prop
  | .normal, _, W' => ∃ S', Fr S' W W' ∧ (∀ k, S' k → S k → False) ∧ I i W'
  | .ret, _, W' => ∃ S', Fr S' W W' ∧ (∀ k, S' k → S k → False) ∧ Ix .ret W'
  | .exit id, _, W' => ∃ S', Fr S' W W' ∧ (∀ k, S' k → S k → False) ∧ Ix (.exit id) W'
  | .goto t, _, W' => ∃ S', Fr S' W W' ∧ (∀ k, S' k → S k → False) ∧ Ix (.goto t) W'
  | .panic _, _, _ => False
  | .outgrown, _, _ => False

variable {P : Program}

theorem Fr.putNew {a : World} {S : Nat → Prop} (r : Nat) (o : Obj) (hp : S r) : Fr S a (a.putObj r o) := (Fr.refl S a).putObj (fun _ => hp) o

/-- THE LAW. 'I i W': i values have come. It must outlive turns of 'own' and of the loop's two blocks. The body must turn none of 'rd' and none of the loop's two blocks. -/
theorem wpIn_iter {α : Type} {g : Operand} {ps : Array Tmp} {assign body : Code} {Q : Exit → Act → World → Prop} {a : Act} {w : World}
    {gf : Nat} {lb : Array Value} (hg : a.eval g = .func (.func gf) #[] lb) (eg : ∀ args w, (callFunc gf args).run P w = .ok (.enter gf args) w)
    {encs : α → Array Value} {xs : List α} {own rd : Nat → Prop} {w0 : World} (hseq : Iter P gf lb encs xs own rd w0) (hb0 : Keep rd w0 w) (hps : ∀ x, (encs x).size = ps.size)
    (hown : ∀ k, own k → k < w.heap.size) (hrd : ∀ k, rd k → k < w.heap.size)
    (I : Nat → World → Prop) (Ix : Code → World → Prop)
    (hI : ∀ i W1 W2, I i W1 → Fr (fun k => own k ∨ k = w.heap.size ∨ k = w.heap.size + 1) W1 W2 → I i W2)
    (hIx : ∀ c W1 W2, Ix c W1 → Fr (fun k => own k ∨ k = w.heap.size ∨ k = w.heap.size + 1) W1 W2 → Ix c W2) (h0 : I 0 w) (a₁ : α → World → Act → Prop)
    (hassign : ∀ (l : Nat) (x : α) (W : World) (K : Act → World → Prop), w.heap.size + 1 < W.heap.size → (∀ a' W', a₁ x W' a' → Fr none' W W' → K a' W') →
      assign.wpIn (Fence.wide.inRound l) 0 P (Exit.then K (fun _ _ _ => False)) { tmps := (ps.zip (encs x)).foldl (fun t (p, v) => t.setIfInBounds p v) a.tmps, defers := [] } W)
    (ha₁ : ∀ x W1 W2 a', a₁ x W1 a' → Fr (fun k => k = w.heap.size + 1) W1 W2 → a₁ x W2 a')
    (hbody : ∀ (l i : Nat) (x : α) (W : World) (a' : Act) (r : Loop), xs[i]? = some x → I i W → a₁ x W a' → W.heap[w.heap.size]? = some (.deferred (some [])) → W.heap[w.heap.size + 1]? = some (.loop r) →
      body.wpIn (Fence.wide.inRound l) 0 P (iterPost (fun k => rd k ∨ k = w.heap.size ∨ k = w.heap.size + 1) I Ix (i + 1) W) a' W)
    (hdone : ∀ (D : Nat) (W : World), D = w.heap.size → I xs.length W → W.heap[D]? = some (.deferred (some [])) → Q .normal { a with defers := { target := .collected D, args := #[] } :: a.defers } W)
    (hstop : ∀ (D : Nat) (c : Code) (W : World), D = w.heap.size → Ix c W → W.heap[D]? = some (.deferred (some [])) → c.wpIn Fence.wide 0 P Q { a with defers := { target := .collected D, args := #[] } :: a.defers } W) :
    (Code.rangeFunc g ps assign body).wpIn Fence.wide 0 P Q a w := by
  refine wpIn_rangeFunc ?_
  intro fn hfn
  obtain ⟨rec, hrec⟩ : ∃ rec : LoopState → Option Code → Loop, rec = fun st pe => { state := st, pending := pe, fn, tmps := a.tmps, params := ps, assign, body, defers := w.heap.size } := ⟨_, rfl⟩
  obtain ⟨B, hB⟩ : ∃ B, w.heap.size = B := ⟨_, rfl⟩
  obtain ⟨W1, hW1⟩ : ∃ W1, (w.alloc (.deferred (some []))).alloc (.loop (rec .ready none)) = W1 := ⟨_, rfl⟩
  have hf1 : Fr none' w W1 := by rw [← hW1]; exact ((Fr.refl _ _).alloc _).alloc _
  have hL1 : W1.heap[B + 1]? = some (.loop (rec .ready none)) := by
    rw [← hW1, ← hB]; have := World.alloc_heap_new (w.alloc (.deferred (some []))) (.loop (rec .ready none)); rwa [World.size_alloc] at this
  have hK1 : W1.heap[B]? = some (.deferred (some [])) := by
    rw [← hW1, ← hB]; exact (Below.heap_alloc _ _ _ (by simp)).trans (World.alloc_heap_new w _)
  rw [hB] at hI hIx hbody hdone hstop hassign ha₁ hown hrd
  have hI1 : I 0 W1 := hI _ _ _ h0 (hf1.mono (fun k _ h => h.elim))
  refine ⟨B + 1, [{ target := .collected B, args := #[] }], W1, { target := .fn (.func gf) lb, args := #[.func (.yield (B + 1)) #[] #[]] }, W1, gf,
    #[.func (.yield (B + 1)) #[] #[]] ++ lb, W1, ?_, ?_, fun _ _ => trivial, ?_, fun h => by simp [Fence.wide] at h, ?_⟩
  · have := run_enterLoop_outer (P := P) (w := w) fn a.tmps ps assign body
    rw [← hW1, hrec]
    simp only [hB] at this ⊢
    exact this
  · simp only [resolve, hg]
    simp [go_sem]
  · simp [invoke, go_sem, eg]
  · refine CallsIn.mono ((hseq (B + 1)
      (fun i W => I i W ∧ W.heap[B + 1]? = some (.loop (rec .ready none)) ∧ W.heap[B]? = some (.deferred (some [])))
      (fun W => ∃ c, Ix c W ∧ W.heap[B + 1]? = some (.loop (rec .done (some c))) ∧ W.heap[B]? = some (.deferred (some [])))
      W1 (hb0.trans (hf1.keep (fun k hk => ⟨by rw [hB]; exact hrd k hk, id⟩)))
      ?_ ?_ ?_ ⟨hI1, hL1, hK1⟩)) ?_
    · rintro i A C ⟨hi, hl, hk⟩ hf
      have l1 := (Array.getElem?_eq_some_iff.1 hl).1
      exact ⟨hI i A C hi (hf.mono (fun k _ h => .inl h)), (hf.block _ l1 (fun h => by have := hown _ h; omega)).trans hl, (hf.block _ (by omega) (fun h => by have := hown _ h; omega)).trans hk⟩
    · rintro A C ⟨c, hi, hl, hk⟩ hf
      have l1 := (Array.getElem?_eq_some_iff.1 hl).1
      exact ⟨c, hIx c A C hi (hf.mono (fun k _ h => .inl h)), (hf.block _ l1 (fun h => by have := hown _ h; omega)).trans hl, (hf.block _ (by omega) (fun h => by have := hown _ h; omega)).trans hk⟩
    · rintro i x W hx ⟨hi, hl, hk⟩
      have hlt : B + 1 < W.heap.size := (Array.getElem?_eq_some_iff.1 hl).1
      have hy := run_yield (P := P) (args := encs x) hl (by rw [hrec]; exact hps x)
      rw [hrec] at hy
      refine ⟨fn, _, assign, body, hy, roundIn_of_wpIn (n := 0) hfn (hassign _ x W _ hlt ?_)⟩
      intro a' W' ha' hf'
      have hl' : W'.heap[B + 1]? = some (.loop (rec .ready none)) := (hf'.block _ hlt id).trans hl
      have hk' : W'.heap[B]? = some (.deferred (some [])) := (hf'.block _ (by omega) id).trans hk
      have hlt' : B + 1 < W'.heap.size := (Array.getElem?_eq_some_iff.1 hl').1
      refine ⟨_, run_beginRound hl' (by rw [hrec]), ?_⟩
      obtain ⟨W2, hW2⟩ : ∃ W2, W'.putObj (B + 1) (.loop { rec .ready none with state := .busy }) = W2 := ⟨_, rfl⟩
      have hf2 : Fr (fun k => k = B + 1) W' W2 := by rw [← hW2]; exact Fr.putNew _ _ rfl
      have hl2 : W2.heap[B + 1]? = some (.loop { rec .ready none with state := .busy }) := by rw [← hW2]; exact World.putObj_heap_same hlt'
      have hk2 : W2.heap[B]? = some (.deferred (some [])) := (hf2.block _ (by omega) (by omega)).trans hk'
      rw [hW2]
      have hi2 : I i W2 := hI _ _ _ (hI _ _ _ hi (hf'.mono (fun k _ h => h.elim))) (hf2.mono (fun k _ h => .inr (.inr h)))
      have kW2 : Keep rd W W2 := (hf'.keep (fun k hk => ⟨by have := hrd k hk; omega, id⟩)).trans (hf2.keep (fun k hk => ⟨by have := hrd k hk; omega, by have := hrd k hk; omega⟩))
      refine wpIn_mono (hbody _ i x W2 a' _ hx hi2 (ha₁ _ _ _ _ ha' hf2) hk2 hl2) ?_
      have fin : ∀ (jump : Option Code) (W3 : World) (S' : Nat → Prop), Fr S' W2 W3 → (∀ k, S' k → (rd k ∨ k = B ∨ k = B + 1) → False) →
          (Instr.endRound (B + 1) jump).run P W3 = .ok (.bool jump.isNone) (W3.putObj (B + 1) (.loop (rec (if jump.isNone then .ready else .done) jump))) ∧
          (W3.putObj (B + 1) (.loop (rec (if jump.isNone then .ready else .done) jump))).heap[B + 1]? = some (.loop (rec (if jump.isNone then .ready else .done) jump)) ∧
          (W3.putObj (B + 1) (.loop (rec (if jump.isNone then .ready else .done) jump))).heap[B]? = some (.deferred (some [])) ∧
          Fr (fun k => own k ∨ k = B ∨ k = B + 1) W3 (W3.putObj (B + 1) (.loop (rec (if jump.isNone then .ready else .done) jump))) ∧
          Keep rd W (W3.putObj (B + 1) (.loop (rec (if jump.isNone then .ready else .done) jump))) := by
        intro jump W3 S' hf3 hS'
        have l2 := (Array.getElem?_eq_some_iff.1 hl2).1
        have hl3 := (hf3.block _ l2 (fun h => hS' _ h (.inr (.inr rfl)))).trans hl2
        have hk3 := (hf3.block _ (by omega) (fun h => hS' _ h (.inr (.inl rfl)))).trans hk2
        have l3 := (Array.getElem?_eq_some_iff.1 hl3).1
        have := run_endRound (P := P) jump hl3
        rw [hrec] at this ⊢
        refine ⟨this, World.putObj_heap_same l3, (World.putObj_heap_other (by omega)).trans hk3, Fr.putNew _ _ (.inr (.inr rfl)), ?_⟩
        refine (kW2.trans (hf3.keep (fun k hk => ⟨by have := hrd k hk; omega, fun h => hS' _ h (.inl hk)⟩))).trans ?_
        exact (Fr.putNew (S := fun k => k = B + 1) _ _ rfl).keep (fun k hk => ⟨by have := hrd k hk; omega, by have := hrd k hk; omega⟩)
      rintro e a3 W3 hp
      cases e with
      | normal =>
        obtain ⟨S', hf3, hS', hi3⟩ := hp
        obtain ⟨hr, hl4, hk4, hf4, hk5⟩ := fin none W3 S' hf3 hS'
        exact ⟨_, _, hr, .inl ⟨rfl, ⟨hI _ _ _ hi3 hf4, hl4, hk4⟩, hk5⟩⟩
      | ret =>
        obtain ⟨S', hf3, hS', hi3⟩ := hp
        obtain ⟨hr, hl4, hk4, hf4, hk5⟩ := fin (some .ret) W3 S' hf3 hS'
        exact ⟨_, _, hr, .inr ⟨rfl, .ret, hIx _ _ _ hi3 hf4, hl4, hk4⟩⟩
      | exit id =>
        obtain ⟨S', hf3, hS', hi3⟩ := hp
        obtain ⟨hr, hl4, hk4, hf4, hk5⟩ := fin (some (.exit id)) W3 S' hf3 hS'
        exact ⟨_, _, hr, .inr ⟨rfl, .exit id, hIx _ _ _ hi3 hf4, hl4, hk4⟩⟩
      | goto t =>
        obtain ⟨S', hf3, hS', hi3⟩ := hp
        obtain ⟨hr, hl4, hk4, hf4, hk5⟩ := fin (some (.goto t)) W3 S' hf3 hS'
        exact ⟨_, _, hr, .inr ⟨rfl, .goto t, hIx _ _ _ hi3 hf4, hl4, hk4⟩⟩
      | panic ch => exact hp.elim
      | outgrown => exact hp.elim
    · rintro e W2 ⟨⟨v, rfl⟩, (⟨hi, hl, hk⟩ | ⟨c, hi, hl, hk⟩)⟩
      · exact ⟨none, _, by have := run_endLoop (P := P) hl (by rw [hrec]; simp); rw [hrec] at this; exact this, hdone _ _ rfl (hI _ _ _ hi (Fr.putNew _ _ (.inr (.inr rfl)))) ((World.putObj_heap_other (by omega)).trans hk)⟩
      · exact ⟨some c, _, by have := run_endLoop (P := P) hl (by rw [hrec]; simp); rw [hrec] at this; exact this, hstop _ c _ rfl (hIx c _ _ hi (Fr.putNew _ _ (.inr (.inr rfl)))) ((World.putObj_heap_other (by omega)).trans hk)⟩

theorem wide_fn (k : Nat) : Fence.wide.fn k = True := rfl
theorem wide_depth : Fence.wide.depth = none := rfl
theorem wide_fnR (l k : Nat) : (Fence.wide.inRound l).fn k = True := rfl
theorem wide_depthR (l : Nat) : (Fence.wide.inRound l).depth = none := rfl
end Go.Proofs.YtieeloealklkgaaGreatDoor

/-
  The library's functions on strings at one byte, and the splitting of a string at points.
-/
namespace Go.Proofs.YtieeloealklkgaaGreatDoor
open Go.RowKit

/-- A string of bytes. -/
def bs (l : List UInt8) : ByteArray := ⟨l.toArray⟩
theorem toList_bs (l : List UInt8) : (bs l).data.toList = l := rfl
theorem size_bs (l : List UInt8) : (bs l).size = l.length := rfl

set_option maxRecDepth 100000 in
set_option maxHeartbeats 1000000 in
theorem IndexByte_any (s : ByteArray) (c : UInt8) (w : World) :
    Calls Tryz.prog 162 #[.string s, .int .u8 c.toNat] w fun e w' => e = .returned (.int .i64 (Lib.indexByte s.data.toList c)) ∧ w = w' := by
  go_enter Tryz.func162, Tryz.ntmps162
  go_wp2
  rw [run_callFunc_extern Tryz.func176 (by kernel_rfl) (by kernel_rfl) (by kernel_rfl) (e := Extern.BytealgIndexByte.indexByte) (by kernel_rfl), Lib.run_indexByteString]
  simp only [Result.andThen]
  rw [Oper.upon_value]
  go_wp2
  go_ret
  exact ⟨by simp, rfl⟩

set_option maxRecDepth 100000 in
set_option maxHeartbeats 2000000 in
theorem IndexLite_one (s : ByteArray) (c : UInt8) (w : World) :
    Calls Tryz.prog 138 #[.string s, .string ⟨#[c]⟩] w fun e w' => e = .returned (.int .i64 (Lib.indexByte s.data.toList c)) ∧ w = w' := by
  go_enter Tryz.func138, Tryz.ntmps138
  go_wp2_with (go_at_call 162; refine (IndexByte_any _ _ _).mono ?_; rintro e w' ⟨rfl, rfl⟩)
  · have h : ([c] == s.toList) = true := by assumption
    go_ret
    refine ⟨?_, rfl⟩
    have e : s.data.toList = [c] := by rw [← Lib.toList_data]; exact (beq_iff_eq.1 h).symm
    rw [e]
    simp [Lib.indexByte]
  · go_ret
    exact ⟨rfl, rfl⟩

/-- strings.Cut at one byte. -/
def cut1 (l : List UInt8) (c : UInt8) : List UInt8 × List UInt8 × Bool :=
  match l with
  | [] => ([], [], false)
  | x :: r => if x = c then ([], r, true) else ((x :: (cut1 r c).1), (cut1 r c).2.1, (cut1 r c).2.2)

theorem indexByte_cut1 (l : List UInt8) (c : UInt8) :
    ((cut1 l c).2.2 = false ∧ Lib.indexByte l c = -1 ∧ cut1 l c = (l, [], false)) ∨
    ((cut1 l c).2.2 = true ∧ ∃ i : Nat, i < l.length ∧ Lib.indexByte l c = i ∧ cut1 l c = (l.take i, l.drop (i + 1), true)) := by
  induction l with
  | nil => left; simp [cut1, Lib.indexByte]
  | cons x r ih =>
    by_cases h : x = c
    · right; subst h; exact ⟨by simp [cut1], 0, by simp, by simp [Lib.indexByte], by simp [cut1]⟩
    · rcases ih with ⟨h1, h2, h3⟩ | ⟨h1, i, h2, h3, h4⟩
      · left; refine ⟨by simp [cut1, h, h1], by simp [Lib.indexByte, h, h2], by simp [cut1, h, h3]⟩
      · right; refine ⟨by simp [cut1, h, h1], i + 1, by simpa using h2, by simp [Lib.indexByte, h, h3], by simp [cut1, h, h4]⟩


set_option maxRecDepth 100000 in
set_option maxHeartbeats 2000000 in
theorem CutLite_one (s : ByteArray) (c : UInt8) (w : World) (hs : s.size ≤ maxLen) :
    Calls Tryz.prog 137 #[.string s, .string ⟨#[c]⟩] w fun e w' => e = .returned (.tuple #[.string (bs (cut1 s.data.toList c).1), .string (bs (cut1 s.data.toList c).2.1), .bool (cut1 s.data.toList c).2.2]) ∧ Below w.heap.size w w' ∧ w.drawn ≤ w'.drawn := by
  unfold maxLen at hs
  rcases indexByte_cut1 s.data.toList c with ⟨_, h2, h3⟩ | ⟨_, i, hi, h2, h3⟩
  · rw [h3]
    have H2 := Lib.hid h2
    go_enter Tryz.func137, Tryz.ntmps137
    go_wp2_with (go_at_call 138; refine (IndexLite_one _ _ _).mono ?_; rintro e w' ⟨rfl, rfl⟩; rw [H2.out])
    go_ret3
    exact ⟨rfl, Below.refl _ _, Nat.le_refl _⟩
  · rw [h3]
    have hi' : i < s.size := by simpa using hi
    have H2 := Lib.hid h2
    have c1 : (0 : Int) ≤ ↑i := by omega
    have c2 : (↑i : Int) ≤ ↑s.size := by omega
    have c3 : (0 : Int) ≤ ↑i + 1 := by omega
    have c4 : (↑i + 1 : Int) ≤ ↑s.size := by omega
    clear h2 h3
    go_enter Tryz.func137, Tryz.ntmps137
    go_wp2_with (go_at_call 138; refine (IndexLite_one _ _ _).mono ?_; rintro e w' ⟨rfl, rfl⟩; rw [H2.out])
    go_region
    go_wp2
    go_ret3
    refine ⟨?_, (Below.refl _ _).drew, Nat.le_succ _⟩
    have e1 : s.extract 0 i = bs (List.take i s.data.toList) := by
      apply ByteArray.ext; apply Array.ext'; simp [bs]
    have e2 : s.extract (i + 1) s.size = bs (List.drop (i + 1) s.data.toList) := by
      apply ByteArray.ext; apply Array.ext'; simp [bs]; exact List.take_of_length_le (by simp)
    rw [← e1, ← e2]
    rfl

theorem Below.draws {B : Nat} {w w' : World} (h : Below B w w') : Below B w w'.drew := h.drew

set_option maxRecDepth 100000 in
set_option maxHeartbeats 2000000 in
/-- strings.Cut at one byte. -/
theorem Cut_one (s : ByteArray) (c : UInt8) (w : World) (hs : s.size ≤ maxLen) :
    Calls Tryz.prog 121 #[.string s, .string ⟨#[c]⟩] w fun e w' => e = .returned (.tuple #[.string (bs (cut1 s.data.toList c).1), .string (bs (cut1 s.data.toList c).2.1), .bool (cut1 s.data.toList c).2.2]) ∧ Below w.heap.size w w' ∧ w.drawn ≤ w'.drawn := by
  obtain ⟨a, ha⟩ : ∃ a, (cut1 s.data.toList c).1 = a := ⟨_, rfl⟩
  obtain ⟨b, hb⟩ : ∃ b, (cut1 s.data.toList c).2.1 = b := ⟨_, rfl⟩
  obtain ⟨d, hd⟩ : ∃ d, (cut1 s.data.toList c).2.2 = d := ⟨_, rfl⟩
  have H := CutLite_one s c w hs
  rw [ha, hb, hd] at H ⊢
  have H' := Lib.hid H
  clear ha hb hd H
  go_enter Tryz.func121, Tryz.ntmps121
  go_wp2_with (go_at_call 137; refine H'.out.mono ?_; rintro e w' ⟨rfl, hb, hd⟩)
  go_ret3
  exact ⟨rfl, hb, hd⟩
end Go.Proofs.YtieeloealklkgaaGreatDoor

/-
  name.parts: the iterator over the parts of a string.
-/
namespace Go.Proofs.YtieeloealklkgaaGreatDoor
open Go.RowKit
attribute [local go_sem] Oper.semAt_some wide_fn wide_depth wide_fnR wide_depthR

abbrev Bs := List UInt8
/-- The parts of a string: what is between its points. -/
def cut : Bs → List Bs
  | [] => [[]]
  | c :: l => if c = 46 then [] :: cut l else ((c :: (cut l).headD []) :: (cut l).tail)
theorem cut_ne (l : Bs) : cut l ≠ [] := by cases l <;> simp [cut]; split <;> simp
theorem cut_cut1 (l : Bs) : cut l = if (cut1 l 46).2.2 then (cut1 l 46).1 :: cut (cut1 l 46).2.1 else [l] := by
  induction l with
  | nil => simp [cut, cut1]
  | cons x r ih =>
    by_cases h : x = 46
    · subst h; simp [cut, cut1]
    · simp only [cut, h, if_false, cut1]
      rw [ih]
      by_cases hb : (cut1 r 46).2.2 = true
      · simp [hb]
      · simp only [hb, if_false]
        rcases indexByte_cut1 r 46 with ⟨h1, _, h3⟩ | ⟨h1, _⟩
        · simp [h3]
        · exact absurd h1 hb
theorem cut1_lt (l : Bs) (h : (cut1 l 46).2.2 = true) : (cut1 l 46).2.1.length < l.length := by
  rcases indexByte_cut1 l 46 with ⟨h1, _⟩ | ⟨_, i, hi, _, h3⟩
  · simp [h1] at h
  · rw [h3]; simp; omega
theorem cut1_le (l : Bs) : (cut1 l 46).2.1.length ≤ l.length := by
  rcases indexByte_cut1 l 46 with ⟨h1, _, h3⟩ | ⟨_, i, hi, _, h3⟩
  · rw [h3]; simp
  · rw [h3]; simp

def boxLen (w : World) (b : Nat) : Nat := match w.cell? ⟨b, 0, none⟩ with
  | some (.string s) => s.size + 1
  | _ => 0
theorem boxLen_eq {w : World} {b : Nat} {s : ByteArray} (h : Box w b (.string s)) : boxLen w b = s.size + 1 := by simp [boxLen, h.cell]
def mB (m : Value) (n : Nat) : Nat := match m with
  | .bool true => n
  | _ => 0

set_option maxRecDepth 100000 in
set_option maxHeartbeats 2000000 in
theorem parts_iter (s : ByteArray) (b : Nat) (w : World) (hs : s.size ≤ maxLen) (hb : Box w b (.string s)) :
    Iter Tryz.prog 120 #[.pointer (some ⟨b, 0, none⟩)] (fun p : Bs => #[.string (bs p)]) (cut s.data.toList) (fun k => k = b) (fun k => k = b) w := by
  intro l J Jx W hK hJ hJx hY h0
  have hbW : Box W b (.string s) := hb.of_block (hK.2 b rfl)
  obtain ⟨xs, hxs⟩ : ∃ xs, cut s.data.toList = xs := ⟨_, rfl⟩
  rw [hxs] at hY ⊢
  refine callsIn_of_wp Tryz.func120 rfl trivial ?_ rfl
  simp only [Tryz.ntmps120, List.size_toArray, List.length_cons, List.length_nil, Nat.reduceAdd, Nat.reduceSub, Array.replicate_succ, Array.replicate_zero, List.push_toArray, List.append_toArray, List.nil_append, List.cons_append]
  gi_wp2
  gi_loopw [3] (fun m wr => ∃ (i : Nat) (t : ByteArray), t.size ≤ maxLen ∧ Box wr b (.string t) ∧ J i wr ∧ ((m = .bool true ∧ Hid (cut t.data.toList = xs.drop i)) ∨ (m = .bool false ∧ i = xs.length)))
    (fun m wr => mB m (boxLen wr b))
  case atStart =>
    exact ⟨0, s, hs, hbW, h0, .inl ⟨rfl, hxs⟩⟩
  case round =>
    obtain ⟨i, t, ht, hbx, hJi, hcase⟩ := hrel
    rcases hcase with ⟨rfl, hcut⟩ | ⟨rfl, hi⟩
    · have hm0 := Lib.hid (boxLen_eq hbx)
      have hc := hbx.cell
      have hf := hbx.frozen
      obtain ⟨p1, hp1⟩ : ∃ a, (cut1 t.data.toList 46).1 = a := ⟨_, rfl⟩
      obtain ⟨p2, hp2⟩ : ∃ a, (cut1 t.data.toList 46).2.1 = a := ⟨_, rfl⟩
      obtain ⟨d, hd⟩ : ∃ a, (cut1 t.data.toList 46).2.2 = a := ⟨_, rfl⟩
      have HC := Cut_one t 46 wr ht
      rw [hp1, hp2, hd] at HC
      have HC' := Lib.hid HC
      have hp1' := Lib.hid hp1
      have hp2' := Lib.hid hp2
      have hd' := Lib.hid hd
      clear HC hp1 hp2 hd
      have hsz := hbx.lt
      have hxi : xs[i]? = some p1 := by
        have h1 := cut_cut1 t.data.toList
        rw [hcut.out, hp1'.out, hp2'.out, hd'.out] at h1
        cases d with
        | true =>
          simp at h1
          have := congrArg (fun l => l[0]?) h1
          simpa using this
        | false =>
          simp at h1
          have h2 := hp1'.out
          rcases indexByte_cut1 t.data.toList 46 with ⟨_, _, h3⟩ | ⟨h3, _⟩
          · rw [h3] at h2
            have := congrArg (fun l => l[0]?) h1
            subst h2
            simpa using this
          · rw [hd'.out] at h3; cases h3
      have Hxi := Lib.hid hxi
      clear hxi
      gi_wp2_with fail
      refine (callsIn_wide.2 HC'.out).mono ?_
      rintro e w1 ⟨rfl, hb1, hd1⟩
      have hc1 := (hb1.cell (p := ⟨b, 0, none⟩) hsz).trans hc
      have hf1 := (hb1.frozen (p := ⟨b, 0, none⟩) hsz).trans hf
      have hj1 := hJ i wr (w1.setCell ⟨b, 0, none⟩ (.string (bs p2))) hJi (Fr.setCell (S := fun k => k = b) ((Fr.refl _ _).of_below hb1 hd1) (fun _ => rfl) _)
      obtain ⟨fn, tmps, assign, body, hy, hR⟩ := hY i p1 (w1.setCell ⟨b, 0, none⟩ (.string (bs p2))) Hxi.out hj1
      have hbx3 : ∀ W3, Keep (fun k => k = b) (w1.setCell ⟨b, 0, none⟩ (.string (bs p2))) W3 → Box W3 b (.string (bs p2)) := fun W3 hk =>
        Box.of_block ((hbx.fr ((Fr.refl none' _).of_below hb1 hd1) id).set _) (hk.2 b rfl)
      gi_wp2
      refine hR.mono ?_
      rintro e W3 (⟨rfl, hJ3, hk3⟩ | ⟨rfl, hJx3⟩)
      · gi_wp2
        have hb3 := hbx3 W3 hk3
        have hle : p2.length ≤ maxLen := by rw [← hp2'.out]; exact Nat.le_trans (cut1_le _) (by simpa using ht)
        have h1 := cut_cut1 t.data.toList
        rw [hcut.out, hp1'.out, hp2'.out, hd'.out] at h1
        go_roundw
        case rel =>
          refine ⟨i + 1, bs p2, hle, hb3, hJ3, ?_⟩
          cases d with
          | true =>
            left; refine ⟨rfl, ?_⟩
            have h2 := congrArg List.tail h1
            simp only [if_true, List.tail_cons, List.tail_drop] at h2
            exact h2.symm
          | false =>
            right; refine ⟨rfl, ?_⟩
            have h2 := congrArg List.length h1
            simp at h2; omega
        case measure =>
          rw [boxLen_eq hb3, hm0.out]
          cases d with
          | true =>
            have := cut1_lt t.data.toList hd'.out
            rw [hp2'.out] at this
            simp [mB, size_bs] at this ⊢; omega
          | false => simp [mB]
      · gi_wp2
        refine bodyPost_ret (results_none rfl _ _ _) rfl ?_
        exact ⟨⟨_, rfl⟩, .inr hJx3⟩
    · subst hi
      gi_wp2
      go_end0
      exact ⟨⟨_, rfl⟩, .inl hJi⟩
end Go.Proofs.YtieeloealklkgaaGreatDoor

/-
  append onto an own row of one-cell elements, whatever the source; the count of draws does not fall.
-/
namespace Go.Proofs.YtieeloealklkgaaGreatDoor
open Go.RowKit
variable {P : Program}

theorem run_append_own_src (w : World) (base : Nat) (t tx ty e : TypeId) (i : TypeInfo) (z : Value) (bytes : Nat) (ht : P.underlying t = some (.slice e)) (hi : P.info? e = some i) (hz : i.zero = some z)
    (hsize : i.size = 1) (hby : i.bytes = bytes) (hzs : z.cells.size = 1)
    (v : Value) (n : Nat) (xs : List Value) (hown : w.ownsRow base e 1 v n xs)
    (x : Value) (m : Nat) (news : List Value) (hs : Src P 1 tx x m news w)
    (h63 : n + m ≤ maxLen) (hbytes : (n + m) * bytes ≤ 140737488355328) (hbase : base ≤ w.heap.size) :
    ∃ v' w', (Builtin.append_ #[t, tx] ty #[v, x]).run P w = .ok v' w' ∧ w'.ownsRow base e 1 v' (n + m) (xs ++ news) ∧ w.grownBy w' v.ownBlock ∧ w.drawn ≤ w'.drawn := by
  have hl : news.length = m := by simpa using hs.newsLen
  have hxl : xs.length = n := by simpa using hown.1
  have hlen : (xs ++ news).length = n + m := by rw [List.length_append, hxl, hl]
  subst hby
  have grown : ∀ (old : Nat), old < n + m → ∀ (row : Option Nat),
      (w.drew.alloc (.cells ((xs ++ news).toArray ++ Builtin.zeroCells z.cells (grownCap w (n + m) old e - (n + m))) e)).ownsRow base e 1
        (.slice (some ⟨w.heap.size, 0, none⟩) (n + m) (grownCap w (n + m) old e)) (n + m) (xs ++ news) ∧
      w.grownBy (w.drew.alloc (.cells ((xs ++ news).toArray ++ Builtin.zeroCells z.cells (grownCap w (n + m) old e - (n + m))) e)) row := by
    intro old ho row
    have hge := grownCap_ge w (n + m) old e
    have hcm : grownCap w (n + m) old e ≤ maxLen := grownCap_le_maxLen w (n + m) old e h63
    refine ⟨⟨by rw [hlen, Nat.mul_one], .inr ⟨w.heap.size, _, _, rfl, hbase, heap_alloc_new w.drew _, hge, hcm, ?_, ?_⟩⟩, ⟨rfl, rfl, rfl, by simp, fun k hk _ => heap_alloc_old w.drew _ hk⟩⟩
    · simp only [Array.size_append, List.size_toArray, size_zeroCells, hzs, hlen]
      omega
    · simp only [Array.toList_append, Nat.mul_one]
      rw [← hlen]
      exact List.take_left
  rcases hown.2 with ⟨rfl, rfl⟩ | ⟨g, cap, cur, rfl, hbg, hg, hnc, hcm, hcs, htake⟩
  · have hx : xs = [] := List.eq_nil_of_length_eq_zero hxl
    subst hx
    by_cases hm : m = 0
    · subst hm
      have hn : news = [] := List.eq_nil_of_length_eq_zero hl
      subst hn
      refine ⟨.slice none 0 0, w, ?_, World.ownsRow_nil w base e 1, ⟨rfl, rfl, rfl, Nat.le_refl _, fun _ _ _ => rfl⟩, Nat.le_refl _⟩
      have hc := hs.cells
      rcases hs.kind with ⟨e', hk⟩ | hk <;> simp [Builtin.append_, run_underlying ht, run_underlying hk, sizeOf, typeInfo, hi, hs.len, hsize, hc, storeCells]
    · have hr := run_append_grow_src w t tx ty e i z ht hi hz none 0 0 [] (by simp [Builtin.firstCells, loadCells, loadCellsFrom, Sem.run_pure]) x m news (by rw [hsize]; exact hs) (by omega) (by simp only [maxLen] at h63; omega) (growslice_fits (by omega) hbytes)
      have hgr := grown 0 (by omega) (Value.ownBlock (.slice none 0 0))
      exact ⟨_, _, hr, hgr.1, hgr.2, Nat.le_succ _⟩
  · by_cases hroom : n + m ≤ cap
    · have hfit : n * 1 + news.length ≤ cur.size := by omega
      have hst := run_storeCells_at P g (n * 1) e news 0 cur w hg (by simpa using hfit) hs.one
      simp only [Nat.add_zero, Nat.mul_one] at hst
      have hr : (Builtin.append_ #[t, tx] ty #[.slice (some ⟨g, 0, none⟩) n cap, x]).run P w =
          .ok (.slice (some ⟨g, 0, none⟩) (n + m) cap) (w.setRow g (cur.toList.take n ++ news ++ cur.toList.drop (n + news.length)).toArray) := by
        have hc := hs.cells
        rcases hs.kind with ⟨e', hk⟩ | hk <;> simp [Builtin.append_, run_underlying ht, run_underlying hk, sizeOf, typeInfo, hi, hs.len, hsize, hroom, hc, Addr.add_lit, hst]
      rw [Nat.mul_one] at htake
      refine ⟨_, _, hr, ⟨by rw [hlen, Nat.mul_one], .inr ⟨g, cap, _, rfl, hbg, setRow_heap w g cur _ e _ hg, hroom, hcm, ?_, ?_⟩⟩, ⟨rfl, rfl, rfl, by simp, fun k _ hk => setRow_other w g k _ (fun e => hk (by simp [Value.ownBlock, e]))⟩, Nat.le_refl _⟩
      · simp only [List.size_toArray, List.length_append, List.length_take, List.length_drop, Array.length_toList]
        omega
      · rw [htake, Nat.mul_one, ← hlen]
        exact List.take_left
    · have holds : ∀ j u, xs[j]? = some u → w.drew.cell? ((⟨g, 0, none⟩ : Addr).add j) = some u := fun j u hj => by simpa using hown.cells (g := g) rfl j u hj
      have hr := run_append_grow_src w t tx ty e i z ht hi hz (some ⟨g, 0, none⟩) n cap xs (run_firstCells_some w.drew i.size n ⟨g, 0, none⟩ n cap xs (by rw [hsize]; simpa using hxl) holds) x m news (by rw [hsize]; exact hs) (by omega) (by simp only [maxLen] at h63; omega) (growslice_fits (by omega) hbytes)
      have hgr := grown cap (by omega) (Value.ownBlock (.slice (some ⟨g, 0, none⟩) n cap))
      exact ⟨_, _, hr, hgr.1, hgr.2, Nat.le_succ _⟩

/-- The law at a plain list of operations. -/
theorem wpList_append_any {w : World} {ops : Array Oper} {rest : List Oper} {o : Oper} {a : Act} {Q : Exit → Act → World → Prop} (hgd : o.guard = none) (s x : Operand) (t tx : TypeId)
    (ho : o.op = .call { callee := .builtin .append, args := #[s, x], argTypes := #[t, tx] })
    (base : Nat) (e : TypeId) (i : TypeInfo) (z : Value) (bytes : Nat) (ht : P.underlying t = some (.slice e)) (hi : P.info? e = some i) (hz : i.zero = some z)
    (hsize : i.size = 1) (hby : i.bytes = bytes) (hzs : z.cells.size = 1)
    (v : Value) (n : Nat) (xs : List Value) (hs : a.eval s = v) (hown : w.ownsRow base e 1 v n xs)
    (xv : Value) (m : Nat) (news : List Value) (hx : a.eval x = xv) (hsrc : Src P 1 tx xv m news w)
    (h63 : n + m ≤ maxLen) (hbytes : (n + m) * bytes ≤ 140737488355328) (hbase : base ≤ w.heap.size)
    (h : ∀ v' w', w'.ownsRow base e 1 v' (n + m) (xs ++ news) → w.grownBy w' v.ownBlock → wpList P ops Q rest (a.put o.dst v') w') : wpList P ops Q (o :: rest) a w :=
  wpList_plain hgd fun _ hK => by
    obtain ⟨v', w', hr, h2, h3, _⟩ := run_append_own_src (P := P) w base t tx o.type e i z bytes ht hi hz hsize hby hzs v n xs hown xv m news hsrc h63 hbytes hbase
    unfold Oper.wp execOp
    simp only [ho, resolve, invoke, builtin, Sem.run_bind, Sem.run_pure, Result.andThen_ok, List.map_toArray, List.map_cons, List.map_nil, hs, hx, hr]
    exact hK _ _ (h v' w' h2 h3)

/-- The law inside a fence; the count of draws does not fall. -/
theorem wpListIn_append_dr {F : Fence} {fn : Nat} {w : World} {ops : Array Oper} {rest : List Oper} {o : Oper} {a : Act} {Q : Exit → Act → World → Prop} (hgd : o.guard = none) (s x : Operand) (t tx : TypeId)
    (ho : o.op = .call { callee := .builtin .append, args := #[s, x], argTypes := #[t, tx] })
    (base : Nat) (e : TypeId) (i : TypeInfo) (z : Value) (bytes : Nat) (ht : P.underlying t = some (.slice e)) (hi : P.info? e = some i) (hz : i.zero = some z)
    (hsize : i.size = 1) (hby : i.bytes = bytes) (hzs : z.cells.size = 1)
    (v : Value) (n : Nat) (xs : List Value) (hs : a.eval s = v) (hown : w.ownsRow base e 1 v n xs)
    (xv : Value) (m : Nat) (news : List Value) (hx : a.eval x = xv) (hsrc : Src P 1 tx xv m news w)
    (h63 : n + m ≤ maxLen) (hbytes : (n + m) * bytes ≤ 140737488355328) (hbase : base ≤ w.heap.size)
    (h : ∀ v' w', w'.ownsRow base e 1 v' (n + m) (xs ++ news) → w.grownBy w' v.ownBlock → w.drawn ≤ w'.drawn → wpListIn F fn P ops Q rest (a.put o.dst v') w') : wpListIn F fn P ops Q (o :: rest) a w := by
  refine wpListIn_plain hgd fun K hK' => ?_
  obtain ⟨v', w', hr, h2, h3, h4⟩ := run_append_own_src (P := P) w base t tx o.type e i z bytes ht hi hz hsize hby hzs v n xs hown xv m news hsrc h63 hbytes hbase
  unfold Oper.wpIn
  refine ⟨?_, ?_⟩
  · simp [Oper.about, ho, resolve, Target.leads, Sem.run_pure]
  · rw [Oper.semAt_plain F _ _ (by rw [ho]; intro c hc'; cases hc')]
    simp [execOp, ho, resolve, invoke, builtin, hs, hx, hr, Result.andThen]
    exact hK' _ _ (h v' w' h2 h3 h4)
end Go.Proofs.YtieeloealklkgaaGreatDoor

/-
  slices.Collect and slices.AppendSeq at strings, over an iterator.
-/
namespace Go.Proofs.YtieeloealklkgaaGreatDoor
open Go.RowKit
attribute [local go_sem] Oper.semAt_some wide_fn wide_depth wide_fnR wide_depthR

theorem ownsRow_fr {S : Nat → Prop} {w w' : World} {base : Nat} {e : TypeId} {size : Nat} {v : Value} {n : Nat} {xs : List Value} (h : w.ownsRow base e size v n xs) (hf : Fr S w w')
    (hs : ∀ g, v.ownBlock = some g → ¬ S g) : w'.ownsRow base e size v n xs := by
  obtain ⟨h1, h2⟩ := h
  refine ⟨h1, ?_⟩
  rcases h2 with h2 | ⟨g, cap, cur, hv, hg, hh, r⟩
  · exact Or.inl h2
  · refine Or.inr ⟨g, cap, cur, hv, hg, ?_, r⟩
    rw [hf.block g (Array.getElem?_eq_some_iff.1 hh).1 (hs g (by rw [hv]; rfl))]; exact hh
theorem ownsRow_mono {w : World} {base base' : Nat} {e : TypeId} {size : Nat} {v : Value} {n : Nat} {xs : List Value} (h : w.ownsRow base e size v n xs) (hb : base' ≤ base) : w.ownsRow base' e size v n xs := by
  obtain ⟨h1, h2⟩ := h
  refine ⟨h1, ?_⟩
  rcases h2 with h2 | ⟨g, cap, cur, hv, hg, hh, r⟩
  · exact Or.inl h2
  · exact Or.inr ⟨g, cap, cur, hv, Nat.le_trans hb hg, hh, r⟩
theorem info_str : (Tryz.prog.info? 9).map (fun i => (i.zero, i.size, i.bytes)) = some (some (.string ⟨#[]⟩), 1, 16) := by kernel_rfl

def strV (p : Bs) : Value := .string (bs p)

set_option maxRecDepth 100000 in
set_option maxHeartbeats 2000000 in
theorem AppendSeq_nil (gf : Nat) (lb : Array Value) (xs : List Bs) (own rd : Nat → Prop) (w : World) (eg : ∀ args w, (callFunc gf args).run Tryz.prog w = .ok (.enter gf args) w)
    (hit : Iter Tryz.prog gf lb (fun p : Bs => #[.string (bs p)]) xs own rd w) (ho : ∀ k, own k → k < w.heap.size) (hr : ∀ k, rd k → k < w.heap.size) (hlen : xs.length ≤ 1000000) :
    CallsIn Fence.wide 0 Tryz.prog 140 #[.slice none 0 0, .func (.func gf) #[] lb] w fun e w' =>
      ∃ v, e = .returned v ∧ w'.ownsRow w.heap.size 9 1 v xs.length (xs.map strV) ∧ Fr own w w' := by
  obtain ⟨i0, hi, hz0, hz1, hz2⟩ := info_parts info_str
  refine callsIn_of_wp_marks Tryz.func140 rfl trivial ?_ rfl
  simp only [Tryz.ntmps140, List.size_toArray, List.length_cons, List.length_nil, Nat.reduceAdd, Nat.reduceSub, Array.replicate_succ, Array.replicate_zero, List.push_toArray, List.append_toArray, List.nil_append, List.cons_append]
  gi_wp2_with fail
  refine wpIn_iter (gf := gf) (lb := lb) rfl eg hit (Fr.keep ((Fr.refl none' w).alloc _) (fun k hk => ⟨hr k hk, id⟩)) (fun _ => rfl) (fun k hk => by have := ho k hk; simp; omega) (fun k hk => by have := hr k hk; simp; omega)
    (fun i W => ∃ v, Box W w.heap.size v ∧ W.ownsRow (w.heap.size + 3) 9 1 v i ((xs.take i).map strV) ∧ Fr own w W)
    (fun _ _ => False) ?hI (fun _ _ _ h _ => h.elim) ?h0
    (fun x _ a' => a' = { tmps := #[.slice none 0 0, .func (.func gf) #[] lb, .pointer (some ⟨w.heap.size, 0, none⟩), undef, .slice none 0 0, .string (bs x), .func (.func gf) #[] lb, .string (bs x), undef, undef, undef, undef, undef], defers := [] })
    ?assign (fun _ _ _ _ h _ => h) ?body ?done (fun _ _ _ _ h _ => h.elim)
  case hI =>
    rintro i W1 W2 ⟨v, hb, hrow, hfr⟩ hf
    simp only [World.size_alloc] at hf
    refine ⟨v, hb.fr hf (fun h => ?_), ownsRow_fr hrow hf (fun g hg h => ?_), hfr.trans' hf (fun k hk h => ?_)⟩
    · rcases h with h | h | h
      · have := ho _ h; omega
      · omega
      · omega
    · have hlt := hrow.lt g hg
      rcases h with h | h | h
      · have := ho _ h; omega
      · omega
      · omega
    · rcases h with h | h | h
      · exact h
      · omega
      · omega
  case h0 =>
    exact ⟨_, Box.new w _ _, World.ownsRow_nil _ _ _ _, (Fr.refl _ _).alloc _⟩
  case assign =>
    intro l x W K hlt hK
    gi_wp2
    exact hK _ _ rfl (Fr.refl _ _)
  case body =>
    rintro l i x W a' r hxi ⟨v, hb, hrow, hfr⟩ rfl hD hL
    have hlt : i < xs.length := (List.getElem?_eq_some_iff.1 hxi).1
    have hsz : w.heap.size + 2 < W.heap.size := by have := (Array.getElem?_eq_some_iff.1 hL).1; simpa using this
    have hc := hb.cell
    have hf := hb.frozen
    have Hxi := Lib.hid hxi
    clear hxi hD hL
    gi_wp2_with (gi_at_builtin; refine wpListIn_append_dr rfl _ _ 36 36 rfl (w.heap.size + 3) 9 i0 (.string ⟨#[]⟩) 16 Tryz.underlying36 hi hz0 hz1 hz2 rfl v i _ rfl (hrow.alloc _) (.slice (some ⟨W.heap.size, 0, none⟩) 1 1) 1 [strV x] rfl (Src.ofSlice _ Tryz.underlying36 _ 1 1 _ rfl (cell_one_new _ _ _) (by simp [Value.oneCell', strV])) (by unfold maxLen; omega) (by omega) (by simp; omega) ?_; intro v' w1 hown' hgrow hdr; obtain ⟨g', cap', rfl⟩ := ownsRow_succ hown'; have hfg := ((Fr.refl (from' (w.heap.size + 3)) W).alloc _).grown hgrow hdr (fun k hk _ => (hrow.lt k hk).1); have hb1 := hb.fr hfg (by unfold from'; omega); have hc1 := hb1.cell; have hf1 := hb1.frozen)
    have hb2 := hb1.set (.slice (some ⟨g', 0, none⟩) (i + 1) cap')
    have hf2 := (hfg.mono (S' := fun k => k = w.heap.size ∨ w.heap.size + 3 ≤ k) (fun k _ h => .inr h)).setCell (b := w.heap.size) (o := 0) (fun _ => .inl rfl) (.slice (some ⟨g', 0, none⟩) (i + 1) cap')
    refine ⟨_, hf2, ?_, ⟨_, hb2, ?_, ?_⟩⟩
    · intro k h1 h2
      simp only [World.size_alloc] at h2
      rcases h2 with h | h | h
      · have := hr _ h; omega
      · omega
      · omega
    · have h3 := ownsRow_setCell_below hown' (a := ⟨w.heap.size, 0, none⟩) (by simp) (.slice (some ⟨g', 0, none⟩) (i + 1) cap')
      rw [show List.map strV (List.take (i + 1) xs) = List.map strV (List.take i xs) ++ [strV x] from by
        rw [List.take_add_one, Hxi.out]; simp]
      exact h3
    · exact hfr.trans' hf2 (fun k hk h => by omega)
  case done =>
    rintro D W hDe ⟨v, hb, hrow, hfr⟩ hK
    obtain rfl : D = w.heap.size + 1 := by simpa using hDe
    have hc := hb.cell
    rw [List.take_of_length_le (Nat.le_refl _)] at hrow
    have hD : w.heap.size + 1 < W.heap.size := by have := (Array.getElem?_eq_some_iff.1 hK).1; simpa using this
    have hfe : Fr own w (W.putObj (w.heap.size + 1) (.deferred none)) := hfr.putObj (fun h => by omega) _
    have hrow' : (W.putObj (w.heap.size + 1) (.deferred none)).ownsRow w.heap.size 9 1 v xs.length (xs.map strV) := by
      refine ownsRow_fr (ownsRow_mono hrow (by omega)) (Fr.putNew (S := fun k => k = w.heap.size + 1) _ _ rfl) (fun g hg h => ?_)
      have := (hrow.lt g hg).1; omega
    have hK' := hK
    have hfv : ∃ a n c, v = .slice a n c := by
      rcases hrow.2 with ⟨rfl, _⟩ | ⟨g, cap, cur, rfl, _⟩
      · exact ⟨_, _, _, rfl⟩
      · exact ⟨_, _, _, rfl⟩
    clear hrow hb hfr hK
    obtain ⟨sa, sn, sc, rfl⟩ := hfv
    gi_wp2
    refine ⟨by simp, .inl ⟨_, _, rfl, run_takeDeferred hK', ?_⟩⟩
    refine ⟨_, results_tmp rfl _ _ _, _, rfl, ?_, hfe⟩
    exact hrow'

set_option maxRecDepth 100000 in
set_option maxHeartbeats 2000000 in
theorem Collect_any (gf : Nat) (lb : Array Value) (xs : List Bs) (own rd : Nat → Prop) (w : World) (eg : ∀ args w, (callFunc gf args).run Tryz.prog w = .ok (.enter gf args) w)
    (hit : Iter Tryz.prog gf lb (fun p : Bs => #[.string (bs p)]) xs own rd w) (ho : ∀ k, own k → k < w.heap.size) (hr : ∀ k, rd k → k < w.heap.size) (hlen : xs.length ≤ 1000000) :
    Calls Tryz.prog 124 #[.func (.func gf) #[] lb] w fun e w' =>
      ∃ v, e = .returned v ∧ w'.ownsRow w.heap.size 9 1 v xs.length (xs.map strV) ∧ Fr own w w' := by
  have HC := Lib.hid (callsIn_wide.1 (AppendSeq_nil gf lb xs own rd w eg hit ho hr hlen))
  clear hit
  go_enter Tryz.func124, Tryz.ntmps124
  go_wp2_with fail
  refine HC.out.mono ?_
  rintro e w1 ⟨v, rfl, hrow, hfr⟩
  go_wp2
  go_ret
  exact ⟨_, rfl, hrow, hfr⟩
end Go.Proofs.YtieeloealklkgaaGreatDoor

/-
  The order of strings and of lists of strings; cmp.Compare and slices.Compare; name.order.
-/
namespace Go.Proofs.YtieeloealklkgaaGreatDoor
open Go.RowKit

def ltB (a b : Bs) : Bool := Op.bytesLess a b
def cmpB (a b : Bs) : Int := if ltB a b then -1 else if a = b then 0 else 1
def cmpL : List Bs → List Bs → Int
  | [], [] => 0
  | [], _ :: _ => -1
  | _ :: _, [] => 1
  | a :: r, b :: t => if cmpB a b = 0 then cmpL r t else cmpB a b
/-- The order of names. -/
def ordN (a b : Bs) : Int := cmpL (cut a) (cut b)

theorem toList_eq (s : ByteArray) : s.toList = s.data.toList := Lib.toList_data s

set_option maxHeartbeats 1000000 in
theorem isNaN_any (s : ByteArray) (w : World) : Calls Tryz.prog 166 #[.string s] w fun e w' => e = .returned (.bool false) ∧ w = w' := by
  go_enter Tryz.func166, Tryz.ntmps166
  go_wp2
  go_ret
  simp

set_option maxHeartbeats 1000000 in
theorem cmpStr_any (s t : ByteArray) (w : World) : Calls Tryz.prog 139 #[.string s, .string t] w fun e w' => e = .returned (.int .i64 (cmpB s.data.toList t.data.toList)) ∧ w = w' := by
  have h1 : Op.bytesLess s.toList t.toList = ltB s.data.toList t.data.toList := by rw [toList_eq, toList_eq]; rfl
  have h2 : (s.toList == t.toList) = decide (s.data.toList = t.data.toList) := by rw [toList_eq, toList_eq, Bool.eq_iff_iff]; simp
  obtain ⟨c, hc⟩ : ∃ c, cmpB s.data.toList t.data.toList = c := ⟨_, rfl⟩
  rw [hc]
  unfold cmpB at hc
  rcases hb : ltB s.data.toList t.data.toList with _ | _
  · by_cases he : s.data.toList = t.data.toList
    · rw [hb] at h1
      rw [decide_eq_true he] at h2
      rw [hb, if_neg (by simp), if_pos he] at hc
      subst hc
      clear hb he
      go_enter Tryz.func139, Tryz.ntmps139
      go_wp2_with (go_at_call 166; refine (isNaN_any _ _).mono ?_; rintro e w' ⟨rfl, rfl⟩)
      go_ret
      exact ⟨rfl, rfl⟩
    · rw [hb] at h1
      rw [decide_eq_false he] at h2
      rw [hb, if_neg (by simp), if_neg he] at hc
      subst hc
      clear hb he
      go_enter Tryz.func139, Tryz.ntmps139
      go_wp2_with (go_at_call 166; refine (isNaN_any _ _).mono ?_; rintro e w' ⟨rfl, rfl⟩)
      go_ret
      exact ⟨rfl, rfl⟩
  · rw [hb] at h1
    rw [hb, if_pos rfl] at hc
    subst hc
    clear hb
    go_enter Tryz.func139, Tryz.ntmps139
    go_wp2_with (go_at_call 166; refine (isNaN_any _ _).mono ?_; rintro e w' ⟨rfl, rfl⟩)
    go_ret
    exact ⟨rfl, rfl⟩

/-- The cells of a slice of one-cell elements. -/
def Cells (w : World) (a : Option Addr) (xs : List Value) : Prop := ∀ j x, xs[j]? = some x → ∃ b off, a = some ⟨b, off, none⟩ ∧ w.cell? ⟨b, off + j, none⟩ = some x

set_option maxRecDepth 100000 in
set_option maxHeartbeats 2000000 in
theorem slicesCompare_any (a a' : Option Addr) (n n' cap cap' : Nat) (xs ys : List Bs) (w : World) (hn : xs.length = n) (hn' : ys.length = n') (hm : n ≤ 1000000) (hm' : n' ≤ 1000000)
    (hc : Cells w a (xs.map strV)) (hc' : Cells w a' (ys.map strV)) :
    Calls Tryz.prog 123 #[.slice a n cap, .slice a' n' cap'] w fun e w' => e = .returned (.int .i64 (cmpL xs ys)) ∧ w = w' := by
  obtain ⟨R, hR⟩ : ∃ R, cmpL xs ys = R := ⟨_, rfl⟩
  rw [hR]
  have HR := Lib.hid hR
  have Hn := Lib.hid hn
  have Hn' := Lib.hid hn'
  have Hc := Lib.hid hc
  have Hc' := Lib.hid hc'
  clear hR hn hn' hc hc'
  go_enter Tryz.func123, Tryz.ntmps123
  go_wp2
  go_loop [11] (fun i => ∃ k : Nat, k ≤ n ∧ k ≤ n' ∧ i = .int .i64 k ∧ Hid (cmpL (xs.drop k) (ys.drop k) = R)) (fun i => n - (intOf i).toNat)
  case atStart => exact ⟨0, Nat.zero_le _, Nat.zero_le _, rfl, HR⟩
  case round =>
    obtain ⟨k, hk, hk', rfl, hrest⟩ := hrel
    by_cases hlt : k < n
    · by_cases hlt' : k < n'
      · have hx : ∃ x r, xs.drop k = x :: r ∧ xs.drop (k + 1) = r := by
          have h1 : k < xs.length := by rw [Hn.out]; exact hlt
          exact ⟨xs[k], xs.drop (k + 1), List.drop_eq_getElem_cons h1, rfl⟩
        have hy : ∃ x r, ys.drop k = x :: r ∧ ys.drop (k + 1) = r := by
          have h1 : k < ys.length := by rw [Hn'.out]; exact hlt'
          exact ⟨ys[k], ys.drop (k + 1), List.drop_eq_getElem_cons h1, rfl⟩
        obtain ⟨x, r, hx1, hx2⟩ := hx
        obtain ⟨y, r', hy1, hy2⟩ := hy
        have hxk : xs[k]? = some x := by have := congrArg (fun l => l[0]?) hx1; simpa using this
        have hyk : ys[k]? = some y := by have := congrArg (fun l => l[0]?) hy1; simpa using this
        obtain ⟨b, off, rfl, hcx⟩ := Hc.out k (strV x) (by simp [hxk])
        obtain ⟨b', off', rfl, hcy⟩ := Hc'.out k (strV y) (by simp [hyk])
        rw [strV] at hcx hcy
        have hrest' := hrest.out
        rw [hx1, hy1, cmpL] at hrest'
        rw [← hx2, ← hy2] at hrest'
        have HX := Lib.hid hrest'
        have HM := cmpStr_any (bs x) (bs y) w
        rw [toList_bs, toList_bs] at HM
        obtain ⟨c, hcd⟩ : ∃ c, cmpB x y = c := ⟨_, rfl⟩
        rw [hcd] at HM
        have HM' := Lib.hid HM
        have Hcd := Lib.hid hcd
        clear hrest' HM hcd hx1 hx2 hy1 hy2 hxk hyk
        by_cases hc0 : c = 0
        · subst hc0
          go_wp2_with (go_at_call 139; refine HM'.out.mono ?_; rintro e w' ⟨rfl, rfl⟩)
          go_round
          case rel => exact ⟨k + 1, by omega, by omega, by go_num, by have := HX.out; rw [Hcd.out, if_pos rfl] at this; exact this⟩
          case measure => simp [intOf]; omega
        · have hcb : (c != 0) = true := by simpa using hc0
          go_wp2_with (go_at_call 139; refine HM'.out.mono ?_; rintro e w' ⟨rfl, rfl⟩)
          go_ret
          have := HX.out
          rw [Hcd.out, if_neg hc0] at this
          exact ⟨ret_int this, rfl⟩
      · have hx : ∃ x r, xs.drop k = x :: r := by
          have h1 : k < xs.length := by rw [Hn.out]; exact hlt
          exact ⟨xs[k], xs.drop (k + 1), List.drop_eq_getElem_cons h1⟩
        obtain ⟨x, r, hx1⟩ := hx
        have hxk : xs[k]? = some x := by have := congrArg (fun l => l[0]?) hx1; simpa using this
        obtain ⟨b, off, rfl, hcx⟩ := Hc.out k (strV x) (by simp [hxk])
        rw [strV] at hcx
        have hres : Hid (1 = R) := by
          have := hrest.out
          rw [hx1, List.drop_of_length_le (by rw [Hn'.out]; omega), cmpL] at this
          exact this
        clear hx1 hxk
        go_wp2
        go_ret
        exact ⟨ret_int hres.out, rfl⟩
    · have hkn : k = n := by omega
      subst hkn
      by_cases hlt' : k < n'
      · have hres : Hid (-1 = R) := by
          have := hrest.out
          obtain ⟨y, r, hy⟩ : ∃ y r, ys.drop k = y :: r := ⟨_, _, List.drop_eq_getElem_cons (by rw [Hn'.out]; exact hlt')⟩
          rw [hy, List.drop_of_length_le (by rw [Hn.out]; omega), cmpL] at this
          exact this
        go_wp2
        go_ret
        exact ⟨ret_int hres.out, rfl⟩
      · have hres : Hid (0 = R) := by
          have := hrest.out
          rw [List.drop_of_length_le (by rw [Hn.out]; omega), List.drop_of_length_le (by rw [Hn'.out]; omega), cmpL] at this
          exact this
        go_wp2
        go_ret
        exact ⟨ret_int hres.out, rfl⟩

theorem ownsRow_cells {w : World} {base : Nat} {e : TypeId} {v : Value} {n : Nat} {xs : List Value} (h : w.ownsRow base e 1 v n xs) :
    ∃ a cap, v = .slice a n cap ∧ n ≤ cap ∧ cap ≤ maxLen ∧ xs.length = n ∧ Cells w a xs ∧ (a = none → n = 0) ∧ (∀ b off s, a = some ⟨b, off, s⟩ → base ≤ b ∧ b < w.heap.size) := by
  have hcl : ∀ g, v.ownBlock = some g → _ := fun g hg => h.cells hg
  have hlt := h.lt
  obtain ⟨h1, h2⟩ := h
  rcases h2 with ⟨rfl, rfl⟩ | ⟨g, cap, cur, rfl, hg, hh, h3, h4, _⟩
  · have : xs = [] := by simpa using h1
    subst this
    exact ⟨none, 0, rfl, Nat.le_refl _, by unfold maxLen; omega, rfl, fun j x hx => by simp at hx, fun _ => rfl, (fun b off s hs => by cases hs)⟩
  · refine ⟨_, cap, rfl, h3, h4, by simpa using h1, fun j x hx => ⟨g, 0, rfl, ?_⟩, (fun ha => by cases ha), fun b off s hs => ?_⟩
    · have := hcl g rfl j x hx
      simp only [Addr.add] at this
      by_cases hj : j = 0
      · subst hj; simpa using this
      · rw [if_neg hj] at this; exact this
    · cases hs; exact hlt _ rfl
theorem Cells.of_blocks {S : Nat → Prop} {w w' : World} {a : Option Addr} {xs : List Value} (h : Cells w a xs) (hf : ∀ k, k < w.heap.size → ¬ S k → w'.heap[k]? = w.heap[k]?) (hs : ∀ b off s, a = some ⟨b, off, s⟩ → ¬ S b) : Cells w' a xs := by
  intro j x hx
  obtain ⟨b, off, rfl, hc⟩ := h j x hx
  refine ⟨b, off, rfl, ?_⟩
  have hlt : b < w.heap.size := by
    rcases Nat.lt_or_ge b w.heap.size with h | h
    · exact h
    · simp [World.cell?, Array.getElem?_eq_none h] at hc
  rw [World.cell?_of_block (w := w) (a := ⟨b, off + j, none⟩) (hf b hlt (hs _ _ _ rfl))]; exact hc
theorem Cells.fr {S : Nat → Prop} {w w' : World} {a : Option Addr} {xs : List Value} (h : Cells w a xs) (hf : Fr S w w') (hs : ∀ b off s, a = some ⟨b, off, s⟩ → ¬ S b) : Cells w' a xs := h.of_blocks hf.block hs

set_option maxHeartbeats 1000000 in
theorem parts_any (s : ByteArray) (w : World) :
    Calls Tryz.prog 95 #[.string s] w fun e w' => e = .returned (.func (.func 120) #[] #[.pointer (some ⟨w.heap.size, 0, none⟩)]) ∧ w' = w.alloc (.cells #[.string s] 9) := by
  have hmf : ∀ (fn : Fn) (first cap : Array Value) (w : World), (Instr.makeFunc fn first cap).run Tryz.prog w = .ok (.func fn first cap) w := fun _ _ _ _ => rfl
  go_enter Tryz.func95, Tryz.ntmps95
  go_wp2
  go_ret
  exact ⟨rfl, rfl⟩

theorem cut_length (l : Bs) : (cut l).length ≤ l.length + 1 := by
  induction l with
  | nil => simp [cut]
  | cons c r ih =>
    simp only [cut]
    split
    · simp; omega
    · have : 0 < (cut r).length := List.length_pos_iff.2 (cut_ne r)
      simp; omega

set_option maxRecDepth 100000 in
set_option maxHeartbeats 2000000 in
/-- slices.Collect(parts(s)). -/
theorem collectParts (s : ByteArray) (w w0 : World) (hs : s.size ≤ 100000) (hw : w = w0.alloc (.cells #[.string s] 9)) :
    Calls Tryz.prog 124 #[.func (.func 120) #[] #[.pointer (some ⟨w0.heap.size, 0, none⟩)]] w fun e w' =>
      ∃ a cap, e = .returned (.slice a (cut s.data.toList).length cap) ∧ Cells w' a ((cut s.data.toList).map strV) ∧ Below w0.heap.size w0 w' ∧ (∀ b off s, a = some ⟨b, off, s⟩ → w.heap.size ≤ b ∧ b < w'.heap.size) ∧ w0.drawn ≤ w'.drawn := by
  have hb : Box w w0.heap.size (.string s) := by rw [hw]; exact Box.new _ _ _
  have hsz : w.heap.size = w0.heap.size + 1 := by rw [hw]; simp
  have hl := cut_length s.data.toList
  have hss : s.data.toList.length = s.size := by simp
  refine (Collect_any _ _ _ _ _ w (by intro args w; rfl) (parts_iter s w0.heap.size w (by unfold maxLen; omega) hb) (by intro k hk; omega) (by intro k hk; omega) (by omega)).mono ?_
  rintro e w' ⟨v, rfl, hrow, hfr⟩
  obtain ⟨a, cap, rfl, _, _, _, hc, _, hb⟩ := ownsRow_cells hrow
  have h0 : Fr none' w0 w := by rw [hw]; exact (Fr.refl _ _).alloc _
  refine ⟨a, cap, rfl, hc, ?_, hb, Nat.le_trans h0.drawn hfr.drawn⟩
  exact (h0.trans' hfr (fun k hk h => by omega)).below (Nat.le_refl _) (fun _ _ => id)

set_option maxRecDepth 100000 in
set_option maxHeartbeats 2000000 in
/-- name.order. -/
theorem order_dr (s t : ByteArray) (w : World) (hs : s.size ≤ 100000) (ht : t.size ≤ 100000) :
    Calls Tryz.prog 100 #[.string s, .string t] w fun e w' => e = .returned (.int .i64 (ordN s.data.toList t.data.toList)) ∧ Below w.heap.size w w' ∧ w.drawn ≤ w'.drawn := by
  have hl := cut_length s.data.toList
  have hss : s.data.toList.length = s.size := by simp
  have hl' := cut_length t.data.toList
  have hss' : t.data.toList.length = t.size := by simp
  have hq : (cut s.data.toList).length ≤ 1000000 := by omega
  have hq' : (cut t.data.toList).length ≤ 1000000 := by omega
  unfold ordN
  obtain ⟨xs, hxs⟩ : ∃ xs, cut s.data.toList = xs := ⟨_, rfl⟩
  obtain ⟨ys, hys⟩ : ∃ ys, cut t.data.toList = ys := ⟨_, rfl⟩
  have HC1 : ∀ w w0 : World, w = w0.alloc (.cells #[.string s] 9) → _ := fun w w0 hw => collectParts s w w0 hs hw
  have HC2 : ∀ w w0 : World, w = w0.alloc (.cells #[.string t] 9) → _ := fun w w0 hw => collectParts t w w0 ht hw
  rw [hxs] at HC1 hq ⊢
  rw [hys] at HC2 hq' ⊢
  have H1 := Lib.hid HC1
  have H2 := Lib.hid HC2
  clear HC1 HC2 hxs hys hl hl' hss hss'
  go_enter Tryz.func100, Tryz.ntmps100
  go_wp2_with fail
  refine (parts_any _ _).mono ?_
  rintro e w1 ⟨rfl, rfl⟩
  go_wp2_with fail
  refine (H1.out _ _ rfl).mono ?_
  rintro e w2 ⟨a, cap, rfl, hc1, hb1, ha1, hd1⟩
  go_wp2_with fail
  refine (parts_any _ _).mono ?_
  rintro e w3 ⟨rfl, rfl⟩
  go_wp2_with fail
  refine (H2.out _ _ rfl).mono ?_
  rintro e w4 ⟨a', cap', rfl, hc2, hb2, ha2, hd2⟩
  go_wp2_with fail
  refine (slicesCompare_any _ _ _ _ _ _ xs ys _ rfl rfl hq hq' ?_ hc2).mono ?_
  · exact hc1.of_blocks (S := from' w2.heap.size) (fun k _ hs => hb2.block k (Nat.lt_of_not_le hs)) (fun b off s h => by have := ha1 b off s h; unfold from'; omega)
  rintro e w5 ⟨rfl, rfl⟩
  go_wp2
  go_ret
  exact ⟨rfl, hb1.trans (hb2.mono hb1.size), Nat.le_trans hd1 hd2⟩
theorem order_any (s t : ByteArray) (w : World) (hs : s.size ≤ 100000) (ht : t.size ≤ 100000) :
    Calls Tryz.prog 100 #[.string s, .string t] w fun e w' => e = .returned (.int .i64 (ordN s.data.toList t.data.toList)) ∧ Below w.heap.size w w' :=
  (order_dr s t w hs ht).mono fun _ _ h => ⟨h.1, h.2.1⟩
end Go.Proofs.YtieeloealklkgaaGreatDoor

/-
  The order of names is an order. Plain Lean.
-/
namespace Go.Proofs.YtieeloealklkgaaGreatDoor
open Go.RowKit

structure IsCmp {α : Type} (f : α → α → Int) : Prop where
  eq : ∀ a b, f a b = 0 ↔ a = b
  anti : ∀ a b, f b a = - f a b
  trans : ∀ a b c, f a b < 0 → f b c < 0 → f a c < 0

theorem bytesLess_irrefl (a : Bs) : Op.bytesLess a a = false := by
  induction a with
  | nil => rfl
  | cons x r ih => simp [Op.bytesLess, ih]
theorem bytesLess_trans : ∀ (a b c : Bs), Op.bytesLess a b = true → Op.bytesLess b c = true → Op.bytesLess a c = true
  | _, [], _, h, _ => by simp [Op.bytesLess] at h
  | _, _ :: _, [], _, h => by simp [Op.bytesLess] at h
  | [], _ :: _, _ :: _, _, _ => by simp [Op.bytesLess]
  | x :: a, y :: b, z :: c, h1, h2 => by
    simp only [Op.bytesLess, Bool.or_eq_true, decide_eq_true_eq, Bool.and_eq_true, beq_iff_eq] at h1 h2 ⊢
    rcases h1 with h1 | ⟨rfl, h1⟩
    · rcases h2 with h2 | ⟨rfl, h2⟩
      · exact .inl (UInt8.lt_trans h1 h2)
      · exact .inl h1
    · rcases h2 with h2 | ⟨rfl, h2⟩
      · exact .inl h2
      · exact .inr ⟨rfl, bytesLess_trans a b c h1 h2⟩
theorem bytesLess_total : ∀ (a b : Bs), a ≠ b → Op.bytesLess a b = false → Op.bytesLess b a = true
  | [], [], h, _ => absurd rfl h
  | [], _ :: _, _, h => by simp [Op.bytesLess] at h
  | _ :: _, [], _, _ => by simp [Op.bytesLess]
  | x :: a, y :: b, hn, h => by
    simp only [Op.bytesLess, Bool.or_eq_false_iff, decide_eq_false_iff_not, Bool.and_eq_false_iff, beq_eq_false_iff_ne] at h
    simp only [Op.bytesLess, Bool.or_eq_true, decide_eq_true_eq, Bool.and_eq_true, beq_iff_eq]
    by_cases hxy : x = y
    · subst hxy
      right
      refine ⟨rfl, bytesLess_total a b (fun e => hn (by rw [e])) ?_⟩
      rcases h.2 with h | h
      · exact absurd rfl h
      · exact h
    · left
      have h1 : x.toNat ≠ y.toNat := fun e => hxy (UInt8.toNat_inj.1 e)
      have h2 := h.1
      rw [UInt8.lt_iff_toNat_lt] at h2 ⊢
      omega
theorem bytesLess_asymm (a b : Bs) (h : Op.bytesLess a b = true) : Op.bytesLess b a = false := by
  rw [Bool.eq_false_iff]
  intro h2
  have := bytesLess_trans a b a h h2
  rw [bytesLess_irrefl] at this; cases this

theorem cmpB_cmp : IsCmp cmpB where
  eq a b := by
    unfold cmpB ltB
    by_cases h : a = b
    · subst h; simp [bytesLess_irrefl]
    · simp only [h, if_false]
      split <;> simp
  anti a b := by
    unfold cmpB ltB
    by_cases h : a = b
    · subst h; simp [bytesLess_irrefl]
    · have h' : ¬ b = a := fun e => h e.symm
      simp only [h, h', if_false]
      cases hl : Op.bytesLess a b with
      | true => simp [bytesLess_asymm a b hl]
      | false => simp [bytesLess_total a b h hl]
  trans a b c h1 h2 := by
    have key : ∀ x y : Bs, cmpB x y < 0 ↔ Op.bytesLess x y = true := fun x y => by
      unfold cmpB ltB
      cases Op.bytesLess x y <;> simp
      split <;> simp
    rw [key] at h1 h2 ⊢
    exact bytesLess_trans _ _ _ h1 h2

theorem cmpL_cmp : IsCmp cmpL where
  eq a b := by
    induction a generalizing b with
    | nil => cases b <;> simp [cmpL]
    | cons x r ih =>
      cases b with
      | nil => simp [cmpL]
      | cons y t =>
        simp only [cmpL, List.cons.injEq]
        by_cases h : cmpB x y = 0
        · rw [if_pos h, ih t]
          simp [(cmpB_cmp.eq x y).1 h]
        · rw [if_neg h]
          exact ⟨fun e => absurd e h, fun e => absurd ((cmpB_cmp.eq x y).2 e.1) h⟩
  anti a b := by
    induction a generalizing b with
    | nil => cases b <;> simp [cmpL]
    | cons x r ih =>
      cases b with
      | nil => simp [cmpL]
      | cons y t =>
        simp only [cmpL]
        have h1 := cmpB_cmp.anti x y
        by_cases h : cmpB x y = 0
        · rw [if_pos h, if_pos (by omega)]; exact ih t
        · rw [if_neg h, if_neg (by omega)]; exact h1
  trans a b c := by
    induction a generalizing b c with
    | nil => cases b <;> cases c <;> simp [cmpL]
    | cons x r ih =>
      cases b with
      | nil => simp [cmpL]
      | cons y t =>
        cases c with
        | nil => simp [cmpL]
        | cons z u =>
          simp only [cmpL]
          intro h1 h2
          by_cases hxy : cmpB x y = 0
          · rw [if_pos hxy] at h1
            obtain rfl := (cmpB_cmp.eq x y).1 hxy
            by_cases hyz : cmpB x z = 0
            · rw [if_pos hyz] at h2 ⊢; exact ih _ _ h1 h2
            · rw [if_neg hyz] at h2 ⊢; exact h2
          · rw [if_neg hxy] at h1
            by_cases hyz : cmpB y z = 0
            · obtain rfl := (cmpB_cmp.eq y z).1 hyz
              rw [if_neg hxy]; exact h1
            · rw [if_neg hyz] at h2
              have := cmpB_cmp.trans _ _ _ h1 h2
              rw [if_neg (by omega)]; exact this

/-- The parts of a string, put together again. -/
def glue : List Bs → Bs
  | [] => []
  | [p] => p
  | p :: r => p ++ 46 :: glue r
theorem glue_cut (l : Bs) : glue (cut l) = l := by
  induction l with
  | nil => rfl
  | cons c r ih =>
    simp only [cut]
    split
    · next h =>
      subst h
      cases hc : cut r with
      | nil => exact absurd hc (cut_ne r)
      | cons p t => rw [hc] at ih; simp only [glue, List.nil_append]; rw [ih]
    · cases hc : cut r with
      | nil => exact absurd hc (cut_ne r)
      | cons p t =>
        rw [hc] at ih
        simp only [List.headD_cons, List.tail_cons]
        cases t with
        | nil => simp only [glue] at ih ⊢; rw [ih]
        | cons q u => simp only [glue, List.cons_append] at ih ⊢; rw [ih]
theorem cut_inj {a b : Bs} (h : cut a = cut b) : a = b := by rw [← glue_cut a, ← glue_cut b, h]

theorem ordN_cmp : IsCmp ordN where
  eq a b := by unfold ordN; rw [cmpL_cmp.eq]; exact ⟨cut_inj, fun h => by rw [h]⟩
  anti a b := cmpL_cmp.anti _ _
  trans a b c := cmpL_cmp.trans _ _ _

theorem IsCmp.refl {α : Type} {f : α → α → Int} (h : IsCmp f) (a : α) : f a a = 0 := (h.eq a a).2 rfl
theorem IsCmp.lt_of_lt {α : Type} {f : α → α → Int} (h : IsCmp f) {a b c : α} (h1 : f a b < 0) (h2 : f b c ≤ 0) : f a c < 0 := by
  by_cases he : f b c = 0
  · rw [← (h.eq b c).1 he]; exact h1
  · exact h.trans a b c h1 (by omega)
theorem IsCmp.le_trans {α : Type} {f : α → α → Int} (h : IsCmp f) {a b c : α} (h1 : f a b ≤ 0) (h2 : f b c ≤ 0) : f a c ≤ 0 := by
  by_cases he : f a b = 0
  · rw [(h.eq a b).1 he]; exact h2
  · have := h.lt_of_lt (a := a) (b := b) (c := c) (by omega) h2; omega
/-- In a list that increases step by step each element comes before all later ones. -/
theorem IsCmp.incr {α : Type} {f : α → α → Int} (h : IsCmp f) (g : Nat → α) (n : Nat) (hs : ∀ j, j + 1 < n → f (g j) (g (j + 1)) < 0) : ∀ i j, i < j → j < n → f (g i) (g j) < 0 := by
  intro i j hij hj
  induction j with
  | zero => omega
  | succ j ih =>
    by_cases he : i = j
    · subst he; exact hs i hj
    · exact h.trans _ _ _ (ih (by omega) (by omega)) (hs j hj)

/-- cmpB has three values, and so have the others. -/
theorem cmpB_val (a b : Bs) : cmpB a b = -1 ∨ cmpB a b = 0 ∨ cmpB a b = 1 := by unfold cmpB; split <;> (try split) <;> simp
theorem cmpL_val : ∀ (a b : List Bs), cmpL a b = -1 ∨ cmpL a b = 0 ∨ cmpL a b = 1
  | [], [] => by simp [cmpL]
  | [], _ :: _ => by simp [cmpL]
  | _ :: _, [] => by simp [cmpL]
  | x :: r, y :: t => by simp only [cmpL]; split; exact cmpL_val r t; exact cmpB_val x y
theorem ordN_val (a b : Bs) : ordN a b = -1 ∨ ordN a b = 0 ∨ ordN a b = 1 := cmpL_val _ _
end Go.Proofs.YtieeloealklkgaaGreatDoor

/-
  Sets of names: plain Lean.
-/
namespace Go.Proofs.YtieeloealklkgaaGreatDoor
open Go.RowKit

def SortedL (L : List Bs) : Prop := L.Pairwise (fun a b => ordN a b < 0)
def insB (x : Bs) : List Bs → List Bs
  | [] => [x]
  | y :: r => if ordN y x < 0 then y :: insB x r else if y = x then y :: r else x :: y :: r
/-- The set of names. -/
def ofB (xs : List Bs) : List Bs := xs.foldl (fun L x => insB x L) []

theorem ord_irrefl (a : Bs) : ¬ ordN a a < 0 := by have := (ordN_cmp.eq a a).2 rfl; omega
theorem ord_asymm {a b : Bs} (h : ordN a b < 0) : ¬ ordN b a < 0 := by have := ordN_cmp.anti a b; omega
theorem ord_total {a b : Bs} (h : ¬ ordN a b < 0) (hne : a ≠ b) : ordN b a < 0 := by
  have h1 := ordN_cmp.anti a b
  have h2 : ordN a b ≠ 0 := fun e => hne ((ordN_cmp.eq a b).1 e)
  omega
theorem insB_mem (x z : Bs) (L : List Bs) : z ∈ insB x L ↔ z = x ∨ z ∈ L := by
  induction L with
  | nil => simp [insB]
  | cons y r ih =>
    simp only [insB]
    split
    · simp only [List.mem_cons, ih]
      constructor
      · rintro (h | h | h)
        · exact .inr (.inl h)
        · exact .inl h
        · exact .inr (.inr h)
      · rintro (h | h | h)
        · exact .inr (.inl h)
        · exact .inl h
        · exact .inr (.inr h)
    · split
      · next h => subst h; simp
      · simp
theorem insB_sorted (x : Bs) (L : List Bs) (h : SortedL L) : SortedL (insB x L) := by
  induction L with
  | nil => simp [insB, SortedL]
  | cons y r ih =>
    obtain ⟨h1, h2⟩ := List.pairwise_cons.1 h
    simp only [insB]
    split
    · next hyx =>
      refine List.pairwise_cons.2 ⟨fun z hz => ?_, ih h2⟩
      rcases (insB_mem x z r).1 hz with rfl | hz
      · exact hyx
      · exact h1 z hz
    · next hyx =>
      split
      · exact h
      · next hne =>
        have hxy := ord_total hyx hne
        refine List.pairwise_cons.2 ⟨fun z hz => ?_, h⟩
        rcases List.mem_cons.1 hz with rfl | hz
        · exact hxy
        · exact ordN_cmp.trans _ _ _ hxy (h1 z hz)
theorem foldl_ins (xs L : List Bs) (h : SortedL L) : SortedL (xs.foldl (fun L x => insB x L) L) ∧ ∀ z, z ∈ xs.foldl (fun L x => insB x L) L ↔ z ∈ L ∨ z ∈ xs := by
  induction xs generalizing L with
  | nil => exact ⟨h, by simp⟩
  | cons x r ih =>
    obtain ⟨h1, h2⟩ := ih (insB x L) (insB_sorted x L h)
    refine ⟨h1, fun z => ?_⟩
    rw [List.foldl_cons, h2, insB_mem, List.mem_cons]
    constructor
    · rintro ((h | h) | h)
      · exact .inr (.inl h)
      · exact .inl h
      · exact .inr (.inr h)
    · rintro (h | h | h)
      · exact .inl (.inr h)
      · exact .inl (.inl h)
      · exact .inr h
theorem ofB_sorted (xs : List Bs) : SortedL (ofB xs) := (foldl_ins xs [] List.Pairwise.nil).1
theorem ofB_mem (xs : List Bs) (z : Bs) : z ∈ ofB xs ↔ z ∈ xs := by
  have := (foldl_ins xs [] List.Pairwise.nil).2 z
  unfold ofB; rw [this]; simp
theorem sorted_ext (L M : List Bs) (hL : SortedL L) (hM : SortedL M) (h : ∀ z, z ∈ L ↔ z ∈ M) : L = M := by
  induction L generalizing M with
  | nil =>
    cases M with
    | nil => rfl
    | cons b m => have := (h b).2 (by simp); simp at this
  | cons a l ih =>
    cases M with
    | nil => have := (h a).1 (by simp); simp at this
    | cons b m =>
      obtain ⟨h1, h2⟩ := List.pairwise_cons.1 hL
      obtain ⟨h3, h4⟩ := List.pairwise_cons.1 hM
      have hab : a = b := by
        rcases List.mem_cons.1 ((h a).1 (by simp)) with h5 | h5
        · exact h5
        · rcases List.mem_cons.1 ((h b).2 (by simp)) with h6 | h6
          · exact h6.symm
          · exact absurd (h1 b h6) (ord_asymm (h3 a h5))
      subst hab
      rw [ih m h2 h4 (fun z => ⟨fun hz => ?_, fun hz => ?_⟩)]
      · rcases List.mem_cons.1 ((h z).1 (by simp [hz])) with rfl | h5
        · exact absurd (h1 z hz) (ord_irrefl z)
        · exact h5
      · rcases List.mem_cons.1 ((h z).2 (by simp [hz])) with rfl | h5
        · exact absurd (h3 z hz) (ord_irrefl z)
        · exact h5

end Go.Proofs.YtieeloealklkgaaGreatDoor

/-
  name.Right: which strings are names.
-/
namespace Go.Proofs.YtieeloealklkgaaGreatDoor
open Go.RowKit

def okc (c : UInt8) : Bool := (97 ≤ c.toNat && c.toNat ≤ 122) || (48 ≤ c.toNat && c.toNat ≤ 57)
/-- One byte of a name, behind another one. -/
def stp (b c : UInt8) : Option UInt8 :=
  if okc c then some c else if c.toNat = 45 then (if b.toNat = 46 then none else some c) else if c.toNat = 46 then (if b.toNat = 46 ∨ b.toNat = 45 then none else some c) else none
def scan : UInt8 → Bs → Option UInt8
  | b, [] => some b
  | b, c :: l => match stp b c with
    | some d => scan d l
    | none => none
def endOk : Option UInt8 → Bool
  | some b => decide (b.toNat ≠ 46) && decide (b.toNat ≠ 45)
  | none => false
def headOk : Bs → Bool
  | [] => false
  | c :: _ => decide (97 ≤ c.toNat) && decide (c.toNat ≤ 122)
/-- Whether a string is a name. -/
def rightB (l : Bs) : Bool := decide (l.length ≤ 32) && headOk l && endOk (scan 46 l)

theorem scan_snoc (l : Bs) (b c : UInt8) : scan b (l ++ [c]) = (match scan b l with | some d => stp d c | none => none) := by
  induction l generalizing b with
  | nil => simp only [List.nil_append, scan]; cases stp b c <;> rfl
  | cons x r ih => simp only [List.cons_append, scan]; cases stp b x <;> simp [ih]
theorem scan_take {l : Bs} {k : Nat} {b d c : UInt8} (h : scan b (l.take k) = some d) (hk : l[k]? = some c) : scan b (l.take (k + 1)) = stp d c := by
  rw [List.take_add_one, hk]; simp [scan_snoc, h]
theorem scan_none_of {l : Bs} {k : Nat} {b : UInt8} (h : scan b (l.take k) = none) : scan b l = none := by
  have : ∀ (p q : Bs) (b : UInt8), scan b p = none → scan b (p ++ q) = none := by
    intro p
    induction p with
    | nil => intro q b h; simp [scan] at h
    | cons x r ih => intro q b h; simp only [List.cons_append, scan] at h ⊢; cases hs : stp b x with
      | none => rfl
      | some d => rw [hs] at h; exact ih _ _ h
  have h2 := this _ (l.drop k) _ h
  rwa [List.take_append_drop] at h2

theorem okc_iff (c : UInt8) : okc c = true ↔ (97 ≤ c.toNat ∧ c.toNat ≤ 122) ∨ (48 ≤ c.toNat ∧ c.toNat ≤ 57) := by simp [okc]
theorem stp_bad (b c : UInt8) (h : ¬ ((97 ≤ c.toNat ∧ c.toNat ≤ 122) ∨ (48 ≤ c.toNat ∧ c.toNat ≤ 57))) (h1 : c.toNat ≠ 45) (h2 : c.toNat ≠ 46) : stp b c = none := by
  unfold stp
  rw [if_neg (fun e => h ((okc_iff c).1 e)), if_neg h1, if_neg h2]

set_option maxRecDepth 100000 in
set_option maxHeartbeats 1000000 in
theorem Right_in (s : ByteArray) (w : World) (h1 : 1 ≤ s.size) (h2 : s.size ≤ 32) (h3 : 97 ≤ (s[0].toNat : Int)) (h4 : (s[0].toNat : Int) ≤ 122) (r : Bool) (hr : endOk (scan 46 s.data.toList) = r) :
    Calls Tryz.prog 21 #[.string s] w fun e w' => e = .returned (.bool r) ∧ w = w' := by
  have d1 : decide ((s.size : Int) < 1) = false := by simp; omega
  have d2 : decide (32 < (s.size : Int)) = false := by simp; omega
  have d3 : decide ((s[0].toNat : Int) < 97) = false := by simp; omega
  have d4 : decide (122 < (s[0].toNat : Int)) = false := by simp; omega
  have Hr := Lib.hid hr
  have hlen : s.data.toList.length = s.size := by simp
  have Hlen := Lib.hid hlen
  clear hr hlen
  go_enter Tryz.func21, Tryz.ntmps21
  go_wp2
  clear d1 d2 d3 d4
  go_step3
  go_wp2
  go_step3
  go_wp2
  go_loop [3,4,27] (fun r b i => ∃ (k : Nat) (c : UInt8), k ≤ s.size ∧ i = .int .i64 k ∧ r = .bool true ∧ b = .int .u8 c.toNat ∧ Hid (scan 46 (s.data.toList.take k) = some c)) (fun _ _ i => s.size - (intOf i).toNat)
  case atStart => exact ⟨0, 46, Nat.zero_le _, rfl, rfl, rfl, rfl⟩
  case round =>
    obtain ⟨k, c, hk, rfl, rfl, rfl, Hsc⟩ := hrel
    by_cases hlt : k < s.size
    · have hb := UInt8.toNat_lt s[k]
      have hgk : Hid (s.data.toList[k]? = some s[k]) := by
        unfold Hid; rw [List.getElem?_eq_getElem (by rw [Hlen.out]; exact hlt)]; rfl
      obtain ⟨x, hx⟩ : ∃ x, s[k] = x := ⟨_, rfl⟩
      have hno : Hid (stp c x = none → r = false) := fun h => by
        have h5 := scan_take Hsc.out hgk.out
        rw [hx, h] at h5
        have h6 := scan_none_of h5
        rw [← Hr.out, h6]; rfl
      have hyes : Hid (∀ d, stp c x = some d → scan 46 (s.data.toList.take (k + 1)) = some d) := fun d h => by
        have h5 := scan_take Hsc.out hgk.out
        rw [hx, h] at h5
        exact h5
      clear hgk Hsc
      have hx' := Lib.hid hx
      have hxn : s[k].toNat = x.toNat := by rw [hx'.out]
      have Hxn := Lib.hid hxn
      clear hxn hx
      have fin : ∀ {b : Bool} {w' : World}, b = r → w = w' → (Ending.returned (.bool b) = .returned (.bool r) ∧ w = w') := fun h h' => ⟨ret_bool h, h'⟩
      rcases Nat.lt_or_ge s[k].toNat 97 with g1 | g1
      · rcases Nat.lt_or_ge s[k].toNat 48 with g2 | g2
        · by_cases g3 : s[k].toNat = 45
          · have t1 : ((s[k].toNat : Int) == 45) = true := by simp [g3]
            by_cases g4 : c.toNat = 46
            · have t2 : ((c.toNat : Int) != 46) = false := by simp [g4]
              have hs : stp c x = none := by have := Hxn.out; simp [stp, okc, g4, ← this, g3]
              have hr0 := Lib.hid (hno.out hs)
              have G4 := Lib.hid g4
              clear g3 g4 hs
              go_wp2
              go_ret
              exact fin hr0.out.symm rfl
            · have t2 : ((c.toNat : Int) != 46) = true := by simp; omega
              have hs : stp c x = some x := by have := Hxn.out; simp [stp, okc, g4, ← this, g3]
              have Hs := Lib.hid (hyes.out _ hs)
              have G4 := Lib.hid g4
              clear g3 g4 hs
              go_wp2
              go_round
              case rel => exact ⟨k + 1, x, by omega, by go_num, rfl, by rw [Hxn.out], Hs.out⟩
              case measure => simp [intOf]; omega
          · have t1 : ((s[k].toNat : Int) == 45) = false := by simp; omega
            by_cases g5 : s[k].toNat = 46
            · have t3 : ((s[k].toNat : Int) == 46) = true := by simp [g5]
              by_cases g4 : c.toNat = 46
              · have t2 : ((c.toNat : Int) != 46) = false := by simp [g4]
                have hs : stp c x = none := by have := Hxn.out; simp [stp, okc, g4, ← this, g5]
                have hr0 := Lib.hid (hno.out hs)
                have G4 := Lib.hid g4
                clear g5 g3 g4 hs
                go_wp2
                go_ret
                exact fin hr0.out.symm rfl
              · have t2 : ((c.toNat : Int) != 46) = true := by simp; omega
                by_cases g6 : c.toNat = 45
                · have t4 : ((c.toNat : Int) != 45) = false := by simp [g6]
                  have hs : stp c x = none := by have := Hxn.out; simp [stp, okc, g6, ← this, g5]
                  have hr0 := Lib.hid (hno.out hs)
                  have G4 := Lib.hid g4
                  have G6 := Lib.hid g6
                  clear g5 g3 g4 g6 hs
                  go_wp2
                  go_ret
                  exact fin hr0.out.symm rfl
                · have t4 : ((c.toNat : Int) != 45) = true := by simp; omega
                  have hs : stp c x = some x := by have := Hxn.out; simp [stp, okc, g4, g6, ← this, g5]
                  have Hs := Lib.hid (hyes.out _ hs)
                  clear g5 g3 g4 g6 hs
                  go_wp2
                  go_round
                  case rel => exact ⟨k + 1, x, by omega, by go_num, rfl, by rw [Hxn.out], Hs.out⟩
                  case measure => simp [intOf]; omega
            · have t3 : ((s[k].toNat : Int) == 46) = false := by simp; omega
              have hs : stp c x = none := by have := Hxn.out; exact stp_bad _ _ (by omega) (by omega) (by omega)
              have hr0 := Lib.hid (hno.out hs)
              clear g3 g5 hs
              go_wp2
              go_ret
              exact fin hr0.out.symm rfl
        · rcases Nat.lt_or_ge 57 s[k].toNat with g3 | g3
          · have t1 : ((s[k].toNat : Int) == 45) = false := by simp; omega
            have t3 : ((s[k].toNat : Int) == 46) = false := by simp; omega
            have hs : stp c x = none := by have := Hxn.out; exact stp_bad _ _ (by omega) (by omega) (by omega)
            have hr0 := Lib.hid (hno.out hs)
            clear hs
            go_wp2
            go_ret
            exact fin hr0.out.symm rfl
          · have hs : stp c x = some x := by have := Hxn.out; simp [stp, okc, ← this]; omega
            have Hs := Lib.hid (hyes.out _ hs)
            clear hs
            go_wp2
            go_round
            case rel => exact ⟨k + 1, x, by omega, by go_num, rfl, by rw [Hxn.out], Hs.out⟩
            case measure => simp [intOf]; omega
      · rcases Nat.lt_or_ge 122 s[k].toNat with g3 | g3
        · have t1 : ((s[k].toNat : Int) == 45) = false := by simp; omega
          have t3 : ((s[k].toNat : Int) == 46) = false := by simp; omega
          have hs : stp c x = none := by have := Hxn.out; exact stp_bad _ _ (by omega) (by omega) (by omega)
          have hr0 := Lib.hid (hno.out hs)
          clear hs
          go_wp2
          go_ret
          exact fin hr0.out.symm rfl
        · have hs : stp c x = some x := by have := Hxn.out; simp [stp, okc, ← this]; omega
          have Hs := Lib.hid (hyes.out _ hs)
          clear hs
          go_wp2
          go_round
          case rel => exact ⟨k + 1, x, by omega, by go_num, rfl, by rw [Hxn.out], Hs.out⟩
          case measure => simp [intOf]; omega
    · have hkk : k = s.size := by omega
      have hres : Hid (endOk (some c) = r) := by
        unfold Hid; rw [← Hr.out, ← Hsc.out, List.take_of_length_le (by rw [Hlen.out]; omega)]
      clear Hsc Hr hkk
      go_wp2
      all_goals
        go_ret
        refine ⟨ret_bool ?_, rfl⟩
        rw [← hres.out]
        simp only [endOk]
        rw [Bool.eq_iff_iff]; simp; omega

set_option maxRecDepth 100000 in
set_option maxHeartbeats 1000000 in
theorem Right_any (s : ByteArray) (w : World) (hs : s.size ≤ maxLen) :
    Calls Tryz.prog 21 #[.string s] w fun e w' => e = .returned (.bool (rightB s.data.toList)) ∧ w = w' := by
  unfold maxLen at hs
  have hlen : s.data.toList.length = s.size := by simp
  obtain ⟨r, hr⟩ : ∃ r, rightB s.data.toList = r := ⟨_, rfl⟩
  rw [hr]
  by_cases h1 : 1 ≤ s.size
  · have hhead : headOk s.data.toList = (decide (97 ≤ s[0].toNat) && decide (s[0].toNat ≤ 122)) := by
      have : s.data.toList = s[0] :: s.data.toList.tail := by
        have h := List.cons_head_tail (l := s.data.toList) (by intro h; rw [h] at hlen; simp at hlen; omega)
        rw [← h]; simp only [List.tail_cons]; congr 1; simp [List.head_eq_getElem]; rfl
      rw [this]; rfl
    by_cases h2 : s.size ≤ 32
    · by_cases h3 : 97 ≤ s[0].toNat
      · by_cases h4 : s[0].toNat ≤ 122
        · refine Right_in s w h1 h2 (by omega) (by omega) r ?_
          rw [← hr]; unfold rightB; rw [hhead]; simp [h2, h3, h4]
        · have hr0 : r = false := by rw [← hr]; unfold rightB; rw [hhead]; simp [h4]
          subst hr0
          have d1 : decide ((s.size : Int) < 1) = false := by simp; omega
          have d2 : decide (32 < (s.size : Int)) = false := by simp; omega
          have d3 : decide ((s[0].toNat : Int) < 97) = false := by simp; omega
          have d4 : decide (122 < (s[0].toNat : Int)) = true := by simp; omega
          clear hr hhead hlen
          go_enter Tryz.func21, Tryz.ntmps21
          go_wp2
          go_step3
          go_wp2
          rw [Exit.noGoto_ret]
          go_ret
          exact ⟨rfl, rfl⟩
      · have hr0 : r = false := by rw [← hr]; unfold rightB; rw [hhead]; simp [h3]
        subst hr0
        have d1 : decide ((s.size : Int) < 1) = false := by simp; omega
        have d2 : decide (32 < (s.size : Int)) = false := by simp; omega
        have d3 : decide ((s[0].toNat : Int) < 97) = true := by simp; omega
        clear hr hhead hlen
        go_enter Tryz.func21, Tryz.ntmps21
        go_wp2
        go_step3
        go_wp2
        rw [Exit.noGoto_ret]
        go_ret
        exact ⟨rfl, rfl⟩
    · have hr0 : r = false := by rw [← hr]; unfold rightB; simp; omega
      subst hr0
      have d1 : decide ((s.size : Int) < 1) = false := by simp; omega
      have d2 : decide (32 < (s.size : Int)) = true := by simp; omega
      clear hr hhead hlen
      go_enter Tryz.func21, Tryz.ntmps21
      go_wp2
      go_step3
      go_wp2
      rw [Exit.noGoto_ret]
      go_ret
      exact ⟨rfl, rfl⟩
  · have hn : s.data.toList = [] := List.length_eq_zero_iff.1 (by omega)
    have hr0 : r = false := by rw [← hr, hn]; rfl
    subst hr0
    have d1 : decide ((s.size : Int) < 1) = true := by simp; omega
    clear hr hlen hn
    go_enter Tryz.func21, Tryz.ntmps21
    go_wp2
    go_step3
    go_wp2
    rw [Exit.noGoto_ret]
    go_ret
    exact ⟨rfl, rfl⟩
end Go.Proofs.YtieeloealklkgaaGreatDoor

/-
  A range over a function whose iterator keeps blocks of its own that it makes while it runs.
-/
namespace Go.Proofs.YtieeloealklkgaaGreatDoor
open Go.RowKit

/-- Like Iter; the iterator may have blocks of its own, X, made since it was called; the body keeps them. -/
def IterX {α : Type} (P : Program) (gf : Nat) (lb : Array Value) (encs : α → Array Value) (xs : List α) (own rd : Nat → Prop) (w : World) : Prop :=
  ∀ (l : Nat) (J : Nat → (Nat → Prop) → World → Prop) (Jx : World → Prop) (W : World), Keep rd w W →
    (∀ i X Y W1 W2, J i X W1 → Fr (fun k => own k ∨ X k) W1 W2 → (∀ k, Y k → X k ∨ (W1.heap.size ≤ k ∧ k < W2.heap.size)) → J i Y W2) →
    (∀ W1 W2, Jx W1 → Fr own W1 W2 → Jx W2) →
    (∀ i x X W1, xs[i]? = some x → J i X W1 → YieldAt Fence.wide 0 P l (encs x) W1 fun e W2 =>
      (e = .returned (.bool true) ∧ J (i + 1) X W2 ∧ Keep (fun k => rd k ∨ X k) W1 W2) ∨ (e = .returned (.bool false) ∧ Jx W2)) →
    J 0 none' W →
    CallsIn Fence.wide 0 P gf (#[.func (.yield l) #[] #[]] ++ lb) W fun e W' => (∃ v, e = .returned v) ∧ ((∃ X, J xs.length X W') ∨ Jx W')
theorem Iter.x {α : Type} {P : Program} {gf : Nat} {lb : Array Value} {encs : α → Array Value} {xs : List α} {own rd : Nat → Prop} {w : World} (h : Iter P gf lb encs xs own rd w) : IterX P gf lb encs xs own rd w := by
  intro l J Jx W hK hJ hJx hY h0
  refine CallsIn.mono (h l (fun i W => J i none' W) Jx W hK (fun i W1 W2 h1 hf => hJ i none' none' W1 W2 h1 (hf.mono (fun k _ h => .inl h)) (fun k hk => hk.elim)) hJx (fun i x W1 hx h1 => ?_) h0) ?_
  · obtain ⟨fn, tmps, assign, body, hy, hR⟩ := hY i x none' W1 hx h1
    refine ⟨fn, tmps, assign, body, hy, hR.mono ?_⟩
    rintro e W2 (⟨rfl, h2, hk⟩ | h2)
    · exact .inl ⟨rfl, h2, hk.1, fun k hr => hk.2 k (.inl hr)⟩
    · exact .inr h2
  · rintro e W' ⟨hv, h1 | h1⟩
    · exact ⟨hv, .inl ⟨_, h1⟩⟩
    · exact ⟨hv, .inr h1⟩

variable {P : Program}

/-- Marks of ranges that have ended. -/
def mark' (D : Nat) : Deferred := { target := .collected D, args := #[] }
def Marks (B : Nat) (ds : List Deferred) (w : World) : Prop := ∃ Ds : List Nat, ds = Ds.map mark' ∧ Ds.Nodup ∧ ∀ D ∈ Ds, B ≤ D ∧ w.heap[D]? = some (.deferred (some []))
theorem Marks.nil (B : Nat) (w : World) : Marks B [] w := ⟨[], rfl, List.nodup_nil, fun _ h => by cases h⟩
theorem Marks.fr {B : Nat} {ds : List Deferred} {S : Nat → Prop} {w w' : World} (h : Marks B ds w) (hf : Fr S w w') (hS : ∀ k, S k → k < w.heap.size → k < B) : Marks B ds w' := by
  obtain ⟨Ds, h1, h2, h3⟩ := h
  refine ⟨Ds, h1, h2, fun D hD => ⟨(h3 D hD).1, ?_⟩⟩
  have hlt := (Array.getElem?_eq_some_iff.1 (h3 D hD).2).1
  exact (hf.block D hlt (fun hs => by have := hS D hs hlt; have := (h3 D hD).1; omega)).trans (h3 D hD).2
/-- One mark more. -/
theorem Marks.cons {B : Nat} {ds : List Deferred} {S : Nat → Prop} {w w' : World} {D : Nat} (h : Marks B ds w) (hf : Fr S w w') (hS : ∀ k, S k → k < w.heap.size → k < B) (hB : B ≤ D) (hD : w.heap.size ≤ D) (hd : w'.heap[D]? = some (.deferred (some []))) :
    Marks B ({ target := .collected D, args := #[] } :: ds) w' := by
  obtain ⟨Ds, h1, h2, h3⟩ := h.fr hf hS
  obtain ⟨Es, g1, g2, g3⟩ := h
  have hE : Es = Ds := by
    have hinj : ∀ {x y : Nat}, mark' x = mark' y → x = y := fun {x y} e => by
      have := congrArg Deferred.target e
      simp [mark'] at this; exact this
    rw [h1] at g1
    clear h1 h2 h3 g2 g3 hf hd
    induction Ds generalizing Es with
    | nil => cases Es with
      | nil => rfl
      | cons x r => simp at g1
    | cons y t ih => cases Es with
      | nil => simp at g1
      | cons x r =>
        simp only [List.map_cons, List.cons.injEq] at g1
        rw [ih r g1.2, hinj g1.1]
  refine ⟨D :: Ds, by rw [List.map_cons, ← h1]; rfl, List.nodup_cons.2 ⟨fun hm => ?_, h2⟩, fun E hE' => ?_⟩
  · have := (Array.getElem?_eq_some_iff.1 (g3 D (hE ▸ hm)).2).1
    omega
  · rcases List.mem_cons.1 hE' with rfl | hE'
    · exact ⟨hB, hd⟩
    · exact h3 E hE'
end Go.Proofs.YtieeloealklkgaaGreatDoor

/-
  A region that draws, walked by hand: the operations one by one, in an order of one's own where the order does not matter.
-/
namespace Go.Proofs.YtieeloealklkgaaGreatDoor
open Go.RowKit

section
variable {P : Program} {ops : Array Oper} {Q : Exit → Act → World → Prop} {md : Region.Mode} {S : World → Prop} {i : Nat} {oi : Oper} {fuel : Nat} {listed : Array Bool} {a : Act} {w : World}
theorem op_at (hi : ops.toList[i]? = some oi) : ops[i]? = some oi := by rw [← Array.getElem?_toList]; exact hi
/-- An operation of a region that draws is taken first: one that runs. -/
theorem take_on {v : Value} (hi : ops.toList[i]? = some oi)
    (hs : Region.noSelect ops = true) (hf : Region.free md ops listed i = true) (hr : (Region.ready md ops listed).contains i = true)
    (hQ : ∀ c a w, Q (.panic c) (a.put oi.dst v) w → Q (.panic c) a w) (hw : Region.wanted oi (yielded ops a.tmps) = true) (hy : ∀ w, S w → (execOp a.eval oi).run P w = .ok (.value v) w) (hS : S w)
    (h : wpAnyH P md ops Q S fuel (listed.setIfInBounds i true) (a.put oi.dst v) w) : wpAnyH P md ops Q S (fuel + 1) listed a w :=
  wpAnyH_take (op_at hi) hs hf hr hQ (.inl ⟨hw, hy⟩) hS h
/-- .. and one that its guard keeps off. -/
theorem take_off (hi : ops.toList[i]? = some oi)
    (hs : Region.noSelect ops = true) (hf : Region.free md ops listed i = true) (hr : (Region.ready md ops listed).contains i = true)
    (hQ : ∀ c a w, Q (.panic c) (a.put oi.dst undef) w → Q (.panic c) a w) (hw : Region.wanted oi (yielded ops a.tmps) = false) (hS : S w)
    (h : wpAnyH P md ops Q S fuel (listed.setIfInBounds i true) (a.put oi.dst undef) w) : wpAnyH P md ops Q S (fuel + 1) listed a w :=
  wpAnyH_take (op_at hi) hs hf hr hQ (.inr ⟨hw, rfl⟩) hS h
/-- .. and the only one that may come up. -/
theorem take_call (hi : ops.toList[i]? = some oi) (hr : Region.ready md ops listed = [i]) (hw : Region.wanted oi (yielded ops a.tmps) = true)
    (h : ∀ K' : Act → World → Prop, Shut (∀ a w, S w → (S w → wpAnyH P md ops Q S fuel (listed.setIfInBounds i true) a w) → K' a w) → Oper.wp P oi a w K' Q) : wpAnyH P md ops Q S (fuel + 1) listed a w :=
  wpAnyH_ready hr (by simp) (AllReadyH.cons (op_at hi) (fun K hK => by rw [if_pos hw]; exact h K hK) AllReadyH.nil)
end
end Go.Proofs.YtieeloealklkgaaGreatDoor

/-
  append at slices of one-cell elements: an own row, whatever source.
-/
namespace Go.Proofs.YtieeloealklkgaaGreatDoor
open Go.RowKit
variable {P : Program}

theorem run_append_nil (w : World) (base : Nat) (t ty e : TypeId) (i : TypeInfo) (ht : P.underlying t = some (.slice e)) (hi : P.info? e = some i)
    (v : Value) (n : Nat) (xs : List Value) (hown : w.ownsRow base e 1 v n xs) (c : Nat) :
    (Builtin.append_ #[t, t] ty #[v, .slice none 0 c]).run P w = .ok v w := by
  have hu := run_underlying (w := w) ht
  rcases hown.2 with ⟨rfl, rfl⟩ | ⟨g, cap, cur, rfl, hg, hh, h3, h4, _⟩
  · simp [Builtin.append_, Sem.run_bind, hu, Result.andThen, sizeOf, typeInfo, hi, Builtin.lenOf, Builtin.firstCells, Sem.run_pure]
  · simp [Builtin.append_, Sem.run_bind, hu, Result.andThen, sizeOf, typeInfo, hi, Builtin.lenOf, Builtin.firstCells, Sem.run_pure, h3, storeCells]

theorem run_append_src (w : World) (base : Nat) (t ty e : TypeId) (i : TypeInfo) (z : Value) (bytes : Nat) (ht : P.underlying t = some (.slice e)) (hi : P.info? e = some i) (hz : i.zero = some z)
    (hsize : i.size = 1) (hby : i.bytes = bytes) (hzs : z.cells.size = 1)
    (v : Value) (n : Nat) (xs : List Value) (hown : w.ownsRow base e 1 v n xs)
    (a : Option Addr) (m c : Nat) (news : List Value) (hl : news.length = m) (hnews : Cells w a news) (h1 : ∀ u ∈ news, u.oneCell' = true)
    (h63 : n + m ≤ maxLen) (hbytes : (n + m) * bytes ≤ 140737488355328) (hbase : base ≤ w.heap.size) :
    ∃ v' w', (Builtin.append_ #[t, t] ty #[v, .slice a m c]).run P w = .ok v' w' ∧ w'.ownsRow base e 1 v' (n + m) (xs ++ news) ∧ w.grownBy w' v.ownBlock := by
  cases a with
  | none =>
    have hm : news = [] := by
      cases news with
      | nil => rfl
      | cons x r => obtain ⟨b, off, h, _⟩ := hnews 0 x rfl; cases h
    subst hm
    simp at hl
    subst hl
    exact ⟨v, w, run_append_nil w base t ty e i ht hi v n xs hown c, by simpa using hown, ⟨rfl, rfl, rfl, Nat.le_refl _, fun _ _ _ => rfl⟩⟩
  | some ad =>
    obtain ⟨v', w', h, h2, h3, _⟩ := run_append_own (P := P) w base t ty e i z 1 bytes ht hi hz hsize hby hzs (by decide) v n xs hown ad m c news (by omega)
      (fun j u hj => by
        obtain ⟨b, off, hb, hc⟩ := hnews j u hj
        cases hb
        unfold Addr.add
        by_cases hj0 : j = 0
        · subst hj0; simpa using hc
        · rw [if_neg hj0]; exact hc) h1 h63 hbytes hbase
    exact ⟨v', w', h, h2, h3⟩

theorem wp_append_src {o : Oper} {w : World} {a : Act} {K : Act → World → Prop} {Q : Exit → Act → World → Prop} (s x : Operand) (t : TypeId)
    (ho : o.op = .call { callee := .builtin .append, args := #[s, x], argTypes := #[t, t] })
    (base : Nat) (e : TypeId) (i : TypeInfo) (z : Value) (bytes : Nat) (ht : P.underlying t = some (.slice e)) (hi : P.info? e = some i) (hz : i.zero = some z)
    (hsize : i.size = 1) (hby : i.bytes = bytes) (hzs : z.cells.size = 1)
    (v : Value) (n : Nat) (xs : List Value) (hs : a.eval s = v) (hown : w.ownsRow base e 1 v n xs)
    (ad : Option Addr) (m c : Nat) (news : List Value) (hx : a.eval x = .slice ad m c) (hl : news.length = m) (hnews : Cells w ad news) (h1 : ∀ u ∈ news, u.oneCell' = true)
    (h63 : n + m ≤ maxLen) (hbytes : (n + m) * bytes ≤ 140737488355328) (hbase : base ≤ w.heap.size)
    (h : ∀ v' w', w'.ownsRow base e 1 v' (n + m) (xs ++ news) → w.grownBy w' v.ownBlock → K (a.put o.dst v') w') : o.wp P a w K Q := by
  obtain ⟨v', w', hr, h2, h3⟩ := run_append_src (P := P) w base t o.type e i z bytes ht hi hz hsize hby hzs v n xs hown ad m c news hl hnews h1 h63 hbytes hbase
  unfold Oper.wp execOp
  simp only [ho, resolve, invoke, builtin, Sem.run_bind, Sem.run_pure, Result.andThen_ok, List.map_toArray, List.map_cons, List.map_nil, hs, hx, hr]
  exact h v' w' h2 h3

/-- The law at a plain list of operations. -/
theorem wpList_append_src {w : World} {ops : Array Oper} {rest : List Oper} {o : Oper} {a : Act} {Q : Exit → Act → World → Prop} (hgd : o.guard = none) (s x : Operand) (t : TypeId)
    (ho : o.op = .call { callee := .builtin .append, args := #[s, x], argTypes := #[t, t] })
    (base : Nat) (e : TypeId) (i : TypeInfo) (z : Value) (bytes : Nat) (ht : P.underlying t = some (.slice e)) (hi : P.info? e = some i) (hz : i.zero = some z)
    (hsize : i.size = 1) (hby : i.bytes = bytes) (hzs : z.cells.size = 1)
    (v : Value) (n : Nat) (xs : List Value) (hs : a.eval s = v) (hown : w.ownsRow base e 1 v n xs)
    (ad : Option Addr) (m c : Nat) (news : List Value) (hx : a.eval x = .slice ad m c) (hl : news.length = m) (hnews : Cells w ad news) (h1 : ∀ u ∈ news, u.oneCell' = true)
    (h63 : n + m ≤ maxLen) (hbytes : (n + m) * bytes ≤ 140737488355328) (hbase : base ≤ w.heap.size)
    (h : ∀ v' w', w'.ownsRow base e 1 v' (n + m) (xs ++ news) → w.grownBy w' v.ownBlock → wpList P ops Q rest (a.put o.dst v') w') : wpList P ops Q (o :: rest) a w :=
  wpList_plain hgd fun _ hK => wp_append_src s x t ho base e i z bytes ht hi hz hsize hby hzs v n xs hs hown ad m c news hx hl hnews h1 h63 hbytes hbase fun v' w' h2 h3 => hK _ _ (h v' w' h2 h3)

theorem Cells.alloc {w : World} {a : Option Addr} {xs : List Value} (h : Cells w a xs) (o : Obj) : Cells (w.alloc o) a xs := h.fr ((Fr.refl none' w).alloc o) (fun _ _ _ _ => id)
theorem Cells.below {w w' : World} {a : Option Addr} {xs : List Value} (h : Cells w a xs) (hb : Below w.heap.size w w') : Cells w' a xs := h.of_blocks (S := none') (fun k hk _ => hb.block k hk) (fun _ _ _ _ => id)
theorem Cells.at {w : World} {a : Option Addr} {xs : List Value} (h : Cells w a xs) {k : Nat} {x : Value} (hk : xs[k]? = some x) : ∃ b off, a = some ⟨b, off, none⟩ ∧ w.cell? ⟨b, off + k, none⟩ = some x := h k x hk
end Go.Proofs.YtieeloealklkgaaGreatDoor

/-
  A region that draws, within a round's body: from the walk outside of any fence.
-/
namespace Go.Proofs.YtieeloealklkgaaGreatDoor
open Go.RowKit

section
variable {P : Program} {ops : Array Oper} {Q : Exit → Act → World → Prop} {md : Region.Mode} {n l : Nat}

end
end Go.Proofs.YtieeloealklkgaaGreatDoor

/-
  append onto an own row of elements of any size, whatever the source; the count of draws does not fall.
-/
namespace Go.Proofs.YtieeloealklkgaaGreatDoor
open Go.RowKit
variable {P : Program}

theorem run_append_own_k (w : World) (base : Nat) (t tx ty e : TypeId) (i : TypeInfo) (z : Value) (size bytes : Nat) (ht : P.underlying t = some (.slice e)) (hi : P.info? e = some i) (hz : i.zero = some z)
    (hsize : i.size = size) (hby : i.bytes = bytes) (hzs : z.cells.size = size) (hsz : 0 < size)
    (v : Value) (n : Nat) (xs : List Value) (hown : w.ownsRow base e size v n xs)
    (x : Value) (m : Nat) (news : List Value) (hs : Src P size tx x m news w)
    (h63 : n + m ≤ maxLen) (hbytes : (n + m) * bytes ≤ 140737488355328) (hbase : base ≤ w.heap.size) :
    ∃ v' w', (Builtin.append_ #[t, tx] ty #[v, x]).run P w = .ok v' w' ∧ w'.ownsRow base e size v' (n + m) (xs ++ news) ∧ w.grownBy w' v.ownBlock ∧ w.drawn ≤ w'.drawn ∧ (v'.ownBlock = v.ownBlock ∨ v'.ownBlock = some w.heap.size) := by
  subst hsize
  subst hby
  have hl := hs.newsLen
  have hxl := hown.1
  have hlen : (xs ++ news).length = (n + m) * i.size := by rw [List.length_append, hxl, hl, Nat.add_mul]
  have grown : ∀ (old : Nat), old < n + m → ∀ (row : Option Nat),
      (w.drew.alloc (.cells ((xs ++ news).toArray ++ Builtin.zeroCells z.cells (grownCap w (n + m) old e - (n + m))) e)).ownsRow base e i.size
        (.slice (some ⟨w.heap.size, 0, none⟩) (n + m) (grownCap w (n + m) old e)) (n + m) (xs ++ news) ∧
      w.grownBy (w.drew.alloc (.cells ((xs ++ news).toArray ++ Builtin.zeroCells z.cells (grownCap w (n + m) old e - (n + m))) e)) row := by
    intro old ho row
    have hge := grownCap_ge w (n + m) old e
    have hcm : grownCap w (n + m) old e ≤ maxLen := grownCap_le_maxLen w (n + m) old e h63
    refine ⟨⟨hlen, .inr ⟨w.heap.size, _, _, rfl, hbase, heap_alloc_new w.drew _, hge, hcm, ?_, ?_⟩⟩, ⟨rfl, rfl, rfl, by simp, fun k hk _ => heap_alloc_old w.drew _ hk⟩⟩
    · simp only [Array.size_append, List.size_toArray, size_zeroCells, hzs, hlen, ← Nat.add_mul]
      congr 1
      omega
    · simp only [Array.toList_append]
      rw [← hlen]
      exact List.take_left
  rcases hown.2 with ⟨rfl, rfl⟩ | ⟨g, cap, cur, rfl, hbg, hg, hnc, hcm, hcs, htake⟩
  · have hx : xs = [] := List.eq_nil_of_length_eq_zero (by simpa using hxl)
    subst hx
    by_cases hm : m = 0
    · subst hm
      have hn : news = [] := List.eq_nil_of_length_eq_zero (by simpa using hl)
      subst hn
      refine ⟨.slice none 0 0, w, ?_, World.ownsRow_nil w base e i.size, ⟨rfl, rfl, rfl, Nat.le_refl _, fun _ _ _ => rfl⟩, Nat.le_refl _, .inl rfl⟩
      have hc := hs.cells
      rcases hs.kind with ⟨e', hk⟩ | hk <;> simp [Builtin.append_, run_underlying ht, run_underlying hk, sizeOf, typeInfo, hi, hs.len, hc]
    · have hr := run_append_grow_src w t tx ty e i z ht hi hz none 0 0 [] (by simp [Builtin.firstCells, Sem.run_pure]) x m news hs (by omega) (by simp only [maxLen] at h63; omega) (growslice_fits (by omega) hbytes)
      have hgr := grown 0 (by omega) (Value.ownBlock (.slice none 0 0))
      exact ⟨_, _, hr, hgr.1, hgr.2, Nat.le_succ _, .inr rfl⟩
  · by_cases hroom : n + m ≤ cap
    · have hfit : n * i.size + news.length ≤ cur.size := by rw [hl, hcs, ← Nat.add_mul]; exact Nat.mul_le_mul_right _ hroom
      have hst := run_storeCells_at P g (n * i.size) e news 0 cur w hg (by simpa using hfit) hs.one
      simp only [Nat.add_zero] at hst
      have hr : (Builtin.append_ #[t, tx] ty #[.slice (some ⟨g, 0, none⟩) n cap, x]).run P w =
          .ok (.slice (some ⟨g, 0, none⟩) (n + m) cap) (w.setRow g (cur.toList.take (n * i.size) ++ news ++ cur.toList.drop (n * i.size + news.length)).toArray) := by
        have hc := hs.cells
        rcases hs.kind with ⟨e', hk⟩ | hk <;> simp [Builtin.append_, run_underlying ht, run_underlying hk, sizeOf, typeInfo, hi, hs.len, hroom, hc, Addr.add_lit, hst]
      refine ⟨_, _, hr, ⟨hlen, .inr ⟨g, cap, _, rfl, hbg, setRow_heap w g cur _ e _ hg, hroom, hcm, ?_, ?_⟩⟩, ⟨rfl, rfl, rfl, by simp, fun k _ hk => setRow_other w g k _ (fun e => hk (by simp [Value.ownBlock, e]))⟩, Nat.le_refl _, .inl rfl⟩
      · simp only [List.size_toArray, List.length_append, List.length_take, List.length_drop, Array.length_toList]
        omega
      · rw [htake, ← hlen]
        exact List.take_left
    · have holds : ∀ j u, xs[j]? = some u → w.drew.cell? ((⟨g, 0, none⟩ : Addr).add j) = some u := fun j u hj => by simpa using hown.cells (g := g) rfl j u hj
      have hr := run_append_grow_src w t tx ty e i z ht hi hz (some ⟨g, 0, none⟩) n cap xs (run_firstCells_some w.drew i.size n ⟨g, 0, none⟩ n cap xs hxl holds) x m news hs (by omega) (by simp only [maxLen] at h63; omega) (growslice_fits (by omega) hbytes)
      have hgr := grown cap (by omega) (Value.ownBlock (.slice (some ⟨g, 0, none⟩) n cap))
      exact ⟨_, _, hr, hgr.1, hgr.2, Nat.le_succ _, .inr rfl⟩

theorem wpList_append_k {w : World} {ops : Array Oper} {rest : List Oper} {o : Oper} {a : Act} {Q : Exit → Act → World → Prop} (hgd : o.guard = none) (s x : Operand) (t tx : TypeId)
    (ho : o.op = .call { callee := .builtin .append, args := #[s, x], argTypes := #[t, tx] })
    (base : Nat) (e : TypeId) (i : TypeInfo) (z : Value) (size bytes : Nat) (ht : P.underlying t = some (.slice e)) (hi : P.info? e = some i) (hz : i.zero = some z)
    (hsize : i.size = size) (hby : i.bytes = bytes) (hzs : z.cells.size = size) (hsz : 0 < size)
    (v : Value) (n : Nat) (xs : List Value) (hs : a.eval s = v) (hown : w.ownsRow base e size v n xs)
    (xv : Value) (m : Nat) (news : List Value) (hx : a.eval x = xv) (hsrc : Src P size tx xv m news w)
    (h63 : n + m ≤ maxLen) (hbytes : (n + m) * bytes ≤ 140737488355328) (hbase : base ≤ w.heap.size)
    (h : ∀ v' w', w'.ownsRow base e size v' (n + m) (xs ++ news) → w.grownBy w' v.ownBlock → w.drawn ≤ w'.drawn → (v'.ownBlock = v.ownBlock ∨ v'.ownBlock = some w.heap.size) → wpList P ops Q rest (a.put o.dst v') w') : wpList P ops Q (o :: rest) a w :=
  wpList_plain hgd fun _ hK => by
    obtain ⟨v', w', hr, h2, h3, h4, h5⟩ := run_append_own_k (P := P) w base t tx o.type e i z size bytes ht hi hz hsize hby hzs hsz v n xs hown xv m news hsrc h63 hbytes hbase
    unfold Oper.wp execOp
    simp only [ho, resolve, invoke, builtin, Sem.run_bind, Sem.run_pure, Result.andThen_ok, List.map_toArray, List.map_cons, List.map_nil, hs, hx, hr]
    exact hK _ _ (h v' w' h2 h3 h4 h5)

theorem wpListIn_append_k {F : Fence} {fn : Nat} {w : World} {ops : Array Oper} {rest : List Oper} {o : Oper} {a : Act} {Q : Exit → Act → World → Prop} (hgd : o.guard = none) (s x : Operand) (t tx : TypeId)
    (ho : o.op = .call { callee := .builtin .append, args := #[s, x], argTypes := #[t, tx] })
    (base : Nat) (e : TypeId) (i : TypeInfo) (z : Value) (size bytes : Nat) (ht : P.underlying t = some (.slice e)) (hi : P.info? e = some i) (hz : i.zero = some z)
    (hsize : i.size = size) (hby : i.bytes = bytes) (hzs : z.cells.size = size) (hsz : 0 < size)
    (v : Value) (n : Nat) (xs : List Value) (hs : a.eval s = v) (hown : w.ownsRow base e size v n xs)
    (xv : Value) (m : Nat) (news : List Value) (hx : a.eval x = xv) (hsrc : Src P size tx xv m news w)
    (h63 : n + m ≤ maxLen) (hbytes : (n + m) * bytes ≤ 140737488355328) (hbase : base ≤ w.heap.size)
    (h : ∀ v' w', w'.ownsRow base e size v' (n + m) (xs ++ news) → w.grownBy w' v.ownBlock → w.drawn ≤ w'.drawn → (v'.ownBlock = v.ownBlock ∨ v'.ownBlock = some w.heap.size) → wpListIn F fn P ops Q rest (a.put o.dst v') w') : wpListIn F fn P ops Q (o :: rest) a w := by
  refine wpListIn_plain hgd fun K hK' => ?_
  obtain ⟨v', w', hr, h2, h3, h4, h5⟩ := run_append_own_k (P := P) w base t tx o.type e i z size bytes ht hi hz hsize hby hzs hsz v n xs hown xv m news hsrc h63 hbytes hbase
  unfold Oper.wpIn
  refine ⟨?_, ?_⟩
  · simp [Oper.about, ho, resolve, Target.leads, Sem.run_pure]
  · rw [Oper.semAt_plain F _ _ (by rw [ho]; intro c hc'; cases hc')]
    simp [execOp, ho, resolve, invoke, builtin, hs, hx, hr, Result.andThen]
    exact hK' _ _ (h v' w' h2 h3 h4 h5)

/-- A row of cells that has just been made, as the source. -/
theorem Src.newRow {size : Nat} {tx e' ty : TypeId} (w : World) (hk : P.underlying tx = some (.slice e')) (n c : Nat) (news : List Value) (hl : news.length = n * size) (h1 : ∀ u ∈ news, u.oneCell' = true) :
    Src P size tx (.slice (some ⟨w.heap.size, 0, none⟩) n c) n news (w.alloc (.cells news.toArray ty)) :=
  Src.ofSlice _ hk _ n c news hl (fun j u hj => by
    have h := World.alloc_heap_new w (.cells news.toArray ty)
    unfold Addr.add
    by_cases hj0 : j = 0
    · subst hj0; simp only [World.cell?, if_true, h]; simpa using hj
    · rw [if_neg hj0]; simp only [World.cell?, h]; simpa using hj) h1
theorem ownsRow_k_mono {w : World} {base base' : Nat} {e : TypeId} {size : Nat} {v : Value} {n : Nat} {xs : List Value} (h : w.ownsRow base e size v n xs) (hb : base' ≤ base) : w.ownsRow base' e size v n xs := by
  obtain ⟨h1, h2⟩ := h
  refine ⟨h1, ?_⟩
  rcases h2 with h2 | ⟨g, cap, cur, hv, hg, hh, r⟩
  · exact Or.inl h2
  · exact Or.inr ⟨g, cap, cur, hv, Nat.le_trans hb hg, hh, r⟩
theorem ownsRow_k_succ {w : World} {base : Nat} {e : TypeId} {size : Nat} {v : Value} {n : Nat} {xs : List Value} (h : w.ownsRow base e size v (n + 1) xs) : ∃ g cap, v = .slice (some ⟨g, 0, none⟩) (n + 1) cap := by
  rcases h.2 with ⟨_, h⟩ | ⟨g, cap, cur, h, _⟩
  · omega
  · exact ⟨g, cap, h⟩
end Go.Proofs.YtieeloealklkgaaGreatDoor

/-
  The statements' helpers on lists of strings: CopyTexts, SameTexts, few.
-/
namespace Go.Proofs.YtieeloealklkgaaGreatDoor
open Go.RowKit

set_option maxRecDepth 100000 in
set_option maxHeartbeats 2000000 in
theorem CopyTexts_any (a : Option Addr) (n cap : Nat) (xs : List Bs) (w : World) (hn : xs.length = n) (hm : n ≤ 1000000) (hc : Cells w a (xs.map strV)) :
    Calls Tryz.prog 50 #[.slice a n cap] w fun e w' => ∃ v, e = .returned v ∧ w'.ownsRow w.heap.size 9 1 v n (xs.map strV) ∧ Below w.heap.size w w' := by
  obtain ⟨i0, hi, hz0, hz1, hz2⟩ := info_parts info_str
  have Hn := Lib.hid hn
  have Hc := Lib.hid hc
  clear hn hc
  go_enter Tryz.func50, Tryz.ntmps50
  go_wp2_with (at_builtin; refine wpList_append_src rfl _ _ 36 rfl w.heap.size 9 i0 (.string ⟨#[]⟩) 16 Tryz.underlying36 hi hz0 hz1 hz2 rfl (.slice none 0 0) 0 [] rfl (World.ownsRow_nil _ _ _ _) a n cap (xs.map strV) rfl (by rw [List.length_map]; exact Hn.out) Hc.out (by intro u hu; obtain ⟨x, _, rfl⟩ := List.mem_map.1 hu; rfl) (by unfold maxLen; omega) (by omega) (Nat.le_refl _) ?_; intro v' w1 hown' hgrow; simp only [Nat.zero_add, List.nil_append] at hown')
  go_ret
  exact ⟨_, rfl, hown', (Below.refl _ _).grown hgrow (Nat.le_refl _) (fun k hk => by cases hk)⟩

set_option maxRecDepth 100000 in
set_option maxHeartbeats 2000000 in
theorem SameTexts_any (a a' : Option Addr) (n n' cap cap' : Nat) (xs ys : List Bs) (w : World) (hn : xs.length = n) (hn' : ys.length = n') (hm : n ≤ 1000000) (hm' : n' ≤ 1000000)
    (hc : Cells w a (xs.map strV)) (hc' : Cells w a' (ys.map strV)) :
    Calls Tryz.prog 46 #[.slice a n cap, .slice a' n' cap'] w fun e w' => e = .returned (.bool (decide (xs = ys))) ∧ Below w.heap.size w w' := by
  obtain ⟨R, hR⟩ : ∃ R, decide (xs = ys) = R := ⟨_, rfl⟩
  rw [hR]
  have HR := Lib.hid hR
  have Hn := Lib.hid hn
  have Hn' := Lib.hid hn'
  have Hc := Lib.hid hc
  have Hc' := Lib.hid hc'
  clear hR hn hn' hc hc'
  by_cases hnn : n = n'
  · subst hnn
    have d0 : ((n : Int) != (n : Int)) = false := by simp
    go_enter Tryz.func46, Tryz.ntmps46
    go_wp2
    clear d0
    go_loopw [5] (fun i wr => ∃ k : Nat, k ≤ n ∧ i = .int .i64 k ∧ Hid (xs.take k = ys.take k) ∧ Below w.heap.size w wr) (fun i _ => n - (intOf i).toNat)
    case atStart => exact ⟨0, Nat.zero_le _, rfl, rfl, Below.refl _ _⟩
    case round =>
      obtain ⟨k, hk, rfl, hpre, hb⟩ := hrel
      by_cases hlt : k < n
      · have h1 : k < xs.length := by rw [Hn.out]; exact hlt
        have h2 : k < ys.length := by rw [Hn'.out]; exact hlt
        obtain ⟨x, hx⟩ : ∃ x, xs[k]? = some x := ⟨_, List.getElem?_eq_getElem h1⟩
        obtain ⟨y, hy⟩ : ∃ y, ys[k]? = some y := ⟨_, List.getElem?_eq_getElem h2⟩
        obtain ⟨b, off, rfl, hcx⟩ := (Hc.out.below hb).at (k := k) (x := strV x) (by simp [hx])
        obtain ⟨b', off', rfl, hcy⟩ := (Hc'.out.below hb).at (k := k) (x := strV y) (by simp [hy])
        rw [strV] at hcx hcy
        have hx' := Lib.hid hx
        have hy' := Lib.hid hy
        clear hx hy h1 h2
        have c1 : (0 : Int) ≤ (k : Int) := by omega
        have c2 : (k : Int) < (n : Int) := by omega
        by_cases hxy : x = y
        · subst hxy
          have d1 : ((bs x).toList == (bs x).toList) = true := by simp
          go_wp2
          go_quiet (fail)
          go_wp2
          refine ⟨⟨k + 1, by omega, by go_num, by unfold Hid; rw [List.take_add_one, List.take_add_one, hpre.out, hx'.out, hy'.out], by first | exact hb | exact ⟨hb.os, hb.tape, hb.output, hb.size, hb.block⟩⟩, ?_⟩
          simp [intOf]; omega
        · have d1 : ((bs x).toList == (bs y).toList) = false := by
            rw [toList_eq, toList_eq, toList_bs, toList_bs]; simpa using hxy
          have hres : Hid (false = R) := by
            unfold Hid; rw [← HR.out]
            refine (decide_eq_false (fun h => hxy ?_)).symm
            have := hx'.out; rw [h, hy'.out] at this; exact (Option.some.inj this).symm
          clear hxy
          go_wp2
          go_quiet (fail)
          go_wp2
          go_ret
          exact ⟨ret_bool hres.out, by first | exact hb | exact ⟨hb.os, hb.tape, hb.output, hb.size, hb.block⟩⟩
      · have hres : Hid (true = R) := by
          unfold Hid; rw [← HR.out]
          refine (decide_eq_true ?_).symm
          have := hpre.out
          rwa [List.take_of_length_le (by rw [Hn.out]; omega), List.take_of_length_le (by rw [Hn'.out]; omega)] at this
        go_wp2
        go_ret
        exact ⟨ret_bool hres.out, hb⟩
  · have hres : Hid (false = R) := by
      unfold Hid; rw [← HR.out]
      refine (decide_eq_false (fun h => hnn ?_)).symm
      rw [← Hn.out, ← Hn'.out, h]
    have d0 : ((n : Int) != (n' : Int)) = true := by simp; omega
    clear hnn
    go_enter Tryz.func46, Tryz.ntmps46
    go_wp2
    go_ret
    exact ⟨ret_bool hres.out, Below.refl _ _⟩

set_option maxRecDepth 100000 in
set_option maxHeartbeats 2000000 in
theorem few_any (a : Option Addr) (n cap : Nat) (xs : List ByteArray) (w : World) (hn : xs.length = n) (hm : n ≤ maxLen) (hs : ∀ x ∈ xs, x.size ≤ maxLen) (hc : Cells w a (xs.map Value.string)) :
    Calls Tryz.prog 47 #[.slice a n cap] w fun e w' => e = .returned (.bool (decide (xs.length ≤ 300) && xs.all fun x => decide (x.size ≤ 200))) ∧ w = w' := by
  unfold maxLen at hm
  obtain ⟨R, hR⟩ : ∃ R, (decide (xs.length ≤ 300) && xs.all fun x => decide (x.size ≤ 200)) = R := ⟨_, rfl⟩
  rw [hR]
  have HR := Lib.hid hR
  have Hn := Lib.hid hn
  have Hc := Lib.hid hc
  have Hs := Lib.hid hs
  clear hR hn hc hs
  go_enter Tryz.func47, Tryz.ntmps47
  go_wp2
  go_loop [7] (fun i => ∃ k : Nat, k ≤ n ∧ i = .int .i64 k ∧ Hid ((xs.take k).all (fun x => decide (x.size ≤ 200)) = true)) (fun i => n - (intOf i).toNat)
  case atStart => exact ⟨0, Nat.zero_le _, rfl, rfl⟩
  case round =>
    obtain ⟨k, hk, rfl, hpre⟩ := hrel
    by_cases hlt : k < n
    · have h1 : k < xs.length := by rw [Hn.out]; exact hlt
      obtain ⟨x, hx⟩ : ∃ x, xs[k]? = some x := ⟨_, List.getElem?_eq_getElem h1⟩
      obtain ⟨b, off, rfl, hcx⟩ := Hc.out.at (k := k) (x := .string x) (by simp [hx])
      have hxs : x.size ≤ maxLen := Hs.out x (List.mem_of_getElem? hx)
      unfold maxLen at hxs
      have hx' := Lib.hid hx
      clear hx h1
      by_cases h200 : x.size ≤ 200
      · go_wp2
        go_round
        case rel => exact ⟨k + 1, by omega, by go_num, by unfold Hid; rw [List.take_add_one, hx'.out]; simp [hpre.out, h200]⟩
        case measure => simp [intOf]; omega
      · have hres : Hid (false = R) := by
          unfold Hid; rw [← HR.out]
          have : (xs.all fun x => decide (x.size ≤ 200)) = false := by
            rw [Bool.eq_false_iff]; intro h
            have := List.all_eq_true.1 h x (List.mem_of_getElem? hx'.out)
            simp at this; omega
          rw [this]; simp
        go_wp2
        go_ret
        exact ⟨ret_bool hres.out, rfl⟩
    · have hres : Hid (decide ((n : Int) ≤ 300) = R) := by
        unfold Hid; rw [← HR.out]
        have := hpre.out
        rw [List.take_of_length_le (by rw [Hn.out]; omega)] at this
        rw [this, Hn.out, Bool.and_true]
        exact decide_eq_decide.2 (by omega)
      go_wp2
      go_ret
      exact ⟨ret_bool hres.out, rfl⟩
end Go.Proofs.YtieeloealklkgaaGreatDoor

/-
  name.Parts, Compare, Under.
-/
namespace Go.Proofs.YtieeloealklkgaaGreatDoor
open Go.RowKit
attribute [local go_sem] Oper.semAt_some wide_fn wide_depth wide_fnR wide_depthR

theorem rightB_len {l : Bs} (h : rightB l = true) : l.length ≤ 32 := by
  unfold rightB at h
  simp at h
  exact h.1.1

set_option maxRecDepth 100000 in
set_option maxHeartbeats 2000000 in
theorem Compare_any (s t : ByteArray) (w : World) (hs : s.size ≤ 100000) (ht : t.size ≤ 100000) :
    Calls Tryz.prog 53 #[.string s, .string t] w fun e w' =>
      e = .returned (if rightB s.data.toList && rightB t.data.toList then .tuple #[.int .i64 (ordN s.data.toList t.data.toList), .int .i64 0] else .tuple #[.int .i64 0, .int .i64 40]) ∧ Below w.heap.size w w' := by
  have R1 := Right_any s
  have R2 := Right_any t
  obtain ⟨r1, h1⟩ : ∃ r, rightB s.data.toList = r := ⟨_, rfl⟩
  obtain ⟨r2, h2⟩ : ∃ r, rightB t.data.toList = r := ⟨_, rfl⟩
  rw [h1] at R1 ⊢
  rw [h2] at R2 ⊢
  have H1 := Lib.hid R1
  have H2 := Lib.hid R2
  have HO := Lib.hid (order_any s t)
  clear R1 R2 h1 h2
  have b1 : s.size ≤ maxLen := by unfold maxLen; omega
  have b2 : t.size ≤ maxLen := by unfold maxLen; omega
  cases r1 with
  | false =>
    go_enter Tryz.func53, Tryz.ntmps53
    go_wp2_with fail
    refine (H1.out w b1).mono ?_
    rintro e w' ⟨rfl, rfl⟩
    go_wp2
    go_ret2
    exact ⟨rfl, Below.refl _ _⟩
  | true =>
    cases r2 with
    | false =>
      go_enter Tryz.func53, Tryz.ntmps53
      go_wp2_with fail
      refine (H1.out w b1).mono ?_
      rintro e w' ⟨rfl, rfl⟩
      go_wp2_with fail
      refine (H2.out w b2).mono ?_
      rintro e w' ⟨rfl, rfl⟩
      go_wp2
      go_ret2
      exact ⟨rfl, Below.refl _ _⟩
    | true =>
      go_enter Tryz.func53, Tryz.ntmps53
      go_wp2_with fail
      refine (H1.out w b1).mono ?_
      rintro e w' ⟨rfl, rfl⟩
      go_wp2_with fail
      refine (H2.out w b2).mono ?_
      rintro e w' ⟨rfl, rfl⟩
      go_wp2_with fail
      refine (HO.out w hs ht).mono ?_
      rintro e w' ⟨rfl, hb⟩
      go_wp2
      go_ret2
      exact ⟨rfl, hb⟩

/-- Whether a name is under another one. -/
def underB (s t : Bs) : Bool := rightB s && rightB t && (decide (s = t) || Lib.hasPrefix s (t ++ [46]))

set_option maxRecDepth 100000 in
set_option maxHeartbeats 2000000 in
theorem Under_any (s t : ByteArray) (w : World) (hs : s.size ≤ 100000) (ht : t.size ≤ 100000) :
    Calls Tryz.prog 56 #[.string s, .string t] w fun e w' => e = .returned (.bool (underB s.data.toList t.data.toList)) ∧ Below w.heap.size w w' := by
  have R1 := Right_any s
  have R2 := Right_any t
  have HP := Tryz.strings_HasPrefix s (t ++ { data := #[46] })
  have hpp : (t ++ { data := #[46] } : ByteArray).data.toList = t.data.toList ++ [46] := by simp
  rw [hpp] at HP
  unfold underB
  obtain ⟨r1, h1⟩ : ∃ r, rightB s.data.toList = r := ⟨_, rfl⟩
  obtain ⟨r2, h2⟩ : ∃ r, rightB t.data.toList = r := ⟨_, rfl⟩
  obtain ⟨r3, h3⟩ : ∃ r, Lib.hasPrefix s.data.toList (t.data.toList ++ [46]) = r := ⟨_, rfl⟩
  have d0 : (s.toList == t.toList) = decide (s.data.toList = t.data.toList) := by rw [toList_eq, toList_eq, Bool.eq_iff_iff]; simp
  obtain ⟨r4, h4⟩ : ∃ r, decide (s.data.toList = t.data.toList) = r := ⟨_, rfl⟩
  rw [h1] at R1 ⊢
  rw [h2] at R2 ⊢
  rw [h3] at HP ⊢
  rw [h4] at d0 ⊢
  have H1 := Lib.hid R1
  have H2 := Lib.hid R2
  have H3 := Lib.hid HP
  clear R1 R2 HP h1 h2 h3 h4 hpp
  have b1 : s.size ≤ maxLen := by unfold maxLen; omega
  have b2 : t.size ≤ maxLen := by unfold maxLen; omega
  cases r1 with
  | false =>
    go_enter Tryz.func56, Tryz.ntmps56
    go_wp2_with fail
    refine (H1.out w b1).mono ?_
    rintro e w' ⟨rfl, rfl⟩
    go_wp2
    go_ret
    exact ⟨rfl, Below.refl _ _⟩
  | true =>
    cases r2 with
    | false =>
      go_enter Tryz.func56, Tryz.ntmps56
      go_wp2_with fail
      refine (H1.out w b1).mono ?_
      rintro e w' ⟨rfl, rfl⟩
      go_wp2_with fail
      refine (H2.out w b2).mono ?_
      rintro e w' ⟨rfl, rfl⟩
      go_wp2
      go_ret
      exact ⟨rfl, Below.refl _ _⟩
    | true =>
      cases r4 with
      | true =>
        go_enter Tryz.func56, Tryz.ntmps56
        go_wp2_with fail
        refine (H1.out w b1).mono ?_
        rintro e w' ⟨rfl, rfl⟩
        go_wp2_with fail
        refine (H2.out w b2).mono ?_
        rintro e w' ⟨rfl, rfl⟩
        go_wp2
        go_ret
        exact ⟨rfl, Below.refl _ _⟩
      | false =>
        go_enter Tryz.func56, Tryz.ntmps56
        go_wp2_with fail
        refine (H1.out w b1).mono ?_
        rintro e w' ⟨rfl, rfl⟩
        go_wp2_with fail
        refine (H2.out w b2).mono ?_
        rintro e w' ⟨rfl, rfl⟩
        go_wp2_with fail
        refine (H3.out w).mono ?_
        rintro e w' ⟨rfl, rfl⟩
        go_wp2
        go_ret
        exact ⟨rfl, Below.refl _ _⟩
end Go.Proofs.YtieeloealklkgaaGreatDoor

/-
  A world that has grown.
-/
namespace Go.Proofs.YtieeloealklkgaaGreatDoor
open Go.RowKit Go.Sort

end Go.Proofs.YtieeloealklkgaaGreatDoor

/-
  slices.SortFunc(.., order) at names.
-/
namespace Go.Proofs.YtieeloealklkgaaGreatDoor
open Go.RowKit Go.Sort

abbrev Sm := { l : Bs // l.length ≤ 32 }
instance : Inhabited Sm := ⟨⟨[], by simp⟩⟩
end Go.Proofs.YtieeloealklkgaaGreatDoor

/-
  name.Parts.
-/
namespace Go.Proofs.YtieeloealklkgaaGreatDoor
open Go.RowKit
attribute [local go_sem] Oper.semAt_some wide_fn wide_depth wide_fnR wide_depthR

set_option maxRecDepth 100000 in
set_option maxHeartbeats 2000000 in
theorem Parts_yes (s : ByteArray) (w : World) (hs : s.size ≤ 100000) (hr : rightB s.data.toList = true) :
    Calls Tryz.prog 48 #[.string s] w fun e w' =>
      ∃ v, e = .returned (.tuple #[v, .int .i64 0]) ∧ w'.ownsRow w.heap.size 9 1 v (cut s.data.toList).length ((cut s.data.toList).map strV) ∧ Below w.heap.size w w' := by
  obtain ⟨i0, hi, hz0, hz1, hz2⟩ := info_parts info_str
  have b1 : s.size ≤ maxLen := by unfold maxLen; omega
  have hl := cut_length s.data.toList
  have hss : s.data.toList.length = s.size := by simp
  have R1 := Right_any s w b1
  rw [hr] at R1
  have H1 := Lib.hid R1
  have HB : Box ((w.alloc (.cells #[.slice none 0 0] 36)).alloc (.cells #[.string s] 9)) (w.heap.size + 1) (.string s) := by
    have := Box.new (w.alloc (.cells #[.slice none 0 0] 36)) (.string s) 9
    simpa using this
  have hit := parts_iter s (w.heap.size + 1) _ b1 HB
  obtain ⟨xs, hxs⟩ : ∃ xs, cut s.data.toList = xs := ⟨_, rfl⟩
  rw [hxs] at hit hl ⊢
  have Hl : xs.length ≤ 200000 := by omega
  have Hit := Lib.hid hit
  clear R1 hit hl hxs hss HB
  refine callsIn_wide.1 (callsIn_of_wp_marks (n := 0) Tryz.func48 rfl trivial ?_ rfl)
  simp only [Tryz.ntmps48, List.size_toArray, List.length_cons, List.length_nil, Nat.reduceAdd, Nat.reduceSub, Array.replicate_succ, Array.replicate_zero, List.push_toArray, List.append_toArray, List.nil_append, List.cons_append]
  gi_wp2_with fail
  refine (callsIn_wide.2 H1.out).mono ?_
  rintro e w' ⟨rfl, rfl⟩
  gi_wp2_with fail
  refine (callsIn_wide.2 (parts_any s _)).mono ?_
  rintro e w' ⟨rfl, rfl⟩
  gi_wp2_with fail
  refine wpIn_iter rfl (by intro args w; rfl) Hit.out (Keep.refl _ _) (fun _ => rfl) (fun k hk => by subst hk; simp) (fun k hk => by subst hk; simp)
    (fun i W => ∃ v, Box W w.heap.size v ∧ W.ownsRow (w.heap.size + 4) 9 1 v i ((xs.take i).map strV) ∧ Fr none' w W)
    (fun _ _ => False) ?hI (fun _ _ _ h _ => h.elim) ?h0
    (fun x _ a' => a' = { tmps := #[.string s, undef, .slice none 0 0, .int .i64 0, .pointer (some ⟨w.heap.size, 0, none⟩), .string (bs x), .string s, .bool true, .bool false, .string s, .func (.func 120) #[] #[.pointer (some ⟨w.heap.size + 1, 0, none⟩)], .string (bs x), undef, undef, undef, undef, undef], defers := [] })
    ?assign (fun _ _ _ _ h _ => h) ?body ?done (fun _ _ _ _ h _ => h.elim)
  case hI =>
    rintro i W1 W2 ⟨v, hb, hrow, hfr⟩ hf
    simp only [World.size_alloc] at hf
    refine ⟨v, hb.fr hf (fun h => by omega), ownsRow_fr hrow hf (fun g hg h => ?_), hfr.trans' hf (fun k hk h => by omega)⟩
    have hlt := (hrow.lt g hg).1
    omega
  case h0 =>
    exact ⟨_, (Box.new w _ _).alloc _, World.ownsRow_nil _ _ _ _, ((Fr.refl _ _).alloc _).alloc _⟩
  case assign =>
    intro l x W K hlt hK
    gi_wp2
    exact hK _ _ (by simp) (Fr.refl _ _)
  case body =>
    rintro l i x W a' r hxi ⟨v, hb, hrow, hfr⟩ rfl hD hL
    have hlt : i < xs.length := (List.getElem?_eq_some_iff.1 hxi).1
    have hsz : w.heap.size + 3 < W.heap.size := by have := (Array.getElem?_eq_some_iff.1 hL).1; simpa using this
    have hc := hb.cell
    have hf := hb.frozen
    have Hxi := Lib.hid hxi
    clear hxi hD hL
    gi_wp2_with (gi_at_builtin; refine wpListIn_append_dr rfl _ _ 36 36 rfl (w.heap.size + 4) 9 i0 (.string ⟨#[]⟩) 16 Tryz.underlying36 hi hz0 hz1 hz2 rfl v i _ rfl (hrow.alloc _) (.slice (some ⟨W.heap.size, 0, none⟩) 1 1) 1 [strV x] rfl (Src.ofSlice _ Tryz.underlying36 _ 1 1 _ rfl (cell_one_new _ _ _) (by simp [Value.oneCell', strV])) (by unfold maxLen; omega) (by omega) (by simp; omega) ?_; intro v' w1 hown' hgrow hdr; obtain ⟨g', cap', rfl⟩ := ownsRow_succ hown'; have hfg := ((Fr.refl (from' (w.heap.size + 4)) W).alloc _).grown hgrow hdr (fun k hk _ => (hrow.lt k hk).1); have hb1 := hb.fr hfg (by unfold from'; omega); have hc1 := hb1.cell; have hf1 := hb1.frozen)
    have hb2 := hb1.set (.slice (some ⟨g', 0, none⟩) (i + 1) cap')
    have hf2 := (hfg.mono (S' := fun k => k = w.heap.size ∨ w.heap.size + 4 ≤ k) (fun k _ h => .inr h)).setCell (b := w.heap.size) (o := 0) (fun _ => .inl rfl) (.slice (some ⟨g', 0, none⟩) (i + 1) cap')
    refine ⟨_, hf2, ?_, ⟨_, hb2, ?_, ?_⟩⟩
    · intro k h1 h2
      simp only [World.size_alloc] at h2
      omega
    · have h3 := ownsRow_setCell_below hown' (a := ⟨w.heap.size, 0, none⟩) (by simp) (.slice (some ⟨g', 0, none⟩) (i + 1) cap')
      rw [show List.map strV (List.take (i + 1) xs) = List.map strV (List.take i xs) ++ [strV x] from by
        rw [List.take_add_one, Hxi.out]; simp]
      exact h3
    · exact hfr.trans' hf2 (fun k hk h => by omega)
  case done =>
    rintro D W hDe ⟨v, hb, hrow, hfr⟩ hK
    obtain rfl : D = w.heap.size + 2 := by simpa using hDe
    have hc := hb.cell
    rw [List.take_of_length_le (Nat.le_refl _)] at hrow
    have hD : w.heap.size + 2 < W.heap.size := (Array.getElem?_eq_some_iff.1 hK).1
    have hfe : Fr none' w (W.putObj (w.heap.size + 2) (.deferred none)) := hfr.putObj (fun h => by omega) _
    have hrow' : (W.putObj (w.heap.size + 2) (.deferred none)).ownsRow w.heap.size 9 1 v xs.length (xs.map strV) := by
      refine ownsRow_fr (ownsRow_mono hrow (by omega)) (Fr.putNew (S := fun k => k = w.heap.size + 2) _ _ rfl) (fun g hg h => ?_)
      have := (hrow.lt g hg).1; omega
    have hK' := hK
    have hfv : ∃ a n c, v = .slice a n c := by
      rcases hrow.2 with ⟨rfl, _⟩ | ⟨g, cap, cur, rfl, _⟩
      · exact ⟨_, _, _, rfl⟩
      · exact ⟨_, _, _, rfl⟩
    clear hrow hb hfr hK
    obtain ⟨sa, sn, sc, rfl⟩ := hfv
    gi_wp2
    refine ⟨by simp, .inl ⟨_, _, rfl, run_takeDeferred hK', ?_⟩⟩
    refine ⟨_, results_tmp2 rfl _ _ _, _, rfl, hrow', hfe.below (Nat.le_refl _) (fun _ _ => id)⟩

set_option maxRecDepth 100000 in
set_option maxHeartbeats 2000000 in
theorem Parts_no (s : ByteArray) (w : World) (hs : s.size ≤ 100000) (hr : rightB s.data.toList = false) :
    Calls Tryz.prog 48 #[.string s] w fun e w' => e = .returned (.tuple #[.slice none 0 0, .int .i64 40]) ∧ w = w' := by
  have b1 : s.size ≤ maxLen := by unfold maxLen; omega
  have R1 := Right_any s w b1
  rw [hr] at R1
  have H1 := Lib.hid R1
  clear R1
  go_enter Tryz.func48, Tryz.ntmps48
  go_wp2_with fail
  refine H1.out.mono ?_
  rintro e w' ⟨rfl, rfl⟩
  go_wp2
  go_ret2
  exact ⟨rfl, rfl⟩
end Go.Proofs.YtieeloealklkgaaGreatDoor

/-
  name.Join.
-/
namespace Go.Proofs.YtieeloealklkgaaGreatDoor
open Go.RowKit

def sumMin : List Bs → Nat
  | [] => 0
  | p :: r => min p.length 32 + sumMin r
theorem sumMin_append (a b : List Bs) : sumMin (a ++ b) = sumMin a + sumMin b := by
  induction a with
  | nil => simp [sumMin]
  | cons p r ih => simp [sumMin, ih]; omega
theorem sumMin_take (xs : List Bs) (k : Nat) : sumMin (xs.take k) ≤ sumMin xs := by
  have := sumMin_append (xs.take k) (xs.drop k)
  rw [List.take_append_drop] at this; omega
def dotFree (p : Bs) : Bool := decide (Lib.indexByte p 46 < 0)
def joinB (xs : List Bs) : Bs := Lib.join xs [46]
def joinOk (xs : List Bs) : Bool := xs.all dotFree && decide (xs.length + sumMin xs ≤ 64) && rightB (joinB xs)

theorem join_length (xs : List Bs) (m : Nat) (h : ∀ p ∈ xs, p.length ≤ m) : (joinB xs).length ≤ xs.length * (m + 1) := by
  unfold joinB Lib.join
  match xs with
  | [] => simp
  | [p] => simp; have := h p (by simp); omega
  | p :: q :: r =>
    have h1 := h p (by simp)
    have h2 := join_length (q :: r) m (fun x hx => h x (by simp [hx]))
    unfold joinB Lib.join at h2
    rw [List.intercalate_cons_cons]
    simp only [List.length_append, List.length_cons, List.length_nil] at h2 ⊢
    have : (r.length + 1 + 1) * (m + 1) = (r.length + 1) * (m + 1) + (m + 1) := by rw [Nat.add_mul _ 1, Nat.one_mul]
    omega

theorem Contains1 (s : ByteArray) (c : UInt8) (w : World) :
    Calls Tryz.prog 97 #[.string s, .string ⟨#[c]⟩] w fun e w' => e = .returned (.bool (decide (0 ≤ Lib.indexByte s.data.toList c))) ∧ w = w' :=
  (Tryz.strings_Contains_one s c w).mono fun _ _ h => ⟨h.1, h.2.symm⟩

def JoinPost (R : Bool) (J : Bs) (w : World) (e : Ending) (w' : World) : Prop := e = .returned (if R then .tuple #[.string (bs J), .int .i64 0] else .tuple #[.string (bs []), .int .i64 40]) ∧ Below w.heap.size w w'
theorem JoinPost.no {R : Bool} {J : Bs} {w w' : World} (h : false = R) (hb : Below w.heap.size w w') : JoinPost R J w (.returned (.tuple #[.string ⟨#[]⟩, .int .i64 40])) w' := by subst h; exact ⟨rfl, hb⟩
theorem JoinPost.yes {R : Bool} {J : Bs} {w w' : World} (h : true = R) (hb : Below w.heap.size w w') : JoinPost R J w (.returned (.tuple #[.string (bs J), .int .i64 0])) w' := by subst h; exact ⟨rfl, hb⟩

set_option maxRecDepth 100000 in
set_option maxHeartbeats 2000000 in
theorem Join_any (a : Option Addr) (n cap : Nat) (xs : List Bs) (w : World) (hn : xs.length = n) (hm : n ≤ 1000) (hcap : n ≤ cap) (hp : ∀ p ∈ xs, p.length ≤ 1000) (hc : Cells w a (xs.map strV)) (ha : ∀ b off s, a = some ⟨b, off, s⟩ → b < w.heap.size) :
    Calls Tryz.prog 51 #[.slice a n cap] w (JoinPost (joinOk xs) (joinB xs) w) := by
  obtain ⟨R, hR⟩ : ∃ R, joinOk xs = R := ⟨_, rfl⟩
  obtain ⟨J, hJ⟩ : ∃ J, joinB xs = J := ⟨_, rfl⟩
  rw [hR, hJ]
  have HR := Lib.hid hR
  have HJ := Lib.hid hJ
  have Hn := Lib.hid hn
  have Hc := Lib.hid hc
  have Hp := Lib.hid hp
  have Ha := Lib.hid ha
  clear hR hJ hn hc hp ha
  go_enter Tryz.func51, Tryz.ntmps51
  go_wp2
  go_loop [4, 12] (fun z i => ∃ (k m : Nat), k ≤ n ∧ m ≤ 33000 ∧ i = .int .i64 k ∧ z = .int .i64 m ∧ Hid (m = n + sumMin (xs.take k) ∧ (k = 0 ∨ m ≤ 64) ∧ (xs.take k).all dotFree = true)) (fun _ i => n - (intOf i).toNat)
  case atStart => exact ⟨0, n, Nat.zero_le _, by omega, rfl, rfl, by simp [sumMin], .inl rfl, rfl⟩
  case round =>
    obtain ⟨k, m, hk, hm33, rfl, rfl, hinv⟩ := hrel
    by_cases hlt : k < n
    · have h1 : k < xs.length := by rw [Hn.out]; exact hlt
      obtain ⟨x, hx⟩ : ∃ x, xs[k]? = some x := ⟨_, List.getElem?_eq_getElem h1⟩
      obtain ⟨b, off, rfl, hcx⟩ := Hc.out.at (k := k) (x := strV x) (by simp [hx])
      rw [strV] at hcx
      have hxl : x.length ≤ 1000 := Hp.out x (List.mem_of_getElem? hx)
      have hxs : (bs x).size ≤ 1000 := hxl
      have hm64 : Hid (m ≤ 64 ∨ k = 0) := by have := hinv.out.2.1; unfold Hid; omega
      have hsnoc : Hid (n + sumMin (xs.take (k + 1)) = m + min x.length 32) := by
        unfold Hid
        rw [List.take_add_one, hx, sumMin_append, hinv.out.1]
        simp [sumMin]; omega
      have hmem := Lib.hid (List.mem_of_getElem? hx)
      have hall : Hid (dotFree x = true → (xs.take (k + 1)).all dotFree = true) := fun h => by
        rw [List.take_add_one, hx]; simp [hinv.out.2.2, h]
      have HC := Contains1 (bs x) 46
      rw [toList_bs] at HC
      obtain ⟨c, hcd⟩ : ∃ c, decide (0 ≤ Lib.indexByte x 46) = c := ⟨_, rfl⟩
      rw [hcd] at HC
      have HC' := Lib.hid HC
      have Hcd := Lib.hid hcd
      have hx' := Lib.hid hx
      have hmin : Hid (x.length = (bs x).size) := rfl
      clear HC hcd hx hxl h1
      cases c with
      | true =>
        have hres : Hid (false = R) := by
          unfold Hid; rw [← HR.out]
          have : xs.all dotFree = false := by
            rw [Bool.eq_false_iff]; intro h
            have := List.all_eq_true.1 h x hmem.out
            have h2 := Hcd.out
            simp [dotFree] at this h2; omega
          simp [joinOk, this]
        go_wp2_with fail
        refine (HC'.out _).mono ?_
        rintro e w' ⟨rfl, rfl⟩
        go_wp2
        go_ret2
        exact JoinPost.no hres.out (Below.refl _ _)
      | false =>
        have hdot : Hid (dotFree x = true) := by
          have h2 := Hcd.out
          simp at h2
          simp [Hid, dotFree]; omega
        obtain ⟨q, hq, hq32, hqs⟩ : ∃ q : Nat, (min ((bs x).size : Int) 32 = (q : Int)) ∧ q ≤ 32 ∧ Hid (q = min x.length 32) := ⟨min x.length 32, by rw [hmin.out]; omega, by omega, rfl⟩
        by_cases h64 : m + q ≤ 64
        · go_wp2_with fail
          refine (HC'.out _).mono ?_
          rintro e w' ⟨rfl, rfl⟩
          go_wp2
          go_round
          case rel => exact ⟨k + 1, m + q, by omega, by omega, by go_num, by go_num, by rw [hsnoc.out, hqs.out], .inr h64, hall.out hdot.out⟩
          case measure => simp [intOf]; omega
        · have hres : Hid (false = R) := by
            unfold Hid; rw [← HR.out]
            have h3 := hsnoc.out
            have h4 := sumMin_take xs (k + 1)
            have h5 := Hn.out
            rw [← hqs.out] at h3
            have : decide (xs.length + sumMin xs ≤ 64) = false := by simp; omega
            simp [joinOk, this]
          go_wp2_with fail
          refine (HC'.out _).mono ?_
          rintro e w' ⟨rfl, rfl⟩
          go_wp2
          go_ret2
          exact JoinPost.no hres.out (Below.refl _ _)
    · have hkn : k = n := by omega
      subst hkn
      have htk : xs.take k = xs := List.take_of_length_le (by rw [Hn.out]; omega)
      have hinv' := hinv.out
      rw [htk] at hinv'
      have hcond : Hid (k ≠ 0 → (xs.all dotFree && decide (xs.length + sumMin xs ≤ 64)) = true) := fun h => by
        rw [hinv'.2.2, Hn.out]
        simp; omega
      have hsz : (joinB xs).length ≤ 1001000 := by
        have h1 := join_length xs 1000 Hp.out
        have h2 := Hn.out
        rw [h2] at h1
        omega
      rw [HJ.out] at hsz
      have HRt := Right_any (bs J)
      rw [toList_bs] at HRt
      obtain ⟨rr, hrr⟩ : ∃ rr, rightB J = rr := ⟨_, rfl⟩
      rw [hrr] at HRt
      have hmax : (bs J).size ≤ maxLen := by unfold maxLen; rw [size_bs]; omega
      have hRR : Hid (k ≠ 0 → rr = R) := fun h => by
        have h1 := hcond.out h
        rw [← HR.out, joinOk, h1, HJ.out, hrr]; rfl
      have hrr0 : Hid (k = 0 → rr = false ∧ R = false) := fun h => by
        have hx0 : xs = [] := List.length_eq_zero_iff.1 (by rw [Hn.out]; exact h)
        have hJ0 : J = [] := by rw [← HJ.out, hx0]; rfl
        refine ⟨by rw [← hrr, hJ0]; rfl, ?_⟩
        rw [← HR.out, joinOk, HJ.out, hJ0]
        have : rightB [] = false := rfl
        rw [this]; simp
      have hrR : Hid (rr = R) := by
        by_cases h : k = 0
        · rw [Hid, (hrr0.out h).1, (hrr0.out h).2]
        · exact hRR.out h
      have HJo : ∀ w', Below w.heap.size w w' → Calls Tryz.prog 98 #[.slice a k cap, .string ⟨#[46]⟩] w' fun e w2 => e = .returned (.string (bs J)) ∧ Below w'.heap.size w' w2 := by
        intro w' hb
        by_cases h : k = 0
        · subst h
          have hx0 : xs = [] := List.length_eq_zero_iff.1 Hn.out
          have hJ0 : J = [] := by rw [← HJ.out, hx0]; rfl
          refine (Tryz.strings_Join_none a cap _ w').mono ?_
          rintro e w2 ⟨rfl, rfl⟩
          exact ⟨by rw [hJ0]; rfl, Below.refl _ _⟩
        · obtain ⟨x, hx⟩ : ∃ x, xs[0]? = some x := ⟨_, List.getElem?_eq_getElem (by rw [Hn.out]; omega)⟩
          obtain ⟨b, off, rfl, _⟩ := Hc.out.at (k := 0) (x := strV x) (by simp [hx])
          have hmap : (xs.map bs).map (fun s : ByteArray => s.data.toList) = xs := by rw [List.map_map]; exact List.map_id xs
          have hlen2 : (xs.map bs).length = k := by rw [List.length_map]; exact Hn.out
          have hj := Tryz.strings_Join b off cap (xs.map bs) ⟨#[46]⟩ w' (fun j y hy => by
              rw [List.getElem?_map] at hy
              obtain ⟨x', hx', rfl⟩ := Option.map_eq_some_iff.1 hy
              obtain ⟨b', off', hbo, hcell⟩ := (Hc.out.below hb).at (k := j) (x := strV x') (by simp [hx'])
              cases hbo; exact hcell) (Nat.lt_of_lt_of_le (Ha.out _ _ _ rfl) hb.size) (by rw [hlen2]; omega) (by rw [hlen2]; exact hcap)
              (by
                rw [hmap]
                have : Lib.join xs [46] = J := HJ.out
                show (Lib.join xs [46]).length ≤ _
                rw [this]; omega)
          rw [hmap, hlen2] at hj
          refine hj.mono ?_
          rintro e w2 ⟨rfl, hb2⟩
          refine ⟨?_, hb2⟩
          have : Lib.join xs [46] = J := HJ.out
          show Ending.returned (.string ⟨(Lib.join xs [46]).toArray⟩) = _
          rw [this]; rfl
      have HJo' := Lib.hid HJo
      have HRt' := Lib.hid HRt
      clear hinv hinv' hcond htk HRt hrr HJo hsz
      cases rr with
      | false =>
        go_wp2_with fail
        refine (HJo'.out _ (Below.refl _ _)).mono ?_
        rintro e w1 ⟨rfl, hb1⟩
        go_wp2_with fail
        refine (HRt'.out _ hmax).mono ?_
        rintro e w2 ⟨rfl, rfl⟩
        go_wp2
        go_ret2
        exact JoinPost.no hrR.out hb1
      | true =>
        go_wp2_with fail
        refine (HJo'.out _ (Below.refl _ _)).mono ?_
        rintro e w1 ⟨rfl, hb1⟩
        go_wp2_with fail
        refine (HRt'.out _ hmax).mono ?_
        rintro e w2 ⟨rfl, rfl⟩
        go_wp2
        go_ret2
        exact JoinPost.yes hrR.out hb1
end Go.Proofs.YtieeloealklkgaaGreatDoor

/-
  sort.Search over a predicate that is called in later worlds.
-/
namespace Go.Proofs.YtieeloealklkgaaGreatDoor
open Go.RowKit

/-- What sort.Search's function value does, from w on. -/
def Pred (g : Nat) (cb : Array Value) (n : Nat) (p : Nat → Bool) (w : World) : Prop :=
  ∀ (W : World) (i : Nat), Below w.heap.size w W → i < n → Calls Tryz.prog g (#[.int .i64 i] ++ cb) W fun e w' => e = .returned (.bool (p i)) ∧ Below W.heap.size W w'

def SearchPost (n : Nat) (p : Nat → Bool) (w : World) (e : Ending) (w' : World) : Prop :=
  ∃ r : Nat, e = .returned (.int .i64 r) ∧ r ≤ n ∧ (0 < r → p (r - 1) = false) ∧ (r < n → p r = true) ∧ Below w.heap.size w w'

set_option maxRecDepth 100000 in
set_option maxHeartbeats 2000000 in
theorem Search_any (g : Nat) (cb : Array Value) (n : Nat) (p : Nat → Bool) (w : World) (eg : ∀ args w, (callFunc g args).run Tryz.prog w = .ok (.enter g args) w) (hn : n ≤ 1000000) (hp : Pred g cb n p w) :
    Calls Tryz.prog 92 #[.int .i64 n, .func (.func g) #[] cb] w (SearchPost n p w) := by
  have HP := Lib.hid hp
  clear hp
  go_enter Tryz.func92, Tryz.ntmps92
  go_wp2
  go_loopw [5, 6] (fun i j wr => ∃ (lo hi : Nat), lo ≤ hi ∧ hi ≤ n ∧ i = .int .i64 lo ∧ j = .int .i64 hi ∧ Hid ((0 < lo → p (lo - 1) = false) ∧ (hi < n → p hi = true)) ∧ Below w.heap.size w wr) (fun i j _ => (intOf j).toNat - (intOf i).toNat)
  case atStart => exact ⟨0, n, Nat.zero_le _, Nat.le_refl _, rfl, rfl, ⟨fun h => by omega, fun h => by omega⟩, Below.refl _ _⟩
  case round =>
    obtain ⟨lo, hi, h1, h2, rfl, rfl, hinv, hb⟩ := hrel
    by_cases hlt : lo < hi
    · obtain ⟨m, hm⟩ : ∃ m : Nat, m = (lo + hi) / 2 := ⟨_, rfl⟩
      have hm1 : lo ≤ m := by omega
      have hm2 : m < hi := by omega
      have em : ((lo : Int) + (hi : Int)) / 2 = (m : Int) := by omega
      have Em := Lib.hid em
      clear em hm
      have hcall := Lib.hid (HP.out wr m hb (by omega))
      cases hpm : p m with
      | true =>
        have Hpm := Lib.hid hpm
        rw [hpm] at hcall
        clear hpm
        go_wp2_with fail
        rw [Em.out]
        refine hcall.out.mono ?_
        rintro e w1 ⟨rfl, hb1⟩
        go_wp2
        refine ⟨?_, by simp [intOf]; omega⟩
        first
          | exact ⟨lo, m, hm1, by omega, rfl, rfl, ⟨hinv.out.1, fun _ => Hpm.out⟩, hb.trans (hb1.mono hb.size)⟩
          | ((repeat apply Exists.intro); exact ⟨⟨lo, m, hm1, by omega, rfl, rfl, ⟨hinv.out.1, fun _ => Hpm.out⟩, hb.trans (hb1.mono hb.size)⟩, rfl⟩)
      | false =>
        have Hpm := Lib.hid hpm
        rw [hpm] at hcall
        clear hpm
        go_wp2_with fail
        rw [Em.out]
        refine hcall.out.mono ?_
        rintro e w1 ⟨rfl, hb1⟩
        go_wp2
        refine ⟨?_, by simp [intOf]; omega⟩
        first
          | exact ⟨m + 1, hi, by omega, h2, by go_num, rfl, ⟨fun _ => by simpa using Hpm.out, hinv.out.2⟩, hb.trans (hb1.mono hb.size)⟩
          | ((repeat apply Exists.intro); exact ⟨⟨m + 1, hi, by omega, h2, by go_num, rfl, ⟨fun _ => by simpa using Hpm.out, hinv.out.2⟩, hb.trans (hb1.mono hb.size)⟩, rfl⟩)
    · have : lo = hi := by omega
      subst this
      go_wp2
      go_ret
      exact ⟨lo, rfl, h2, hinv.out.1, hinv.out.2, hb⟩
end Go.Proofs.YtieeloealklkgaaGreatDoor

/-
  name.Set, place, Find.
-/
namespace Go.Proofs.YtieeloealklkgaaGreatDoor
open Go.RowKit
attribute [local go_sem ↓] Go.wp_at_zero Go.wp_at_succ

/-- Whether the name at an index is one, and behind the one before it. -/
def okAt (xs : List Bs) (j : Nat) : Bool := rightB (xs.getD j []) && (decide (j = 0) || decide (ordN (xs.getD (j - 1) []) (xs.getD j []) < 0))
def setB (xs : List Bs) : Bool := (List.range xs.length).all (okAt xs) && decide (xs.length ≤ 256)

theorem getD_of {xs : List Bs} {k : Nat} {x : Bs} (h : xs[k]? = some x) : xs.getD k [] = x := by rw [List.getD_eq_getElem?_getD, h]; rfl
theorem strGet {xs : List Bs} {w : World} {a : Option Addr} (hc : Cells w a (xs.map strV)) {k : Nat} (hk : k < xs.length) :
    ∃ b off, a = some ⟨b, off, none⟩ ∧ w.cell? ⟨b, off + k, none⟩ = some (.string (bs (xs.getD k []))) := by
  obtain ⟨x, hx⟩ : ∃ x, xs[k]? = some x := ⟨_, List.getElem?_eq_getElem hk⟩
  rw [getD_of hx]
  exact hc.at (x := strV x) (by simp [hx])

set_option maxRecDepth 100000 in
set_option maxHeartbeats 4000000 in
theorem Set_any (a : Option Addr) (n cap : Nat) (xs : List Bs) (w : World) (hn : xs.length = n) (hm : n ≤ 1000000) (hp : ∀ p ∈ xs, p.length ≤ 100000) (hc : Cells w a (xs.map strV)) :
    Calls Tryz.prog 67 #[.slice a n cap] w fun e w' => e = .returned (.bool (setB xs)) ∧ Below w.heap.size w w' := by
  obtain ⟨R, hR⟩ : ∃ R, setB xs = R := ⟨_, rfl⟩
  rw [hR]
  have HR := Lib.hid hR
  have Hn := Lib.hid hn
  have Hc := Lib.hid hc
  have Hp := Lib.hid hp
  clear hR hn hc hp
  go_enter Tryz.func67, Tryz.ntmps67
  go_wp2
  go_loopw [7] (fun i wr => ∃ k : Nat, k ≤ n ∧ i = .int .i64 k ∧ Hid ((List.range k).all (okAt xs) = true) ∧ Below w.heap.size w wr) (fun i _ => n - (intOf i).toNat)
  case atStart => exact ⟨0, Nat.zero_le _, rfl, rfl, Below.refl _ _⟩
  case round =>
    obtain ⟨k, hk, rfl, hpre, hb⟩ := hrel
    by_cases hlt : k < n
    · have h1 : k < xs.length := by rw [Hn.out]; exact hlt
      obtain ⟨b, off, rfl, hcx⟩ := strGet (Hc.out.below hb) h1
      have hlen : ∀ j, j < xs.length → (xs.getD j []).length ≤ 100000 := fun j hj => by
        obtain ⟨x, hx⟩ : ∃ x, xs[j]? = some x := ⟨_, List.getElem?_eq_getElem hj⟩
        rw [getD_of hx]; exact Hp.out x (List.mem_of_getElem? hx)
      have hlk := hlen k h1
      have hstep : Hid (okAt xs k = true → (List.range (k + 1)).all (okAt xs) = true) := fun h => by
        rw [List.range_succ, List.all_append, hpre.out]; simp [h]
      have hbad : Hid (okAt xs k = false → false = R) := fun h => by
        rw [← HR.out]
        have : (List.range xs.length).all (okAt xs) = false := by
          rw [Bool.eq_false_iff]; intro h2
          have := List.all_eq_true.1 h2 k (List.mem_range.2 h1)
          rw [h] at this; cases this
        simp [setB, this]
      have hok : Hid (okAt xs k = (rightB (xs.getD k []) && (decide (k = 0) || decide (ordN (xs.getD (k - 1) []) (xs.getD k []) < 0)))) := rfl
      obtain ⟨x, hx⟩ : ∃ x, xs.getD k [] = x := ⟨_, rfl⟩
      rw [hx] at hcx hlk hok
      have HRt := Right_any (bs x) wr (by unfold maxLen; rw [size_bs]; omega)
      rw [toList_bs] at HRt
      obtain ⟨rr, hrr⟩ : ∃ rr, rightB x = rr := ⟨_, rfl⟩
      rw [hrr] at HRt hok
      have HRt' := Lib.hid HRt
      have hlen' := Lib.hid hlen
      clear HRt hrr hlen hx
      cases rr with
      | false =>
        have hbd : Hid (false = R) := hbad.out (by rw [hok.out]; rfl)
        go_wp2_with fail
        refine HRt'.out.mono ?_
        rintro e w1 ⟨rfl, rfl⟩
        go_wp2
        go_ret
        exact ⟨ret_bool hbd.out, hb⟩
      | true =>
        by_cases hk0 : k = 0
        · have hgood := Lib.hid (hstep.out (by rw [hok.out, hk0]; rfl))
          have hk0' := Lib.hid hk0
          have hk1 : ¬ (0 : Int) < k := by omega
          clear hk0
          go_wp2_with fail
          refine HRt'.out.mono ?_
          rintro e w1 ⟨rfl, rfl⟩
          go_wp2
          refine ⟨?_, by simp [intOf]; omega⟩
          first
            | exact ⟨k + 1, by omega, by go_num, hgood.out, hb⟩
            | ((repeat apply Exists.intro); exact ⟨⟨k + 1, by omega, by go_num, hgood.out, hb⟩, rfl⟩)
        · have h0 : k - 1 < xs.length := by omega
          obtain ⟨b', off', hbo, hcy⟩ := strGet (Hc.out.below hb) h0
          cases hbo
          obtain ⟨y, hy⟩ : ∃ y, xs.getD (k - 1) [] = y := ⟨_, rfl⟩
          have hly := hlen'.out (k - 1) h0
          rw [hy] at hcy hly hok
          have HO := order_any (bs y) (bs x) wr hly hlk
          rw [toList_bs, toList_bs] at HO
          obtain ⟨c, hcd⟩ : ∃ c, ordN y x = c := ⟨_, rfl⟩
          rw [hcd] at HO hok
          have hkk : Hid (decide (k = 0) = false) := decide_eq_false hk0
          obtain ⟨j, hj⟩ : ∃ j, k = j + 1 := ⟨k - 1, by omega⟩
          have hcy' : wr.cell? ⟨b, off + j, none⟩ = some (.string (bs y)) := by rw [hj] at hcy; simpa using hcy
          have hj2 : ((k : Int) - 1) = (j : Int) := by omega
          have hk1 : (0 : Int) < k := by omega
          have HO' := Lib.hid HO
          have hj1 : j < n := by omega
          clear HO hcd hy hcy hk0 hj
          by_cases hc0 : c < 0
          · have hgood := Lib.hid (hstep.out (by rw [hok.out, hkk.out]; simp [hc0]))
            go_wp2_with fail
            refine HRt'.out.mono ?_
            rintro e w1 ⟨rfl, rfl⟩
            go_wp2_with fail
            refine HO'.out.mono ?_
            rintro e w1 ⟨rfl, hb1⟩
            go_wp2
            refine ⟨?_, by simp [intOf]; omega⟩
            first
              | exact ⟨k + 1, by omega, by go_num, hgood.out, hb.trans (hb1.mono hb.size)⟩
              | ((repeat apply Exists.intro); exact ⟨⟨k + 1, by omega, by go_num, hgood.out, hb.trans (hb1.mono hb.size)⟩, rfl⟩)
          · have hbd : Hid (false = R) := hbad.out (by rw [hok.out, hkk.out]; simp; omega)
            go_wp2_with fail
            refine HRt'.out.mono ?_
            rintro e w1 ⟨rfl, rfl⟩
            go_wp2_with fail
            refine HO'.out.mono ?_
            rintro e w1 ⟨rfl, hb1⟩
            go_wp2
            go_ret
            exact ⟨ret_bool hbd.out, hb.trans (hb1.mono hb.size)⟩
    · have hkn : k = n := by omega
      subst hkn
      have hres : Hid (decide ((k : Int) ≤ 256) = R) := by
        unfold Hid; rw [← HR.out, setB, Hn.out, hpre.out, Bool.true_and]
        exact decide_eq_decide.2 (by omega)
      go_wp2
      go_ret
      exact ⟨ret_bool hres.out, hb⟩
end Go.Proofs.YtieeloealklkgaaGreatDoor

/-
  name.place, Find.
-/
namespace Go.Proofs.YtieeloealklkgaaGreatDoor
open Go.RowKit
attribute [local go_sem ↓] Go.wp_at_zero Go.wp_at_succ

set_option maxRecDepth 100000 in
set_option maxHeartbeats 4000000 in
/-- The closure in place. -/
theorem placeC_any (bl bS : Nat) (a : Option Addr) (n cap i : Nat) (xs : List Bs) (s : Bs) (w : World) (hn : xs.length = n) (hm : n ≤ 1000000) (hp : ∀ p ∈ xs, p.length ≤ 100000) (hs : s.length ≤ 100000)
    (hc : Cells w a (xs.map strV)) (hl : w.cell? ⟨bl, 0, none⟩ = some (.slice a n cap)) (hS : w.cell? ⟨bS, 0, none⟩ = some (.string (bs s))) (hi : i < n) :
    Calls Tryz.prog 119 #[.int .i64 i, .pointer (some ⟨bl, 0, none⟩), .pointer (some ⟨bS, 0, none⟩)] w fun e w' => e = .returned (.bool (decide (0 ≤ ordN (xs.getD i []) s))) ∧ Below w.heap.size w w' := by
  obtain ⟨b, off, rfl, hcx⟩ := strGet hc (by rw [hn]; exact hi)
  obtain ⟨x, hx⟩ : ∃ x, xs.getD i [] = x := ⟨_, rfl⟩
  have hxl : x.length ≤ 100000 := by
    rw [← hx]
    obtain ⟨y, hy⟩ : ∃ y, xs[i]? = some y := ⟨_, List.getElem?_eq_getElem (by rw [hn]; exact hi)⟩
    rw [getD_of hy]; exact hp y (List.mem_of_getElem? hy)
  rw [hx] at hcx ⊢
  have HO := fun W => order_any (bs x) (bs s) W hxl hs
  simp only [toList_bs] at HO
  obtain ⟨c, hcd⟩ : ∃ c, ordN x s = c := ⟨_, rfl⟩
  rw [hcd] at HO ⊢
  have HO' := Lib.hid HO
  have c1 : (0 : Int) ≤ (i : Int) := by omega
  have c2 : (i : Int) < (n : Int) := by omega
  clear hn hp hc hx hcd HO
  go_enter Tryz.func119, Tryz.ntmps119
  go_wp2_with fail
  go_region_held3 (fun w' => w'.cell? ⟨bl, 0, none⟩ = some (.slice (some ⟨b, off, none⟩) n cap) ∧ w'.cell? ⟨bS, 0, none⟩ = some (.string (bs s)) ∧ w'.cell? ⟨b, off + i, none⟩ = some (.string (bs x))) (first | go_keep | (refine ⟨Below.keep hb1 ?_, Below.keep hb1 ?_, Below.keep hb1 ?_⟩ <;> go_keep))
    ((go_at_call 100; refine (HO'.out _).mono ?_; rintro e w1 ⟨rfl, hb1⟩))
  all_goals go_wp2
  all_goals go_ret
  all_goals exact ⟨rfl, (Below.refl w.heap.size w).drew.trans hb1⟩

/-- Where a name lies in a list. -/
def atN (xs : List Bs) (s : Bs) (r : Nat) : Prop := r ≤ xs.length ∧ (0 < r → ordN (xs.getD (r - 1) []) s < 0) ∧ (r < xs.length → 0 ≤ ordN (xs.getD r []) s)
def PlacePost (xs : List Bs) (s : Bs) (w : World) (e : Ending) (w' : World) : Prop := ∃ r : Nat, e = .returned (.int .i64 r) ∧ atN xs s r ∧ Below w.heap.size w w'

set_option maxRecDepth 100000 in
set_option maxHeartbeats 4000000 in
theorem place_any (a : Option Addr) (n cap : Nat) (xs : List Bs) (s : Bs) (w : World) (hn : xs.length = n) (hm : n ≤ 1000000) (hp : ∀ p ∈ xs, p.length ≤ 100000) (hs : s.length ≤ 100000)
    (hc : Cells w a (xs.map strV)) :
    Calls Tryz.prog 91 #[.slice a n cap, .string (bs s)] w (PlacePost xs s w) := by
  have hmf : ∀ (fn : Fn) (first cap : Array Value) (w : World), (Instr.makeFunc fn first cap).run Tryz.prog w = .ok (.func fn first cap) w := fun _ _ _ _ => rfl
  obtain ⟨W0, hW0⟩ : ∃ W0, W0 = (w.alloc (.cells #[.slice a n cap] 36)).alloc (.cells #[.string (bs s)] 9) := ⟨_, rfl⟩
  have hb0 : Below w.heap.size w W0 := by rw [hW0]; exact ((Below.refl _ _).alloc (Nat.le_refl _) _).alloc (by simp) _
  have x1 : Box W0 w.heap.size (.slice a n cap) := by rw [hW0]; exact (Box.new _ _ _).alloc _
  have x2 : Box W0 (w.heap.size + 1) (.string (bs s)) := by
    have := Box.new (w.alloc (.cells #[.slice a n cap] 36)) (.string (bs s)) 9
    rw [hW0]; simpa using this
  have hpred : Pred 119 #[.pointer (some ⟨w.heap.size, 0, none⟩), .pointer (some ⟨w.heap.size + 1, 0, none⟩)] n (fun i => decide (0 ≤ ordN (xs.getD i []) s)) W0 := fun W i hb hi =>
    placeC_any _ _ a n cap i xs s W hn hm hp hs (hc.below (hb0.trans (hb.mono hb0.size))) (Below.keep hb x1.cell) (Below.keep hb x2.cell) hi
  have hS := Search_any _ _ n _ W0 (by intro args w; rfl) hm hpred
  have HS := Lib.hid hS
  have HW := Lib.hid hW0
  have Hn := Lib.hid hn
  clear hS hpred hW0 x1 x2 hn hp hc
  go_enter Tryz.func91, Tryz.ntmps91
  go_wp2_with fail
  rw [← HW.out]
  refine HS.out.mono ?_
  rintro e w1 ⟨r, rfl, h1, h2, h3, hb1⟩
  have H2 := Lib.hid h2
  have H3 := Lib.hid h3
  clear h2 h3
  go_wp2
  go_ret
  refine ⟨r, rfl, ⟨by rw [Hn.out]; exact h1, fun h => ?_, fun h => ?_⟩, hb0.trans (hb1.mono hb0.size)⟩
  · have := H2.out h; simpa using this
  · have := H3.out (by rw [← Hn.out]; exact h); simpa using this
end Go.Proofs.YtieeloealklkgaaGreatDoor

/-
  name.Find; sets are in order.
-/
namespace Go.Proofs.YtieeloealklkgaaGreatDoor
open Go.RowKit

theorem setB_ok {xs : List Bs} (h : setB xs = true) : ∀ j, j < xs.length → okAt xs j = true := by
  intro j hj
  simp only [setB, Bool.and_eq_true] at h
  exact List.all_eq_true.1 h.1 j (List.mem_range.2 hj)
theorem setB_len {xs : List Bs} (h : setB xs = true) : xs.length ≤ 256 := by
  simp only [setB, Bool.and_eq_true, decide_eq_true_eq] at h; exact h.2
theorem setB_right {xs : List Bs} (h : setB xs = true) : ∀ j, j < xs.length → rightB (xs.getD j []) = true := by
  intro j hj
  have := setB_ok h j hj
  simp only [okAt, Bool.and_eq_true] at this
  exact this.1
theorem setB_incr {xs : List Bs} (h : setB xs = true) : ∀ i j, i < j → j < xs.length → ordN (xs.getD i []) (xs.getD j []) < 0 := by
  refine ordN_cmp.incr (fun i => xs.getD i []) xs.length (fun j hj => ?_)
  have := setB_ok h (j + 1) hj
  simp only [okAt, Bool.and_eq_true, Bool.or_eq_true, decide_eq_true_eq, Nat.add_sub_cancel] at this
  rcases this.2 with h | h
  · omega
  · exact h

/-- The first index whose name does not come before s. -/
def lowN (xs : List Bs) (s : Bs) : Nat := xs.findIdx (fun x => decide (0 ≤ ordN x s))
theorem getD_lt {xs : List Bs} {i : Nat} (h : i < xs.length) : xs.getD i [] = xs[i] := by rw [List.getD_eq_getElem?_getD, List.getElem?_eq_getElem h]; rfl
theorem lowN_le (xs : List Bs) (s : Bs) : lowN xs s ≤ xs.length := List.findIdx_le_length
theorem lowN_before {xs : List Bs} {s : Bs} {i : Nat} (h : i < lowN xs s) : ordN (xs.getD i []) s < 0 := by
  have h1 := List.not_of_lt_findIdx h
  have h2 : i < xs.length := Nat.lt_of_lt_of_le h (lowN_le xs s)
  rw [getD_lt h2]
  simpa using h1
theorem lowN_at {xs : List Bs} {s : Bs} (h : lowN xs s < xs.length) : 0 ≤ ordN (xs.getD (lowN xs s) []) s := by
  have h1 := List.findIdx_getElem (w := h)
  rw [getD_lt h]
  exact of_decide_eq_true h1
theorem atN_low {xs : List Bs} {s : Bs} {r : Nat} (hset : setB xs = true) (h : atN xs s r) : r = lowN xs s := by
  obtain ⟨h1, h2, h3⟩ := h
  rcases Nat.lt_trichotomy r (lowN xs s) with hlt | heq | hgt
  · have := h3 (Nat.lt_of_lt_of_le hlt (lowN_le xs s))
    have := lowN_before hlt
    omega
  · exact heq
  · have hl : lowN xs s < xs.length := Nat.lt_of_lt_of_le hgt h1
    have a1 := lowN_at hl
    have a2 := h2 (by omega)
    by_cases he : lowN xs s = r - 1
    · rw [he] at a1; omega
    · have a3 := setB_incr hset (lowN xs s) (r - 1) (by omega) (by omega)
      have := ordN_cmp.trans _ _ _ a3 a2
      omega

def isAt (xs : List Bs) (s : Bs) (r : Nat) : Bool := decide (xs[r]? = some s)
def FindPost (xs : List Bs) (s : Bs) (w : World) (e : Ending) (w' : World) : Prop :=
  e = .returned (if setB xs && rightB s then .tuple #[.int .i64 (lowN xs s), .bool (isAt xs s (lowN xs s))] else .tuple #[.int .i64 0, .bool false]) ∧ Below w.heap.size w w'

set_option maxRecDepth 100000 in
set_option maxHeartbeats 4000000 in
theorem Find_any (a : Option Addr) (n cap : Nat) (xs : List Bs) (s : Bs) (w : World) (hn : xs.length = n) (hm : n ≤ 1000000) (hp : ∀ p ∈ xs, p.length ≤ 100000) (hs : s.length ≤ 100000)
    (hc : Cells w a (xs.map strV)) :
    Calls Tryz.prog 62 #[.slice a n cap, .string (bs s)] w (FindPost xs s w) := by
  have HS := Set_any a n cap xs w hn hm hp hc
  have HR := fun W => Right_any (bs s) W (by unfold maxLen; rw [size_bs]; omega)
  simp only [toList_bs] at HR
  have HP := fun W (hb : Below w.heap.size w W) => place_any a n cap xs s W hn hm hp hs (hc.below hb)
  obtain ⟨r1, h1⟩ : ∃ r, setB xs = r := ⟨_, rfl⟩
  obtain ⟨r2, h2⟩ : ∃ r, rightB s = r := ⟨_, rfl⟩
  rw [h1] at HS
  rw [h2] at HR
  have HS' := Lib.hid HS
  have HR' := Lib.hid HR
  have HP' := Lib.hid HP
  have H1 := Lib.hid h1
  have H2 := Lib.hid h2
  have Hn := Lib.hid hn
  have Hc := Lib.hid hc
  clear HS HR HP h1 h2 hn hc hp
  cases r1 with
  | false =>
    go_enter Tryz.func62, Tryz.ntmps62
    go_wp2_with fail
    refine HS'.out.mono ?_
    rintro e w1 ⟨rfl, hb1⟩
    go_wp2
    go_ret2
    exact ⟨by rw [H1.out]; rfl, hb1⟩
  | true =>
    cases r2 with
    | false =>
      go_enter Tryz.func62, Tryz.ntmps62
      go_wp2_with fail
      refine HS'.out.mono ?_
      rintro e w1 ⟨rfl, hb1⟩
      go_wp2_with fail
      refine (HR'.out _).mono ?_
      rintro e w1 ⟨rfl, rfl⟩
      go_wp2
      go_ret2
      exact ⟨by rw [H1.out, H2.out]; rfl, hb1⟩
    | true =>
      go_enter Tryz.func62, Tryz.ntmps62
      go_wp2_with fail
      refine HS'.out.mono ?_
      rintro e w1 ⟨rfl, hb1⟩
      go_wp2_with fail
      refine (HR'.out _).mono ?_
      rintro e w1 ⟨rfl, rfl⟩
      go_wp2_with fail
      refine (HP'.out _ hb1).mono ?_
      rintro e w2 ⟨r, rfl, hat, hb2⟩
      have hr := Lib.hid (atN_low H1.out hat)
      have hb := hb1.trans (hb2.mono hb1.size)
      have hrn : r ≤ n := by rw [← Hn.out]; exact hat.1
      clear hat hb1 hb2
      have fin : Hid (∀ (q : Bool) (W : World), isAt xs s r = q → Below w.heap.size w W → FindPost xs s w (.returned (.tuple #[.int .i64 r, .bool q])) W) := fun q W hq hW => ⟨by rw [H1.out, H2.out, ← hr.out, hq]; rfl, hW⟩
      by_cases hlt : r < n
      · obtain ⟨b, off, rfl, hcx⟩ := strGet (Hc.out.below hb) (k := r) (by rw [Hn.out]; exact hlt)
        obtain ⟨x, hx⟩ : ∃ x, xs.getD r [] = x := ⟨_, rfl⟩
        rw [hx] at hcx
        have d1 : ((bs x).toList == (bs s).toList) = isAt xs s r := by
          rw [toList_eq, toList_eq, toList_bs, toList_bs, isAt, List.getElem?_eq_getElem (by rw [Hn.out]; exact hlt), ← getD_lt, hx, Bool.eq_iff_iff]; simp
        obtain ⟨q, hq⟩ : ∃ q, isAt xs s r = q := ⟨_, rfl⟩
        rw [hq] at d1
        have Hq := Lib.hid hq
        have c1 : (0 : Int) ≤ (r : Int) := by omega
        have c2 : (r : Int) < (n : Int) := by omega
        have c3 : decide ((r : Int) < (n : Int)) = true := by simp; omega
        clear hq hx
        go_wp2
        go_quiet (fail)
        go_wp2
        go_ret2
        exact fin.out _ _ Hq.out (by first | exact hb | exact ⟨hb.os, hb.tape, hb.output, hb.size, hb.block⟩)
      · have hq : Hid (isAt xs s r = false) := by
          unfold Hid; rw [isAt, List.getElem?_eq_none (by rw [Hn.out]; omega)]; rfl
        have c3 : decide ((r : Int) < (n : Int)) = false := by simp; omega
        go_wp2
        go_quiet (fail)
        go_wp2
        go_ret2
        exact fin.out _ _ hq.out (by first | exact hb | exact ⟨hb.os, hb.tape, hb.output, hb.size, hb.block⟩)
end Go.Proofs.YtieeloealklkgaaGreatDoor

/-
  What lies under a name lies side by side. Plain Lean.
-/
namespace Go.Proofs.YtieeloealklkgaaGreatDoor
open Go.RowKit

theorem cut_dot (a r : Bs) : cut (a ++ 46 :: r) = cut a ++ cut r := by
  induction a with
  | nil => simp [cut]
  | cons c t ih =>
    simp only [List.cons_append, cut]
    rw [ih]
    cases hc : cut t with
    | nil => exact absurd hc (cut_ne t)
    | cons p q => split <;> simp
theorem glue_append (p q : List Bs) (hp : p ≠ []) (hq : q ≠ []) : glue (p ++ q) = glue p ++ 46 :: glue q := by
  induction p with
  | nil => exact absurd rfl hp
  | cons x r ih =>
    cases r with
    | nil =>
      cases q with
      | nil => exact absurd rfl hq
      | cons y t => simp [glue]
    | cons z u =>
      have := ih (by simp)
      simp only [List.cons_append, glue] at this ⊢
      rw [this]; simp
theorem hasPrefix_iff (s p : Bs) : Lib.hasPrefix s p = true ↔ p <+: s := by
  unfold Lib.hasPrefix
  exact List.isPrefixOf_iff_prefix
/-- Under, by parts. -/
theorem under_iff (s t : Bs) : (s = t ∨ Lib.hasPrefix s (t ++ [46]) = true) ↔ cut t <+: cut s := by
  rw [hasPrefix_iff]
  constructor
  · rintro (rfl | ⟨r, hr⟩)
    · exact List.prefix_refl _
    · rw [← hr]; simp only [List.append_assoc, List.singleton_append]
      rw [cut_dot]; exact List.prefix_append _ _
  · rintro ⟨r, hr⟩
    by_cases h : r = []
    · subst h; left; rw [List.append_nil] at hr; exact (cut_inj hr).symm
    · right
      have := glue_cut s
      rw [← hr, glue_append _ _ (cut_ne t) h, glue_cut] at this
      exact ⟨glue r, by rw [← this]; simp⟩
theorem underB_iff (s t : Bs) : underB s t = true ↔ rightB s = true ∧ rightB t = true ∧ cut t <+: cut s := by
  unfold underB
  rw [← under_iff]
  simp [and_assoc]

theorem cmpL_prefix : ∀ (p l : List Bs), p <+: l → 0 ≤ cmpL l p
  | [], [], _ => by simp [cmpL]
  | [], _ :: _, _ => by simp [cmpL]
  | _ :: _, [], h => by simp at h
  | a :: p, b :: l, h => by
    obtain ⟨rfl, h'⟩ := List.cons_prefix_cons.1 h
    simp only [cmpL]
    rw [if_pos ((cmpB_cmp.eq a a).2 rfl)]
    exact cmpL_prefix p l h'
theorem cmpL_between : ∀ (p y z : List Bs), p <+: z → cmpL p y ≤ 0 → cmpL y z ≤ 0 → p <+: y
  | [], _, _, _, _, _ => List.nil_prefix
  | _ :: _, [], _, _, h, _ => by simp [cmpL] at h
  | _ :: _, _ :: _, [], h, _, _ => by simp at h
  | a :: p, b :: y, c :: z, h, h1, h2 => by
    obtain ⟨rfl, h'⟩ := List.cons_prefix_cons.1 h
    simp only [cmpL] at h1 h2
    have ha := cmpB_cmp.anti a b
    by_cases he : cmpB a b = 0
    · rw [if_pos he] at h1
      rw [if_pos (by omega)] at h2
      obtain rfl := (cmpB_cmp.eq a b).1 he
      exact List.cons_prefix_cons.2 ⟨rfl, cmpL_between p y z h' h1 h2⟩
    · rw [if_neg he] at h1
      rw [if_neg (by omega)] at h2
      omega
theorem under_ord {s t : Bs} (h : underB s t = true) : 0 ≤ ordN s t := cmpL_prefix _ _ ((underB_iff s t).1 h).2.2
/-- t ≤ y ≤ z, z under t: y is under t. -/
theorem under_between {t y z : Bs} (hz : underB z t = true) (hy : rightB y = true) (h1 : ordN t y ≤ 0) (h2 : ordN y z ≤ 0) : underB y t = true := by
  obtain ⟨_, ht, hp⟩ := (underB_iff z t).1 hz
  exact (underB_iff y t).2 ⟨hy, ht, cmpL_between _ _ _ hp h1 h2⟩

/-- In a set: from the place of a name on, those under it come first. -/
theorem set_under_down {xs : List Bs} {s : Bs} (hset : setB xs = true) {i j : Nat} (hi : lowN xs s ≤ i) (hij : i ≤ j) (hj : j < xs.length) (hu : underB (xs.getD j []) s = true) : underB (xs.getD i []) s = true := by
  have hlo : 0 ≤ ordN (xs.getD i []) s := by
    have hl : lowN xs s < xs.length := by omega
    have a := lowN_at hl
    by_cases he : lowN xs s = i
    · rw [← he]; exact a
    · have := setB_incr hset (lowN xs s) i (by omega) (by omega)
      rcases Int.lt_or_le (ordN (xs.getD i []) s) 0 with h | h
      · have := ordN_cmp.trans _ _ _ this h
        omega
      · exact h
  refine under_between hu (setB_right hset i (by omega)) ?_ ?_
  · have := ordN_cmp.anti (xs.getD i []) s; omega
  · by_cases he : i = j
    · subst he; rw [ordN_cmp.refl]; exact Int.le_refl 0
    · have := setB_incr hset i j (by omega) hj; omega
theorem set_under_low {xs : List Bs} {s : Bs} {i : Nat} (hu : underB (xs.getD i []) s = true) : lowN xs s ≤ i := by
  rcases Nat.lt_or_ge i (lowN xs s) with h | h
  · have h1 := lowN_before h
    have h2 := under_ord hu
    omega
  · exact h
/-- The number of those under a name. -/
def runN (xs : List Bs) (s : Bs) : Nat := (xs.drop (lowN xs s)).findIdx (fun x => !underB x s)
theorem runN_le (xs : List Bs) (s : Bs) : lowN xs s + runN xs s ≤ xs.length := by
  have h1 : runN xs s ≤ (xs.drop (lowN xs s)).length := List.findIdx_le_length
  have h2 := lowN_le xs s
  rw [List.length_drop] at h1; omega
theorem runN_in {xs : List Bs} {s : Bs} {i : Nat} (h1 : lowN xs s ≤ i) (h2 : i < lowN xs s + runN xs s) : underB (xs.getD i []) s = true := by
  have h3 : i - lowN xs s < (xs.drop (lowN xs s)).findIdx (fun x => !underB x s) := by unfold runN at h2; omega
  have h4 := List.not_of_lt_findIdx h3
  have h5 := runN_le xs s
  rw [getD_lt (by omega)]
  simp only [List.getElem_drop, Bool.not_eq_true'] at h4
  have e : lowN xs s + (i - lowN xs s) = i := by omega
  simp only [e] at h4
  simpa using h4
theorem runN_out {xs : List Bs} {s : Bs} (h : lowN xs s + runN xs s < xs.length) : underB (xs.getD (lowN xs s + runN xs s) []) s = false := by
  have h1 : (xs.drop (lowN xs s)).findIdx (fun x => !underB x s) < (xs.drop (lowN xs s)).length := by
    rw [List.length_drop]; unfold runN at h; omega
  have h2 := List.findIdx_getElem (w := h1)
  rw [getD_lt h]
  simp only [List.getElem_drop, Bool.not_eq_true'] at h2
  exact h2
/-- In a set a name is under s just at the places from lowN on, runN many. -/
theorem set_under {xs : List Bs} {s : Bs} (hset : setB xs = true) {i : Nat} (hi : i < xs.length) : underB (xs.getD i []) s = decide (lowN xs s ≤ i ∧ i < lowN xs s + runN xs s) := by
  rw [Bool.eq_iff_iff]
  simp only [decide_eq_true_eq]
  constructor
  · intro h
    refine ⟨set_under_low h, ?_⟩
    rcases Nat.lt_or_ge i (lowN xs s + runN xs s) with h1 | h1
    · exact h1
    · have h2 := set_under_down hset (i := lowN xs s + runN xs s) (Nat.le_add_right _ _) h1 hi h
      rw [runN_out (by omega)] at h2; cases h2
  · rintro ⟨h1, h2⟩; exact runN_in h1 h2
/-- What a binary search finds. -/
theorem runN_of {xs : List Bs} {s : Bs} {r : Nat} (hset : setB xs = true) (h1 : lowN xs s + r ≤ xs.length) (h2 : 0 < r → underB (xs.getD (lowN xs s + (r - 1)) []) s = true)
    (h3 : lowN xs s + r < xs.length → underB (xs.getD (lowN xs s + r) []) s = false) : r = runN xs s := by
  rcases Nat.lt_trichotomy r (runN xs s) with h | h | h
  · have h4 := runN_le xs s
    have := runN_in (xs := xs) (s := s) (i := lowN xs s + r) (by omega) (by omega)
    rw [h3 (by omega)] at this; cases this
  · exact h
  · have h4 := h2 (by omega)
    rw [set_under hset (by omega)] at h4
    simp only [decide_eq_true_eq] at h4
    omega
end Go.Proofs.YtieeloealklkgaaGreatDoor

/-
  name.Range.
-/
namespace Go.Proofs.YtieeloealklkgaaGreatDoor
open Go.RowKit
attribute [local go_sem ↓] Go.wp_at_zero Go.wp_at_succ

set_option maxRecDepth 100000 in
set_option maxHeartbeats 4000000 in
/-- The closure in Range. -/
theorem rangeC_any (bl bf bS : Nat) (a : Option Addr) (n cap f i : Nat) (xs : List Bs) (s : Bs) (w : World) (hn : xs.length = n) (hm : n ≤ 1000000) (hp : ∀ p ∈ xs, p.length ≤ 100000) (hs : s.length ≤ 100000)
    (hc : Cells w a (xs.map strV)) (hl : w.cell? ⟨bl, 0, none⟩ = some (.slice a n cap)) (hf : w.cell? ⟨bf, 0, none⟩ = some (.int .i64 f)) (hS : w.cell? ⟨bS, 0, none⟩ = some (.string (bs s))) (hi : f + i < n) :
    Calls Tryz.prog 93 #[.int .i64 i, .pointer (some ⟨bl, 0, none⟩), .pointer (some ⟨bf, 0, none⟩), .pointer (some ⟨bS, 0, none⟩)] w fun e w' => e = .returned (.bool (!underB (xs.getD (f + i) []) s)) ∧ Below w.heap.size w w' := by
  obtain ⟨b, off, rfl, hcx⟩ := strGet hc (by rw [hn]; exact hi)
  obtain ⟨x, hx⟩ : ∃ x, xs.getD (f + i) [] = x := ⟨_, rfl⟩
  have hxl : x.length ≤ 100000 := by
    rw [← hx]
    obtain ⟨y, hy⟩ : ∃ y, xs[f + i]? = some y := ⟨_, List.getElem?_eq_getElem (by rw [hn]; exact hi)⟩
    rw [getD_of hy]; exact hp y (List.mem_of_getElem? hy)
  rw [hx] at hcx ⊢
  have HO := fun W => Under_any (bs x) (bs s) W hxl hs
  simp only [toList_bs] at HO
  obtain ⟨c, hcd⟩ : ∃ c, underB x s = c := ⟨_, rfl⟩
  rw [hcd] at HO ⊢
  have HO' := Lib.hid HO
  have c1 : (0 : Int) ≤ (f : Int) + (i : Int) := by omega
  have c2 : (f : Int) + (i : Int) < (n : Int) := by omega
  have c3 : IntKind.i64.wrap ((f : Int) + (i : Int)) = (f : Int) + (i : Int) := IntWalk.i64_in _ (by omega)
  have c4 : ((f : Int) + (i : Int)).toNat = f + i := by omega
  clear hn hp hc hx hcd HO
  go_enter Tryz.func93, Tryz.ntmps93
  go_wp2_with fail
  go_region_held3 (fun w' => w'.cell? ⟨bl, 0, none⟩ = some (.slice (some ⟨b, off, none⟩) n cap) ∧ w'.cell? ⟨bf, 0, none⟩ = some (.int .i64 f) ∧ w'.cell? ⟨bS, 0, none⟩ = some (.string (bs s)) ∧ w'.cell? ⟨b, off + (f + i), none⟩ = some (.string (bs x))) (first | go_keep | (refine ⟨Below.keep hb1 ?_, Below.keep hb1 ?_, Below.keep hb1 ?_, Below.keep hb1 ?_⟩ <;> go_keep))
    ((go_at_call 56; refine (HO'.out _).mono ?_; rintro e w1 ⟨rfl, hb1⟩))
  all_goals go_wp2
  all_goals go_ret
  all_goals exact ⟨rfl, (Below.refl w.heap.size w).drew.trans hb1⟩

def RangePost (xs : List Bs) (s : Bs) (w : World) (e : Ending) (w' : World) : Prop :=
  e = .returned (if setB xs then (if rightB s then .tuple #[.int .i64 (lowN xs s), .int .i64 ((lowN xs s + runN xs s : Nat) : Int), .int .i64 0] else .tuple #[.int .i64 0, .int .i64 0, .int .i64 40]) else .tuple #[.int .i64 0, .int .i64 0, .int .i64 41]) ∧ Below w.heap.size w w'

set_option maxRecDepth 100000 in
set_option maxHeartbeats 800000 in
theorem Range_any (a : Option Addr) (n cap : Nat) (xs : List Bs) (s : Bs) (w : World) (hn : xs.length = n) (hm : n ≤ 1000000) (hp : ∀ p ∈ xs, p.length ≤ 100000) (hs : s.length ≤ 100000)
    (hc : Cells w a (xs.map strV)) :
    Calls Tryz.prog 42 #[.slice a n cap, .string (bs s)] w (RangePost xs s w) := by
  have hmf : ∀ (fn : Fn) (first cap : Array Value) (w : World), (Instr.makeFunc fn first cap).run Tryz.prog w = .ok (.func fn first cap) w := fun _ _ _ _ => rfl
  obtain ⟨W0, hW0⟩ : ∃ W0, W0 = (w.alloc (.cells #[.slice a n cap] 36)).alloc (.cells #[.string (bs s)] 9) := ⟨_, rfl⟩
  have hb0 : Below w.heap.size w W0 := by rw [hW0]; exact ((Below.refl _ _).alloc (Nat.le_refl _) _).alloc (by simp) _
  have x1 : Box W0 w.heap.size (.slice a n cap) := by rw [hW0]; exact (Box.new _ _ _).alloc _
  have x2 : Box W0 (w.heap.size + 1) (.string (bs s)) := by
    have := Box.new (w.alloc (.cells #[.slice a n cap] 36)) (.string (bs s)) 9
    rw [hW0]; simpa using this
  have HS := fun W (hb : Below W0.heap.size W0 W) => Set_any a n cap xs W hn hm hp (hc.below (hb0.trans (hb.mono hb0.size)))
  have HR := fun W => Right_any (bs s) W (by unfold maxLen; rw [size_bs]; omega)
  simp only [toList_bs] at HR
  have HP := fun W (hb : Below W0.heap.size W0 W) => place_any a n cap xs s W hn hm hp hs (hc.below (hb0.trans (hb.mono hb0.size)))
  obtain ⟨r1, h1⟩ : ∃ r, setB xs = r := ⟨_, rfl⟩
  obtain ⟨r2, h2⟩ : ∃ r, rightB s = r := ⟨_, rfl⟩
  rw [h1] at HS
  rw [h2] at HR
  have HS' := Lib.hid HS
  have HR' := Lib.hid HR
  have HP' := Lib.hid HP
  have H1 := Lib.hid h1
  have H2 := Lib.hid h2
  have Hn := Lib.hid hn
  have Hc := Lib.hid hc
  have Hp := Lib.hid hp
  have hl1 := x1.cell
  have hl2 := x2.cell
  have HW := Lib.hid hW0
  clear HS HR HP h1 h2 hn hc hp hW0
  cases r1 with
  | false =>
    go_enter Tryz.func42, Tryz.ntmps42
    go_wp2_with fail
    rw [← HW.out]
    go_wp2_with fail
    refine (HS'.out _ (Below.refl _ _)).mono ?_
    rintro e w1 ⟨rfl, hb1⟩
    go_wp2
    go_ret3
    exact ⟨by rw [H1.out]; rfl, hb0.trans (hb1.mono hb0.size)⟩
  | true =>
    cases r2 with
    | false =>
      go_enter Tryz.func42, Tryz.ntmps42
      go_wp2_with fail
      rw [← HW.out]
      go_wp2_with fail
      refine (HS'.out _ (Below.refl _ _)).mono ?_
      rintro e w1 ⟨rfl, hb1⟩
      have k1 := Below.keep hb1 hl1
      have k2 := Below.keep hb1 hl2
      go_wp2_with fail
      refine (HR'.out _).mono ?_
      rintro e w1 ⟨rfl, rfl⟩
      go_wp2
      go_ret3
      exact ⟨by rw [H1.out, H2.out]; rfl, hb0.trans (hb1.mono hb0.size)⟩
    | true =>
      go_enter Tryz.func42, Tryz.ntmps42
      go_wp2_with fail
      rw [← HW.out]
      go_wp2_with fail
      refine (HS'.out _ (Below.refl _ _)).mono ?_
      rintro e w1 ⟨rfl, hb1⟩
      have k1 := Below.keep hb1 hl1
      have k2 := Below.keep hb1 hl2
      go_wp2_with fail
      refine (HR'.out _).mono ?_
      rintro e w1 ⟨rfl, rfl⟩
      go_wp2_with fail
      refine (HP'.out _ hb1).mono ?_
      rintro e w2 ⟨r, rfl, hat, hb2⟩
      have hr := Lib.hid (atN_low H1.out hat)
      have hrn : r ≤ n := by rw [← Hn.out]; exact hat.1
      have q1 := Below.keep hb2 k1
      have q2 := Below.keep hb2 k2
      clear hat
      have fin : Hid (∀ (q : Nat) (W : World), q ≤ n - r → (0 < q → underB (xs.getD (r + (q - 1)) []) s = true) → (q < n - r → underB (xs.getD (r + q) []) s = false) → Below w.heap.size w W → RangePost xs s w (.returned (.tuple #[.int .i64 r, .int .i64 ((r : Int) + (q : Int)), .int .i64 0])) W) := fun q W g1 g2 g3 hW => by
        have e := hr.out
        subst e
        have e2 := runN_of (r := q) H1.out (by rw [Hn.out]; omega) g2 (fun h => g3 (by rw [Hn.out] at h; omega))
        subst e2
        exact ⟨by rw [H1.out, H2.out]; simp, hW⟩
      have hbw := hb0.trans ((hb1.trans (hb2.mono hb1.size)).mono hb0.size)
      go_wp2_with fail
      obtain ⟨W3, hW3⟩ : ∃ W3, W3 = w2.alloc (.cells #[.int .i64 r] 3) := ⟨_, rfl⟩
      have b3 : Below w2.heap.size w2 W3 := by rw [hW3]; exact (Below.refl _ _).alloc (Nat.le_refl _) _
      have z1 := Below.keep b3 q1
      have z2 := Below.keep b3 q2
      have z3 : W3.cell? ⟨w2.heap.size, 0, none⟩ = some (.int .i64 r) := by rw [hW3]; exact (Box.new _ _ _).cell
      have hbw3 : Below w.heap.size w W3 := hbw.trans (b3.mono hbw.size)
      have HSr : ∀ W, Below W3.heap.size W3 W → Calls Tryz.prog 92 #[.int .i64 ((n : Int) - (r : Int)), .func (.func 93) #[] #[.pointer (some ⟨w.heap.size, 0, none⟩), .pointer (some ⟨w2.heap.size, 0, none⟩), .pointer (some ⟨w.heap.size + 1, 0, none⟩)]] W (SearchPost (n - r) (fun i => !underB (xs.getD (r + i) []) s) W) := fun W hW => by
        have hpred : Pred 93 #[.pointer (some ⟨w.heap.size, 0, none⟩), .pointer (some ⟨w2.heap.size, 0, none⟩), .pointer (some ⟨w.heap.size + 1, 0, none⟩)] (n - r) (fun i => !underB (xs.getD (r + i) []) s) W := fun W' i hb hi =>
          rangeC_any _ _ _ a n cap r i xs s W' Hn.out hm Hp.out hs (Hc.out.below ((hbw3.trans (hW.mono hbw3.size)).trans (hb.mono (Nat.le_trans hbw3.size hW.size))))
            (Below.keep hb (Below.keep hW z1)) (Below.keep hb (Below.keep hW z3)) (Below.keep hb (Below.keep hW z2)) (by omega)
        have := Search_any _ _ (n - r) _ W (by intro args w; rfl) (by omega) hpred
        rw [show ((n - r : Nat) : Int) = (n : Int) - (r : Int) from by omega] at this
        exact this
      have HSr' := Lib.hid HSr
      rw [← hW3]
      have cw : IntKind.i64.wrap ((n : Int) - (r : Int)) = (n : Int) - (r : Int) := IntWalk.i64_in _ (by omega)
      clear HSr hW3 hbw hb0 b3 hmf x1 x2 k1 k2 q1 q2 hl1 hl2 hb2 hb1
      go_region_held3 (fun w' => w'.cell? ⟨w.heap.size, 0, none⟩ = some (.slice a n cap) ∧ w'.cell? ⟨w.heap.size + 1, 0, none⟩ = some (.string (bs s)) ∧ w'.cell? ⟨w2.heap.size, 0, none⟩ = some (.int .i64 r)) (first | go_keep | (refine ⟨Below.keep hb5 ?_, Below.keep hb5 ?_, Below.keep hb5 ?_⟩ <;> go_keep))
        ((go_at_call 92; refine (HSr'.out _ (by first | exact Below.refl _ _ | exact (Below.refl _ _).drew)).mono ?_; rintro e w5 ⟨q, rfl, g1, g2, g3, hb5⟩; have G2 := Lib.hid g2; have G3 := Lib.hid g3; clear g2 g3; have cq : IntKind.i64.wrap ((r : Int) + (q : Int)) = (r : Int) + (q : Int) := IntWalk.i64_in _ (by omega)))
      have z5 := Below.keep hb5 (show W3.drew.cell? ⟨w2.heap.size, 0, none⟩ = some (.int .i64 r) from z3)
      clear cq cw
      go_wp2
      go_ret3
      exact fin.out q _ g1 (fun h => by have := G2.out h; simpa using this) (fun h => by have := G3.out h; simpa using this) ((hbw3.drew).trans (hb5.mono hbw3.size))
end Go.Proofs.YtieeloealklkgaaGreatDoor

/-
  awake: the examples of the chapter.
-/
namespace Go.Proofs.YtieeloealklkgaaGreatDoor
open Go.RowKit Go.Maps
attribute [local go_sem ↓] Go.wp_at_zero Go.wp_at_succ

end Go.Proofs.YtieeloealklkgaaGreatDoor

/-
  Made: names of small numbers.
-/
namespace Go.Proofs.YtieeloealklkgaaGreatDoor
open Go.RowKit

def prt (i : Nat) : Bs := [[97], [97, 45, 98], [97, 48], [98], [105, 110], [111, 117, 116], [112, 111, 114, 116, 45, 49], [122]].getD i []
/-- The name of a number. -/
def madeB (n : Nat) : Bs :=
  prt (n % 8) ++ (if 0 < n / 8 % 4 then 46 :: prt (n / 32 % 8) else []) ++ (if 1 < n / 8 % 4 then 46 :: prt (n / 256 % 8) else [])

theorem scan_append (a b : Bs) (s : UInt8) : scan s (a ++ b) = (match scan s a with | some d => scan d b | none => none) := by
  induction a generalizing s with
  | nil => rfl
  | cons x r ih => simp only [List.cons_append, scan]; cases stp s x <;> simp [ih]
theorem scan_dot (a b : Bs) (h : endOk (scan 46 a) = true) : scan 46 (a ++ 46 :: b) = scan 46 b := by
  rw [scan_append]
  cases hs : scan 46 a with
  | none => rw [hs] at h; cases h
  | some d =>
    rw [hs] at h
    simp [endOk] at h
    simp [scan, stp, okc, h.1, h.2]
end Go.Proofs.YtieeloealklkgaaGreatDoor

/-
  The parts of a name, joined, are the name. Plain Lean.
-/
namespace Go.Proofs.YtieeloealklkgaaGreatDoor
open Go.RowKit

theorem glue_join (l : List Bs) : joinB l = glue l := by
  unfold joinB Lib.join
  match l with
  | [] => rfl
  | [p] => simp [glue]
  | p :: q :: r =>
    have ih := glue_join (q :: r)
    unfold joinB Lib.join at ih
    rw [List.intercalate_cons_cons, ih]
    simp [glue]
theorem indexByte_none (l : Bs) (h : ∀ c ∈ l, c ≠ 46) : Lib.indexByte l 46 = -1 := by
  induction l with
  | nil => rfl
  | cons c r ih =>
    have h1 := ih (fun x hx => h x (by simp [hx]))
    have h2 := h c (by simp)
    simp [Lib.indexByte, h1, h2]
theorem cut_sum (l : Bs) : (cut l).length + sumMin (cut l) ≤ l.length + 1 := by
  induction l with
  | nil => simp [cut, sumMin]
  | cons x r ih =>
    simp only [cut]
    split
    · simp [sumMin]; omega
    · cases hc : cut r with
      | nil => exact absurd hc (cut_ne r)
      | cons q t =>
        rw [hc] at ih
        simp only [List.headD_cons, List.tail_cons, List.length_cons, sumMin] at ih ⊢
        omega
theorem cut_head_len (l : Bs) : ∀ p ∈ cut l, p.length ≤ l.length := by
  induction l with
  | nil => intro p hp; simp [cut] at hp; subst hp; simp
  | cons x r ih =>
    intro p hp
    simp only [cut] at hp
    split at hp
    · rcases List.mem_cons.1 hp with rfl | h
      · simp
      · have := ih p h; simp; omega
    · cases hc : cut r with
      | nil => exact absurd hc (cut_ne r)
      | cons q t =>
        rw [hc] at hp ih
        simp only [List.headD_cons, List.tail_cons] at hp
        rcases List.mem_cons.1 hp with rfl | h
        · have := ih q (by simp); simp; omega
        · have := ih p (by simp [h]); simp; omega

end Go.Proofs.YtieeloealklkgaaGreatDoor

/-
  The reference's parts: plain Lean.
-/
namespace Go.Proofs.YtieeloealklkgaaGreatDoor
open Go.RowKit

/-- What the reference asks of the byte at an index of a part. -/
def pcOk (l : Bs) (i : Nat) : Bool :=
  !(decide ((l.getD i 0).toNat = 45) && (decide (i = 0) || decide (i + 1 = l.length))) && (decide ((l.getD i 0).toNat = 45) || okc (l.getD i 0))
def partB (l : Bs) : Bool := (List.range l.length).all (pcOk l) && decide (0 < l.length)

theorem partB_iff (l : Bs) : partB l = true ↔ 0 < l.length ∧ (∀ i, i < l.length → ((l.getD i 0).toNat = 45 ∨ okc (l.getD i 0) = true)) ∧ (l.getD 0 0).toNat ≠ 45 ∧ (l.getD (l.length - 1) 0).toNat ≠ 45 := by
  unfold partB
  simp only [Bool.and_eq_true, List.all_eq_true, List.mem_range, decide_eq_true_eq, pcOk, Bool.not_eq_true', Bool.and_eq_false_iff, Bool.or_eq_false_iff, Bool.or_eq_true, decide_eq_false_iff_not]
  constructor
  · rintro ⟨h, h0⟩
    refine ⟨h0, fun i hi => (h i hi).2, ?_, ?_⟩
    · rcases (h 0 h0).1 with h1 | h1
      · exact h1
      · exact absurd rfl h1.1
    · rcases (h (l.length - 1) (by omega)).1 with h1 | h1
      · exact h1
      · exact absurd (by omega) h1.2
  · rintro ⟨h0, h1, h2, h3⟩
    refine ⟨fun i hi => ⟨?_, h1 i hi⟩, h0⟩
    by_cases hi0 : i = 0
    · subst hi0; exact .inl h2
    · by_cases hil : i + 1 = l.length
      · left; rw [show i = l.length - 1 from by omega]; exact h3
      · exact .inr ⟨hi0, hil⟩

theorem scan_mid (p : Bs) (b : UInt8) (hb : b.toNat ≠ 46) (hf : ∀ c ∈ p, c ≠ 46) :
    endOk (scan b p) = (p.all (fun c => decide (c.toNat = 45) || okc c) && !decide (((b :: p).getLast (by simp)).toNat = 45)) := by
  induction p generalizing b with
  | nil => rw [Bool.eq_iff_iff]; simp [scan, endOk, hb]; exact ⟨fun h => decide_eq_false h, fun h => of_decide_eq_false h⟩
  | cons c r ih =>
    have hc : c ≠ 46 := hf c (by simp)
    have hcn : c.toNat ≠ 46 := fun e => hc (UInt8.toNat_inj.1 e)
    simp only [scan, stp]
    by_cases h1 : okc c = true
    · rw [if_pos h1, ih c hcn (fun x hx => hf x (by simp [hx]))]
      rw [Bool.eq_iff_iff]; simp [h1]; intro _; exact ⟨fun h => decide_eq_false h, fun h => of_decide_eq_false h⟩
    · by_cases h2 : c.toNat = 45
      · rw [if_neg h1, if_pos h2, if_neg hb]
        dsimp only
        rw [ih c hcn (fun x hx => hf x (by simp [hx]))]
        rw [Bool.eq_iff_iff]; simp [h2]; intro _; exact ⟨fun h => decide_eq_false h, fun h => of_decide_eq_false h⟩
      · rw [if_neg h1, if_neg h2, if_neg hcn]
        simp [endOk, h1, h2]

theorem scan_part (p : Bs) (hf : ∀ c ∈ p, c ≠ 46) : endOk (scan 46 p) = partB p := by
  rw [Bool.eq_iff_iff, partB_iff]
  cases p with
  | nil => simp [scan, endOk]
  | cons c r =>
    have hc : c ≠ 46 := hf c (by simp)
    have hcn : c.toNat ≠ 46 := fun e => hc (UInt8.toNat_inj.1 e)
    have hlast : ((c :: r).getD ((c :: r).length - 1) 0) = (c :: r).getLast (by simp) := by
      rw [List.getD_eq_getElem?_getD, List.getElem?_eq_getElem (by simp), List.getLast_eq_getElem]; rfl
    have hall : (∀ i, i < (c :: r).length → (((c :: r).getD i 0).toNat = 45 ∨ okc ((c :: r).getD i 0) = true)) ↔ (c.toNat = 45 ∨ okc c = true) ∧ (r.all (fun c => decide (c.toNat = 45) || okc c) = true) := by
      rw [List.all_eq_true]
      constructor
      · intro h
        refine ⟨h 0 (by simp), fun x hx => ?_⟩
        obtain ⟨i, hi, rfl⟩ := List.getElem_of_mem hx
        have := h (i + 1) (by simp; omega)
        rw [show (c :: r).getD (i + 1) 0 = r[i] from by simp [List.getD_eq_getElem?_getD, List.getElem?_eq_getElem hi]] at this
        simpa using this
      · rintro ⟨h1, h2⟩ i hi
        cases i with
        | zero => exact h1
        | succ i =>
          have hi' : i < r.length := by simpa using hi
          have := h2 r[i] (List.getElem_mem hi')
          rw [show (c :: r).getD (i + 1) 0 = r[i] from by simp [List.getD_eq_getElem?_getD, List.getElem?_eq_getElem hi']]
          simpa using this
    rw [hall, hlast]
    simp only [scan, stp]
    by_cases h1 : okc c = true
    · rw [if_pos h1]
      dsimp only
      rw [scan_mid r c hcn (fun x hx => hf x (by simp [hx]))]
      have h45 : c.toNat ≠ 45 := fun e => by rw [okc_iff] at h1; omega
      simp only [Bool.and_eq_true, decide_eq_true_eq]
      simp [h1, h45]
    · rw [if_neg h1]
      by_cases h2 : c.toNat = 45
      · simp [h2, endOk]
      · rw [if_neg h2, if_neg hcn]; simp [endOk, h1, h2]

theorem cut_free' (p : Bs) (h : ∀ c ∈ p, c ≠ 46) : cut p = [p] := by
  induction p with
  | nil => rfl
  | cons x r ih =>
    simp only [cut]
    rw [if_neg (h x (by simp)), ih (fun c hc => h c (by simp [hc]))]; rfl
/-- A string is its first part, and, behind a point, the rest. -/
theorem cut_split (l : Bs) : (∃ p, (∀ c ∈ p, c ≠ 46) ∧ l = p) ∨ (∃ p r, (∀ c ∈ p, c ≠ 46) ∧ l = p ++ 46 :: r) := by
  induction l with
  | nil => exact .inl ⟨[], by simp, rfl⟩
  | cons x t ih =>
    by_cases hx : x = 46
    · subst hx; exact .inr ⟨[], t, by simp, rfl⟩
    · rcases ih with ⟨p, hp, rfl⟩ | ⟨p, r, hp, rfl⟩
      · refine .inl ⟨x :: t, fun c hc => ?_, rfl⟩
        rcases List.mem_cons.1 hc with rfl | h
        · exact hx
        · exact hp c h
      · refine .inr ⟨x :: p, r, fun c hc => ?_, rfl⟩
        rcases List.mem_cons.1 hc with rfl | h
        · exact hx
        · exact hp c h
theorem scan_dead (p r : Bs) (h : endOk (scan 46 p) = false) : endOk (scan 46 (p ++ 46 :: r)) = false := by
  rw [scan_append]
  cases hs : scan 46 p with
  | none => rfl
  | some d =>
    rw [hs] at h
    simp only [scan, stp, endOk] at h ⊢
    have hd : d.toNat = 46 ∨ d.toNat = 45 := by
      simp at h; omega
    rw [if_neg (by decide), if_neg (by decide), if_pos (by decide), if_pos hd]
theorem scan_cut (l : Bs) : endOk (scan 46 l) = (cut l).all partB := by
  have key : ∀ n (l : Bs), l.length ≤ n → endOk (scan 46 l) = (cut l).all partB := by
    intro n
    induction n with
    | zero =>
      intro l hl
      obtain rfl : l = [] := List.length_eq_zero_iff.1 (by omega)
      rfl
    | succ n ih =>
      intro l hl
      rcases cut_split l with ⟨p, hp, rfl⟩ | ⟨p, r, hp, rfl⟩
      · rw [cut_free' _ hp, scan_part _ hp]; simp
      · rw [cut_dot, cut_free' _ hp]
        have h1 := scan_part _ hp
        by_cases h : endOk (scan 46 p) = true
        · rw [scan_dot _ _ h, ih r (by simp at hl; omega)]
          rw [h] at h1
          simp [← h1]
        · rw [Bool.not_eq_true] at h
          rw [scan_dead _ _ h]
          rw [h] at h1
          simp [← h1]
  exact key _ l (Nat.le_refl _)
theorem rightB_cut (l : Bs) : rightB l = (decide (l.length ≤ 32) && headOk l && (cut l).all partB) := by
  unfold rightB; rw [scan_cut]
end Go.Proofs.YtieeloealklkgaaGreatDoor

/-
  The reference: Part, cut, Right.
-/
namespace Go.Proofs.YtieeloealklkgaaGreatDoor
open Go.RowKit
attribute [local go_sem ↓] Go.wp_at_zero Go.wp_at_succ

set_option maxRecDepth 100000 in
set_option maxHeartbeats 4000000 in
theorem refPart_any (s : ByteArray) (w : World) (hs : s.size ≤ 100000) :
    Calls Tryz.prog 99 #[.string s] w fun e w' => e = .returned (.bool (partB s.data.toList)) ∧ w = w' := by
  obtain ⟨R, hR⟩ : ∃ R, partB s.data.toList = R := ⟨_, rfl⟩
  rw [hR]
  have HR := Lib.hid hR
  have hlen : s.data.toList.length = s.size := by simp
  have Hlen := Lib.hid hlen
  clear hR hlen
  go_enter Tryz.func99, Tryz.ntmps99
  go_wp2
  go_loop [3] (fun i => ∃ k : Nat, k ≤ s.size ∧ i = .int .i64 k ∧ Hid ((List.range k).all (pcOk s.data.toList) = true)) (fun i => s.size - (intOf i).toNat)
  case atStart => exact ⟨0, Nat.zero_le _, rfl, rfl⟩
  case round =>
    obtain ⟨k, hk, rfl, hpre⟩ := hrel
    by_cases hlt : k < s.size
    · have hb := UInt8.toNat_lt s[k]
      have hx : Hid (s.data.toList.getD k 0 = s[k]) := by
        unfold Hid; rw [List.getD_eq_getElem?_getD, List.getElem?_eq_getElem (by rw [Hlen.out]; exact hlt)]; rfl
      have hgood : Hid (pcOk s.data.toList k = true → (List.range (k + 1)).all (pcOk s.data.toList) = true) := fun h => by
        rw [List.range_succ, List.all_append, hpre.out]; simp [h]
      have hbad : Hid (pcOk s.data.toList k = false → false = R) := fun h => by
        rw [← HR.out]
        have : (List.range s.data.toList.length).all (pcOk s.data.toList) = false := by
          rw [Bool.eq_false_iff]; intro h2
          have := List.all_eq_true.1 h2 k (List.mem_range.2 (by rw [Hlen.out]; exact hlt))
          rw [h] at this; cases this
        rw [partB, this]; rfl
      have hpc : Hid (pcOk s.data.toList k = (!(decide (s[k].toNat = 45) && (decide (k = 0) || decide (k + 1 = s.size))) && (decide (s[k].toNat = 45) || okc s[k]))) := by
        unfold Hid pcOk; rw [hx.out, Hlen.out]
      have hok : Hid (okc s[k] = true ↔ (97 ≤ s[k].toNat ∧ s[k].toNat ≤ 122) ∨ (48 ≤ s[k].toNat ∧ s[k].toNat ≤ 57)) := okc_iff _
      clear hx
      by_cases h45 : s[k].toNat = 45
      · have t1 : ((s[k].toNat : Int) == 45) = true := by simp [h45]
        have t1n : ((s[k].toNat : Int) != 45) = false := by simp [h45]
        by_cases h0 : k = 0
        · have hbd : Hid (false = R) := hbad.out (by rw [hpc.out, decide_eq_true h45, decide_eq_true h0]; rfl)
          have t2 : ((k : Int) == 0) = true := by simp [h0]
          clear h45 h0
          go_wp2
          go_ret
          exact ⟨ret_bool hbd.out, rfl⟩
        · have t2 : ((k : Int) == 0) = false := by simp [h0]
          by_cases hl : k + 1 = s.size
          · have hbd : Hid (false = R) := hbad.out (by rw [hpc.out, decide_eq_true h45, decide_eq_false h0, decide_eq_true hl]; rfl)
            have t3 : ((k : Int) == (s.size : Int) - 1) = true := by simp; omega
            clear h45 h0 hl
            go_wp2
            go_ret
            exact ⟨ret_bool hbd.out, rfl⟩
          · have hgd := Lib.hid (hgood.out (by rw [hpc.out, decide_eq_true h45, decide_eq_false h0, decide_eq_false hl]; rfl))
            have t3 : ((k : Int) == (s.size : Int) - 1) = false := by simp; omega
            clear h45 h0 hl
            go_wp2
            go_round
            case rel => exact ⟨k + 1, by omega, by go_num, hgd.out⟩
            case measure => simp [intOf]; omega
      · have t1 : ((s[k].toNat : Int) == 45) = false := by simp; omega
        have t1n : ((s[k].toNat : Int) != 45) = true := by simp; omega
        by_cases hc : okc s[k] = true
        · have hgd := Lib.hid (hgood.out (by rw [hpc.out, decide_eq_false h45, hc]; rfl))
          have hcc := hok.out.1 hc
          clear hc hok
          rcases hcc with ⟨g1, g2⟩ | ⟨g1, g2⟩
          · have g3 : 57 < s[k].toNat := by omega
            clear h45
            go_wp2
            go_round
            case rel => exact ⟨k + 1, by omega, by go_num, hgd.out⟩
            case measure => simp [intOf]; omega
          · clear h45
            go_wp2
            go_round
            case rel => exact ⟨k + 1, by omega, by go_num, hgd.out⟩
            case measure => simp [intOf]; omega
        · have hbd : Hid (false = R) := hbad.out (by rw [hpc.out, decide_eq_false h45, Bool.eq_false_iff.2 hc]; rfl)
          have hcc := fun h => hc (hok.out.2 h)
          clear hc hok
          rcases Nat.lt_or_ge s[k].toNat 48 with g1 | g1
          · have g2 : s[k].toNat < 97 := by omega
            clear h45 hcc
            go_wp2
            go_ret
            exact ⟨ret_bool hbd.out, rfl⟩
          · have g0 : 57 < s[k].toNat := by
              rcases Nat.lt_or_ge 57 s[k].toNat with h | h
              · exact h
              · exact absurd (Or.inr ⟨g1, h⟩) hcc
            rcases Nat.lt_or_ge s[k].toNat 97 with g2 | g2
            · clear h45 hcc
              go_wp2
              go_ret
              exact ⟨ret_bool hbd.out, rfl⟩
            · have g3 : 122 < s[k].toNat := by
                rcases Nat.lt_or_ge 122 s[k].toNat with h | h
                · exact h
                · exact absurd (Or.inl ⟨g2, h⟩) hcc
              clear h45 hcc
              go_wp2
              go_ret
              exact ⟨ret_bool hbd.out, rfl⟩
    · have hkk : k = s.size := by omega
      have hres : Hid (decide (0 < s.size) = R) := by
        unfold Hid; rw [← HR.out, partB, Hlen.out]
        have := hpre.out
        rw [hkk] at this
        rw [this, Bool.true_and]
      clear hkk
      go_wp2
      go_ret
      exact ⟨ret_bool hres.out, rfl⟩

theorem extract_bs (l : Bs) (a b : Nat) (hb : b ≤ l.length) : (bs l).extract a b = bs ((l.drop a).take (b - a)) := by
  apply ByteArray.ext; apply Array.ext'; simp [bs]

set_option maxRecDepth 100000 in
set_option maxHeartbeats 4000000 in
theorem refCut_any (l : Bs) (w : World) (hs : l.length ≤ 100000) :
    Calls Tryz.prog 96 #[.string (bs l)] w fun e w' => ∃ v, e = .returned v ∧ w'.ownsRow w.heap.size 9 1 v (cut l).length ((cut l).map strV) ∧ Below w.heap.size w w' := by
  obtain ⟨i0, hi, hz0, hz1, hz2⟩ := info_parts info_str
  have hsz : (bs l).size = l.length := rfl
  have hsz' := Lib.hid hsz
  have hs' : (bs l).size ≤ 100000 := hs
  clear hsz
  go_enter Tryz.func96, Tryz.ntmps96
  go_wp2
  go_loopw [3, 4, 5] (fun o f i wr => ∃ (from_ k : Nat) (done : List Bs) (n : Nat), f = .int .i64 from_ ∧ i = .int .i64 k ∧ from_ ≤ k ∧ k ≤ (bs l).size + 1 ∧ n ≤ from_ ∧ (k = (bs l).size + 1 → from_ = k) ∧
      Hid (done.length = n) ∧ wr.ownsRow w.heap.size 9 1 o n (done.map strV) ∧
      Hid ((k ≤ l.length → done ++ cut (l.drop from_) = cut l ∧ ∀ c ∈ (l.drop from_).take (k - from_), c ≠ 46) ∧ (k = l.length + 1 → done = cut l)) ∧ Below w.heap.size w wr) (fun _ _ i _ => (bs l).size + 1 - (intOf i).toNat)
  case atStart => exact ⟨0, 0, [], 0, rfl, rfl, Nat.le_refl _, by omega, Nat.le_refl _, (fun h => by omega), rfl, World.ownsRow_nil _ _ _ _, ⟨fun _ => ⟨rfl, by simp⟩, fun h => by omega⟩, Below.refl _ _⟩
  case round =>
    obtain ⟨from_, k, done, n, rfl, rfl, h1, h2, h3, h4, hdone, hown, hinv, hb⟩ := hrel
    by_cases hlt : k ≤ (bs l).size
    · have hfv : ∃ sa sn sc, u3 = .slice sa sn sc := by
        rcases hown.2 with ⟨rfl, _⟩ | ⟨g, cap, cur, rfl, _⟩
        · exact ⟨_, _, _, rfl⟩
        · exact ⟨_, _, _, rfl⟩
      have c0 : (0 : Int) ≤ (from_ : Int) := by omega
      have c1 : (from_ : Int) ≤ (k : Int) := by omega
      have c2 : (k : Int) ≤ ((bs l).size : Int) := by omega
      by_cases hend : k = (bs l).size
      · have hkl : Hid (k = l.length) := by rw [Hid, ← hsz'.out]; exact hend
        have t1 : ((k : Int) == ((bs l).size : Int)) = true := by simp; omega
        have hfin : Hid ((k + 1 ≤ l.length → done ++ [(l.drop from_).take (k - from_)] ++ cut (l.drop (k + 1)) = cut l ∧ ∀ c ∈ (l.drop (k + 1)).take (k + 1 - (k + 1)), c ≠ 46) ∧ (k + 1 = l.length + 1 → done ++ [(l.drop from_).take (k - from_)] = cut l)) := by
          refine ⟨fun h => by have := hkl.out; omega, fun _ => ?_⟩
          obtain ⟨i1, i2⟩ := hinv.out.1 (by have := hkl.out; omega)
          have e : (l.drop from_).take (k - from_) = l.drop from_ := List.take_of_length_le (by rw [List.length_drop]; have := hkl.out; omega)
          rw [e] at i2 ⊢
          rw [← i1, cut_free' _ i2]
        clear hend
        go_wp2_with (at_builtin; refine wpList_append_own _ rfl _ _ 36 rfl w.heap.size 9 i0 (.string ⟨#[]⟩) 1 16 Tryz.underlying36 hi hz0 hz1 hz2 rfl (by decide) u3 n _ rfl (hown.alloc _) ⟨wr.heap.size, 0, none⟩ 1 1 [.string ((bs l).extract from_ k)] rfl rfl (cell_one_new _ _ _) (by simp [Value.oneCell']) (by unfold maxLen; omega) (by omega) (by have := hb.size; simp; omega) ?_; intro v' w1 hown' hgrow _; obtain ⟨g', cap', rfl⟩ := ownsRow_succ hown'; have hb1 := (hb.alloc hb.size (.cells #[.string ((bs l).extract from_ k)] 9)).grown hgrow (by have := hb.size; simp; omega) (fun j hj => (hown.lt j hj).1))
        refine ⟨?_, by simp [intOf]; omega⟩
        have e1 : (done.map strV ++ [Value.string ((bs l).extract from_ k)]) = ((done ++ [(l.drop from_).take (k - from_)]).map strV) := by
          rw [extract_bs l from_ k (by rw [← hsz'.out]; omega)]; simp [strV]
        rw [e1] at hown'
        first
          | exact ⟨k + 1, k + 1, done ++ [(l.drop from_).take (k - from_)], n + 1, by go_num, by go_num, Nat.le_refl _, by omega, by omega, (fun _ => rfl), by simp [Hid, hdone.out], hown', hfin.out, hb1⟩
          | ((repeat apply Exists.intro); exact ⟨⟨k + 1, k + 1, done ++ [(l.drop from_).take (k - from_)], n + 1, by go_num, by go_num, Nat.le_refl _, by omega, by omega, (fun _ => rfl), by simp [Hid, hdone.out], hown', hfin.out, hb1⟩, rfl⟩)
      · have hlt' : k < (bs l).size := by omega
        have hb8 := UInt8.toNat_lt (bs l)[k]
        have hxe : Hid ((bs l)[k] = l[k]'(by rw [← hsz'.out]; exact hlt')) := rfl
        have t1 : ((k : Int) == ((bs l).size : Int)) = false := by simp; omega
        by_cases h46 : (bs l)[k].toNat = 46
        · have t2 : (((bs l)[k].toNat : Int) == 46) = true := by simp [h46]
          have hfin : Hid ((k + 1 ≤ l.length → done ++ [(l.drop from_).take (k - from_)] ++ cut (l.drop (k + 1)) = cut l ∧ ∀ c ∈ (l.drop (k + 1)).take (k + 1 - (k + 1)), c ≠ 46) ∧ (k + 1 = l.length + 1 → done ++ [(l.drop from_).take (k - from_)] = cut l)) := by
            have hkl : k < l.length := by rw [← hsz'.out]; exact hlt'
            refine ⟨fun _ => ⟨?_, by simp⟩, fun h => by omega⟩
            obtain ⟨i1, i2⟩ := hinv.out.1 (by omega)
            have e : l.drop from_ = (l.drop from_).take (k - from_) ++ 46 :: l.drop (k + 1) := by
              have e46 : l[k] = 46 := UInt8.toNat_inj.1 h46
              have e2 : (l.drop from_).drop (k - from_) = 46 :: l.drop (k + 1) := by
                rw [List.drop_drop, show from_ + (k - from_) = k from by omega, List.drop_eq_getElem_cons hkl, e46]
              rw [← e2, List.take_append_drop]
            rw [← i1, List.append_assoc]
            congr 1
            rw [congrArg cut e, cut_dot, cut_free' _ i2]
          clear h46 hend
          go_wp2_with (at_builtin; refine wpList_append_own _ rfl _ _ 36 rfl w.heap.size 9 i0 (.string ⟨#[]⟩) 1 16 Tryz.underlying36 hi hz0 hz1 hz2 rfl (by decide) u3 n _ rfl (hown.alloc _) ⟨wr.heap.size, 0, none⟩ 1 1 [.string ((bs l).extract from_ k)] rfl rfl (cell_one_new _ _ _) (by simp [Value.oneCell']) (by unfold maxLen; omega) (by omega) (by have := hb.size; simp; omega) ?_; intro v' w1 hown' hgrow _; obtain ⟨g', cap', rfl⟩ := ownsRow_succ hown'; have hb1 := (hb.alloc hb.size (.cells #[.string ((bs l).extract from_ k)] 9)).grown hgrow (by have := hb.size; simp; omega) (fun j hj => (hown.lt j hj).1))
          refine ⟨?_, by simp [intOf]; omega⟩
          have e1 : (done.map strV ++ [Value.string ((bs l).extract from_ k)]) = ((done ++ [(l.drop from_).take (k - from_)]).map strV) := by
            rw [extract_bs l from_ k (by rw [← hsz'.out]; omega)]; simp [strV]
          rw [e1] at hown'
          first
            | exact ⟨k + 1, k + 1, done ++ [(l.drop from_).take (k - from_)], n + 1, by go_num, by go_num, Nat.le_refl _, by omega, by omega, (fun _ => rfl), by simp [Hid, hdone.out], hown', hfin.out, hb1⟩
            | ((repeat apply Exists.intro); exact ⟨⟨k + 1, k + 1, done ++ [(l.drop from_).take (k - from_)], n + 1, by go_num, by go_num, Nat.le_refl _, by omega, by omega, (fun _ => rfl), by simp [Hid, hdone.out], hown', hfin.out, hb1⟩, rfl⟩)
        · have t2 : (((bs l)[k].toNat : Int) == 46) = false := by simp; omega
          have hfin : Hid ((k + 1 ≤ l.length → done ++ cut (l.drop from_) = cut l ∧ ∀ c ∈ (l.drop from_).take (k + 1 - from_), c ≠ 46) ∧ (k + 1 = l.length + 1 → done = cut l)) := by
            have hkl : k < l.length := by rw [← hsz'.out]; exact hlt'
            obtain ⟨i1, i2⟩ := hinv.out.1 (by omega)
            refine ⟨fun _ => ⟨i1, fun c hc => ?_⟩, fun h => by omega⟩
            rw [show k + 1 - from_ = (k - from_) + 1 from by omega, List.take_add_one, List.getElem?_drop, show from_ + (k - from_) = k from by omega, List.getElem?_eq_getElem hkl] at hc
            rcases List.mem_append.1 hc with h | h
            · exact i2 c h
            · simp at h; subst h; exact fun e => h46 (by rw [hxe.out, e]; rfl)
          clear h46 hend
          go_wp2
          refine ⟨?_, by simp [intOf]; omega⟩
          first
            | exact ⟨from_, k + 1, done, n, rfl, by go_num, by omega, by omega, h3, (fun h => by omega), hdone, hown, hfin.out, hb⟩
            | ((repeat apply Exists.intro); exact ⟨⟨from_, k + 1, done, n, rfl, by go_num, by omega, by omega, h3, (fun h => by omega), hdone, hown, hfin.out, hb⟩, rfl⟩)
    · have hk2 : k = (bs l).size + 1 := by omega
      have hfin := hinv.out.2 (by rw [← hsz'.out]; exact hk2)
      have hd := hdone.out
      rw [hfin] at hown hd
      rw [← hd] at hown
      have hfv : ∃ sa sn sc, u3 = .slice sa sn sc := by
        rcases hown.2 with ⟨rfl, _⟩ | ⟨g, cap, cur, rfl, _⟩
        · exact ⟨_, _, _, rfl⟩
        · exact ⟨_, _, _, rfl⟩
      obtain ⟨sa, sn, sc, rfl⟩ := hfv
      have Hown := Lib.hid hown
      clear hown hinv hdone hfin hd h4 hk2
      go_wp2
      go_ret
      exact ⟨_, rfl, Hown.out, hb⟩

set_option maxRecDepth 100000 in
set_option maxHeartbeats 4000000 in
theorem refRight_any (l : Bs) (w : World) (hs : l.length ≤ 100000) :
    Calls Tryz.prog 55 #[.string (bs l)] w fun e w' => e = .returned (.bool (rightB l)) ∧ Below w.heap.size w w' := by
  have hsz' : Hid ((bs l).size = l.length) := rfl
  have hs' : (bs l).size ≤ 100000 := hs
  have hr := rightB_cut l
  obtain ⟨R, hR⟩ : ∃ R, rightB l = R := ⟨_, rfl⟩
  rw [hR] at hr ⊢
  have HR := Lib.hid hr
  clear hr hR
  by_cases h1 : 1 ≤ (bs l).size
  · have hhead : headOk l = (decide (97 ≤ (bs l)[0].toNat) && decide ((bs l)[0].toNat ≤ 122)) := by
      cases l with
      | nil => have : (bs []).size = 0 := rfl; omega
      | cons c r => rfl
    have Hhead := Lib.hid hhead
    clear hhead
    by_cases h2 : (bs l).size ≤ 32
    · by_cases h3 : 97 ≤ (bs l)[0].toNat
      · by_cases h4 : (bs l)[0].toNat ≤ 122
        · have hR : Hid ((cut l).all partB = R) := by
            unfold Hid
            rw [HR.out, Hhead.out, decide_eq_true h3, decide_eq_true h4, decide_eq_true (by rw [← hsz'.out]; exact h2)]; rfl
          have d0 : ((((bs l).size : Nat) : Int) == 0) = false := beq_eq_false_iff_ne.2 (by omega)
          have HC := Lib.hid (refCut_any l)
          have hcl := cut_length l
          have hpl := cut_head_len l
          obtain ⟨xs, hxs⟩ : ∃ xs, cut l = xs := ⟨_, rfl⟩
          rw [hxs] at HC hcl hpl hR
          have Hpl := Lib.hid hpl
          obtain ⟨n, hn⟩ : ∃ n, xs.length = n := ⟨_, rfl⟩
          rw [hn] at HC
          have hnb : n ≤ 100 := by have := hsz'.out; omega
          have Hn := Lib.hid hn
          clear hxs hcl hpl hn HR
          go_enter Tryz.func55, Tryz.ntmps55
          go_wp2_with fail
          refine (HC.out _ hs).mono ?_
          rintro e w1 ⟨v, rfl, hrow, hb1⟩
          obtain ⟨A, cap, rfl, hcap, _, _, hcells, _, hA⟩ := ownsRow_cells hrow
          have Hc := Lib.hid hcells
          clear hrow hcells hA HC
          go_wp2
          go_loop [4] (fun i => ∃ k : Nat, k ≤ n ∧ i = .int .i64 k ∧ Hid ((xs.take k).all partB = true)) (fun i => n - (intOf i).toNat)
          case atStart => exact ⟨0, Nat.zero_le _, rfl, rfl⟩
          case round =>
            obtain ⟨k, hk, rfl, hpre⟩ := hrel
            by_cases hlt : k < n
            · have h1k : k < xs.length := by rw [Hn.out]; exact hlt
              obtain ⟨x, hx⟩ : ∃ x, xs[k]? = some x := ⟨_, List.getElem?_eq_getElem h1k⟩
              obtain ⟨b, off, rfl, hcx⟩ := Hc.out.at (k := k) (x := strV x) (by simp [hx])
              rw [strV] at hcx
              have hxl : (bs x).size ≤ 100000 := by
                have := Hpl.out x (List.mem_of_getElem? hx)
                rw [size_bs]; omega
              have HP := refPart_any (bs x) w1 hxl
              rw [toList_bs] at HP
              have hstep : Hid (partB x = true → (xs.take (k + 1)).all partB = true) := fun h => by
                rw [List.take_add_one, hx]; simp [hpre.out, h]
              have hbad : Hid (partB x = false → false = R) := fun h => by
                rw [← hR.out]
                have : xs.all partB = false := by
                  rw [Bool.eq_false_iff]; intro h2
                  have := List.all_eq_true.1 h2 x (List.mem_of_getElem? hx)
                  rw [h] at this; cases this
                rw [this]
              obtain ⟨r, hr⟩ : ∃ r, partB x = r := ⟨_, rfl⟩
              rw [hr] at HP hstep hbad
              have HP' := Lib.hid HP
              clear HP hr hx h1k
              cases r with
              | true =>
                have hgd := Lib.hid (hstep.out (by trivial))
                go_wp2_with fail
                refine HP'.out.mono ?_
                rintro e w2 ⟨rfl, rfl⟩
                go_wp2
                go_round
                case rel => exact ⟨k + 1, by omega, by go_num, hgd.out⟩
                case measure => simp [intOf]; omega
              | false =>
                have hbd : Hid (false = R) := hbad.out (by trivial)
                go_wp2_with fail
                refine HP'.out.mono ?_
                rintro e w2 ⟨rfl, rfl⟩
                go_wp2
                go_ret
                exact ⟨ret_bool hbd.out, hb1⟩
            · have hres : Hid (true = R) := by
                unfold Hid; rw [← hR.out]
                have := hpre.out
                rw [List.take_of_length_le (by rw [Hn.out]; omega)] at this
                rw [this]
              go_wp2
              go_ret
              exact ⟨ret_bool hres.out, hb1⟩
        · have hR : Hid (false = R) := by
            unfold Hid; rw [HR.out, Hhead.out, decide_eq_false h4]; simp
          have d0 : ((((bs l).size : Nat) : Int) == 0) = false := beq_eq_false_iff_ne.2 (by omega)
          have d4 : 122 < (bs l)[0].toNat := by omega
          clear h4
          go_enter Tryz.func55, Tryz.ntmps55
          go_wp2
          go_ret
          exact ⟨ret_bool hR.out, Below.refl _ _⟩
      · have hR : Hid (false = R) := by
          unfold Hid; rw [HR.out, Hhead.out, decide_eq_false h3]; simp
        have d0 : ((((bs l).size : Nat) : Int) == 0) = false := beq_eq_false_iff_ne.2 (by omega)
        have d3 : (bs l)[0].toNat < 97 := by omega
        clear h3
        go_enter Tryz.func55, Tryz.ntmps55
        go_wp2
        go_ret
        exact ⟨ret_bool hR.out, Below.refl _ _⟩
    · have hR : Hid (false = R) := by
        unfold Hid; rw [HR.out, decide_eq_false (by rw [← hsz'.out]; exact h2)]; rfl
      have d0 : ((((bs l).size : Nat) : Int) == 0) = false := beq_eq_false_iff_ne.2 (by omega)
      have d2 : 32 < (bs l).size := by omega
      clear h2
      go_enter Tryz.func55, Tryz.ntmps55
      go_wp2
      go_ret
      exact ⟨ret_bool hR.out, Below.refl _ _⟩
  · have hR : Hid (false = R) := by
      unfold Hid; rw [HR.out]
      have : l = [] := List.length_eq_zero_iff.1 (by rw [← hsz'.out]; omega)
      rw [this]; rfl
    have d0 : ((((bs l).size : Nat) : Int) == 0) = true := beq_iff_eq.2 (by omega)
    clear h1
    go_enter Tryz.func55, Tryz.ntmps55
    go_wp2
    go_ret
    exact ⟨ret_bool hR.out, Below.refl _ _⟩
end Go.Proofs.YtieeloealklkgaaGreatDoor

/-
  The reference: Parts, Order, Compare, Under.
-/
namespace Go.Proofs.YtieeloealklkgaaGreatDoor
open Go.RowKit
attribute [local go_sem ↓] Go.wp_at_zero Go.wp_at_succ

set_option maxRecDepth 100000 in
set_option maxHeartbeats 4000000 in
theorem refOrder_any (a b : Bs) (w : World) (ha : a.length ≤ 100000) (hb : b.length ≤ 100000) :
    Calls Tryz.prog 58 #[.string (bs a), .string (bs b)] w fun e w' => e = .returned (.int .i64 (ordN a b)) ∧ Below w.heap.size w w' := by
  have HA := Lib.hid (fun W => refCut_any a W ha)
  have HB := Lib.hid (fun W => refCut_any b W hb)
  have la := cut_length a
  have lb := cut_length b
  unfold ordN
  obtain ⟨xs, hxs⟩ : ∃ xs, cut a = xs := ⟨_, rfl⟩
  obtain ⟨ys, hys⟩ : ∃ xs, cut b = xs := ⟨_, rfl⟩
  rw [hxs] at HA la ⊢
  rw [hys] at HB lb ⊢
  obtain ⟨n, hn⟩ : ∃ n, xs.length = n := ⟨_, rfl⟩
  obtain ⟨m, hm⟩ : ∃ n, ys.length = n := ⟨_, rfl⟩
  obtain ⟨R, hR⟩ : ∃ R, cmpL xs ys = R := ⟨_, rfl⟩
  rw [hn] at HA la
  rw [hm] at HB lb
  rw [hR]
  have HR := Lib.hid hR
  have Hn := Lib.hid hn
  have Hm := Lib.hid hm
  have hnb : n ≤ 200000 := by omega
  have hmb : m ≤ 200000 := by omega
  clear hxs hys hn hm hR la lb
  go_enter Tryz.func58, Tryz.ntmps58
  go_wp2_with fail
  refine (HA.out _).mono ?_
  rintro e w1 ⟨v, rfl, hrow, hb1⟩
  obtain ⟨A, cap, rfl, _, _, _, hcA, _, _⟩ := ownsRow_cells hrow
  clear hrow
  go_wp2_with fail
  refine (HB.out _).mono ?_
  rintro e w2 ⟨v, rfl, hrow, hb2⟩
  obtain ⟨B, cap', rfl, _, _, _, hcB, _, _⟩ := ownsRow_cells hrow
  have HcA := Lib.hid (hcA.below hb2)
  have HcB := Lib.hid hcB
  have hb0 := hb1.trans (hb2.mono hb1.size)
  clear hrow hcA hcB hb1 hb2 HA HB
  go_wp2
  go_loopw [7] (fun i wr => ∃ k : Nat, k ≤ n ∧ k ≤ m ∧ i = .int .i64 k ∧ Hid (cmpL (xs.drop k) (ys.drop k) = R) ∧ Below w2.heap.size w2 wr) (fun i _ => n - (intOf i).toNat)
  case atStart => exact ⟨0, Nat.zero_le _, Nat.zero_le _, rfl, HR, Below.refl _ _⟩
  case round =>
    obtain ⟨k, hk, hk', rfl, hrest, hbr⟩ := hrel
    by_cases hlt : k < n
    · by_cases hlt' : k < m
      · obtain ⟨x, hx⟩ : ∃ x, xs[k]? = some x := ⟨_, List.getElem?_eq_getElem (by rw [Hn.out]; exact hlt)⟩
        obtain ⟨y, hy⟩ : ∃ x, ys[k]? = some x := ⟨_, List.getElem?_eq_getElem (by rw [Hm.out]; exact hlt')⟩
        have ex : xs.drop k = x :: xs.drop (k + 1) := by
          have h1 : k < xs.length := by rw [Hn.out]; exact hlt
          rw [List.drop_eq_getElem_cons h1]; rw [List.getElem?_eq_getElem h1] at hx; rw [Option.some.inj hx]
        have ey : ys.drop k = y :: ys.drop (k + 1) := by
          have h1 : k < ys.length := by rw [Hm.out]; exact hlt'
          rw [List.drop_eq_getElem_cons h1]; rw [List.getElem?_eq_getElem h1] at hy; rw [Option.some.inj hy]
        have hnx := hrest.out
        rw [ex, ey, cmpL] at hnx
        have Hnx := Lib.hid hnx
        obtain ⟨b1, off, rfl, hcx⟩ := (HcA.out.below hbr).at (k := k) (x := strV x) (by simp [hx])
        obtain ⟨b2, off', rfl, hcy⟩ := (HcB.out.below hbr).at (k := k) (x := strV y) (by simp [hy])
        rw [strV] at hcx hcy
        have hcmp : cmpB x y = if ltB x y then -1 else if x = y then 0 else 1 := rfl
        have Hcmp := Lib.hid hcmp
        have hlo : Op.bytesLess (bs x).toList (bs y).toList = ltB x y := by rw [toList_eq, toList_eq, toList_bs, toList_bs]; rfl
        have heq : ((bs x).toList == (bs y).toList) = decide (x = y) := by rw [toList_eq, toList_eq, toList_bs, toList_bs, Bool.eq_iff_iff]; simp
        have c1 : (0 : Int) ≤ (k : Int) := by omega
        have c2 : (k : Int) < (n : Int) := by omega
        have c3 : (k : Int) < (m : Int) := by omega
        have dd1 : decide ((k : Int) < (n : Int)) = true := by simp; omega
        have dd2 : decide ((k : Int) < (m : Int)) = true := by simp; omega
        clear ex ey hnx hcmp hx hy
        cases hl : ltB x y with
        | true =>
          rw [hl] at hlo
          have hres : Hid (-1 = R) := by
            unfold Hid; rw [← Hnx.out, Hcmp.out, hl]; rfl
          clear hl heq
          go_wp2
          go_quiet (fail)
          go_wp2
          go_ret
          exact ⟨ret_int hres.out, hb0.trans ((show Below w2.heap.size w2 _ from by first | exact hbr | exact ⟨hbr.os, hbr.tape, hbr.output, hbr.size, hbr.block⟩).mono hb0.size)⟩
        | false =>
          rw [hl] at hlo
          by_cases hxy : x = y
          · rw [decide_eq_true hxy] at heq
            have hres : Hid (cmpL (xs.drop (k + 1)) (ys.drop (k + 1)) = R) := by
              unfold Hid
              have := Hnx.out
              have h0 : cmpB x y = 0 := by rw [Hcmp.out, hl, if_neg (by simp), if_pos hxy]
              rw [if_pos h0] at this; exact this
            clear hl hxy
            go_wp2
            go_quiet (fail)
            go_wp2
            go_quiet (fail)
            go_wp2
            refine ⟨⟨k + 1, by omega, by omega, by go_num, hres.out, ⟨hbr.os, hbr.tape, hbr.output, hbr.size, hbr.block⟩⟩, ?_⟩
            simp [intOf]; omega
          · rw [decide_eq_false hxy] at heq
            have hres : Hid (1 = R) := by
              unfold Hid
              have := Hnx.out
              have h0 : cmpB x y = 1 := by rw [Hcmp.out, hl, if_neg (by simp), if_neg hxy]
              rw [h0, if_neg (by decide)] at this; exact this
            clear hl hxy
            go_wp2
            go_quiet (fail)
            go_wp2
            go_quiet (fail)
            go_wp2
            go_ret
            exact ⟨ret_int hres.out, hb0.trans ((show Below w2.heap.size w2 _ from by first | exact hbr | exact ⟨hbr.os, hbr.tape, hbr.output, hbr.size, hbr.block⟩).mono hb0.size)⟩
      · have hres : Hid (1 = R) := by
          unfold Hid
          have := hrest.out
          have h1 : k < xs.length := by rw [Hn.out]; exact hlt
          rw [List.drop_eq_getElem_cons h1, List.drop_of_length_le (l := ys) (by rw [Hm.out]; omega), cmpL] at this
          exact this
        have hkm : k = m := by omega
        subst hkm
        have dd1 : decide ((k : Int) < (n : Int)) = true := by simp; omega
        have g1 : ¬ (n : Int) < (k : Int) := by omega
        have g2 : (k : Int) < (n : Int) := by omega
        go_wp2
        go_ret
        exact ⟨ret_int hres.out, hb0.trans (hbr.mono hb0.size)⟩
    · have hkn : k = n := by omega
      subst hkn
      by_cases hlt' : k < m
      · have hres : Hid (-1 = R) := by
          unfold Hid
          have := hrest.out
          have h1 : k < ys.length := by rw [Hm.out]; exact hlt'
          rw [List.drop_eq_getElem_cons h1, List.drop_of_length_le (l := xs) (by rw [Hn.out]; omega), cmpL] at this
          exact this
        go_wp2
        go_ret
        exact ⟨ret_int hres.out, hb0.trans (hbr.mono hb0.size)⟩
      · have hres : Hid (0 = R) := by
          unfold Hid
          have := hrest.out
          rw [List.drop_of_length_le (l := xs) (by rw [Hn.out]; omega), List.drop_of_length_le (l := ys) (by rw [Hm.out]; omega), cmpL] at this
          exact this
        have g1 : ¬ (m : Int) < (k : Int) := by omega
        go_wp2
        go_ret
        exact ⟨ret_int hres.out, hb0.trans (hbr.mono hb0.size)⟩

theorem refRight_r (l : Bs) (hs : l.length ≤ 100000) {r : Bool} (h : rightB l = r) (W : World) :
    Calls Tryz.prog 55 #[.string (bs l)] W fun e w' => e = .returned (.bool r) ∧ Below W.heap.size W w' := by
  have := refRight_any l W hs
  rwa [h] at this

def ComparePost (a b : Bs) (w : World) (e : Ending) (w' : World) : Prop :=
  e = .returned (if rightB a && rightB b then .tuple #[.int .i64 (ordN a b), .int .i64 0] else .tuple #[.int .i64 0, .int .i64 40]) ∧ Below w.heap.size w w'

set_option maxRecDepth 100000 in
set_option maxHeartbeats 4000000 in
theorem refCompare_any (a b : Bs) (w : World) (ha : a.length ≤ 100000) (hb : b.length ≤ 100000) :
    Calls Tryz.prog 54 #[.string (bs a), .string (bs b)] w (ComparePost a b w) := by
  have HO := Lib.hid (fun W => refOrder_any a b W ha hb)
  obtain ⟨r1, h1⟩ : ∃ r, rightB a = r := ⟨_, rfl⟩
  obtain ⟨r2, h2⟩ : ∃ r, rightB b = r := ⟨_, rfl⟩
  have R1 := Lib.hid (refRight_r a ha h1)
  have R2 := Lib.hid (refRight_r b hb h2)
  have H1 := Lib.hid h1
  have H2 := Lib.hid h2
  clear h1 h2
  cases r1 with
  | false =>
    go_enter Tryz.func54, Tryz.ntmps54
    go_wp2_with fail
    refine (R1.out _).mono ?_
    rintro e w1 ⟨rfl, k1⟩
    go_wp2
    go_ret2
    exact ⟨by rw [H1.out]; rfl, k1⟩
  | true =>
    cases r2 with
    | false =>
      go_enter Tryz.func54, Tryz.ntmps54
      go_wp2_with fail
      refine (R1.out _).mono ?_
      rintro e w1 ⟨rfl, k1⟩
      go_wp2_with fail
      refine (R2.out _).mono ?_
      rintro e w2 ⟨rfl, k2⟩
      go_wp2
      go_ret2
      exact ⟨by rw [H1.out, H2.out]; rfl, k1.trans (k2.mono k1.size)⟩
    | true =>
      go_enter Tryz.func54, Tryz.ntmps54
      go_wp2_with fail
      refine (R1.out _).mono ?_
      rintro e w1 ⟨rfl, k1⟩
      go_wp2_with fail
      refine (R2.out _).mono ?_
      rintro e w2 ⟨rfl, k2⟩
      go_wp2_with fail
      refine (HO.out _).mono ?_
      rintro e w3 ⟨rfl, k3⟩
      have kk := k1.trans (k2.mono k1.size)
      go_wp2
      go_ret2
      exact ⟨by rw [H1.out, H2.out]; rfl, kk.trans (k3.mono kk.size)⟩

set_option maxRecDepth 100000 in
set_option maxHeartbeats 4000000 in
theorem refParts_yes (a : Bs) (w : World) (ha : a.length ≤ 100000) (h : rightB a = true) :
    Calls Tryz.prog 49 #[.string (bs a)] w fun e w' => ∃ v, e = .returned (.tuple #[v, .int .i64 0]) ∧ w'.ownsRow w.heap.size 9 1 v (cut a).length ((cut a).map strV) ∧ Below w.heap.size w w' := by
  have R1 := Lib.hid (refRight_r a ha h)
  have HC := Lib.hid (fun W => refCut_any a W ha)
  clear h
  go_enter Tryz.func49, Tryz.ntmps49
  go_wp2_with fail
  refine (R1.out _).mono ?_
  rintro e w1 ⟨rfl, k1⟩
  go_wp2_with fail
  refine (HC.out _).mono ?_
  rintro e w2 ⟨v, rfl, hrow, k2⟩
  have Hrow := Lib.hid (ownsRow_mono hrow k1.size)
  have hfv : ∃ sa sn sc, v = .slice sa sn sc := by
    rcases hrow.2 with ⟨rfl, _⟩ | ⟨g, cap, cur, rfl, _⟩
    · exact ⟨_, _, _, rfl⟩
    · exact ⟨_, _, _, rfl⟩
  clear hrow
  obtain ⟨sa, sn, sc, rfl⟩ := hfv
  go_wp2
  go_ret2
  exact ⟨_, rfl, Hrow.out, k1.trans (k2.mono k1.size)⟩

set_option maxRecDepth 100000 in
set_option maxHeartbeats 4000000 in
theorem refParts_no (a : Bs) (w : World) (ha : a.length ≤ 100000) (h : rightB a = false) :
    Calls Tryz.prog 49 #[.string (bs a)] w fun e w' => e = .returned (.tuple #[.slice none 0 0, .int .i64 40]) ∧ Below w.heap.size w w' := by
  have R1 := Lib.hid (refRight_r a ha h)
  clear h
  go_enter Tryz.func49, Tryz.ntmps49
  go_wp2_with fail
  refine (R1.out _).mono ?_
  rintro e w1 ⟨rfl, k1⟩
  go_wp2
  go_ret2
  exact ⟨rfl, k1⟩
end Go.Proofs.YtieeloealklkgaaGreatDoor

/-
  The reference: Under.
-/
namespace Go.Proofs.YtieeloealklkgaaGreatDoor
open Go.RowKit
attribute [local go_sem ↓] Go.wp_at_zero Go.wp_at_succ

theorem underB_false1 {s t : Bs} (h : rightB s = false) : underB s t = false := by
  rw [Bool.eq_false_iff]; intro h2; have := ((underB_iff s t).1 h2).1; rw [h] at this; cases this
theorem underB_false2 {s t : Bs} (h : rightB t = false) : underB s t = false := by
  rw [Bool.eq_false_iff]; intro h2; have := ((underB_iff s t).1 h2).2.1; rw [h] at this; cases this

set_option maxRecDepth 100000 in
set_option maxHeartbeats 4000000 in
theorem refUnder_any (a b : Bs) (w : World) (ha : a.length ≤ 100000) (hb : b.length ≤ 100000) :
    Calls Tryz.prog 57 #[.string (bs a), .string (bs b)] w fun e w' => e = .returned (.bool (underB a b)) ∧ Below w.heap.size w w' := by
  obtain ⟨R, hR⟩ : ∃ R, underB a b = R := ⟨_, rfl⟩
  rw [hR]
  obtain ⟨r1, h1⟩ : ∃ r, rightB a = r := ⟨_, rfl⟩
  obtain ⟨r2, h2⟩ : ∃ r, rightB b = r := ⟨_, rfl⟩
  have R1 := Lib.hid (refRight_r a ha h1)
  have R2 := Lib.hid (refRight_r b hb h2)
  cases r1 with
  | false =>
    have hres := Lib.hid ((underB_false1 (t := b) h1).symm.trans hR)
    clear h1 h2 hR
    go_enter Tryz.func57, Tryz.ntmps57
    go_wp2_with fail
    refine (R1.out _).mono ?_
    rintro e w1 ⟨rfl, k1⟩
    go_wp2
    go_ret
    exact ⟨ret_bool hres.out, k1⟩
  | true =>
    cases r2 with
    | false =>
      have hres := Lib.hid ((underB_false2 (s := a) h2).symm.trans hR)
      clear h1 h2 hR
      go_enter Tryz.func57, Tryz.ntmps57
      go_wp2_with fail
      refine (R1.out _).mono ?_
      rintro e w1 ⟨rfl, k1⟩
      go_wp2_with fail
      refine (R2.out _).mono ?_
      rintro e w2 ⟨rfl, k2⟩
      go_wp2
      go_ret
      exact ⟨ret_bool hres.out, k1.trans (k2.mono k1.size)⟩
    | true =>
      have hRR : R = true ↔ cut b <+: cut a := by
        rw [← hR, underB_iff]; simp [h1, h2]
      have HA := Lib.hid (fun W => refCut_any a W ha)
      have HB := Lib.hid (fun W => refCut_any b W hb)
      have la := cut_length a
      have lb := cut_length b
      obtain ⟨xs, hxs⟩ : ∃ xs, cut a = xs := ⟨_, rfl⟩
      obtain ⟨ys, hys⟩ : ∃ xs, cut b = xs := ⟨_, rfl⟩
      rw [hxs] at HA la hRR
      rw [hys] at HB lb hRR
      obtain ⟨n, hn⟩ : ∃ n, xs.length = n := ⟨_, rfl⟩
      obtain ⟨m, hm⟩ : ∃ n, ys.length = n := ⟨_, rfl⟩
      rw [hn] at HA la
      rw [hm] at HB lb
      have HR := Lib.hid hRR
      have Hn := Lib.hid hn
      have Hm := Lib.hid hm
      have hnb : n ≤ 200000 := by omega
      have hmb : m ≤ 200000 := by omega
      clear hxs hys hn hm hR la lb h1 h2 hRR
      go_enter Tryz.func57, Tryz.ntmps57
      go_wp2_with fail
      refine (R1.out _).mono ?_
      rintro e w1 ⟨rfl, k1⟩
      go_wp2_with fail
      refine (R2.out _).mono ?_
      rintro e w2 ⟨rfl, k2⟩
      have k12 := k1.trans (k2.mono k1.size)
      clear k1 k2 R1 R2
      go_wp2_with fail
      refine (HA.out _).mono ?_
      rintro e w3 ⟨v, rfl, hrow, hb1⟩
      obtain ⟨A, cap, rfl, _, _, _, hcA, _, _⟩ := ownsRow_cells hrow
      clear hrow
      go_wp2_with fail
      refine (HB.out _).mono ?_
      rintro e w4 ⟨v, rfl, hrow, hb2⟩
      obtain ⟨B, cap', rfl, _, _, _, hcB, _, _⟩ := ownsRow_cells hrow
      have HcA := Lib.hid (hcA.below hb2)
      have HcB := Lib.hid hcB
      have hb00 := hb1.trans (hb2.mono hb1.size)
      have hb0 := k12.trans (hb00.mono k12.size)
      clear hrow hcA hcB hb1 hb2 HA HB hb00 k12
      by_cases hnm : n < m
      · have hres : Hid (false = R) := by
          unfold Hid
          cases R with
          | false => rfl
          | true => have := (HR.out.1 rfl).length_le; have := Hn.out; have := Hm.out; omega
        have d0 : decide ((n : Int) < (m : Int)) = true := by simp; omega
        go_wp2
        go_ret
        exact ⟨ret_bool hres.out, hb0⟩
      · have d0 : ¬ ((n : Int) < (m : Int)) := by omega
        go_wp2
        go_loopw [7] (fun i wr => ∃ k : Nat, k ≤ m ∧ i = .int .i64 k ∧ Hid (ys.take k = xs.take k) ∧ Below w4.heap.size w4 wr) (fun i _ => m - (intOf i).toNat)
        case atStart => exact ⟨0, Nat.zero_le _, rfl, rfl, Below.refl _ _⟩
        case round =>
          obtain ⟨k, hk, rfl, hinv, hbr⟩ := hrel
          by_cases hlt : k < m
          · obtain ⟨x, hx⟩ : ∃ x, xs[k]? = some x := ⟨_, List.getElem?_eq_getElem (by rw [Hn.out]; omega)⟩
            obtain ⟨y, hy⟩ : ∃ x, ys[k]? = some x := ⟨_, List.getElem?_eq_getElem (by rw [Hm.out]; exact hlt)⟩
            obtain ⟨b1, off, rfl, hcx⟩ := (HcA.out.below hbr).at (k := k) (x := strV x) (by simp [hx])
            obtain ⟨b2, off', rfl, hcy⟩ := (HcB.out.below hbr).at (k := k) (x := strV y) (by simp [hy])
            rw [strV] at hcx hcy
            have heq : ((bs x).toList == (bs y).toList) = decide (x = y) := by rw [toList_eq, toList_eq, toList_bs, toList_bs, Bool.eq_iff_iff]; simp
            have c1 : (0 : Int) ≤ (k : Int) := by omega
            have c2 : (k : Int) < (n : Int) := by omega
            have c3 : (k : Int) < (m : Int) := by omega
            by_cases hxy : x = y
            · rw [decide_eq_true hxy] at heq
              have hres : Hid (ys.take (k + 1) = xs.take (k + 1)) := by
                unfold Hid; rw [List.take_add_one, List.take_add_one, hx, hy, hinv.out, hxy]
              clear hx hy hxy
              go_wp2
              go_quiet (fail)
              go_wp2
              refine ⟨⟨k + 1, by omega, by go_num, hres.out, ⟨hbr.os, hbr.tape, hbr.output, hbr.size, hbr.block⟩⟩, ?_⟩
              simp [intOf]; omega
            · rw [decide_eq_false hxy] at heq
              have hres : Hid (false = R) := by
                unfold Hid
                cases R with
                | false => rfl
                | true =>
                  obtain ⟨r, hr⟩ := HR.out.1 rfl
                  rw [← hr, List.getElem?_append_left (by rw [Hm.out]; exact hlt), hy] at hx
                  exact absurd (Option.some.inj hx).symm hxy
              clear hx hy hxy
              go_wp2
              go_quiet (fail)
              go_wp2
              go_ret
              exact ⟨ret_bool hres.out, hb0.trans ((show Below w4.heap.size w4 _ from by first | exact hbr | exact ⟨hbr.os, hbr.tape, hbr.output, hbr.size, hbr.block⟩).mono hb0.size)⟩
          · have hkm : k = m := by omega
            subst hkm
            have hres : Hid (true = R) := by
              have : R = true := HR.out.2 (by
                have h3 := hinv.out
                rw [List.take_of_length_le (l := ys) (by rw [Hm.out]; omega)] at h3
                rw [h3]; exact List.take_prefix _ _)
              exact this.symm
            go_wp2
            go_ret
            exact ⟨ret_bool hres.out, hb0.trans (hbr.mono hb0.size)⟩
end Go.Proofs.YtieeloealklkgaaGreatDoor

/-
  What the reference's Join answers: plain Lean.
-/
namespace Go.Proofs.YtieeloealklkgaaGreatDoor
open Go.RowKit

theorem cut_glue (xs : List Bs) (hne : xs ≠ []) (h : ∀ p ∈ xs, ∀ c ∈ p, c ≠ 46) : cut (glue xs) = xs := by
  induction xs with
  | nil => exact absurd rfl hne
  | cons x r ih =>
    cases r with
    | nil => simp only [glue]; exact cut_free' x (h x (by simp))
    | cons y t =>
      simp only [glue]
      rw [cut_dot, cut_free' x (h x (by simp)), ih (by simp) (fun p hp => h p (by simp [hp]))]; rfl
theorem indexByte_ge (l : Bs) (c : UInt8) : -1 ≤ Lib.indexByte l c := by
  induction l with
  | nil => exact Int.le_refl _
  | cons x r ih =>
    simp only [Lib.indexByte]
    split
    · omega
    · split <;> omega
theorem dotFree_cons (x : UInt8) (r : Bs) (h : dotFree (x :: r) = true) : x ≠ 46 ∧ dotFree r = true := by
  have hg := indexByte_ge r 46
  have h' : Lib.indexByte (x :: r) 46 < 0 := by simpa [dotFree] using h
  rw [Lib.indexByte] at h'
  replace h := h'
  show x ≠ 46 ∧ decide (Lib.indexByte r 46 < 0) = true
  rw [decide_eq_true_eq]
  by_cases hx : (x == 46) = true
  · rw [if_pos hx] at h; omega
  · rw [if_neg hx] at h
    refine ⟨by simpa using hx, ?_⟩
    by_cases hr : (Lib.indexByte r 46 == -1) = true
    · have : Lib.indexByte r 46 = -1 := by simpa using hr
      omega
    · rw [if_neg hr] at h; omega
theorem dotFree_free {p : Bs} (h : dotFree p = true) : ∀ c ∈ p, c ≠ 46 := by
  induction p with
  | nil => intro c hc; simp at hc
  | cons x r ih =>
    have h1 := dotFree_cons x r h
    intro c hc
    rcases List.mem_cons.1 hc with rfl | hc
    · exact h1.1
    · exact ih h1.2 c hc
theorem part_dotFree {p : Bs} (h : partB p = true) : dotFree p = true := by
  have h1 := ((partB_iff p).1 h).2.1
  have : ∀ c ∈ p, c ≠ 46 := by
    rintro c hc rfl
    obtain ⟨i, hi, hx⟩ := List.getElem_of_mem hc
    have h2 := h1 i hi
    rw [show p.getD i 0 = 46 from by rw [List.getD_eq_getElem?_getD, List.getElem?_eq_getElem hi, hx]; rfl] at h2
    rw [okc_iff] at h2
    rcases h2 with h2 | h2
    · exact absurd h2 (by decide)
    · exact absurd h2 (by decide)
  simp [dotFree, indexByte_none p this]
theorem joinOk_parts {xs : List Bs} (h : joinOk xs = true) : xs ≠ [] ∧ cut (joinB xs) = xs ∧ xs.all partB = true ∧ (joinB xs).length ≤ 32 := by
  unfold joinOk at h
  simp only [Bool.and_eq_true] at h
  obtain ⟨⟨h1, _⟩, h3⟩ := h
  have hne : xs ≠ [] := by
    rintro rfl
    have : rightB (joinB []) = false := rfl
    rw [this] at h3; cases h3
  have hcut : cut (joinB xs) = xs := by
    rw [glue_join]
    exact cut_glue xs hne (fun p hp => dotFree_free (List.all_eq_true.1 h1 p hp))
  rw [rightB_cut, hcut] at h3
  simp only [Bool.and_eq_true, decide_eq_true_eq] at h3
  exact ⟨hne, hcut, h3.2, h3.1.1⟩
theorem joinB_take_len (xs : List Bs) (k : Nat) : (joinB (xs.take k)).length ≤ (joinB xs).length := by
  rw [glue_join, glue_join]
  by_cases h1 : xs.take k = []
  · rw [h1]; simp [glue]
  · by_cases h2 : xs.drop k = []
    · have := List.take_append_drop k xs
      rw [h2, List.append_nil] at this
      rw [this]; exact Nat.le_refl _
    · have := glue_append _ _ h1 h2
      rw [List.take_append_drop] at this
      rw [this, List.length_append]; omega
theorem joinOk_no {xs : List Bs} {k : Nat} {x : Bs} (hx : xs[k]? = some x) (h : partB x = false ∨ 32 < (joinB (xs.take k)).length ∨ 32 < x.length) : joinOk xs = false := by
  rw [Bool.eq_false_iff]
  intro hj
  obtain ⟨_, hcut, hall, hlen⟩ := joinOk_parts hj
  have hm := List.mem_of_getElem? hx
  rcases h with h | h | h
  · have := List.all_eq_true.1 hall x hm
    rw [h] at this; cases this
  · have := joinB_take_len xs k; omega
  · have := cut_head_len (joinB xs) x (by rw [hcut]; exact hm)
    omega
theorem joinOk_all {xs : List Bs} (h : xs.all partB = true) : joinOk xs = rightB (joinB xs) := by
  have hd : xs.all dotFree = true := List.all_eq_true.2 fun p hp => part_dotFree (List.all_eq_true.1 h p hp)
  unfold joinOk
  rw [hd]
  cases hr : rightB (joinB xs) with
  | false => simp
  | true =>
    have hne : xs ≠ [] := by
      rintro rfl
      have : rightB (joinB []) = false := rfl
      rw [this] at hr; cases hr
    have hcut : cut (joinB xs) = xs := by
      rw [glue_join]
      exact cut_glue xs hne (fun p hp => dotFree_free (List.all_eq_true.1 hd p hp))
    have h1 := cut_sum (joinB xs)
    have h2 := rightB_len hr
    rw [hcut] at h1
    simp; omega
theorem joinB_snoc (l : List Bs) (x : Bs) : joinB (l ++ [x]) = if l = [] then x else joinB l ++ 46 :: x := by
  rw [glue_join, glue_join]
  split
  · next h => subst h; rfl
  · next h => rw [glue_append _ _ h (by simp)]; rfl
theorem joinB_take {xs : List Bs} {k : Nat} {x : Bs} (hx : xs[k]? = some x) : joinB (xs.take (k + 1)) = if k = 0 then x else joinB (xs.take k) ++ 46 :: x := by
  have hk : k < xs.length := (List.getElem?_eq_some_iff.1 hx).1
  rw [List.take_add_one, hx]
  show joinB (xs.take k ++ [x]) = _
  rw [joinB_snoc]
  by_cases h : k = 0
  · subst h; simp
  · rw [if_neg h, if_neg (by intro h2; have := congrArg List.length h2; rw [List.length_take, List.length_nil] at this; omega)]
end Go.Proofs.YtieeloealklkgaaGreatDoor

/-
  The bytes of an own row, as a string.
-/
namespace Go.Proofs.YtieeloealklkgaaGreatDoor
open Go.RowKit
variable {P : Program}

/-- The bytes of an own row, as a string. -/
theorem run_own_string (w : World) (base src dst e : TypeId) (v : Value) (l : Bs) (hs : P.underlying src = some (.slice e)) (he : P.underlying e = some (.int .u8)) (hd : P.underlying dst = some .string)
    (hown : w.ownsRow base e 1 v l.length (l.map fun b => Value.int .u8 b.toNat)) :
    (convert src dst v).run P w = .ok (.string (bs l)) w := by
  rcases hown.2 with ⟨rfl, h0⟩ | ⟨g, cap, cur, rfl, _⟩
  · have : l = [] := List.eq_nil_of_length_eq_zero h0
    subst this
    exact run_convert_bytes_nil w src e hs he 0 0 dst hd
  · exact run_convert_bytes_back w src dst e ⟨g, 0, none⟩ cap l hs he hd (fun j hj => hown.cells (g := g) rfl j _ (by simp [List.getElem?_eq_getElem hj]))
end Go.Proofs.YtieeloealklkgaaGreatDoor

/-
  The reference: Join.
-/
namespace Go.Proofs.YtieeloealklkgaaGreatDoor
open Go.RowKit
attribute [local go_sem ↓] Go.wp_at_zero Go.wp_at_succ

def byteV (b : UInt8) : Value := .int .u8 b.toNat
theorem byteCells_bs (x : Bs) : byteCells (bs x) = x.map byteV := rfl
theorem refPart_l (l : Bs) (hs : l.length ≤ 100000) {r : Bool} (h : partB l = r) (W : World) :
    Calls Tryz.prog 99 #[.string (bs l)] W fun e w' => e = .returned (.bool r) ∧ W = w' := by
  have := refPart_any (bs l) W hs
  rw [toList_bs, h] at this
  exact this
theorem below_grows {w w' : World} (h : Below w.heap.size w w') : w.grownBy w' none := ⟨h.os, h.tape, h.output, h.size, fun k hk _ => h.block k hk⟩

theorem info_u8 : (Tryz.prog.info? 5).map (fun i => (i.zero, i.size, i.bytes)) = some (some (.int .u8 0), 1, 1) := by kernel_rfl

set_option maxRecDepth 100000 in
set_option maxHeartbeats 4000000 in
theorem refJoin_any (a : Option Addr) (n cap : Nat) (xs : List Bs) (w : World) (hn : xs.length = n) (hm : n ≤ 1000) (hp : ∀ p ∈ xs, p.length ≤ 1000) (hc : Cells w a (xs.map strV)) :
    Calls Tryz.prog 52 #[.slice a n cap] w (JoinPost (joinOk xs) (joinB xs) w) := by
  obtain ⟨i0, hi, hz0, hz1, hz2⟩ := info_parts info_u8
  obtain ⟨R, hR⟩ : ∃ R, joinOk xs = R := ⟨_, rfl⟩
  obtain ⟨J, hJ⟩ : ∃ J, joinB xs = J := ⟨_, rfl⟩
  rw [hR, hJ]
  have HR := Lib.hid hR
  have HJ := Lib.hid hJ
  have Hn := Lib.hid hn
  have Hc := Lib.hid hc
  have Hp := Lib.hid hp
  clear hR hJ hn hc hp
  go_enter Tryz.func52, Tryz.ntmps52
  go_wp2
  go_loopw [4, 5] (fun o i wr => ∃ (k : Nat) (L : Bs) (m : Nat), i = .int .i64 k ∧ k ≤ n ∧ m ≤ 65 ∧ Hid (L.length = m) ∧ wr.ownsRow w.heap.size 5 1 o m (L.map byteV) ∧ Hid (L = joinB (xs.take k) ∧ (xs.take k).all partB = true) ∧ Below w.heap.size w wr) (fun _ i _ => n - (intOf i).toNat)
  case atStart => exact ⟨0, [], 0, rfl, Nat.zero_le _, by omega, rfl, World.ownsRow_nil _ _ _ _, ⟨rfl, rfl⟩, Below.refl _ _⟩
  case round =>
    obtain ⟨k, L, m, rfl, hk, hm65, hL, hown, hinv, hb⟩ := hrel
    have hfv : ∃ sa sn sc, u4 = .slice sa sn sc := by
      rcases hown.2 with ⟨rfl, _⟩ | ⟨g, cap, cur, rfl, _⟩
      · exact ⟨_, _, _, rfl⟩
      · exact ⟨_, _, _, rfl⟩
    have hsn : ∃ sa sc, u4 = .slice sa m sc := by
      rcases hown.2 with ⟨rfl, h0⟩ | ⟨g, cap, cur, rfl, _⟩
      · exact ⟨_, _, by rw [h0]⟩
      · exact ⟨_, _, rfl⟩
    clear hfv
    by_cases hlt : k < n
    · obtain ⟨x, hx⟩ : ∃ x, xs[k]? = some x := ⟨_, List.getElem?_eq_getElem (by rw [Hn.out]; exact hlt)⟩
      obtain ⟨b1, off, rfl, hcx⟩ := (Hc.out.below hb).at (k := k) (x := strV x) (by simp [hx])
      rw [strV] at hcx
      have hcw : w.cell? ⟨b1, off + k, none⟩ = some (.string (bs x)) := by
        obtain ⟨b2, off2, hbo, hc2⟩ := Hc.out.at (k := k) (x := strV x) (by simp [hx])
        cases hbo; exact hc2
      have hxl : x.length ≤ 1000 := Hp.out x (List.mem_of_getElem? hx)
      have hxs : (bs x).size ≤ 1000 := hxl
      have hxz : Hid (x.length = (bs x).size) := rfl
      obtain ⟨r, hr⟩ : ∃ r, partB x = r := ⟨_, rfl⟩
      have HP := Lib.hid (fun W => refPart_l x (by omega) hr W)
      have c1 : (0 : Int) ≤ (k : Int) := by omega
      have c2 : (k : Int) < (n : Int) := by omega
      have hno : Hid (r = false ∨ 32 < m ∨ 32 < x.length → false = R) := fun h => by
        rw [← HR.out]
        refine (joinOk_no hx ?_).symm
        rw [← hinv.out.1, hL.out, hr]; exact h
      have hyes : Hid (r = true → (xs.take (k + 1)).all partB = true) := fun h => by
        rw [List.take_add_one, hx]; simp [hinv.out.2, hr, h]
      have hsnoc := Lib.hid (joinB_take hx)
      clear hx hr hxl
      obtain ⟨sa, sc, rfl⟩ := hsn
      cases r with
      | false =>
        have hres := Lib.hid (hno.out (.inl rfl))
        go_wp2_with fail
        refine (HP.out _).mono ?_
        rintro e w1 ⟨rfl, rfl⟩
        go_wp2
        go_ret2
        exact JoinPost.no hres.out hb
      | true =>
        have hall := Lib.hid (hyes.out rfl)
        by_cases hm32 : 32 < m
        · have hres := Lib.hid (hno.out (.inr (.inl hm32)))
          have d1 : decide ((32 : Int) < (m : Int)) = true := by simp; omega
          go_wp2_with fail
          refine (HP.out _).mono ?_
          rintro e w1 ⟨rfl, rfl⟩
          go_wp2
          go_ret2
          exact JoinPost.no hres.out hb
        · have d1 : ¬ ((32 : Int) < (m : Int)) := by omega
          by_cases hx32 : 32 < (bs x).size
          · have hres := Lib.hid (hno.out (.inr (.inr (by rw [hxz.out]; exact hx32))))
            have d2 : decide ((32 : Int) < ((bs x).size : Int)) = true := by simp; omega
            go_wp2_with fail
            refine (HP.out _).mono ?_
            rintro e w1 ⟨rfl, rfl⟩
            go_wp2
            go_ret2
            exact JoinPost.no hres.out hb
          · have d2 : ¬ ((32 : Int) < ((bs x).size : Int)) := by omega
            by_cases hk0 : k = 0
            · have d3 : ¬ ((0 : Int) < (k : Int)) := by omega
              have hL0 : Hid (L = []) := by rw [Hid, hinv.out.1, hk0]; rfl
              have hnew : Hid (joinB (xs.take (k + 1)) = L ++ x) := by
                rw [Hid, hsnoc.out, if_pos hk0, hL0.out]; rfl
              have hkp : ¬ 0 < k := by omega
              clear hk0
              go_wp2_with fail
              refine (HP.out _).mono ?_
              rintro e w1 ⟨rfl, rfl⟩
              go_wp2_with (at_builtin; refine wpList_append_any rfl _ _ 58 9 rfl w.heap.size 5 i0 (.int .u8 0) 1 Tryz.underlying58 hi hz0 hz1 hz2 rfl (.slice sa m sc) m _ rfl hown (.string (bs x)) (bs x).size (byteCells (bs x)) rfl (Src.ofString _ Tryz.underlying9 _) (by unfold maxLen; omega) (by omega) (by have := hb.size; omega) ?_; intro v' w2 hown' hgrow; have hb1 := hb.grown hgrow (by have := hb.size; omega) (fun j hj => (hown.lt j hj).1))
              refine ⟨?_, by simp [intOf]; omega⟩
              have e1 : L.map byteV ++ byteCells (bs x) = (L ++ x).map byteV := by rw [byteCells_bs, List.map_append]
              rw [e1] at hown'
              first
                | exact ⟨k + 1, L ++ x, m + (bs x).size, by go_num, by omega, by omega, by rw [Hid, List.length_append, hL.out, hxz.out], hown', ⟨hnew.out.symm, hall.out⟩, hb1⟩
                | ((repeat apply Exists.intro); exact ⟨⟨k + 1, L ++ x, m + (bs x).size, by go_num, by omega, by omega, by rw [Hid, List.length_append, hL.out, hxz.out], hown', ⟨hnew.out.symm, hall.out⟩, hb1⟩, rfl⟩)
            · have d3 : decide ((0 : Int) < (k : Int)) = true := by simp; omega
              have hnew : Hid (joinB (xs.take (k + 1)) = (L ++ [46]) ++ x) := by
                rw [Hid, hsnoc.out, if_neg hk0, hinv.out.1]; simp
              have hkp : 0 < k := by omega
              clear hk0
              go_wp2_with fail
              refine (HP.out _).mono ?_
              rintro e w1 ⟨rfl, rfl⟩
              go_wp2_with (at_builtin; first
                | (refine wpList_append_own _ rfl _ _ 58 rfl w.heap.size 5 i0 (.int .u8 0) 1 1 Tryz.underlying58 hi hz0 hz1 hz2 rfl (by decide) (.slice sa m sc) m _ rfl (hown.alloc _) ⟨wr.heap.size, 0, none⟩ 1 1 [.int .u8 46] rfl rfl (cell_one_new _ _ _) (by simp [Value.oneCell']) (by unfold maxLen; omega) (by omega) (by have := hb.size; simp; omega) ?_
                   intro v' w2 hown' hgrow _
                   obtain ⟨g', cap', rfl⟩ := ownsRow_succ hown'
                   have hb1 := (hb.alloc hb.size (.cells #[.int .u8 46] 5)).grown hgrow (by have := hb.size; simp; omega) (fun j hj => (hown.lt j hj).1)
                   have hcx1 := cell_later hb1 hcw)
                | (refine wpList_append_any rfl _ _ 58 9 rfl w.heap.size 5 i0 (.int .u8 0) 1 Tryz.underlying58 hi hz0 hz1 hz2 rfl (.slice (some ⟨g', 0, none⟩) (m + 1) cap') (m + 1) _ rfl hown' (.string (bs x)) (bs x).size (byteCells (bs x)) rfl (Src.ofString _ Tryz.underlying9 _) (by unfold maxLen; omega) (by omega) (by have := hb1.size; omega) ?_
                   intro v'' w3 hown'' hgrow'
                   have hb2 := hb1.grown hgrow' (by have := hb1.size; omega) (fun j hj => (hown'.lt j hj).1)))
              refine ⟨?_, by simp [intOf]; omega⟩
              have e1 : L.map byteV ++ [Value.int .u8 46] ++ byteCells (bs x) = ((L ++ [46]) ++ x).map byteV := by rw [byteCells_bs, List.map_append, List.map_append]; rfl
              rw [e1] at hown''
              first
                | exact ⟨k + 1, (L ++ [46]) ++ x, m + 1 + (bs x).size, by go_num, by omega, by omega, by rw [Hid, List.length_append, List.length_append, hL.out, hxz.out]; rfl, hown'', ⟨hnew.out.symm, hall.out⟩, hb2⟩
                | ((repeat apply Exists.intro); exact ⟨⟨k + 1, (L ++ [46]) ++ x, m + 1 + (bs x).size, by go_num, by omega, by omega, by rw [Hid, List.length_append, List.length_append, hL.out, hxz.out]; rfl, hown'', ⟨hnew.out.symm, hall.out⟩, hb2⟩, rfl⟩)
    · have hkn : k = n := by omega
      subst hkn
      have htk : Hid (L = J ∧ R = rightB J) := by
        have h1 := hinv.out
        rw [List.take_of_length_le (by rw [Hn.out]; omega)] at h1
        exact ⟨h1.1.trans HJ.out, by rw [← HR.out, joinOk_all h1.2, HJ.out]⟩
      obtain ⟨sa, sc, rfl⟩ := hsn
      have Hown := Lib.hid hown
      have HO := fun (w' : World) (h : Below wr.heap.size wr w') => run_own_string (P := Tryz.prog) w' w.heap.size 58 9 5 (.slice sa m sc) L Tryz.underlying58 Tryz.underlying5 Tryz.underlying9 (by rw [hL.out]; exact Hown.out.kept (below_grows h) (Classical.em _))
      have hLm : L.length ≤ 100000 := by rw [hL.out]; omega
      obtain ⟨r, hr⟩ : ∃ r, rightB L = r := ⟨_, rfl⟩
      have HRt := Lib.hid (refRight_r L hLm hr)
      have hrR : Hid (r = R) := by rw [Hid, htk.out.2, ← htk.out.1, hr]
      have HO' := Lib.hid HO
      have kc := HO wr (Below.refl _ _)
      clear hr hown HO
      cases r with
      | false =>
        go_wp2_with fail
        refine (HRt.out _).mono ?_
        rintro e w2 ⟨rfl, hb2⟩
        go_wp2
        go_ret2
        exact JoinPost.no hrR.out (hb.trans (hb2.mono hb.size))
      | true =>
        go_wp2_with fail
        refine (HRt.out _).mono ?_
        rintro e w2 ⟨rfl, hb2⟩
        have kc2 := HO'.out w2 hb2
        go_wp2
        go_ret2
        rw [htk.out.1]
        exact JoinPost.yes hrR.out (hb.trans (hb2.mono hb.size))
end Go.Proofs.YtieeloealklkgaaGreatDoor
