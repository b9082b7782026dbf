/-
  A range over a function whose iterator gives a known list of values, may turn blocks of its own (captured variables), and reads blocks that the body keeps.
-/
import Derived.Test.YtnanleopoedgfaaFr
set_option linter.unusedSimpArgs false
set_option linter.unusedVariables false
namespace Go.Proofs.Ytnanleopoedgfaa
open Go.RowKit

/-- The blocks in R are as they were. -/
def Keep (R : Nat → Prop) (w w' : World) : Prop := w.heap.size ≤ w'.heap.size ∧ ∀ k, R k → w'.heap[k]? = w.heap[k]?
theorem Keep.refl (R : Nat → Prop) (w : World) : Keep R w w := ⟨Nat.le_refl _, fun _ _ => rfl⟩
theorem Keep.trans {R : Nat → Prop} {a b c : World} (h : Keep R a b) (k : Keep R b c) : Keep R a c := ⟨Nat.le_trans h.1 k.1, fun i hi => (k.2 i hi).trans (h.2 i hi)⟩
theorem Fr.keep {S R : Nat → Prop} {w w' : World} (h : Fr S w w') (hR : ∀ k, R k → k < w.heap.size ∧ ¬ S k) : Keep R w w' := ⟨h.size, fun k hk => h.block k (hR k hk).1 (hR k hk).2⟩

/-- The iterator 'gf' with what it has captured, in w: it gives the values xs, one after the other; it turns no block but those in 'own', and it needs those in 'rd' kept. -/
def Iter {α : Type} (P : Program) (gf : Nat) (lb : Array Value) (encs : α → Array Value) (xs : List α) (own rd : Nat → Prop) (w : World) : Prop :=
  ∀ (l : Nat) (J : Nat → World → Prop) (Jx : World → Prop) (W : World), Keep rd w W →
    (∀ i W1 W2, J i W1 → Fr own W1 W2 → J i W2) → (∀ W1 W2, Jx W1 → Fr own W1 W2 → Jx W2) →
    (∀ i x W1, xs[i]? = some x → J i W1 → YieldAt Fence.wide 0 P l (encs x) W1 fun e W2 =>
      (e = .returned (.bool true) ∧ J (i + 1) W2 ∧ Keep rd W1 W2) ∨ (e = .returned (.bool false) ∧ Jx W2)) →
    J 0 W →
    CallsIn Fence.wide 0 P gf (#[.func (.yield l) #[] #[]] ++ lb) W fun e W' => (∃ v, e = .returned v) ∧ (J xs.length W' ∨ Jx W')

/-- How a round's body may be left. -/
def iterPost (S : Nat → Prop) (I : Nat → World → Prop) (Ix : Code → World → Prop) (i : Nat) (W : World) : Exit → Act → World → Prop
  | .normal, _, W' => ∃ S', Fr S' W W' ∧ (∀ k, S' k → S k → False) ∧ I i W'
  | .ret, _, W' => ∃ S', Fr S' W W' ∧ (∀ k, S' k → S k → False) ∧ Ix .ret W'
  | .exit id, _, W' => ∃ S', Fr S' W W' ∧ (∀ k, S' k → S k → False) ∧ Ix (.exit id) W'
  | .goto t, _, W' => ∃ S', Fr S' W W' ∧ (∀ k, S' k → S k → False) ∧ Ix (.goto t) W'
  | .panic _, _, _ => False
  | .outgrown, _, _ => False

variable {P : Program}

theorem Fr.putNew {a : World} {S : Nat → Prop} (r : Nat) (o : Obj) (hp : S r) : Fr S a (a.putObj r o) := (Fr.refl S a).putObj (fun _ => hp) o

/-- THE LAW. 'I i W': i values have come. It must outlive turns of 'own' and of the loop's two blocks. The body must turn none of 'rd' and none of the loop's two blocks. -/
theorem wpIn_iter {α : Type} {g : Operand} {ps : Array Tmp} {assign body : Code} {Q : Exit → Act → World → Prop} {a : Act} {w : World}
    {gf : Nat} {lb : Array Value} (hg : a.eval g = .func (.func gf) #[] lb) (eg : ∀ args w, (callFunc gf args).run P w = .ok (.enter gf args) w)
    {encs : α → Array Value} {xs : List α} {own rd : Nat → Prop} {w0 : World} (hseq : Iter P gf lb encs xs own rd w0) (hb0 : Keep rd w0 w) (hps : ∀ x, (encs x).size = ps.size)
    (hown : ∀ k, own k → k < w.heap.size) (hrd : ∀ k, rd k → k < w.heap.size)
    (I : Nat → World → Prop) (Ix : Code → World → Prop)
    (hI : ∀ i W1 W2, I i W1 → Fr (fun k => own k ∨ k = w.heap.size ∨ k = w.heap.size + 1) W1 W2 → I i W2)
    (hIx : ∀ c W1 W2, Ix c W1 → Fr (fun k => own k ∨ k = w.heap.size ∨ k = w.heap.size + 1) W1 W2 → Ix c W2) (h0 : I 0 w) (a₁ : α → World → Act → Prop)
    (hassign : ∀ (l : Nat) (x : α) (W : World) (K : Act → World → Prop), w.heap.size + 1 < W.heap.size → (∀ a' W', a₁ x W' a' → Fr none' W W' → K a' W') →
      assign.wpIn (Fence.wide.inRound l) 0 P (Exit.then K (fun _ _ _ => False)) { tmps := (ps.zip (encs x)).foldl (fun t (p, v) => t.setIfInBounds p v) a.tmps, defers := [] } W)
    (ha₁ : ∀ x W1 W2 a', a₁ x W1 a' → Fr (fun k => k = w.heap.size + 1) W1 W2 → a₁ x W2 a')
    (hbody : ∀ (l i : Nat) (x : α) (W : World) (a' : Act) (r : Loop), xs[i]? = some x → I i W → a₁ x W a' → W.heap[w.heap.size]? = some (.deferred (some [])) → W.heap[w.heap.size + 1]? = some (.loop r) →
      body.wpIn (Fence.wide.inRound l) 0 P (iterPost (fun k => rd k ∨ k = w.heap.size ∨ k = w.heap.size + 1) I Ix (i + 1) W) a' W)
    (hdone : ∀ (D : Nat) (W : World), D = w.heap.size → I xs.length W → W.heap[D]? = some (.deferred (some [])) → Q .normal { a with defers := { target := .collected D, args := #[] } :: a.defers } W)
    (hstop : ∀ (D : Nat) (c : Code) (W : World), D = w.heap.size → Ix c W → W.heap[D]? = some (.deferred (some [])) → c.wpIn Fence.wide 0 P Q { a with defers := { target := .collected D, args := #[] } :: a.defers } W) :
    (Code.rangeFunc g ps assign body).wpIn Fence.wide 0 P Q a w := by
  refine wpIn_rangeFunc ?_
  intro fn hfn
  obtain ⟨rec, hrec⟩ : ∃ rec : LoopState → Option Code → Loop, rec = fun st pe => { state := st, pending := pe, fn, tmps := a.tmps, params := ps, assign, body, defers := w.heap.size } := ⟨_, rfl⟩
  obtain ⟨B, hB⟩ : ∃ B, w.heap.size = B := ⟨_, rfl⟩
  obtain ⟨W1, hW1⟩ : ∃ W1, (w.alloc (.deferred (some []))).alloc (.loop (rec .ready none)) = W1 := ⟨_, rfl⟩
  have hf1 : Fr none' w W1 := by rw [← hW1]; exact ((Fr.refl _ _).alloc _).alloc _
  have hL1 : W1.heap[B + 1]? = some (.loop (rec .ready none)) := by
    rw [← hW1, ← hB]; have := World.alloc_heap_new (w.alloc (.deferred (some []))) (.loop (rec .ready none)); rwa [World.size_alloc] at this
  have hK1 : W1.heap[B]? = some (.deferred (some [])) := by
    rw [← hW1, ← hB]; exact (Below.heap_alloc _ _ _ (by simp)).trans (World.alloc_heap_new w _)
  rw [hB] at hI hIx hbody hdone hstop hassign ha₁ hown hrd
  have hI1 : I 0 W1 := hI _ _ _ h0 (hf1.mono (fun k _ h => h.elim))
  refine ⟨B + 1, [{ target := .collected B, args := #[] }], W1, { target := .fn (.func gf) lb, args := #[.func (.yield (B + 1)) #[] #[]] }, W1, gf,
    #[.func (.yield (B + 1)) #[] #[]] ++ lb, W1, ?_, ?_, fun _ _ => trivial, ?_, fun h => by simp [Fence.wide] at h, ?_⟩
  · have := run_enterLoop_outer (P := P) (w := w) fn a.tmps ps assign body
    rw [← hW1, hrec]
    simp only [hB] at this ⊢
    exact this
  · simp only [resolve, hg]
    simp [go_sem]
  · simp [invoke, go_sem, eg]
  · refine CallsIn.mono ((hseq (B + 1)
      (fun i W => I i W ∧ W.heap[B + 1]? = some (.loop (rec .ready none)) ∧ W.heap[B]? = some (.deferred (some [])))
      (fun W => ∃ c, Ix c W ∧ W.heap[B + 1]? = some (.loop (rec .done (some c))) ∧ W.heap[B]? = some (.deferred (some [])))
      W1 (hb0.trans (hf1.keep (fun k hk => ⟨by rw [hB]; exact hrd k hk, id⟩)))
      ?_ ?_ ?_ ⟨hI1, hL1, hK1⟩)) ?_
    · rintro i A C ⟨hi, hl, hk⟩ hf
      have l1 := (Array.getElem?_eq_some_iff.1 hl).1
      exact ⟨hI i A C hi (hf.mono (fun k _ h => .inl h)), (hf.block _ l1 (fun h => by have := hown _ h; omega)).trans hl, (hf.block _ (by omega) (fun h => by have := hown _ h; omega)).trans hk⟩
    · rintro A C ⟨c, hi, hl, hk⟩ hf
      have l1 := (Array.getElem?_eq_some_iff.1 hl).1
      exact ⟨c, hIx c A C hi (hf.mono (fun k _ h => .inl h)), (hf.block _ l1 (fun h => by have := hown _ h; omega)).trans hl, (hf.block _ (by omega) (fun h => by have := hown _ h; omega)).trans hk⟩
    · rintro i x W hx ⟨hi, hl, hk⟩
      have hlt : B + 1 < W.heap.size := (Array.getElem?_eq_some_iff.1 hl).1
      have hy := run_yield (P := P) (args := encs x) hl (by rw [hrec]; exact hps x)
      rw [hrec] at hy
      refine ⟨fn, _, assign, body, hy, roundIn_of_wpIn (n := 0) hfn (hassign _ x W _ hlt ?_)⟩
      intro a' W' ha' hf'
      have hl' : W'.heap[B + 1]? = some (.loop (rec .ready none)) := (hf'.block _ hlt id).trans hl
      have hk' : W'.heap[B]? = some (.deferred (some [])) := (hf'.block _ (by omega) id).trans hk
      have hlt' : B + 1 < W'.heap.size := (Array.getElem?_eq_some_iff.1 hl').1
      refine ⟨_, run_beginRound hl' (by rw [hrec]), ?_⟩
      obtain ⟨W2, hW2⟩ : ∃ W2, W'.putObj (B + 1) (.loop { rec .ready none with state := .busy }) = W2 := ⟨_, rfl⟩
      have hf2 : Fr (fun k => k = B + 1) W' W2 := by rw [← hW2]; exact Fr.putNew _ _ rfl
      have hl2 : W2.heap[B + 1]? = some (.loop { rec .ready none with state := .busy }) := by rw [← hW2]; exact World.putObj_heap_same hlt'
      have hk2 : W2.heap[B]? = some (.deferred (some [])) := (hf2.block _ (by omega) (by omega)).trans hk'
      rw [hW2]
      have hi2 : I i W2 := hI _ _ _ (hI _ _ _ hi (hf'.mono (fun k _ h => h.elim))) (hf2.mono (fun k _ h => .inr (.inr h)))
      have kW2 : Keep rd W W2 := (hf'.keep (fun k hk => ⟨by have := hrd k hk; omega, id⟩)).trans (hf2.keep (fun k hk => ⟨by have := hrd k hk; omega, by have := hrd k hk; omega⟩))
      refine wpIn_mono (hbody _ i x W2 a' _ hx hi2 (ha₁ _ _ _ _ ha' hf2) hk2 hl2) ?_
      have fin : ∀ (jump : Option Code) (W3 : World) (S' : Nat → Prop), Fr S' W2 W3 → (∀ k, S' k → (rd k ∨ k = B ∨ k = B + 1) → False) →
          (Instr.endRound (B + 1) jump).run P W3 = .ok (.bool jump.isNone) (W3.putObj (B + 1) (.loop (rec (if jump.isNone then .ready else .done) jump))) ∧
          (W3.putObj (B + 1) (.loop (rec (if jump.isNone then .ready else .done) jump))).heap[B + 1]? = some (.loop (rec (if jump.isNone then .ready else .done) jump)) ∧
          (W3.putObj (B + 1) (.loop (rec (if jump.isNone then .ready else .done) jump))).heap[B]? = some (.deferred (some [])) ∧
          Fr (fun k => own k ∨ k = B ∨ k = B + 1) W3 (W3.putObj (B + 1) (.loop (rec (if jump.isNone then .ready else .done) jump))) ∧
          Keep rd W (W3.putObj (B + 1) (.loop (rec (if jump.isNone then .ready else .done) jump))) := by
        intro jump W3 S' hf3 hS'
        have l2 := (Array.getElem?_eq_some_iff.1 hl2).1
        have hl3 := (hf3.block _ l2 (fun h => hS' _ h (.inr (.inr rfl)))).trans hl2
        have hk3 := (hf3.block _ (by omega) (fun h => hS' _ h (.inr (.inl rfl)))).trans hk2
        have l3 := (Array.getElem?_eq_some_iff.1 hl3).1
        have := run_endRound (P := P) jump hl3
        rw [hrec] at this ⊢
        refine ⟨this, World.putObj_heap_same l3, (World.putObj_heap_other (by omega)).trans hk3, Fr.putNew _ _ (.inr (.inr rfl)), ?_⟩
        refine (kW2.trans (hf3.keep (fun k hk => ⟨by have := hrd k hk; omega, fun h => hS' _ h (.inl hk)⟩))).trans ?_
        exact (Fr.putNew (S := fun k => k = B + 1) _ _ rfl).keep (fun k hk => ⟨by have := hrd k hk; omega, by have := hrd k hk; omega⟩)
      rintro e a3 W3 hp
      cases e with
      | normal =>
        obtain ⟨S', hf3, hS', hi3⟩ := hp
        obtain ⟨hr, hl4, hk4, hf4, hk5⟩ := fin none W3 S' hf3 hS'
        exact ⟨_, _, hr, .inl ⟨rfl, ⟨hI _ _ _ hi3 hf4, hl4, hk4⟩, hk5⟩⟩
      | ret =>
        obtain ⟨S', hf3, hS', hi3⟩ := hp
        obtain ⟨hr, hl4, hk4, hf4, hk5⟩ := fin (some .ret) W3 S' hf3 hS'
        exact ⟨_, _, hr, .inr ⟨rfl, .ret, hIx _ _ _ hi3 hf4, hl4, hk4⟩⟩
      | exit id =>
        obtain ⟨S', hf3, hS', hi3⟩ := hp
        obtain ⟨hr, hl4, hk4, hf4, hk5⟩ := fin (some (.exit id)) W3 S' hf3 hS'
        exact ⟨_, _, hr, .inr ⟨rfl, .exit id, hIx _ _ _ hi3 hf4, hl4, hk4⟩⟩
      | goto t =>
        obtain ⟨S', hf3, hS', hi3⟩ := hp
        obtain ⟨hr, hl4, hk4, hf4, hk5⟩ := fin (some (.goto t)) W3 S' hf3 hS'
        exact ⟨_, _, hr, .inr ⟨rfl, .goto t, hIx _ _ _ hi3 hf4, hl4, hk4⟩⟩
      | panic ch => exact hp.elim
      | outgrown => exact hp.elim
    · rintro e W2 ⟨⟨v, rfl⟩, (⟨hi, hl, hk⟩ | ⟨c, hi, hl, hk⟩)⟩
      · exact ⟨none, _, by have := run_endLoop (P := P) hl (by rw [hrec]; simp); rw [hrec] at this; exact this, hdone _ _ rfl (hI _ _ _ hi (Fr.putNew _ _ (.inr (.inr rfl)))) ((World.putObj_heap_other (by omega)).trans hk)⟩
      · exact ⟨some c, _, by have := run_endLoop (P := P) hl (by rw [hrec]; simp); rw [hrec] at this; exact this, hstop _ c _ rfl (hIx c _ _ hi (Fr.putNew _ _ (.inr (.inr rfl)))) ((World.putObj_heap_other (by omega)).trans hk)⟩

theorem wide_fn (k : Nat) : Fence.wide.fn k = True := rfl
theorem wide_depth : Fence.wide.depth = none := rfl
theorem wide_fnR (l k : Nat) : (Fence.wide.inRound l).fn k = True := rfl
theorem wide_depthR (l : Nat) : (Fence.wide.inRound l).depth = none := rfl
end Go.Proofs.Ytnanleopoedgfaa
