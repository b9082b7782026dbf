/-
  A range over a function whose iterator keeps blocks of its own that it makes while it runs.
-/
import Derived.Test.YtbpmdhngobdilaaIter
namespace Go.Proofs.Ytbpmdhngobdilaa
open Go.RowKit

/-- Like Iter; the iterator may have blocks of its own, X, made since it was called; the body keeps them. -/
def IterX {α : Type} (P : Program) (gf : Nat) (lb : Array Value) (encs : α → Array Value) (xs : List α) (own rd : Nat → Prop) (w : World) : Prop :=
  ∀ (l : Nat) (J : Nat → (Nat → Prop) → World → Prop) (Jx : World → Prop) (W : World), Keep rd w W →
    (∀ i X Y W1 W2, J i X W1 → Fr (fun k => own k ∨ X k) W1 W2 → (∀ k, Y k → X k ∨ (W1.heap.size ≤ k ∧ k < W2.heap.size)) → J i Y W2) →
    (∀ W1 W2, Jx W1 → Fr own W1 W2 → Jx W2) →
    (∀ i x X W1, xs[i]? = some x → J i X W1 → YieldAt Fence.wide 0 P l (encs x) W1 fun e W2 =>
      (e = .returned (.bool true) ∧ J (i + 1) X W2 ∧ Keep (fun k => rd k ∨ X k) W1 W2) ∨ (e = .returned (.bool false) ∧ Jx W2)) →
    J 0 none' W →
    CallsIn Fence.wide 0 P gf (#[.func (.yield l) #[] #[]] ++ lb) W fun e W' => (∃ v, e = .returned v) ∧ ((∃ X, J xs.length X W') ∨ Jx W')
theorem Iter.x {α : Type} {P : Program} {gf : Nat} {lb : Array Value} {encs : α → Array Value} {xs : List α} {own rd : Nat → Prop} {w : World} (h : Iter P gf lb encs xs own rd w) : IterX P gf lb encs xs own rd w := by
  intro l J Jx W hK hJ hJx hY h0
  refine CallsIn.mono (h l (fun i W => J i none' W) Jx W hK (fun i W1 W2 h1 hf => hJ i none' none' W1 W2 h1 (hf.mono (fun k _ h => .inl h)) (fun k hk => hk.elim)) hJx (fun i x W1 hx h1 => ?_) h0) ?_
  · obtain ⟨fn, tmps, assign, body, hy, hR⟩ := hY i x none' W1 hx h1
    refine ⟨fn, tmps, assign, body, hy, hR.mono ?_⟩
    rintro e W2 (⟨rfl, h2, hk⟩ | h2)
    · exact .inl ⟨rfl, h2, hk.1, fun k hr => hk.2 k (.inl hr)⟩
    · exact .inr h2
  · rintro e W' ⟨hv, h1 | h1⟩
    · exact ⟨hv, .inl ⟨_, h1⟩⟩
    · exact ⟨hv, .inr h1⟩

variable {P : Program}

/-- THE LAW. 'I i W': i values have come. It must outlive turns of 'own' and of the loop's two blocks. The body must turn none of 'rd' and none of the loop's two blocks. -/
theorem wpIn_iterX {α : Type} {g : Operand} {ps : Array Tmp} {assign body : Code} {Q : Exit → Act → World → Prop} {a : Act} {w : World}
    {gf : Nat} {lb : Array Value} (hg : a.eval g = .func (.func gf) #[] lb) (eg : ∀ args w, (callFunc gf args).run P w = .ok (.enter gf args) w)
    {encs : α → Array Value} {xs : List α} {own rd : Nat → Prop} {w0 : World} (hseq : IterX P gf lb encs xs own rd w0) (hb0 : Keep rd w0 w) (hps : ∀ x, (encs x).size = ps.size)
    (hown : ∀ k, own k → k < w.heap.size) (hrd : ∀ k, rd k → k < w.heap.size)
    (I : Nat → (Nat → Prop) → World → Prop) (Ix : Code → World → Prop)
    (hI : ∀ i X Y W1 W2, I i X W1 → (∀ k, X k → w.heap.size + 1 < k ∧ k < W1.heap.size) → Fr (fun k => own k ∨ X k ∨ k = w.heap.size ∨ k = w.heap.size + 1) W1 W2 → (∀ k, Y k → X k ∨ (W1.heap.size ≤ k ∧ k < W2.heap.size)) → I i Y W2)
    (hIx : ∀ c W1 W2, Ix c W1 → Fr (fun k => own k ∨ k = w.heap.size ∨ k = w.heap.size + 1) W1 W2 → Ix c W2) (h0 : I 0 none' w) (a₁ : α → World → Act → Prop)
    (hassign : ∀ (l : Nat) (x : α) (W : World) (K : Act → World → Prop), w.heap.size + 1 < W.heap.size → (∀ a' W', a₁ x W' a' → Fr none' W W' → K a' W') →
      assign.wpIn (Fence.wide.inRound l) 0 P (Exit.then K (fun _ _ _ => False)) { tmps := (ps.zip (encs x)).foldl (fun t (p, v) => t.setIfInBounds p v) a.tmps, defers := [] } W)
    (ha₁ : ∀ x W1 W2 a', a₁ x W1 a' → Fr (fun k => k = w.heap.size + 1) W1 W2 → a₁ x W2 a')
    (hbody : ∀ (l i : Nat) (x : α) (X : Nat → Prop) (W : World) (a' : Act) (r : Loop), xs[i]? = some x → I i X W → (∀ k, X k → w.heap.size + 1 < k ∧ k < W.heap.size) → a₁ x W a' → W.heap[w.heap.size]? = some (.deferred (some [])) → W.heap[w.heap.size + 1]? = some (.loop r) →
      body.wpIn (Fence.wide.inRound l) 0 P (iterPost (fun k => rd k ∨ X k ∨ k = w.heap.size ∨ k = w.heap.size + 1) (fun i => I i X) Ix (i + 1) W) a' W)
    (hdone : ∀ (D : Nat) (X : Nat → Prop) (W : World), D = w.heap.size → I xs.length X W → W.heap[D]? = some (.deferred (some [])) → Q .normal { a with defers := { target := .collected D, args := #[] } :: a.defers } W)
    (hstop : ∀ (D : Nat) (c : Code) (W : World), D = w.heap.size → Ix c W → W.heap[D]? = some (.deferred (some [])) → c.wpIn Fence.wide 0 P Q { a with defers := { target := .collected D, args := #[] } :: a.defers } W) :
    (Code.rangeFunc g ps assign body).wpIn Fence.wide 0 P Q a w := by
  refine wpIn_rangeFunc ?_
  intro fn hfn
  obtain ⟨rec, hrec⟩ : ∃ rec : LoopState → Option Code → Loop, rec = fun st pe => { state := st, pending := pe, fn, tmps := a.tmps, params := ps, assign, body, defers := w.heap.size } := ⟨_, rfl⟩
  obtain ⟨B, hB⟩ : ∃ B, w.heap.size = B := ⟨_, rfl⟩
  obtain ⟨W1, hW1⟩ : ∃ W1, (w.alloc (.deferred (some []))).alloc (.loop (rec .ready none)) = W1 := ⟨_, rfl⟩
  have hf1 : Fr none' w W1 := by rw [← hW1]; exact ((Fr.refl _ _).alloc _).alloc _
  have hL1 : W1.heap[B + 1]? = some (.loop (rec .ready none)) := by
    rw [← hW1, ← hB]; have := World.alloc_heap_new (w.alloc (.deferred (some []))) (.loop (rec .ready none)); rwa [World.size_alloc] at this
  have hK1 : W1.heap[B]? = some (.deferred (some [])) := by
    rw [← hW1, ← hB]; exact (Below.heap_alloc _ _ _ (by simp)).trans (World.alloc_heap_new w _)
  rw [hB] at hI hIx hbody hdone hstop hassign ha₁ hown hrd
  have hI1 : I 0 none' W1 := hI _ _ none' _ _ h0 (fun k h => h.elim) (hf1.mono (fun k _ h => h.elim)) (fun k h => h.elim)
  refine ⟨B + 1, [{ target := .collected B, args := #[] }], W1, { target := .fn (.func gf) lb, args := #[.func (.yield (B + 1)) #[] #[]] }, W1, gf,
    #[.func (.yield (B + 1)) #[] #[]] ++ lb, W1, ?_, ?_, fun _ _ => trivial, ?_, fun h => by simp [Fence.wide] at h, ?_⟩
  · have := run_enterLoop_outer (P := P) (w := w) fn a.tmps ps assign body
    rw [← hW1, hrec]
    simp only [hB] at this ⊢
    exact this
  · simp only [resolve, hg]
    simp [go_sem]
  · simp [invoke, go_sem, eg]
  · refine CallsIn.mono ((hseq (B + 1)
      (fun i X W => I i X W ∧ (∀ k, X k → B + 1 < k ∧ k < W.heap.size) ∧ W.heap[B + 1]? = some (.loop (rec .ready none)) ∧ W.heap[B]? = some (.deferred (some [])))
      (fun W => ∃ c, Ix c W ∧ W.heap[B + 1]? = some (.loop (rec .done (some c))) ∧ W.heap[B]? = some (.deferred (some [])))
      W1 (hb0.trans (hf1.keep (fun k hk => ⟨by rw [hB]; exact hrd k hk, id⟩)))
      ?_ ?_ ?_ ⟨hI1, fun k h => h.elim, hL1, hK1⟩)) ?_
    · rintro i X Y A C ⟨hi, hX, hl, hk⟩ hf hY
      have l1 := (Array.getElem?_eq_some_iff.1 hl).1
      have l2 := hf.size
      refine ⟨hI i X Y A C hi hX (hf.mono (fun k _ h => h.elim .inl (fun h => .inr (.inl h)))) hY, fun k hk => ?_, (hf.block _ l1 (fun h => ?_)).trans hl, (hf.block _ (by omega) (fun h => ?_)).trans hk⟩
      · rcases hY k hk with h | h
        · have := hX k h; omega
        · omega
      · rcases h with h | h
        · have := hown _ h; omega
        · have := hX _ h; omega
      · rcases h with h | h
        · have := hown _ h; omega
        · have := hX _ h; omega
    · rintro A C ⟨c, hi, hl, hk⟩ hf
      have l1 := (Array.getElem?_eq_some_iff.1 hl).1
      exact ⟨c, hIx c A C hi (hf.mono (fun k _ h => .inl h)), (hf.block _ l1 (fun h => by have := hown _ h; omega)).trans hl, (hf.block _ (by omega) (fun h => by have := hown _ h; omega)).trans hk⟩
    · rintro i x X W hx ⟨hi, hX, hl, hk⟩
      have hlt : B + 1 < W.heap.size := (Array.getElem?_eq_some_iff.1 hl).1
      have hy := run_yield (P := P) (args := encs x) hl (by rw [hrec]; exact hps x)
      rw [hrec] at hy
      refine ⟨fn, _, assign, body, hy, roundIn_of_wpIn (n := 0) hfn (hassign _ x W _ hlt ?_)⟩
      intro a' W' ha' hf'
      have hl' : W'.heap[B + 1]? = some (.loop (rec .ready none)) := (hf'.block _ hlt id).trans hl
      have hk' : W'.heap[B]? = some (.deferred (some [])) := (hf'.block _ (by omega) id).trans hk
      have hlt' : B + 1 < W'.heap.size := (Array.getElem?_eq_some_iff.1 hl').1
      refine ⟨_, run_beginRound hl' (by rw [hrec]), ?_⟩
      obtain ⟨W2, hW2⟩ : ∃ W2, W'.putObj (B + 1) (.loop { rec .ready none with state := .busy }) = W2 := ⟨_, rfl⟩
      have hf2 : Fr (fun k => k = B + 1) W' W2 := by rw [← hW2]; exact Fr.putNew _ _ rfl
      have hl2 : W2.heap[B + 1]? = some (.loop { rec .ready none with state := .busy }) := by rw [← hW2]; exact World.putObj_heap_same hlt'
      have hk2 : W2.heap[B]? = some (.deferred (some [])) := (hf2.block _ (by omega) (by omega)).trans hk'
      rw [hW2]
      have hX' : ∀ k, X k → B + 1 < k ∧ k < W'.heap.size := fun k hk => ⟨(hX k hk).1, Nat.lt_of_lt_of_le (hX k hk).2 hf'.size⟩
      have hX2 : ∀ k, X k → B + 1 < k ∧ k < W2.heap.size := fun k hk => ⟨(hX k hk).1, Nat.lt_of_lt_of_le (hX' k hk).2 hf2.size⟩
      have hi2 : I i X W2 := hI _ _ _ _ _ (hI _ _ _ _ _ hi hX (hf'.mono (fun k _ h => h.elim)) (fun k h => .inl h)) hX' (hf2.mono (fun k _ h => .inr (.inr (.inr h)))) (fun k h => .inl h)
      have hrx : ∀ k, (rd k ∨ X k) → k < W.heap.size ∧ k ≠ B ∧ k ≠ B + 1 := fun k h => by
        rcases h with h | h
        · have := hrd k h; omega
        · have := hX k h; omega
      have z1 := hf'.size
      have z2 := hf2.size
      have kW2 : Keep (fun k => rd k ∨ X k) W W2 := (hf'.keep (fun k hk => ⟨(hrx k hk).1, id⟩)).trans (hf2.keep (fun k hk => ⟨by have := hrx k hk; omega, (hrx k hk).2.2⟩))
      refine wpIn_mono (hbody _ i x X W2 a' _ hx hi2 hX2 (ha₁ _ _ _ _ ha' hf2) hk2 hl2) ?_
      have fin : ∀ (jump : Option Code) (W3 : World) (S' : Nat → Prop), Fr S' W2 W3 → (∀ k, S' k → (rd k ∨ X k ∨ k = B ∨ k = B + 1) → False) →
          (Instr.endRound (B + 1) jump).run P W3 = .ok (.bool jump.isNone) (W3.putObj (B + 1) (.loop (rec (if jump.isNone then .ready else .done) jump))) ∧
          (W3.putObj (B + 1) (.loop (rec (if jump.isNone then .ready else .done) jump))).heap[B + 1]? = some (.loop (rec (if jump.isNone then .ready else .done) jump)) ∧
          (W3.putObj (B + 1) (.loop (rec (if jump.isNone then .ready else .done) jump))).heap[B]? = some (.deferred (some [])) ∧
          Fr (fun k => own k ∨ k = B ∨ k = B + 1) W3 (W3.putObj (B + 1) (.loop (rec (if jump.isNone then .ready else .done) jump))) ∧
          Keep (fun k => rd k ∨ X k) W (W3.putObj (B + 1) (.loop (rec (if jump.isNone then .ready else .done) jump))) := by
        intro jump W3 S' hf3 hS'
        have l2 := (Array.getElem?_eq_some_iff.1 hl2).1
        have hl3 := (hf3.block _ l2 (fun h => hS' _ h (.inr (.inr (.inr rfl))))).trans hl2
        have hk3 := (hf3.block _ (by omega) (fun h => hS' _ h (.inr (.inr (.inl rfl))))).trans hk2
        have l3 := (Array.getElem?_eq_some_iff.1 hl3).1
        have := run_endRound (P := P) jump hl3
        rw [hrec] at this ⊢
        refine ⟨this, World.putObj_heap_same l3, (World.putObj_heap_other (by omega)).trans hk3, Fr.putNew _ _ (.inr (.inr rfl)), ?_⟩
        have z3 := hf3.size
        refine (kW2.trans (hf3.keep (fun k hk => ⟨by have := hrx k hk; omega, fun h => hS' _ h (hk.elim .inl (fun h => .inr (.inl h)))⟩))).trans ?_
        exact (Fr.putNew (S := fun k => k = B + 1) _ _ rfl).keep (fun k hk => ⟨by have := hrx k hk; omega, (hrx k hk).2.2⟩)
      rintro e a3 W3 hp
      cases e with
      | normal =>
        obtain ⟨S', hf3, hS', hi3⟩ := hp
        obtain ⟨hr, hl4, hk4, hf4, hk5⟩ := fin none W3 S' hf3 hS'
        have z3 := hf3.size
        have z4 := hf4.size
        exact ⟨_, _, hr, .inl ⟨rfl, ⟨hI _ _ _ _ _ hi3 (fun k hk => ⟨(hX k hk).1, by have := hX2 k hk; omega⟩) (hf4.mono (fun k _ h => h.elim .inl (fun h => .inr (.inr h)))) (fun k h => .inl h), fun k hk => ⟨(hX k hk).1, by have := hX2 k hk; omega⟩, hl4, hk4⟩, hk5⟩⟩
      | ret =>
        obtain ⟨S', hf3, hS', hi3⟩ := hp
        obtain ⟨hr, hl4, hk4, hf4, hk5⟩ := fin (some .ret) W3 S' hf3 hS'
        exact ⟨_, _, hr, .inr ⟨rfl, .ret, hIx _ _ _ hi3 hf4, hl4, hk4⟩⟩
      | exit id =>
        obtain ⟨S', hf3, hS', hi3⟩ := hp
        obtain ⟨hr, hl4, hk4, hf4, hk5⟩ := fin (some (.exit id)) W3 S' hf3 hS'
        exact ⟨_, _, hr, .inr ⟨rfl, .exit id, hIx _ _ _ hi3 hf4, hl4, hk4⟩⟩
      | goto t =>
        obtain ⟨S', hf3, hS', hi3⟩ := hp
        obtain ⟨hr, hl4, hk4, hf4, hk5⟩ := fin (some (.goto t)) W3 S' hf3 hS'
        exact ⟨_, _, hr, .inr ⟨rfl, .goto t, hIx _ _ _ hi3 hf4, hl4, hk4⟩⟩
      | panic ch => exact hp.elim
      | outgrown => exact hp.elim
    · rintro e W2 ⟨⟨v, rfl⟩, (⟨X, hi, hX, hl, hk⟩ | ⟨c, hi, hl, hk⟩)⟩
      · exact ⟨none, _, by have := run_endLoop (P := P) hl (by rw [hrec]; simp); rw [hrec] at this; exact this, hdone _ X _ rfl (hI _ _ _ _ _ hi hX (Fr.putNew _ _ (.inr (.inr (.inr rfl)))) (fun k h => .inl h)) ((World.putObj_heap_other (by omega)).trans hk)⟩
      · exact ⟨some c, _, by have := run_endLoop (P := P) hl (by rw [hrec]; simp); rw [hrec] at this; exact this, hstop _ c _ rfl (hIx c _ _ hi (Fr.putNew _ _ (.inr (.inr rfl)))) ((World.putObj_heap_other (by omega)).trans hk)⟩

/-- The law where the loop's variables are slots: what a round begins with is a function of the value. -/
theorem wpIn_iterF {α : Type} {g : Operand} {ps : Array Tmp} {assign body : Code} {Q : Exit → Act → World → Prop} {a : Act} {w : World}
    {gf : Nat} {lb : Array Value} (hg : a.eval g = .func (.func gf) #[] lb) (eg : ∀ args w, (callFunc gf args).run P w = .ok (.enter gf args) w)
    {encs : α → Array Value} {xs : List α} {own rd : Nat → Prop} {w0 : World} (hseq : IterX P gf lb encs xs own rd w0) (hb0 : Keep rd w0 w) (hps : ∀ x, (encs x).size = ps.size)
    (hown : ∀ k, own k → k < w.heap.size) (hrd : ∀ k, rd k → k < w.heap.size)
    (I : Nat → (Nat → Prop) → World → Prop) (Ix : Code → World → Prop)
    (hI : ∀ i X Y W1 W2, I i X W1 → (∀ k, X k → w.heap.size + 1 < k ∧ k < W1.heap.size) → Fr (fun k => own k ∨ X k ∨ k = w.heap.size ∨ k = w.heap.size + 1) W1 W2 → (∀ k, Y k → X k ∨ (W1.heap.size ≤ k ∧ k < W2.heap.size)) → I i Y W2)
    (hIx : ∀ c W1 W2, Ix c W1 → Fr (fun k => own k ∨ k = w.heap.size ∨ k = w.heap.size + 1) W1 W2 → Ix c W2) (h0 : I 0 none' w) (F : α → Array Value → Array Value)
    (hassign : ∀ (l : Nat) (x : α) (W : World) (K : Act → World → Prop), w.heap.size + 1 < W.heap.size → (∀ W', Fr none' W W' → K { tmps := F x a.tmps, defers := [] } W') →
      assign.wpIn (Fence.wide.inRound l) 0 P (Exit.then K (fun _ _ _ => False)) { tmps := (ps.zip (encs x)).foldl (fun t (p, v) => t.setIfInBounds p v) a.tmps, defers := [] } W)
    (hbody : ∀ (l i : Nat) (x : α) (X : Nat → Prop) (W : World) (r : Loop), xs[i]? = some x → I i X W → (∀ k, X k → w.heap.size + 1 < k ∧ k < W.heap.size) → W.heap[w.heap.size]? = some (.deferred (some [])) → W.heap[w.heap.size + 1]? = some (.loop r) →
      body.wpIn (Fence.wide.inRound l) 0 P (iterPost (fun k => rd k ∨ X k ∨ k = w.heap.size ∨ k = w.heap.size + 1) (fun i => I i X) Ix (i + 1) W) { tmps := F x a.tmps, defers := [] } W)
    (hdone : ∀ (D : Nat) (X : Nat → Prop) (W : World), D = w.heap.size → I xs.length X W → W.heap[D]? = some (.deferred (some [])) → Q .normal { a with defers := { target := .collected D, args := #[] } :: a.defers } W)
    (hstop : ∀ (D : Nat) (c : Code) (W : World), D = w.heap.size → Ix c W → W.heap[D]? = some (.deferred (some [])) → c.wpIn Fence.wide 0 P Q { a with defers := { target := .collected D, args := #[] } :: a.defers } W) :
    (Code.rangeFunc g ps assign body).wpIn Fence.wide 0 P Q a w :=
  wpIn_iterX hg eg hseq hb0 hps hown hrd I Ix hI hIx h0 (fun x _ a' => a' = { tmps := F x a.tmps, defers := [] })
    (fun l x W K hlt hK => hassign l x W K hlt (fun W' hf => hK _ _ rfl hf)) (fun _ _ _ _ h _ => h)
    (fun l i x X W a' r hx h1 h2 ha hD hL => by subst ha; exact hbody l i x X W r hx h1 h2 hD hL) hdone hstop

/-- Marks of ranges that have ended. -/
def mark' (D : Nat) : Deferred := { target := .collected D, args := #[] }
def Marks (B : Nat) (ds : List Deferred) (w : World) : Prop := ∃ Ds : List Nat, ds = Ds.map mark' ∧ Ds.Nodup ∧ ∀ D ∈ Ds, B ≤ D ∧ w.heap[D]? = some (.deferred (some []))
theorem Marks.nil (B : Nat) (w : World) : Marks B [] w := ⟨[], rfl, List.nodup_nil, fun _ h => by cases h⟩
theorem Marks.fr {B : Nat} {ds : List Deferred} {S : Nat → Prop} {w w' : World} (h : Marks B ds w) (hf : Fr S w w') (hS : ∀ k, S k → k < w.heap.size → k < B) : Marks B ds w' := by
  obtain ⟨Ds, h1, h2, h3⟩ := h
  refine ⟨Ds, h1, h2, fun D hD => ⟨(h3 D hD).1, ?_⟩⟩
  have hlt := (Array.getElem?_eq_some_iff.1 (h3 D hD).2).1
  exact (hf.block D hlt (fun hs => by have := hS D hs hlt; have := (h3 D hD).1; omega)).trans (h3 D hD).2
/-- One mark more. -/
theorem Marks.cons {B : Nat} {ds : List Deferred} {S : Nat → Prop} {w w' : World} {D : Nat} (h : Marks B ds w) (hf : Fr S w w') (hS : ∀ k, S k → k < w.heap.size → k < B) (hB : B ≤ D) (hD : w.heap.size ≤ D) (hd : w'.heap[D]? = some (.deferred (some []))) :
    Marks B ({ target := .collected D, args := #[] } :: ds) w' := by
  obtain ⟨Ds, h1, h2, h3⟩ := h.fr hf hS
  obtain ⟨Es, g1, g2, g3⟩ := h
  have hE : Es = Ds := by
    have hinj : ∀ {x y : Nat}, mark' x = mark' y → x = y := fun {x y} e => by
      have := congrArg Deferred.target e
      simp [mark'] at this; exact this
    rw [h1] at g1
    clear h1 h2 h3 g2 g3 hf hd
    induction Ds generalizing Es with
    | nil => cases Es with
      | nil => rfl
      | cons x r => simp at g1
    | cons y t ih => cases Es with
      | nil => simp at g1
      | cons x r =>
        simp only [List.map_cons, List.cons.injEq] at g1
        rw [ih r g1.2, hinj g1.1]
  refine ⟨D :: Ds, by rw [List.map_cons, ← h1]; rfl, List.nodup_cons.2 ⟨fun hm => ?_, h2⟩, fun E hE' => ?_⟩
  · have := (Array.getElem?_eq_some_iff.1 (g3 D (hE ▸ hm)).2).1
    omega
  · rcases List.mem_cons.1 hE' with rfl | hE'
    · exact ⟨hB, hd⟩
    · exact h3 E hE'
/-- Leaving a function: the marks are taken. -/
theorem leaves_marks {F : Fence} {n : Nat} {fn : Func} {tmps : Array Value} {R : Ending → World → Prop} {B : Nat} : ∀ (ds : List Deferred) (w : World), Marks B ds w →
    (∀ w', Fr (fun k => B ≤ k) w w' → ∃ v, (results fn tmps).run P w' = .ok v w' ∧ R (.returned v) w') → LeavesInM F n P fn tmps R ds .returning w
  | [], w, _, h => h w (Fr.refl _ _)
  | d :: ds, w, hm, h => by
    obtain ⟨Ds, h1, h2, h3⟩ := hm
    cases Ds with
    | nil => cases h1
    | cons D Es =>
      simp only [List.map_cons, List.cons.injEq] at h1
      obtain ⟨rfl, rfl⟩ := h1
      have hD := h3 D List.mem_cons_self
      have hn := List.nodup_cons.1 h2
      refine ⟨by simp, .inl ⟨D, _, rfl, run_takeDeferred hD.2, ?_⟩⟩
      refine leaves_marks (Es.map mark') _ ⟨Es, rfl, hn.2, fun E hE => ⟨(h3 E (List.mem_cons_of_mem _ hE)).1, (World.putObj_heap_other (by rintro rfl; exact hn.1 hE)).trans (h3 E (List.mem_cons_of_mem _ hE)).2⟩⟩ (fun w' hf => h w' ?_)
      exact ((Fr.refl (fun k => B ≤ k) w).putObj (fun _ => hD.1) _).trans hf
end Go.Proofs.Ytbpmdhngobdilaa
