/-
  key.Compare.
-/
import Derived.Test.YtbpmdhngobdilaaKf2
import Derived.Test.YtbpmdhngobdilaaHeapL
import Derived.Outline
namespace Go.Proofs.Ytbpmdhngobdilaa
open Go.RowKit
attribute [local go_sem ↓] Go.wp_at_zero Go.wp_at_succ
attribute [local go_sem] Oper.semAt_some wide_fn wide_depth wide_fnR wide_depthR

def keyV (k : Key3) : Value := .agg #[.int .i64 k.time, .int .i64 k.source, .int .i64 k.seq]
set_option maxHeartbeats 1000000 in
theorem isNaNI_any (s : Int) (w : World) : Calls Try.prog 54 #[.int .i64 s] w fun e w' => e = .returned (.bool false) ∧ w = w' := by
  have h : (s != s) = false := by simp
  go_enter Try.func54, Try.ntmps54
  go_wp2
  go_ret
  exact ⟨rfl, rfl⟩
set_option maxHeartbeats 1000000 in
theorem cmpInt_any (a b : Int) (w : World) : Calls Try.prog 40 #[.int .i64 a, .int .i64 b] w fun e w' => e = .returned (.int .i64 (cmpI a b)) ∧ w = w' := by
  obtain ⟨c, hc⟩ : ∃ c, cmpI a b = c := ⟨_, rfl⟩
  rw [hc]
  unfold cmpI at hc
  by_cases h1 : a < b
  · rw [if_pos h1] at hc
    subst hc
    have d1 : decide (a < b) = true := decide_eq_true h1
    go_enter Try.func40, Try.ntmps40
    go_wp2_with (go_at_call 54; refine (isNaNI_any _ _).mono ?_; rintro e w' ⟨rfl, rfl⟩)
    go_ret
    exact ⟨rfl, rfl⟩
  · rw [if_neg h1] at hc
    have d1 : decide (a < b) = false := decide_eq_false h1
    by_cases h2 : b < a
    · rw [if_pos h2] at hc
      subst hc
      have d2 : decide (b < a) = true := decide_eq_true h2
      go_enter Try.func40, Try.ntmps40
      go_wp2_with (go_at_call 54; refine (isNaNI_any _ _).mono ?_; rintro e w' ⟨rfl, rfl⟩)
      go_ret
      exact ⟨rfl, rfl⟩
    · rw [if_neg h2] at hc
      subst hc
      have d2 : decide (b < a) = false := decide_eq_false h2
      go_enter Try.func40, Try.ntmps40
      go_wp2_with (go_at_call 54; refine (isNaNI_any _ _).mono ?_; rintro e w' ⟨rfl, rfl⟩)
      go_ret
      exact ⟨rfl, rfl⟩

/-- The three numbers of a key. -/
def nth3 (k : Key3) (i : Nat) : Int := if i = 0 then k.time else if i = 1 then k.source else k.seq

set_option maxRecDepth 100000 in
set_option maxHeartbeats 1000000 in
theorem eql_key (a b : Key3) (w : World) : (Go.binOp .eql 26 (keyV a) (keyV b)).run Try.prog w = .ok (.bool (decide (a = b))) w := by
  have h : decide (a = b) = (a.time == b.time && (a.source == b.source && a.seq == b.seq)) := by
    obtain ⟨a1, a2, a3⟩ := a
    obtain ⟨b1, b2, b3⟩ := b
    simp only [Key3.mk.injEq]
    rw [Bool.eq_iff_iff]; simp
  rw [h]
  unfold keyV
  go_simp
  by_cases h1 : a.time = b.time <;> by_cases h2 : a.source = b.source <;> by_cases h3 : a.seq = b.seq <;> simp [h1, h2, h3]

/-- A key in memory. -/
def KeyAt (w : World) (B : Nat) (k : Key3) : Prop := w.heap[B]? = some (.cells #[.int .i64 k.time, .int .i64 k.source, .int .i64 k.seq] 26 (0, 0))
theorem KeyAt.cell {w : World} {B : Nat} {k : Key3} (h : KeyAt w B k) {i : Nat} (hi : i < 3) : w.cell? ⟨B, i, none⟩ = some (.int .i64 (nth3 k i)) := by
  rw [cells_of h]
  have : i = 0 ∨ i = 1 ∨ i = 2 := by omega
  rcases this with rfl | rfl | rfl <;> rfl
theorem KeyAt.fr {S : Nat → Prop} {w w' : World} {B : Nat} {k : Key3} (h : KeyAt w B k) (hf : Fr S w w') (hs : ¬ S B) : KeyAt w' B k := (hf.block B (Array.getElem?_eq_some_iff.1 h).1 hs).trans h
theorem KeyAt.lt {w : World} {B : Nat} {k : Key3} (h : KeyAt w B k) : B < w.heap.size := (Array.getElem?_eq_some_iff.1 h).1
theorem nth3_ext {a b : Key3} (h : ∀ j, j < 3 → nth3 a j = nth3 b j) : a = b := by
  have h0 := h 0 (by omega)
  have h1 := h 1 (by omega)
  have h2 := h 2 (by omega)
  simp [nth3] at h0 h1 h2
  cases a; cases b; simp at h0 h1 h2; simp [h0, h1, h2]
theorem cmp_first {a b : Key3} {i : Nat} (hi : i < 3) (h : ∀ j, j < i → nth3 a j = nth3 b j) (hne : nth3 a i ≠ nth3 b i) : cmpK a b = cmpI (nth3 a i) (nth3 b i) ∧ fieldK a b = (i : Int) + 1 := by
  have : i = 0 ∨ i = 1 ∨ i = 2 := by omega
  rcases this with rfl | rfl | rfl
  · simp [nth3] at hne
    simp [cmpK, fieldK, nth3, hne]
  · have h0 := h 0 (by omega)
    simp [nth3] at hne h0
    simp [cmpK, fieldK, nth3, hne, h0]
  · have h0 := h 0 (by omega)
    have h1 := h 1 (by omega)
    simp [nth3] at hne h0 h1
    simp [cmpK, fieldK, nth3, hne, h0, h1]

set_option maxRecDepth 100000 in
set_option maxHeartbeats 2000000 in
theorem Compare_same (a : Key3) (w : World) :
    Calls Try.prog 22 #[keyV a, keyV a] w fun e w' => e = .returned (.tuple #[.int .i64 0, .int .i64 0]) ∧ Fr none' w w' := by
  have hq := fun w => (eql_key a a w).trans (by rw [decide_eq_true rfl])
  simp only [keyV] at hq ⊢
  go_enter Try.func22, Try.ntmps22
  go_wp2
  refine bodyPost_ret (v := .tuple #[.int .i64 0, .int .i64 0]) (by simp [results, Try.results22, go_sem]) rfl ⟨rfl, ?_⟩
  exact ((((Fr.refl _ _).alloc _).alloc _).alloc _).alloc _

set_option maxRecDepth 100000 in
set_option maxHeartbeats 2000000 in
theorem Compare_in (a b : Key3) (hab : a ≠ b) (w : World) :
    CallsIn Fence.wide 0 Try.prog 22 #[keyV a, keyV b] w fun e w' => e = .returned (.tuple #[.int .i64 (cmpK a b), .int .i64 (fieldK a b)]) ∧ Fr none' w w' := by
  have hq := fun w => (eql_key a b w).trans (by rw [decide_eq_false hab])
  have Hab := Lib.hid hab
  clear hab
  refine callsIn_of_wp_marks Try.func22 rfl trivial ?_ rfl
  simp only [keyV] at hq
  simp only [keyV, Try.ntmps22, List.size_toArray, List.length_cons, List.length_nil, Nat.reduceAdd, Nat.reduceSub, Array.replicate_succ, Array.replicate_zero, List.push_toArray, List.append_toArray, List.nil_append, List.cons_append]
  gi_wp2_with fail
  obtain ⟨Bw, hBw⟩ : ∃ Bw, w.heap.size = Bw := ⟨_, rfl⟩
  obtain ⟨W0, hW0⟩ : ∃ W0, (((w.alloc (.cells #[.int .i64 a.time, .int .i64 a.source, .int .i64 a.seq] 26)).alloc (.cells #[.int .i64 b.time, .int .i64 b.source, .int .i64 b.seq] 26)).alloc (.cells #[.int .i64 0] 3)).alloc (.cells #[.int .i64 0] 3) = W0 := ⟨_, rfl⟩
  rw [hW0, hBw]
  have hsz : W0.heap.size = Bw + 4 := by rw [← hW0, ← hBw]; simp
  have ka : KeyAt W0 Bw a := by
    rw [← hW0, ← hBw]
    exact (KeyAt.fr (S := none') (World.alloc_heap_new w _) ((((Fr.refl _ _).alloc _).alloc _).alloc _) id)
  have kb : KeyAt W0 (Bw + 1) b := by
    rw [← hW0, ← hBw]
    have := World.alloc_heap_new (w.alloc (.cells #[.int .i64 a.time, .int .i64 a.source, .int .i64 a.seq] 26)) (.cells #[.int .i64 b.time, .int .i64 b.source, .int .i64 b.seq] 26)
    rw [World.size_alloc] at this
    exact (KeyAt.fr (S := none') this (((Fr.refl _ _).alloc _).alloc _) id)
  have r0 : Box W0 (Bw + 1 + 1) (.int .i64 0) := by
    rw [← hW0, ← hBw]
    refine Box.alloc ?_ _
    have := Box.new ((w.alloc (.cells #[.int .i64 a.time, .int .i64 a.source, .int .i64 a.seq] 26)).alloc (.cells #[.int .i64 b.time, .int .i64 b.source, .int .i64 b.seq] 26)) (.int .i64 0) 3
    simpa using this
  have r1 : Box W0 (Bw + 1 + 1 + 1) (.int .i64 0) := by
    rw [← hW0, ← hBw]
    have := Box.new (((w.alloc (.cells #[.int .i64 a.time, .int .i64 a.source, .int .i64 a.seq] 26)).alloc (.cells #[.int .i64 b.time, .int .i64 b.source, .int .i64 b.seq] 26)).alloc (.cells #[.int .i64 0] 3)) (.int .i64 0) 3
    simpa using this
  have f0 : Fr none' w W0 := by rw [← hW0]; exact ((((Fr.refl _ _).alloc _).alloc _).alloc _).alloc _
  have F0 := Lib.hid f0
  have HBw := Lib.hid hBw
  have Ka := Lib.hid ka
  have Kb := Lib.hid kb
  have R0 := Lib.hid r0
  have R1 := Lib.hid r1
  have Hsz := Lib.hid hsz
  clear hq hW0 hBw ka kb r0 r1 f0 hsz
  refine (callsIn_wide.2 (fields_any _ _)).mono ?_
  rintro e w1 ⟨rfl, rfl⟩
  gi_wp2_with fail
  refine (callsIn_wide.2 (CollectF _ _ (Bw + 1) [0, 1, 2] _ _ _ (by intro args w; rfl) (fields_iter (Bw + 1) W0.heap.size _ (Box.new _ _ _)) (fun k hk => hk.elim) (fun k hk => by subst hk; simp) (by simp))).mono ?_
  rintro e W1 ⟨v, rfl, hrow, hfr⟩
  obtain ⟨g, cap, rfl⟩ := ownsRow_k_succ (n := 2) hrow
  have hg := hrow.lt g rfl
  have Hrow := Lib.hid hrow
  have f1 : Fr none' W0 W1 := ((Fr.refl _ _).alloc _).trans hfr
  have F1 := Lib.hid f1
  simp only [World.size_alloc] at hg
  have hs1 := f1.size
  clear hrow hfr f1
  gi_wp2_with fail
  obtain ⟨N, hN⟩ : ∃ N, W1.heap.size = N := ⟨_, rfl⟩
  obtain ⟨W2, hW2⟩ : ∃ W2, (W1.alloc (.cells #[.slice (some ⟨g, 0, none⟩) 3 cap] 77)).alloc (.cells #[.int .i64 0] 3) = W2 := ⟨_, rfl⟩
  rw [hN] at hg hs1 ⊢
  rw [hW2]
  have f2 : Fr none' W1 W2 := by rw [← hW2]; exact ((Fr.refl _ _).alloc _).alloc _
  have hsz2 : W2.heap.size = N + 2 := by rw [← hW2, ← hN]; simp
  have bo : Box W2 N (.slice (some ⟨g, 0, none⟩) 3 cap) := by rw [← hW2, ← hN]; exact (Box.new _ _ _).alloc _
  have bn : Box W2 (N + 1) (.int .i64 0) := by
    rw [← hW2, ← hN]
    have := Box.new (W1.alloc (.cells #[.slice (some ⟨g, 0, none⟩) 3 cap] 77)) (.int .i64 0) 3
    rwa [World.size_alloc] at this
  have Bo := Lib.hid bo
  have Bn := Lib.hid bn
  have F2 := Lib.hid f2
  have Hsz2 := Lib.hid hsz2
  have HN := Lib.hid hN
  clear bo bn f2 hsz2 hN hW2
  refine (callsIn_wide.2 (fields_any _ _)).mono ?_
  rintro e w3 ⟨rfl, rfl⟩
  gi_wp2_with fail
  obtain ⟨W3, hW3⟩ : ∃ W3, W2.alloc (.cells #[.pointer (some ⟨Bw, 0, none⟩)] 85) = W3 := ⟨_, rfl⟩
  have it := fields_iter Bw W2.heap.size _ (Box.new W2 _ _ : Box (W2.alloc (.cells #[.pointer (some ⟨Bw, 0, none⟩)] 85)) _ _)
  rw [hW3, Hsz2.out] at it
  rw [hW3, Hsz2.out]
  have f3 : Fr none' W2 W3 := by rw [← hW3]; exact (Fr.refl _ _).alloc _
  have hsz3 : W3.heap.size = N + 3 := by rw [← hW3, World.size_alloc, Hsz2.out]
  have F3 := Lib.hid f3
  have Hsz3 := Lib.hid hsz3
  clear hW3 f3 hsz3
  have hN0 : Bw + 5 ≤ N := by have := Hsz.out; omega
  refine wpIn_iterX (gf := 53) (lb := #[.pointer (some ⟨N + 2, 0, none⟩)]) rfl (by intro args w; rfl) it (Keep.refl _ _) (fun _ => rfl) (fun k hk => hk.elim) (fun k hk => by subst hk; rw [Hsz3.out]; omega)
    (fun i X W => Fr (fun k => k = N + 1) W3 W ∧ Box W (N + 1) (.int .i64 i) ∧ Hid (∀ j, j < i → nth3 a j = nth3 b j))
    (fun c W => c = .ret ∧ Box W (Bw + 1 + 1) (.int .i64 (cmpK a b)) ∧ Box W (Bw + 1 + 1 + 1) (.int .i64 (fieldK a b)) ∧ Fr (fun k => k = N + 1 ∨ k = Bw + 1 + 1 ∨ k = Bw + 1 + 1 + 1) W3 W) ?hI ?hIx ?h0
    (fun x W a' => ∃ B, a' = { tmps := #[.agg #[.int .i64 a.time, .int .i64 a.source, .int .i64 a.seq], .agg #[.int .i64 b.time, .int .i64 b.source, .int .i64 b.seq], .pointer (some ⟨Bw, 0, none⟩), .pointer (some ⟨Bw + 1, 0, none⟩), .pointer (some ⟨Bw + 1 + 1, 0, none⟩), .pointer (some ⟨Bw + 1 + 1 + 1, 0, none⟩), .pointer (some ⟨N, 0, none⟩), .pointer (some ⟨N + 1, 0, none⟩), .pointer (some ⟨B, 0, none⟩), undef, .agg #[.int .i64 a.time, .int .i64 a.source, .int .i64 a.seq], .agg #[.int .i64 b.time, .int .i64 b.source, .int .i64 b.seq], .bool false, .func (.func 53) #[] #[.pointer (some ⟨W0.heap.size, 0, none⟩)], .slice (some ⟨g, 0, none⟩) 3 cap, .func (.func 53) #[] #[.pointer (some ⟨N + 2, 0, none⟩)], fV Bw x, undef, undef, undef, undef, undef, undef, undef, undef, undef, undef, undef, undef, undef, undef, undef, undef, undef, undef, undef], defers := [] } ∧ N + 4 < B ∧ W.heap[B]? = some (.cells (fC Bw x).toArray 81 (0, 0)))
    ?assign ?keep ?body ?done ?stop
  case hI =>
    rintro i X Y W4 W5 ⟨h1, h2, h3⟩ hX hf hY
    have hlt : ∀ k, k < N + 3 → ¬ (none' k ∨ X k ∨ k = W3.heap.size ∨ k = W3.heap.size + 1) := fun k hk h => by
      have hz := Hsz3.out
      rcases h with h | h | h | h
      · exact h
      · have := hX k h; omega
      · omega
      · omega
    exact ⟨h1.trans' hf (fun k hk h => absurd h (hlt k (by rw [Hsz3.out] at hk; exact hk))), h2.fr hf (hlt _ (by omega)), h3⟩
  case hIx =>
    rintro c W4 W5 ⟨h0, h1, h2, h3⟩ hf
    have hlt : ∀ k, k < N + 3 → ¬ (none' k ∨ k = W3.heap.size ∨ k = W3.heap.size + 1) := fun k hk h => by
      have hz := Hsz3.out
      rcases h with h | h | h
      · exact h
      · omega
      · omega
    exact ⟨h0, h1.fr hf (hlt _ (by omega)), h2.fr hf (hlt _ (by omega)), h3.trans' hf (fun k hk h => absurd h (hlt k (by rw [Hsz3.out] at hk; exact hk)))⟩
  case h0 =>
    exact ⟨Fr.refl _ _, Bn.out.fr F3.out id, fun j hj => by omega⟩
  case keep =>
    rintro x W4 W5 a' ⟨B, rfl, hB, hc⟩ hf
    refine ⟨B, rfl, hB, (hf.block B (Array.getElem?_eq_some_iff.1 hc).1 (by rw [Hsz3.out]; omega)).trans hc⟩
  case assign =>
    intro l x W K hlt hK
    rw [Hsz3.out] at hlt
    simp only [fV]
    gi_wp2
    exact hK _ _ ⟨W.heap.size, by simp [fV], by omega, World.alloc_heap_new W _⟩ ((Fr.refl _ _).alloc _)
  case body =>
    rintro l i x X W a' r hxi ⟨hfr, hbn, hall⟩ hXb ⟨B, rfl, hB, hcB⟩ hD hL
    have hi : i < 3 ∧ x = i := by
      have : i < 3 := (List.getElem?_eq_some_iff.1 hxi).1
      have h3 : i = 0 ∨ i = 1 ∨ i = 2 := by omega
      rcases h3 with rfl | rfl | rfl <;> simp at hxi <;> omega
    obtain ⟨hi, rfl⟩ := hi
    clear hxi hD hL
    have hcb := cells_of hcB 0
    simp [fC] at hcb
    have hcell : ∀ k o u, k ≠ N + 1 → W3.cell? ⟨k, o, none⟩ = some u → W.cell? ⟨k, o, none⟩ = some u := fun k o u hk hu => by
      rw [hfr.cell (p := ⟨k, o, none⟩) (World.block_lt_of_cell? W3 _ hu) hk]; exact hu
    have h13 : Fr none' W1 W3 := F2.out.trans F3.out
    have h03 : Fr none' W0 W3 := F1.out.trans h13
    have ka := hcell _ _ _ (by omega) ((Ka.out.fr h03 id).cell hi)
    have kb := hcell _ _ _ (by omega) ((Kb.out.fr h03 id).cell hi)
    have bo := hcell _ _ _ (by omega) (Bo.out.fr F3.out id).cell
    have bn := hbn.cell
    have hrc := hcell _ _ _ (by omega) ((h13.cell (p := ⟨g, x * 4, none⟩) (by rw [HN.out]; exact hg.2) id).trans (show W1.cell? ⟨g, x * 4, none⟩ = some (.pointer (some ⟨Bw + 1, x, none⟩)) from by
      have := (ownsRow_k_raise Hrow.out (base' := 0) (fun _ _ => Nat.zero_le _)).cells (g := g) rfl (x * 4) (.pointer (some ⟨Bw + 1, x, none⟩)) (by
        have h3 : x = 0 ∨ x = 1 ∨ x = 2 := by omega
        rcases h3 with rfl | rfl | rfl <;> rfl)
      unfold Addr.add at this
      split at this
      · next h => rw [h]; exact this
      · simpa using this))
    have Hcell := Lib.hid hcell
    clear hcell hcB h13 h03
    obtain ⟨p, hp⟩ : ∃ p, nth3 a x = p := ⟨_, rfl⟩
    obtain ⟨q, hq⟩ : ∃ q, nth3 b x = q := ⟨_, rfl⟩
    rw [hp] at ka
    rw [hq] at kb
    have Hp := Lib.hid hp
    have Hq := Lib.hid hq
    clear hp hq
    have z1 : (0 : Int) ≤ (x : Int) := by omega
    have z2 : (x : Int) < 3 := by omega
    have z3 : IntKind.i64.wrap ((x : Int) + 1) = (x : Int) + 1 := IntWalk.i64_in _ (by omega)
    gi_wp2
    refine wpIn_round_held (S := fun W' => W' = W.drew) (by kernel_rfl) (by kernel_rfl) (by intro a w h; exact h) rfl (fun hHeld => ?_)
    refine take_on (i := 0) (v := .pointer (some ⟨B, 0, none⟩)) rfl (by kernel_rfl) (by kernel_rfl) (by kernel_rfl) (fun _ _ _ h => h) (by kernel_rfl) (fun W' hSW => ?_) (by assumption) ?_
    · (try dsimp only at hSW); (try subst hSW)
      first | (go_simp; done) | exact rfl | (go_simp; rfl) | (go_simp; omega)
    try simp only [Act.put, List.setIfInBounds_toArray, List.set_cons_zero, List.set_cons_succ]
    refine take_on (i := 1) (v := .pointer (some ⟨Bw, x, none⟩)) rfl (by kernel_rfl) (by kernel_rfl) (by kernel_rfl) (fun _ _ _ h => h) (by kernel_rfl) (fun W' hSW => ?_) (by assumption) ?_
    · (try dsimp only at hSW); (try subst hSW)
      first | (go_simp; done) | exact rfl | (go_simp; rfl) | (go_simp; omega)
    try simp only [Act.put, List.setIfInBounds_toArray, List.set_cons_zero, List.set_cons_succ]
    refine take_on (i := 2) (v := .pointer (some ⟨Bw, x, none⟩)) rfl (by kernel_rfl) (by kernel_rfl) (by kernel_rfl) (fun _ _ _ h => h) (by kernel_rfl) (fun W' hSW => ?_) (by assumption) ?_
    · (try dsimp only at hSW); (try subst hSW)
      first | (go_simp; done) | exact rfl | (go_simp; rfl) | (go_simp; omega)
    try simp only [Act.put, List.setIfInBounds_toArray, List.set_cons_zero, List.set_cons_succ]
    refine take_on (i := 3) (v := .int .i64 p) rfl (by kernel_rfl) (by kernel_rfl) (by kernel_rfl) (fun _ _ _ h => h) (by kernel_rfl) (fun W' hSW => ?_) (by assumption) ?_
    · (try dsimp only at hSW); (try subst hSW)
      first | (go_simp; done) | exact rfl | (go_simp; rfl) | (go_simp; omega)
    try simp only [Act.put, List.setIfInBounds_toArray, List.set_cons_zero, List.set_cons_succ]
    refine take_on (i := 4) (v := .slice (some ⟨g, 0, none⟩) 3 cap) rfl (by kernel_rfl) (by kernel_rfl) (by kernel_rfl) (fun _ _ _ h => h) (by kernel_rfl) (fun W' hSW => ?_) (by assumption) ?_
    · (try dsimp only at hSW); (try subst hSW)
      first | (go_simp; done) | exact rfl | (go_simp; rfl) | (go_simp; omega)
    try simp only [Act.put, List.setIfInBounds_toArray, List.set_cons_zero, List.set_cons_succ]
    refine take_on (i := 5) (v := .int .i64 x) rfl (by kernel_rfl) (by kernel_rfl) (by kernel_rfl) (fun _ _ _ h => h) (by kernel_rfl) (fun W' hSW => ?_) (by assumption) ?_
    · (try dsimp only at hSW); (try subst hSW)
      first | (go_simp; done) | exact rfl | (go_simp; rfl) | (go_simp; omega)
    try simp only [Act.put, List.setIfInBounds_toArray, List.set_cons_zero, List.set_cons_succ]
    refine take_on (i := 6) (v := .pointer (some ⟨g, x * 4, none⟩)) rfl (by kernel_rfl) (by kernel_rfl) (by kernel_rfl) (fun _ _ _ h => h) (by kernel_rfl) (fun W' hSW => ?_) (by assumption) ?_
    · (try dsimp only at hSW); (try subst hSW)
      first | (go_simp; done) | exact rfl | (go_simp; rfl) | (go_simp; omega)
    try simp only [Act.put, List.setIfInBounds_toArray, List.set_cons_zero, List.set_cons_succ]
    refine take_on (i := 7) (v := .pointer (some ⟨g, x * 4, none⟩)) rfl (by kernel_rfl) (by kernel_rfl) (by kernel_rfl) (fun _ _ _ h => h) (by kernel_rfl) (fun W' hSW => ?_) (by assumption) ?_
    · (try dsimp only at hSW); (try subst hSW)
      first | (go_simp; done) | exact rfl | (go_simp; rfl) | (go_simp; omega)
    try simp only [Act.put, List.setIfInBounds_toArray, List.set_cons_zero, List.set_cons_succ]
    refine take_on (i := 8) (v := .pointer (some ⟨Bw + 1, x, none⟩)) rfl (by kernel_rfl) (by kernel_rfl) (by kernel_rfl) (fun _ _ _ h => h) (by kernel_rfl) (fun W' hSW => ?_) (by assumption) ?_
    · (try dsimp only at hSW); (try subst hSW)
      first | (go_simp; done) | exact rfl | (go_simp; rfl) | (go_simp; omega)
    try simp only [Act.put, List.setIfInBounds_toArray, List.set_cons_zero, List.set_cons_succ]
    refine take_on (i := 9) (v := .pointer (some ⟨Bw + 1, x, none⟩)) rfl (by kernel_rfl) (by kernel_rfl) (by kernel_rfl) (fun _ _ _ h => h) (by kernel_rfl) (fun W' hSW => ?_) (by assumption) ?_
    · (try dsimp only at hSW); (try subst hSW)
      first | (go_simp; done) | exact rfl | (go_simp; rfl) | (go_simp; omega)
    try simp only [Act.put, List.setIfInBounds_toArray, List.set_cons_zero, List.set_cons_succ]
    refine take_on (i := 10) (v := .int .i64 q) rfl (by kernel_rfl) (by kernel_rfl) (by kernel_rfl) (fun _ _ _ h => h) (by kernel_rfl) (fun W' hSW => ?_) (by assumption) ?_
    · (try dsimp only at hSW); (try subst hSW)
      first | (go_simp; done) | exact rfl | (go_simp; rfl) | (go_simp; omega)
    try simp only [Act.put, List.setIfInBounds_toArray, List.set_cons_zero, List.set_cons_succ]
    refine take_call (i := 11) rfl (by kernel_rfl) (by kernel_rfl) (fun K hK => ?_)
    go_simp
    refine (cmpInt_any _ _ _).mono ?_
    rintro e w1 ⟨rfl, rfl⟩
    go_wp2_with fail
    refine hK.out _ _ rfl (fun hHeld => ?_)
    clear hK K
    try simp only [Act.put, List.setIfInBounds_toArray, List.set_cons_zero, List.set_cons_succ]
    refine take_on (i := 12) (v := .int .i64 (cmpI p q)) rfl (by kernel_rfl) (by kernel_rfl) (by kernel_rfl) (fun _ _ _ h => h) (by kernel_rfl) (fun W' hSW => ?_) (by assumption) ?_
    · (try dsimp only at hSW); (try subst hSW)
      first | (go_simp; done) | exact rfl | (go_simp; rfl) | (go_simp; omega)
    try simp only [Act.put, List.setIfInBounds_toArray, List.set_cons_zero, List.set_cons_succ]
    refine wpAnyH_done (by kernel_rfl) ?_ _
    clear hHeld hcb ka kb bo hrc
    have bf := hbn.frozen
    by_cases hpq : p = q
    · have hc0 : cmpI p q = 0 := (cmpI_eq p q).2 hpq
      rw [hc0]
      gi_wp2
      refine ⟨fun k => k = N + 1, ?_, ?_, ?_, ?_, ?_⟩
      · exact ((Fr.refl (fun k => k = N + 1) W).setCell (fun _ => rfl) _).drew
      · intro k hk h
        subst hk
        rcases h with h | h | h | h
        · omega
        · have := hXb _ h; rw [Hsz3.out] at this; omega
        · rw [Hsz3.out] at h; omega
        · rw [Hsz3.out] at h; omega
      · exact (hfr.setCell (fun _ => rfl) _).drew
      · exact hbn.set _
      · intro j hj
        by_cases hjx : j = x
        · subst hjx; rw [Hp.out, Hq.out]; exact hpq
        · exact hall.out j (by omega)
    · have hc0 : (cmpI p q != 0) = true := by
        have := cmpI_eq p q
        simp; omega
      have hr0 : Box W (Bw + 1 + 1) (.int .i64 0) := ((R0.out.fr (F1.out.trans (F2.out.trans F3.out)) id).fr hfr (by omega))
      have hr1 : Box W (Bw + 1 + 1 + 1) (.int .i64 0) := ((R1.out.fr (F1.out.trans (F2.out.trans F3.out)) id).fr hfr (by omega))
      have c0 := hr0.cell
      have c1 := hr1.cell
      have g0 := hr0.frozen
      have g1 := hr1.frozen
      gi_wp2
      refine wpIn_round_held (S := fun W' => W'.cell? ⟨N + 1, 0, none⟩ = some (.int .i64 x)) (by kernel_rfl) (by kernel_rfl) (by intro a w h; exact h) bn (fun hHeld => ?_)
      refine take_on (i := 0) (v := .int .i64 (cmpI p q)) rfl (by kernel_rfl) (by kernel_rfl) (by kernel_rfl) (fun _ _ _ h => h) (by kernel_rfl) (fun W' hSW => ?_) (by assumption) ?_
      · (try dsimp only at hSW); (try subst hSW)
        first | (go_simp; done) | exact rfl | (go_simp; rfl) | (go_simp; omega)
      try simp only [Act.put, List.setIfInBounds_toArray, List.set_cons_zero, List.set_cons_succ]
      refine take_on (i := 1) (v := .int .i64 x) rfl (by kernel_rfl) (by kernel_rfl) (by kernel_rfl) (fun _ _ _ h => h) (by kernel_rfl) (fun W' hSW => ?_) (by assumption) ?_
      · (try dsimp only at hSW); (try subst hSW)
        first | (go_simp; done) | exact rfl | (go_simp; rfl) | (go_simp; omega)
      try simp only [Act.put, List.setIfInBounds_toArray, List.set_cons_zero, List.set_cons_succ]
      refine take_on (i := 2) (v := .int .i64 ((x : Int) + 1)) rfl (by kernel_rfl) (by kernel_rfl) (by kernel_rfl) (fun _ _ _ h => h) (by kernel_rfl) (fun W' hSW => ?_) (by assumption) ?_
      · (try dsimp only at hSW); (try subst hSW)
        first | (go_simp; done) | exact rfl | (go_simp; rfl) | (go_simp; omega)
      try simp only [Act.put, List.setIfInBounds_toArray, List.set_cons_zero, List.set_cons_succ]
      refine take_call (i := 3) rfl (by kernel_rfl) (by kernel_rfl) (fun K hK => ?_)
      go_simp
      refine hK.out _ _ ((World.cell?_setCell_far W ⟨Bw + 1 + 1, 0, none⟩ ⟨N + 1, 0, none⟩ _ (by simp; omega)).trans bn) (fun hHeld2 => ?_)
      clear hK K
      try simp only [Act.put, List.setIfInBounds_toArray, List.set_cons_zero, List.set_cons_succ]
      have c1' := (World.cell?_setCell_far W ⟨Bw + 1 + 1, 0, none⟩ ⟨Bw + 1 + 1 + 1, 0, none⟩ (.int .i64 (cmpI p q)) (by simp)).trans c1
      refine take_call (i := 4) rfl (by kernel_rfl) (by kernel_rfl) (fun K hK => ?_)
      go_simp
      refine hK.out _ _ ((World.cell?_setCell_far _ ⟨Bw + 1 + 1 + 1, 0, none⟩ ⟨N + 1, 0, none⟩ _ (by simp; omega)).trans ((World.cell?_setCell_far W ⟨Bw + 1 + 1, 0, none⟩ ⟨N + 1, 0, none⟩ _ (by simp; omega)).trans bn)) (fun hHeld3 => ?_)
      clear hK K
      try simp only [Act.put, List.setIfInBounds_toArray, List.set_cons_zero, List.set_cons_succ]
      refine wpAnyH_done (by kernel_rfl) ?_ _
      clear c0 c1 g0 g1 c1' bn bf hHeld hHeld2 hHeld3
      gi_wp2
      obtain ⟨hv1, hv2⟩ := cmp_first hi hall.out (by rw [Hp.out, Hq.out]; exact hpq)
      rw [Hp.out, Hq.out] at hv1
      have key : ∀ {V : World}, V.heap = ((W.setCell ⟨Bw + 1 + 1, 0, none⟩ (.int .i64 (cmpI p q))).setCell ⟨Bw + 1 + 1 + 1, 0, none⟩ (.int .i64 ((x : Int) + 1))).heap → Box V (Bw + 1 + 1) (.int .i64 (cmpK a b)) ∧ Box V (Bw + 1 + 1 + 1) (.int .i64 (fieldK a b)) := fun {V} hV => by
        rw [hv1, hv2]
        refine ⟨Box.of_block ?_ (congrArg (·[Bw + 1 + 1]?) hV), Box.of_block ?_ (congrArg (·[Bw + 1 + 1 + 1]?) hV)⟩
        · exact (hr0.set _).setOther (by simp) _
        · exact (hr1.setOther (by simp) _).set _
      have kf : ∀ {A : World} {S : Nat → Prop}, Fr S A W → S (Bw + 1 + 1) → S (Bw + 1 + 1 + 1) → Fr S A (((W.setCell ⟨Bw + 1 + 1, 0, none⟩ (.int .i64 (cmpI p q))).setCell ⟨Bw + 1 + 1 + 1, 0, none⟩ (.int .i64 ((x : Int) + 1)))) := fun {A S} h h1 h2 => (h.setCell (fun _ => h1) _).setCell (fun _ => h2) _
      refine ⟨fun k => k = Bw + 1 + 1 ∨ k = Bw + 1 + 1 + 1, ?_, ?_, rfl, ?_, ?_, ?_⟩
      · exact (((kf (Fr.refl _ W) (.inl rfl) (.inr rfl)).drew).drew)
      · intro k hk h
        rcases h with h | h | h | h
        · omega
        · have := hXb _ h; rw [Hsz3.out] at this; omega
        · rw [Hsz3.out] at h; omega
        · rw [Hsz3.out] at h; omega
      · exact (key rfl).1
      · exact (key rfl).2
      · exact (((kf (hfr.mono (fun k _ h => .inl h)) (.inr (.inl rfl)) (.inr (.inr rfl))).drew).drew)
  case done =>
    rintro D X W hDe ⟨hfr, hbn, hall⟩ hK
    exact absurd (nth3_ext hall.out) Hab.out
  case stop =>
    rintro D c W hDe ⟨rfl, h1, h2, h3⟩ hK
    have c1 := h1.cell
    have c2 := h2.cell
    rw [Hsz3.out] at hDe
    subst hDe
    have hlt : N + 3 < W.heap.size := (Array.getElem?_eq_some_iff.1 hK).1
    have hk1 : Box (W.putObj (N + 3) (.deferred none)) (Bw + 1 + 1) (.int .i64 (cmpK a b)) := h1.of_block (World.putObj_heap_other (by omega))
    have hk2 : Box (W.putObj (N + 3) (.deferred none)) (Bw + 1 + 1 + 1) (.int .i64 (fieldK a b)) := h2.of_block (World.putObj_heap_other (by omega))
    have d1 := hk1.cell
    have d2 := hk2.cell
    have hK' := hK
    clear hK
    gi_wp2
    refine ⟨by simp, .inl ⟨_, _, rfl, run_takeDeferred hK', ?_⟩⟩
    refine ⟨.tuple #[.int .i64 (cmpK a b), .int .i64 (fieldK a b)], by simp [results, Try.results22, go_sem, d1, d2], rfl, ?_⟩
    have hz := HBw.out
    have h03 : Fr none' w W3 := F0.out.trans (F1.out.trans (F2.out.trans F3.out))
    exact (h03.trans' h3 (fun k hk h => by omega)).putObj (fun h => by omega) _
theorem Compare_any (a b : Key3) (w : World) :
    Calls Try.prog 22 #[keyV a, keyV b] w fun e w' => e = .returned (.tuple #[.int .i64 (cmpK a b), .int .i64 (fieldK a b)]) ∧ Fr none' w w' := by
  by_cases h : a = b
  · subst h
    have h1 : cmpK a a = 0 := (cmpK_eq a a).2 rfl
    have h2 : fieldK a a = 0 := by simp [fieldK]
    rw [h1, h2]
    exact Compare_same a w
  · exact callsIn_wide.1 (Compare_in a b h w)
end Go.Proofs.Ytbpmdhngobdilaa
