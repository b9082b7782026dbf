/-
  Order, Copy; frames without the count of draws.
-/
import Derived.Test.YtbpmdhngobdilaaHpG
namespace Go.Proofs.Ytbpmdhngobdilaa
open Go.RowKit Go.Sort
attribute [local go_sem ↓] Go.wp_at_zero Go.wp_at_succ

/-- Of the blocks that were there only those in S may have turned; nothing is said of the count of draws. -/
structure Fr0 (S : Nat → Prop) (w w' : World) : Prop where
  os : w'.os = w.os
  tape : w'.tape = w.tape
  output : w'.output = w.output
  size : w.heap.size ≤ w'.heap.size
  block : ∀ k, k < w.heap.size → ¬ S k → w'.heap[k]? = w.heap[k]?
theorem Fr0.refl (S : Nat → Prop) (w : World) : Fr0 S w w := ⟨rfl, rfl, rfl, Nat.le_refl _, fun _ _ _ => rfl⟩
theorem Fr.to0 {S : Nat → Prop} {w w' : World} (h : Fr S w w') : Fr0 S w w' := ⟨h.os, h.tape, h.output, h.size, h.block⟩
theorem below_to0 {w w' : World} (h : Below w.heap.size w w') : Fr0 none' w w' := ⟨h.os, h.tape, h.output, h.size, fun k hk _ => h.block k hk⟩
theorem Fr0.trans' {S S' : Nat → Prop} {a b c : World} (h : Fr0 S a b) (k : Fr0 S' b c) (hS : ∀ k, k < a.heap.size → S' k → S k) : Fr0 S a c :=
  ⟨k.os.trans h.os, k.tape.trans h.tape, k.output.trans h.output, Nat.le_trans h.size k.size, fun i hi hs => (k.block i (Nat.lt_of_lt_of_le hi h.size) (fun x => hs (hS i hi x))).trans (h.block i hi hs)⟩
theorem Fr0.trans {S : Nat → Prop} {a b c : World} (h : Fr0 S a b) (k : Fr0 S b c) : Fr0 S a c := h.trans' k (fun _ _ h => h)
theorem Fr0.mono {S S' : Nat → Prop} {a b : World} (h : Fr0 S a b) (hS : ∀ k, k < a.heap.size → S k → S' k) : Fr0 S' a b := ⟨h.os, h.tape, h.output, h.size, fun k hk hs => h.block k hk (fun x => hs (hS k hk x))⟩
theorem Fr0.below {S : Nat → Prop} {B : Nat} {w w' : World} (h : Fr0 S w w') (hB : B ≤ w.heap.size) (hS : ∀ k, k < B → ¬ S k) : Below B w w' :=
  ⟨h.os, h.tape, h.output, h.size, fun k hk => h.block k (Nat.lt_of_lt_of_le hk hB) (hS k hk)⟩
theorem Fr0.cell {S : Nat → Prop} {w w' : World} (h : Fr0 S w w') {p : Addr} (hp : p.block < w.heap.size) (hs : ¬ S p.block) : w'.cell? p = w.cell? p := World.cell?_of_block (w := w) (h.block p.block hp hs)
theorem Fr0.later {w w' : World} (h : Fr0 none' w w') {p : Addr} {v : Value} (hc : w.cell? p = some v) : w'.cell? p = some v := by
  rw [h.cell (World.block_lt_of_cell? _ _ hc) id]; exact hc
theorem Box.fr0 {S : Nat → Prop} {w w' : World} {b : Nat} {v : Value} (h : Box w b v) (hf : Fr0 S w w') (hs : ¬ S b) : Box w' b v := h.of_block (hf.block b h.lt hs)
theorem ownsRow_fr0 {S : Nat → Prop} {w w' : World} {base : Nat} {e : TypeId} {size : Nat} {v : Value} {n : Nat} {xs : List Value} (h : w.ownsRow base e size v n xs) (hf : Fr0 S w w')
    (hs : ∀ g, v.ownBlock = some g → ¬ S g) : w'.ownsRow base e size v n xs := by
  obtain ⟨h1, h2⟩ := h
  refine ⟨h1, ?_⟩
  rcases h2 with h2 | ⟨g, cap, cur, hv, hg, hh, r⟩
  · exact Or.inl h2
  · refine Or.inr ⟨g, cap, cur, hv, hg, ?_, r⟩
    rw [hf.block g (Array.getElem?_eq_some_iff.1 hh).1 (hs g (by rw [hv]; rfl))]; exact hh
theorem HeapIn.fr0 {S : Nat → Prop} {w w' : World} {hb ba n ca : Nat} {v : Value} {t : List Ent} {A : List Nat} (h : HeapIn w hb ba v n ca t A) (hf : Fr0 S w w') (hS : ∀ k, foot hb ba v k → ¬ S k) : HeapIn w' hb ba v n ca t A := by
  obtain ⟨cv, h4, h5⟩ := h.tb
  exact ⟨(hf.block _ (h.lt _ (.inl rfl)) (hS _ (.inl rfl))).trans h.hd, ownsRow_fr0 h.tr hf (fun g hg => hS g (.inr (.inr hg))), ⟨cv, (hf.block _ (h.lt _ (.inr (.inl rfl))) (hS _ (.inr (.inl rfl)))).trans h4, h5⟩, h.n1, h.n2⟩
theorem HeapIs.fr0 {S : Nat → Prop} {w w' : World} {hb ba n : Nat} {v : Value} {L : List Ent} (h : HeapIs w hb ba v n L) (hf : Fr0 S w w') (hS : ∀ k, foot hb ba v k → ¬ S k) : HeapIs w' hb ba v n L := by
  obtain ⟨ca, t, A, h1, h2⟩ := h.some; exact ⟨⟨ca, t, A, h1.fr0 hf hS, h2⟩, h.sorted, h.once, h.place, h.size⟩
theorem HeapIs.later0 {w w' : World} {hb ba n : Nat} {v : Value} {L : List Ent} (h : HeapIs w hb ba v n L) (hf : Fr0 none' w w') : HeapIs w' hb ba v n L := h.fr0 hf (fun _ _ h => h)

theorem ownBlock_base {w : World} {base : Nat} {e : TypeId} {size : Nat} {v : Value} {n : Nat} {xs : List Value} (h : w.ownsRow base e size v n xs) (g : Nat) (hg : v.ownBlock = some g) : base ≤ g ∧ g < w.heap.size := h.lt g hg
theorem clone_ents {w : World} {base : Nat} {v : Value} {t : List Ent} (h : w.ownsRow base 70 4 v t.length (flatE t)) (hm : t.length ≤ 5000) :
    Calls Try.prog 34 #[v] w fun e w' => ∃ v', e = .returned v' ∧ w'.ownsRow w.heap.size 70 4 v' t.length (flatE t) ∧ Fr0 none' w w' := by
  obtain ⟨i0, hi, hz0, hz1, hz2⟩ := info_parts info_entry
  have h' := h
  rcases h.2 with ⟨rfl, h0⟩ | ⟨g, cap, cur, rfl, hb, hg, hn, hcm, hs, ht⟩
  · refine Calls.mono (AnyE.slices_Clone_nil Try.cloneK_f34 0 0 w) ?_
    rintro e w' ⟨rfl, rfl⟩
    rw [h0, List.eq_nil_of_length_eq_zero h0]
    exact ⟨_, rfl, World.ownsRow_nil _ _ _ _, Fr0.refl _ _⟩
  · refine Calls.mono (AnyE.slices_Clone Try.cloneK_f34 i0 (.agg #[.int .i64 0, .int .i64 0, .int .i64 0, .int .i64 0]) 4 32 hi hz0 hz1 hz2 rfl (by decide) Try.sizeOf70 g 0 t.length cap (flatE t) w (flatE_length t) (by unfold maxLen; omega) (by omega) (fun j u hj => ?_) (flatE_one t)) ?_
    · have := h'.cells (g := g) rfl j u hj
      unfold Addr.add at this
      split at this
      · next h0 => subst h0; exact this
      · simpa using this
    · rintro e w' ⟨v', rfl, hrow, _, hbe⟩
      exact ⟨v', rfl, hrow, below_to0 hbe⟩
theorem clone_ints {w : World} {ba n ca : Nat} {A : List Nat} (hA : A.length = n) (hm : n ≤ 5000) (hc : ∀ p x, A[p]? = some x → w.cell? ⟨ba, p, none⟩ = some (natV x)) :
    Calls Try.prog 41 #[.slice (some ⟨ba, 0, none⟩) n ca] w fun e w' => ∃ g cap, e = .returned (.slice (some ⟨g, 0, none⟩) n cap) ∧ w'.ownsRow w.heap.size 3 1 (.slice (some ⟨g, 0, none⟩) n cap) n (A.map natV) ∧ Fr0 none' w w' := by
  have fin : ∀ {e : Ending} {w' : World} {xs : List Value}, xs = A.map natV → (∃ v', e = .returned v' ∧ w'.ownsRow w.heap.size 3 1 v' n xs ∧ v' ≠ .slice none 0 0 ∧ Below w.heap.size w w') →
      ∃ g cap, e = .returned (.slice (some ⟨g, 0, none⟩) n cap) ∧ w'.ownsRow w.heap.size 3 1 (.slice (some ⟨g, 0, none⟩) n cap) n (A.map natV) ∧ Fr0 none' w w' := by
    rintro e w' xs hxs ⟨v', rfl, hrow, hne, hbe⟩
    subst hxs
    rcases hrow.2 with ⟨h1, _⟩ | ⟨g, cap, cur, rfl, _⟩
    · exact absurd h1 hne
    · exact ⟨g, cap, rfl, hrow, below_to0 hbe⟩
  by_cases h0 : n = 0
  · subst h0
    exact (Try.slices_Clone_int_zero ⟨ba, 0, none⟩ ca w).mono fun _ _ h => fin (by rw [List.eq_nil_of_length_eq_zero hA]; rfl) h
  · refine (Try.slices_Clone_int ba 0 n ca (A.map fun x : Nat => (x : Int)) w (by simp [hA]) (by omega) (fun j hj => ?_)).mono fun _ _ h => fin ?_ h
    · have hj' : j < A.length := by simpa using hj
      have := hc j A[j] (List.getElem?_eq_getElem hj')
      rw [Nat.zero_add, this]
      simp [natV, List.getD_eq_getElem?_getD, hj']
    · rw [List.take_of_length_le (by simp [hA]), List.map_map]; rfl

set_option maxRecDepth 100000 in
set_option maxHeartbeats 1000000 in
theorem Order_is {w : World} {hb ba n : Nat} {v : Value} {L : List Ent} (h : HeapIs w hb ba v n L) :
    Calls Try.prog 19 #[.pointer (some ⟨hb, 0, none⟩)] w fun e w' => ∃ v', e = .returned v' ∧ w'.ownsRow w.heap.size 3 1 v' L.length (placesV L) ∧ Fr0 none' w w' := by
  have hLn := h.len
  obtain ⟨⟨ca, t, A, hIn, hOk, hPe⟩, hSo, hOn, hPl, hNn⟩ := h
  have h0 : w.cell? ⟨hb, 0, none⟩ = some (.bool true) := by rw [cells_at hIn.hd]; rfl
  have h1 : w.cell? ⟨hb, 1, none⟩ = some v := by rw [cells_at hIn.hd]; rfl
  have hml : t.length ≤ 5000 := by rw [hPe.length_eq]; omega
  have HC := clone_ents hIn.tr hml
  have hu : ∀ zs : List Ent, zs.Perm t → zs.Pairwise (fun a b => ordE a b ≤ 0) → zs = L := fun zs h1 h2 => order_one ordE_ord h2 (hSo.imp (fun h => by omega)) (h1.trans hPe)
  have hlen : t.length = L.length := hPe.length_eq
  have HC' := Lib.hid HC
  have Hu := Lib.hid hu
  have Hlen := Lib.hid hlen
  have Hml := Lib.hid hml
  clear HC hu hlen hml hIn hOk hPe hSo hOn hPl hNn hLn
  go_enter Try.func19, Try.ntmps19
  go_wp2_with fail
  refine (is_made hb true _ h0).mono ?_
  rintro e w' ⟨rfl, rfl⟩
  go_wp2_with fail
  refine HC'.out.mono ?_
  rintro e w1 ⟨v1, rfl, hrow, hf1⟩
  have Hrow := Lib.hid hrow
  have Hf1 := Lib.hid hf1
  clear hrow hf1
  go_wp2_with fail
  rcases Hrow.out.2 with ⟨hv, hz⟩ | ⟨g, cap, cur, hv, _⟩
  · subst hv
    have ht0 : t = [] := List.eq_nil_of_length_eq_zero hz
    refine Calls.mono (AnyF.slices_SortFunc_none { Try.sortK_f35 with } none 0 (.func (.func 36) #[] #[]) w1) ?_
    rintro e w2 ⟨rfl, rfl⟩
    go_wp2_with fail
    have HP := places_any (t := ([] : List Ent)) (World.ownsRow_nil w2 0 70 4) (by simp)
    refine HP.mono ?_
    rintro e w3 ⟨v3, rfl, hown, hf3⟩
    have Hown := Lib.hid hown
    have Hf3 := Lib.hid hf3
    clear hown hf3 HP
    go_wp2
    go_ret
    have hL : L = [] := List.eq_nil_of_length_eq_zero (by rw [← Hlen.out, ht0]; rfl)
    subst hL
    exact ⟨_, rfl, ownsRow_k_mono Hown.out Hf1.out.size, Hf1.out.trans Hf3.out.to0⟩
  · subst hv
    refine (sort_ents Hrow.out rfl Hml.out).mono ?_
    rintro e w2 ⟨rfl, zs, hz1, hz2, hrow2, hf2⟩
    have hzL := Hu.out zs hz1 hz2
    subst hzL
    rw [Hlen.out] at hrow2
    have hg := ownBlock_base Hrow.out g rfl
    have HP := places_any hrow2 (by rw [← Hlen.out]; exact Hml.out)
    have Hrow2 := Lib.hid hrow2
    have Hf2 := Lib.hid hf2
    have HP' := Lib.hid HP
    clear hrow2 hf2 HP hz1 hz2
    rw [Hlen.out]
    go_wp2_with fail
    refine HP'.out.mono ?_
    rintro e w3 ⟨v3, rfl, hown, hf3⟩
    have Hown := Lib.hid hown
    have Hf3 := Lib.hid hf3
    clear hown hf3
    go_wp2
    go_ret
    have f12 : Fr0 none' w w2 := Hf1.out.trans' Hf2.out.to0 (fun k hk h => by omega)
    exact ⟨_, rfl, ownsRow_k_mono Hown.out f12.size, f12.trans Hf3.out.to0⟩

set_option maxRecDepth 100000 in
set_option maxHeartbeats 1000000 in
theorem Copy_is {w : World} {hb ba n : Nat} {v : Value} {L : List Ent} (h : HeapIs w hb ba v n L) :
    Calls Try.prog 23 #[.pointer (some ⟨hb, 0, none⟩)] w fun e w' => ∃ hb' ba' v', e = .returned (.pointer (some ⟨hb', 0, none⟩)) ∧ HeapIs w' hb' ba' v' n L ∧ (∀ k, foot hb' ba' v' k → w.heap.size ≤ k) ∧ Fr0 none' w w' := by
  have hLn := h.len
  obtain ⟨⟨ca, t, A, hIn, hOk, hPe⟩, hSo, hOn, hPl, hNn⟩ := h
  have h0 : w.cell? ⟨hb, 0, none⟩ = some (.bool true) := by rw [cells_at hIn.hd]; rfl
  have h1 : w.cell? ⟨hb, 1, none⟩ = some v := by rw [cells_at hIn.hd]; rfl
  have h2 : w.cell? ⟨hb, 2, none⟩ = some (.slice (some ⟨ba, 0, none⟩) n ca) := by rw [cells_at hIn.hd]; rfl
  have hml : t.length ≤ 5000 := by rw [hPe.length_eq]; omega
  have HC := clone_ents (w := w.drew) (ownsRow_k_fr hIn.tr (Fr.refl none' w).drew (fun _ _ h => h)) hml
  obtain ⟨cv, hc1, hc2, hc3, hc4⟩ := hIn.tb
  have HI := fun W (hW : Fr0 none' w.drew W) => clone_ints (w := W) (ba := ba) (ca := ca) hc3 (by omega) (fun p x hx => hW.later (by rw [show w.drew.cell? ⟨ba, p, none⟩ = w.cell? ⟨ba, p, none⟩ from rfl, cells_at hc1]; exact hc4 p x hx))
  have hfin := And.intro hOk (And.intro hPe (And.intro hSo (And.intro hOn (And.intro hPl (And.intro hNn hc3)))))
  have HC' := Lib.hid HC
  have HI' := Lib.hid HI
  have Hfin := Lib.hid hfin
  clear HC HI hIn hOk hPe hSo hOn hPl hNn hLn hml hc1 hc2 hc3 hc4 hfin
  go_enter Try.func23, Try.ntmps23
  go_wp2_with fail
  refine (is_made hb true _ h0).mono ?_
  rintro e w' ⟨rfl, rfl⟩
  go_wp2_with fail
  refine wp_region_held_drew (S := fun W' => W'.cell? ⟨hb, 1, none⟩ = some v ∧ W'.cell? ⟨hb, 2, none⟩ = some (.slice (some ⟨ba, 0, none⟩) n ca)) (by kernel_rfl) ⟨h1, h2⟩ (fun hHeld => ?_)
  refine take_on (i := 0) (v := .pointer (some ⟨hb, 0, none⟩)) rfl (by kernel_rfl) (by kernel_rfl) (by kernel_rfl) (fun _ _ _ h => h) (by kernel_rfl) (fun W' hSW => ?_) (by assumption) ?_
  · (try dsimp only at hSW)
    first | (go_simp; done) | exact rfl | (go_simp; rfl) | (go_simp; omega)
  try simp only [Act.put, List.setIfInBounds_toArray, List.set_cons_zero, List.set_cons_succ]
  refine take_on (i := 1) (v := .pointer (some ⟨hb, 0, none⟩)) rfl (by kernel_rfl) (by kernel_rfl) (by kernel_rfl) (fun _ _ _ h => h) (by kernel_rfl) (fun W' hSW => ?_) (by assumption) ?_
  · (try dsimp only at hSW)
    first | (go_simp; done) | exact rfl | (go_simp; rfl) | (go_simp; omega)
  try simp only [Act.put, List.setIfInBounds_toArray, List.set_cons_zero, List.set_cons_succ]
  refine take_on (i := 2) (v := .pointer (some ⟨hb, 1, none⟩)) rfl (by kernel_rfl) (by kernel_rfl) (by kernel_rfl) (fun _ _ _ h => h) (by kernel_rfl) (fun W' hSW => ?_) (by assumption) ?_
  · (try dsimp only at hSW)
    first | (go_simp; done) | exact rfl | (go_simp; rfl) | (go_simp; omega)
  try simp only [Act.put, List.setIfInBounds_toArray, List.set_cons_zero, List.set_cons_succ]
  refine take_on (i := 3) (v := v) rfl (by kernel_rfl) (by kernel_rfl) (by kernel_rfl) (fun _ _ _ h => h) (by kernel_rfl) (fun W' hSW => ?_) (by assumption) ?_
  · (try dsimp only at hSW)
    first | (go_simp; done) | exact rfl | (go_simp; rfl) | (go_simp; omega)
  try simp only [Act.put, List.setIfInBounds_toArray, List.set_cons_zero, List.set_cons_succ]
  refine take_on (i := 5) (v := .pointer (some ⟨hb, 0, none⟩)) rfl (by kernel_rfl) (by kernel_rfl) (by kernel_rfl) (fun _ _ _ h => h) (by kernel_rfl) (fun W' hSW => ?_) (by assumption) ?_
  · (try dsimp only at hSW)
    first | (go_simp; done) | exact rfl | (go_simp; rfl) | (go_simp; omega)
  try simp only [Act.put, List.setIfInBounds_toArray, List.set_cons_zero, List.set_cons_succ]
  refine take_on (i := 6) (v := .pointer (some ⟨hb, 0, none⟩)) rfl (by kernel_rfl) (by kernel_rfl) (by kernel_rfl) (fun _ _ _ h => h) (by kernel_rfl) (fun W' hSW => ?_) (by assumption) ?_
  · (try dsimp only at hSW)
    first | (go_simp; done) | exact rfl | (go_simp; rfl) | (go_simp; omega)
  try simp only [Act.put, List.setIfInBounds_toArray, List.set_cons_zero, List.set_cons_succ]
  refine take_on (i := 7) (v := .pointer (some ⟨hb, 2, none⟩)) rfl (by kernel_rfl) (by kernel_rfl) (by kernel_rfl) (fun _ _ _ h => h) (by kernel_rfl) (fun W' hSW => ?_) (by assumption) ?_
  · (try dsimp only at hSW)
    first | (go_simp; done) | exact rfl | (go_simp; rfl) | (go_simp; omega)
  try simp only [Act.put, List.setIfInBounds_toArray, List.set_cons_zero, List.set_cons_succ]
  refine take_on (i := 8) (v := .slice (some ⟨ba, 0, none⟩) n ca) rfl (by kernel_rfl) (by kernel_rfl) (by kernel_rfl) (fun _ _ _ h => h) (by kernel_rfl) (fun W' hSW => ?_) (by assumption) ?_
  · (try dsimp only at hSW)
    first | (go_simp; done) | exact rfl | (go_simp; rfl) | (go_simp; omega)
  try simp only [Act.put, List.setIfInBounds_toArray, List.set_cons_zero, List.set_cons_succ]
  refine take_call (i := 4) rfl (by kernel_rfl) (by kernel_rfl) (fun K hK => ?_)
  go_simp
  refine HC'.out.mono ?_
  rintro e w1 ⟨v1, rfl, hrow, hf1⟩
  have Hrow := Lib.hid hrow
  have Hf1 := Lib.hid hf1
  have k1 := hf1.later (p := ⟨hb, 1, none⟩) h1
  have k2 := hf1.later (p := ⟨hb, 2, none⟩) h2
  clear hrow hf1
  go_wp2_with fail
  refine hK.out _ _ ⟨k1, k2⟩ (fun hHeld2 => ?_)
  clear hK K
  try simp only [Act.put, List.setIfInBounds_toArray, List.set_cons_zero, List.set_cons_succ]
  refine take_call (i := 9) rfl (by kernel_rfl) (by kernel_rfl) (fun K hK => ?_)
  go_simp
  refine (HI'.out w1 Hf1.out).mono ?_
  rintro e w2 ⟨g, cap, rfl, hrow2, hf2⟩
  have Hrow2 := Lib.hid hrow2
  have Hf2 := Lib.hid hf2
  have j1 := hf2.later k1
  have j2 := hf2.later k2
  clear hrow2 hf2
  go_wp2_with fail
  refine hK.out _ _ ⟨j1, j2⟩ (fun hHeld3 => ?_)
  clear hK K
  try simp only [Act.put, List.setIfInBounds_toArray, List.set_cons_zero, List.set_cons_succ]
  obtain ⟨a1, n1, c1, rfl⟩ : ∃ a n c, v1 = .slice a n c := by
    rcases Hrow.out.2 with ⟨rfl, _⟩ | ⟨g, cap, cur, rfl, _⟩
    · exact ⟨_, _, _, rfl⟩
    · exact ⟨_, _, _, rfl⟩
  refine take_on (i := 10) (v := .agg #[.bool true, .slice a1 n1 c1, .slice (some ⟨g, 0, none⟩) n cap]) rfl (by kernel_rfl) (by kernel_rfl) (by kernel_rfl) (fun _ _ _ h => h) (by kernel_rfl) (fun W' hSW => ?_) (by assumption) ?_
  · (try dsimp only at hSW)
    first | (go_simp; done) | exact rfl | (go_simp; rfl) | (go_simp; omega)
  try simp only [Act.put, List.setIfInBounds_toArray, List.set_cons_zero, List.set_cons_succ]
  obtain ⟨W3, hW3⟩ : ∃ W3, w2.alloc (.cells #[.bool true, .slice a1 n1 c1, .slice (some ⟨g, 0, none⟩) n cap] 64) = W3 := ⟨_, rfl⟩
  have f3 : Fr none' w2 W3 := by rw [← hW3]; exact (Fr.refl _ _).alloc _
  refine take_call (i := 11) rfl (by kernel_rfl) (by kernel_rfl) (fun K hK => ?_)
  go_simp
  refine hK.out _ _ ⟨f3.later j1, f3.later j2⟩ (fun hHeld4 => ?_)
  clear hK K
  try simp only [Act.put, List.setIfInBounds_toArray, List.set_cons_zero, List.set_cons_succ]
  refine take_on (i := 12) (v := .pointer (some ⟨w2.heap.size, 0, none⟩)) rfl (by kernel_rfl) (by kernel_rfl) (by kernel_rfl) (fun _ _ _ h => h) (by kernel_rfl) (fun W' hSW => ?_) (by assumption) ?_
  · (try dsimp only at hSW)
    first | (go_simp; done) | exact rfl | (go_simp; rfl) | (go_simp; omega)
  try simp only [Act.put, List.setIfInBounds_toArray, List.set_cons_zero, List.set_cons_succ]
  refine wpAnyH_done (by kernel_rfl) ?_ _
  obtain ⟨hOk, hPe, hSo, hOn, hPl, hNn, hc3⟩ := Hfin.out
  have hb1 := fun g hg => ownBlock_base Hrow.out g hg
  have hb2 := ownBlock_base Hrow2.out g rfl
  have hs1 := Hf1.out.size
  have hs2 := Hf2.out.size
  have hd : w.drew.heap.size = w.heap.size := rfl
  have hI3 : HeapIn W3 w2.heap.size g (.slice a1 n1 c1) n cap t A := by
    refine ⟨by rw [← hW3]; exact World.alloc_heap_new w2 _, ownsRow_k_mono (ownsRow_k_fr (ownsRow_fr0 Hrow.out Hf2.out (fun _ _ h => h)) f3 (fun _ _ h => h)) (Nat.zero_le _), ?_, fun j hj => ?_, ?_⟩
    · rcases Hrow2.out.2 with ⟨e0, _⟩ | ⟨g', cap', cur, e0, hb, hg, hn, hm, hs, ht⟩
      · cases e0
      · injection e0 with e1 _ e3
        injection e1 with e1
        injection e1 with e1
        subst e1; subst e3
        refine ⟨cur, (f3.block g hb2.2 id).trans hg, by omega, hc3, fun p x hx => ?_⟩
        have hp : p < n := by rw [← hc3]; exact (List.getElem?_eq_some_iff.1 hx).1
        have h5 : (cur.toList.take (n * 1))[p]? = (A.map natV)[p]? := by rw [ht]
        rw [List.getElem?_take_of_lt (by omega), Array.getElem?_toList, List.getElem?_map, hx] at h5
        exact h5
    · have := hb1 j hj; omega
    · omega
  have Hres := Lib.hid (show HeapIs W3 w2.heap.size g (.slice a1 n1 c1) n L from ⟨⟨cap, t, A, hI3, hOk, hPe⟩, hSo, hOn, hPl, hNn⟩)
  have Hnew := Lib.hid (show ∀ k, foot w2.heap.size g (.slice a1 n1 c1) k → w.heap.size ≤ k from fun k hk => by
    rcases hk with h | h | h
    · omega
    · omega
    · have := hb1 k h; omega)
  have Hfr := Lib.hid (show Fr0 none' w W3 from (((Fr.refl none' w).drew.to0.trans Hf1.out).trans Hf2.out).trans f3.to0)
  obtain ⟨X, hX⟩ : ∃ X, w2.heap.size = X := ⟨_, rfl⟩
  rw [hX] at Hres Hnew ⊢
  clear hX hI3 hOk hPe hSo hOn hPl hNn hc3 hb1 hb2 hs1 hs2 hd f3 hHeld hHeld2 hHeld3 hHeld4 j1 j2 k1 k2 h0 h1 h2 hW3
  go_wp2
  go_ret
  exact ⟨_, _, _, rfl, Hres.out, Hnew.out, Hfr.out⟩
end Go.Proofs.Ytbpmdhngobdilaa
