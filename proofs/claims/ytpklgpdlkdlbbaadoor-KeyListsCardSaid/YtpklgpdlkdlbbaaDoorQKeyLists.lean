/- KeyLists: the statement, and its tied card: for any arguments the law returns true, and the arguments read as before. -/
import Derived.Test.YtpklgpdlkdlbbaaDoorJb3
import Derived.Test.YtpklgpdlkdlbbaaDoorJb4
import Derived.Test.YtpklgpdlkdlbbaaDoorJb2
import Derived.Test.YtpklgpdlkdlbbaaDoorCards
import Derived.Test.YtpklgpdlkdlbbaaDoorTie
set_option linter.unusedSimpArgs false
set_option linter.unusedVariables false

/-
  slices.Clone and key.Sort of a list of keys at any address.
-/
namespace Go.Proofs.YtpklgpdlkdlbbaaDoor
open Go Go.RowKit
attribute [local go_sem ↓] Go.wp_at_zero Go.wp_at_succ
attribute [local go_sem] Oper.semAt_some wide_fn wide_depth wide_fnR wide_depthR

set_option maxRecDepth 100000 in
set_option maxHeartbeats 2000000 in
theorem Clone_zero (a : Option Addr) (cap : Nat) (w : World) :
    Calls Tryd.prog 6 #[.slice a 0 cap] w fun e w' => ∃ a' c', e = .returned (.slice a' 0 c') ∧ Fr0 none' w w' := by
  cases a with
  | none =>
    refine Calls.mono (AnyE.slices_Clone_nil Tryd.cloneK_f6 0 cap w) ?_
    rintro e w' ⟨rfl, rfl⟩
    exact ⟨_, _, rfl, Fr0.refl _ _⟩
  | some a =>
    obtain ⟨i0, hi0, hz0, hz1, hz2⟩ := info_parts info_key
    have q22 : ∀ (w : World) (a : Option Addr) (n c n' c' : Nat), (binOp .eql 22 (.slice a n c) (.slice none n' c')).run Tryd.prog w = .ok (.bool a.isNone) w := fun w a n c n' c' => Lib.run_eql_slice_nil w _ _ a n c n' c' Tryd.underlying22
    go_enter Tryd.func6, Tryd.ntmps6
    go_wp2_with (at_builtin; refine wpList_append_own _ rfl _ _ 22 rfl w.heap.size 24 i0 _ 3 24 Tryd.underlying22 hi0 hz0 hz1 hz2 rfl (by decide) _ _ _ rfl (World.ownsRow_made w #[] 0 (Nat.le_refl _) (Nat.zero_le _) (by simp)) a 0 cap [] rfl rfl (fun j u hj => by simp at hj) (fun u hu => by cases hu) (by unfold maxLen; omega) (by omega) (by simp) ?_)
    intro v' w1 hown hgrow _
    go_wp2
    go_ret
    have hown : w1.ownsRow w.heap.size 24 3 v' 0 [] := by simpa using hown
    have hf : Fr0 none' w w1 := ((Fr0.refl none' w).alloc _).grown hgrow (fun k hk hlt => by simp [Value.ownBlock] at hk; omega)
    rcases hown.2 with ⟨h0, _⟩ | ⟨g', cap', cur, h1, _⟩
    · subst h0; exact ⟨_, _, rfl, hf⟩
    · subst h1; exact ⟨_, _, rfl, hf⟩
set_option maxRecDepth 100000 in
set_option maxHeartbeats 2000000 in
theorem Compact_zero (a : Option Addr) (cap : Nat) (w : World) : Calls Tryd.prog 23 #[.slice a 0 cap] w fun e w' => e = .returned (.slice a 0 cap) ∧ w = w' := by
  go_enter Tryd.func23, Tryd.ntmps23
  go_wp2
  go_ret
  exact ⟨rfl, rfl⟩
set_option maxRecDepth 100000 in
set_option maxHeartbeats 2000000 in
theorem Sort_zero (a : Option Addr) (cap : Nat) (w : World) :
    Calls Tryd.prog 7 #[.slice a 0 cap] w fun e w' => ∃ a' c', e = .returned (.slice a' 0 c') ∧ Fr0 none' w w' := by
  go_enter Tryd.func7, Tryd.ntmps7
  go_wp2_with fail
  refine (Clone_zero a cap w).mono ?_
  rintro e w1 ⟨a1, c1, rfl, hf1⟩
  have F1 := Lib.hid hf1
  clear hf1
  go_wp2_with fail
  refine (sort_keys_nil _ _ _).mono ?_
  rintro e w2 ⟨rfl, hf2⟩
  have F2 := Lib.hid (F1.out.trans hf2)
  clear hf2
  go_wp2_with fail
  refine (Compact_zero _ _ _).mono ?_
  rintro e w3 ⟨rfl, rfl⟩
  go_wp2
  go_ret
  exact ⟨_, _, rfl, F2.out⟩
theorem KsIn.some_of {w : World} {a : Option Addr} {L : List Key3} (h : KsIn w a L) (h0 : 0 < L.length) : ∃ g o, a = some ⟨g, o, none⟩ := by
  obtain ⟨g, o, rfl, _⟩ := h 0 L[0] (List.getElem?_eq_getElem h0)
  exact ⟨g, o, rfl⟩
theorem ksIn_zero (w : World) (a : Option Addr) : KsIn w a [] := fun j x h => by simp at h
/-- Clone of a list of keys at any address. -/
theorem Clone_any {w : World} {a : Option Addr} {n cap : Nat} (L : List Key3) (h : KsIn w a L) (hl : L.length = n) (hn : n ≤ 1000) :
    Calls Tryd.prog 6 #[.slice a n cap] w fun e w' => ∃ a' c', e = .returned (.slice a' n c') ∧ KsIn w' a' L ∧ Fr0 none' w w' := by
  by_cases h0 : n = 0
  · subst h0
    have : L = [] := List.eq_nil_of_length_eq_zero hl
    subst this
    refine (Clone_zero a cap w).mono ?_
    rintro e w' ⟨a', c', rfl, hf⟩
    exact ⟨a', c', rfl, ksIn_zero _ _, hf⟩
  · obtain ⟨g, o, rfl⟩ := h.some_of (by omega)
    refine (Clone_keys L h hl hn).mono ?_
    rintro e w' ⟨v', rfl, hr, _, hf⟩
    obtain ⟨a', c', rfl, hk⟩ := KsAt.of_own hr hl
    rw [hl]
    exact ⟨a', c', rfl, hk, hf⟩
/-- Sort of a list of keys at any address. -/
theorem Sort_any {w : World} {a : Option Addr} {n cap : Nat} (L : List Key3) (h : KsIn w a L) (hl : L.length = n) (hn : n ≤ 1000) :
    Calls Tryd.prog 7 #[.slice a n cap] w fun e w' => ∃ a' c', e = .returned (.slice a' (ss L).length c') ∧ KsIn w' a' (ss L) ∧ (0 < (ss L).length → w'.ownsRow w.heap.size 24 3 (.slice a' (ss L).length c') (ss L).length (flatKy (ss L))) ∧ Fr0 none' w w' := by
  by_cases h0 : n = 0
  · subst h0
    have : L = [] := List.eq_nil_of_length_eq_zero hl
    subst this
    rw [show ss [] = [] from by unfold ss sortK; rw [List.mergeSort_nil]; rfl]
    refine (Sort_zero a cap w).mono ?_
    rintro e w' ⟨a', c', rfl, hf⟩
    exact ⟨a', c', rfl, ksIn_zero _ _, fun h => absurd h (Nat.lt_irrefl _), hf⟩
  · obtain ⟨g, o, rfl⟩ := h.some_of (by omega)
    refine (Sort_some L h hl hn).mono ?_
    rintro e w' ⟨v', rfl, hr, hf⟩
    obtain ⟨a', c', rfl, hk⟩ := KsAt.of_own hr rfl
    exact ⟨a', c', rfl, hk, fun _ => hr, hf⟩
end Go.Proofs.YtpklgpdlkdlbbaaDoor

/-
  KeyLists: lists, and the law.
-/
namespace Go.Proofs.YtpklgpdlkdlbbaaDoor
open Go Go.RowKit
attribute [local go_sem ↓] Go.wp_at_zero Go.wp_at_succ
attribute [local go_sem] Oper.semAt_some wide_fn wide_depth wide_fnR wide_depthR
attribute [local go_sem high] run_neq_k run_eql_k

theorem searchV_form (L : List Key3) (x : Key3) : ∃ (i : Nat) (b : Bool) (e : Int), searchV L x = .tuple #[.int .i64 (i : Int), .bool b, .int .i64 e] ∧ IntKind.i64.wrap e = e := by
  unfold searchV
  split
  · exact ⟨_, _, _, rfl, by decide⟩
  · exact ⟨0, false, 73, rfl, by decide⟩
theorem KsIn.off {S : Nat → Prop} {w1 w w' : World} {a : Option Addr} {L : List Key3} (h1 : KsIn w1 a L) (h : KsIn w a L) (hf : Fr0 S w w') (hS : ∀ k, k < w1.heap.size → ¬ S k) : KsIn w' a L := fun i p hp => by
  obtain ⟨g, o, rfl, c0, c1, c2⟩ := h i p hp
  obtain ⟨g', o', e, d0, _, _⟩ := h1 i p hp
  cases e
  have hlt := World.block_lt_of_cell? _ _ d0
  have hn := hS g hlt
  exact ⟨g, o, rfl, (hf.cell (World.block_lt_of_cell? _ _ c0) hn).trans c0, (hf.cell (World.block_lt_of_cell? _ _ c1) hn).trans c1, (hf.cell (World.block_lt_of_cell? _ _ c2) hn).trans c2⟩
/-- What the loop leaves of the row of what was sorted. -/
def RowLeft (B : Nat) (a : Option Addr) (s cap : Nat) (w : World) : Prop := 0 < s → ∃ X : List Key3, X.length = s ∧ w.ownsRow B 24 3 (.slice a s cap) s (flatKy X)
set_option maxRecDepth 100000 in
set_option maxHeartbeats 8000000 in
theorem lists_any (L : List Key3) (x : Key3) (a : Option Addr) (n cap : Nat) (w : World) (hP : KsIn w a L) (hl : L.length = n) (hn : n ≤ 60) :
    Calls Tryd.prog 4 #[.slice a n cap, keyV x] w fun e w' => e = .returned (.bool true) ∧ Fr0 none' w w' := by
  have HP := Lib.hid hP
  have Hl := Lib.hid hl
  have Hn := Lib.hid hn
  clear hP hl hn
  simp only [keyV]
  go_enter Tryd.func4, Tryd.ntmps4
  go_wp2_with fail
  obtain ⟨p, hp⟩ : ∃ p, w.heap.size = p := ⟨_, rfl⟩
  obtain ⟨W0, hW0⟩ : ∃ W, w.alloc (.cells #[.int .i64 x.time, .int .i64 x.source, .int .i64 x.seq] 24) = W := ⟨_, rfl⟩
  have KB := Lib.hid (show KeyAt W0 p x by rw [← hW0, ← hp]; exact World.alloc_heap_new w _)
  have F0 := Lib.hid (show Fr0 none' w W0 by rw [← hW0]; exact (Fr0.refl _ _).alloc _)
  rw [hW0]
  try rw [hp]
  clear hW0 hp
  refine (Clone_any (cap := cap) L (HP.out.later F0.out) Hl.out (by have := Hn.out; omega)).mono ?_
  rintro e w1 ⟨a1, c1, rfl, hk, hf⟩
  have F1 := Lib.hid (F0.out.trans hf)
  have P1 := Lib.hid hk
  have PA1 := Lib.hid hk
  have KB := Lib.hid (KB.out.fr0 (S := none') hf (fun h => h))
  clear hk hf
  go_wp2_with fail
  refine (Sort_any (cap := c1) L P1.out Hl.out (by have := Hn.out; omega)).mono ?_
  rintro e w2 ⟨a2, c2, rfl, hk, hr, hf⟩
  obtain ⟨S, hS⟩ : ∃ S, ss L = S := ⟨_, rfl⟩
  have hin := ss_inc L
  have hsl := ss_len L
  rw [hS] at hk hr hin hsl
  rw [hS]
  obtain ⟨s, hs⟩ : ∃ s, S.length = s := ⟨_, rfl⟩
  rw [hs] at hr hsl
  rw [hs]
  obtain ⟨B, hB⟩ : ∃ B, w1.heap.size = B := ⟨_, rfl⟩
  rw [hB] at hr
  have HB := Lib.hid hB
  have HS := Lib.hid hS
  have HI := Lib.hid hin
  have Hs := Lib.hid hs
  have Hsn := Lib.hid (show s ≤ 60 by have := Hn.out; have := Hl.out; omega)
  have F2 := Lib.hid (F1.out.trans hf)
  have P1 := Lib.hid (P1.out.later hf)
  have P2 := Lib.hid hk
  have R2 := Lib.hid hr
  have KB := Lib.hid (KB.out.fr0 (S := none') hf (fun h => h))
  have y0 := KB.out.cell (i := 0) (by omega)
  have y1 := KB.out.cell (i := 1) (by omega)
  have y2 := KB.out.cell (i := 2) (by omega)
  simp [nth3] at y0 y1 y2
  obtain ⟨i1, b1, e1, hv1, hwe⟩ := searchV_form L x
  have HWe := Lib.hid hwe
  have hv2 := searchV_inc hin x
  obtain ⟨i2, hi2⟩ : ∃ i, cntK S x = i := ⟨_, rfl⟩
  obtain ⟨b2, hb2⟩ : ∃ b, decide (x ∈ S) = b := ⟨_, rfl⟩
  rw [hi2, hb2] at hv2
  have HSe1 := Lib.hid (fun (a : Option Addr) (c : Nat) (W : World) (h : KsIn W a L) => by have := Search_any (cap := c) L x h Hl.out (by have := Hn.out; omega); rw [hv1] at this; exact this)
  have HRe1 := Lib.hid (fun (a : Option Addr) (c : Nat) (W : World) (h : KsIn W a L) => by have := rSearch_any L x a n c W h Hl.out (by have := Hn.out; omega); rw [hv1] at this; exact this)
  have HSe2 := Lib.hid (fun (a : Option Addr) (c : Nat) (W : World) (h : KsIn W a S) => by have := Search_any (cap := c) S x h hs (by have := Hsn.out; omega); rw [hv2] at this; exact this)
  have HRe2 := Lib.hid (fun (a : Option Addr) (c : Nat) (W : World) (h : KsIn W a S) => by have := rSearch_any S x a s c W h hs (by have := Hsn.out; omega); rw [hv2] at this; exact this)
  simp only [keyV] at HSe1 HRe1 HSe2 HRe2
  clear hk hr hin hsl hs hS hB hf hv1 hv2 hi2 hb2 hwe
  go_wp2_with fail
  refine (HSe1.out _ _ _ P1.out).mono ?_
  rintro e w3 ⟨rfl, hf⟩
  have F3 := Lib.hid (F2.out.trans hf)
  have P1 := Lib.hid (P1.out.later hf)
  have P2 := Lib.hid (P2.out.later hf)
  have R2 := Lib.hid (fun h0 => ownsRow_q_fr (R2.out h0) hf (fun _ _ h => h))
  have KB := Lib.hid (KB.out.fr0 (S := none') hf (fun h => h))
  clear hf y0 y1 y2
  have y0 := KB.out.cell (i := 0) (by omega)
  have y1 := KB.out.cell (i := 1) (by omega)
  have y2 := KB.out.cell (i := 2) (by omega)
  simp [nth3] at y0 y1 y2
  go_wp2_with fail
  refine (HRe1.out _ _ _ (HP.out.later F3.out)).mono ?_
  rintro e w4 ⟨rfl, hf⟩
  have F4 := Lib.hid (F3.out.trans hf)
  have P1 := Lib.hid (P1.out.later hf)
  have P2 := Lib.hid (P2.out.later hf)
  have R2 := Lib.hid (fun h0 => ownsRow_q_fr (R2.out h0) hf (fun _ _ h => h))
  have KB := Lib.hid (KB.out.fr0 (S := none') hf (fun h => h))
  clear hf y0 y1 y2
  go_wp2_with fail
  refine (Order_any L a1 n c1 _ P1.out Hl.out (by have := Hn.out; omega)).mono ?_
  rintro e w5 ⟨RO, rc, o, rfl, hr, ho, hf⟩
  have F5 := Lib.hid (F4.out.trans hf)
  have P1 := Lib.hid (P1.out.later hf)
  have P2 := Lib.hid (P2.out.later hf)
  have R2 := Lib.hid (fun h0 => ownsRow_q_fr (R2.out h0) hf (fun _ _ h => h))
  have KB := Lib.hid (KB.out.fr0 (S := none') hf (fun h => h))
  have RA := Lib.hid hr
  have HO := Lib.hid ho
  clear hf hr ho
  go_wp2_with fail
  refine (rOrder_any L o a n cap _ HO.out (HP.out.later F5.out) Hl.out (by have := Hn.out; omega)).mono ?_
  rintro e w6 ⟨RP, rd, rfl, hr, hf⟩
  have F6 := Lib.hid (F5.out.trans hf)
  have P1 := Lib.hid (P1.out.later hf)
  have P2 := Lib.hid (P2.out.later hf)
  have R2 := Lib.hid (fun h0 => ownsRow_q_fr (R2.out h0) hf (fun _ _ h => h))
  have KB := Lib.hid (KB.out.fr0 (S := none') hf (fun h => h))
  have RA := Lib.hid (ownsRow_q_fr RA.out hf (fun _ _ h => h))
  have RB := Lib.hid hr
  clear hf hr
  go_wp2_with fail
  refine (sameI_any _ _ n _ _ _ _ o _ (HO.out.len.trans Hl.out) (by have := Hn.out; omega) RA.out RB.out).mono ?_
  rintro e w7 ⟨rfl, hf⟩
  have F7 := Lib.hid (F6.out.trans hf)
  have P1 := Lib.hid (P1.out.later hf)
  have P2 := Lib.hid (P2.out.later hf)
  have R2 := Lib.hid (fun h0 => ownsRow_q_fr (R2.out h0) hf (fun _ _ h => h))
  have KB := Lib.hid (KB.out.fr0 (S := none') hf (fun h => h))
  clear hf RA RB
  go_wp2_with fail
  refine (rSort_any L o a n cap _ HO.out (HP.out.later F7.out) Hl.out (by have := Hn.out; omega)).mono ?_
  rintro e w8 ⟨vS, rfl, hr, hf⟩
  rw [HS.out] at hr
  obtain ⟨aS, cS, rfl, hkS⟩ := KsAt.of_own hr rfl
  rw [Hs.out]
  have F8 := Lib.hid (F7.out.trans hf)
  have P1 := Lib.hid (P1.out.later hf)
  have P2 := Lib.hid (P2.out.later hf)
  have R2 := Lib.hid (fun h0 => ownsRow_q_fr (R2.out h0) hf (fun _ _ h => h))
  have KB := Lib.hid (KB.out.fr0 (S := none') hf (fun h => h))
  have PS := Lib.hid hkS
  clear hf hr hkS
  go_wp2_with fail
  refine (sameKs_any a2 aS s s c2 cS S S _ Hs.out Hs.out (by have := Hsn.out; omega) (by have := Hsn.out; omega) P2.out PS.out).mono ?_
  rintro e w9 ⟨rfl, hf⟩
  rw [show decide (S = S) = true from decide_eq_true rfl]
  have F9 := Lib.hid (F8.out.trans hf)
  have P1 := Lib.hid (P1.out.later hf)
  have P2 := Lib.hid (P2.out.later hf)
  have R2 := Lib.hid (fun h0 => ownsRow_q_fr (R2.out h0) hf (fun _ _ h => h))
  have KB := Lib.hid (KB.out.fr0 (S := none') hf (fun h => h))
  clear hf PS
  have z1 : ((i1 : Int) != (i1 : Int)) = false := by simp
  have z2 : (b1 != b1) = false := by simp
  have z3 : (e1 != e1) = false := by simp
  have z4 := HWe.out
  have y0 := KB.out.cell (i := 0) (by omega)
  have y1 := KB.out.cell (i := 1) (by omega)
  have y2 := KB.out.cell (i := 2) (by omega)
  simp [nth3] at y0 y1 y2
  go_wp2_with fail
  clear z1 z2 z3 z4
  refine (HSe2.out _ _ _ P2.out).mono ?_
  rintro e wA ⟨rfl, hf⟩
  have F10 := Lib.hid (F9.out.trans hf)
  have P1 := Lib.hid (P1.out.later hf)
  have P2 := Lib.hid (P2.out.later hf)
  have R2 := Lib.hid (fun h0 => ownsRow_q_fr (R2.out h0) hf (fun _ _ h => h))
  have KB := Lib.hid (KB.out.fr0 (S := none') hf (fun h => h))
  clear hf
  go_wp2_with fail
  have y0 := KB.out.cell (i := 0) (by omega)
  have y1 := KB.out.cell (i := 1) (by omega)
  have y2 := KB.out.cell (i := 2) (by omega)
  simp [nth3] at y0 y1 y2
  have HX := Lib.hid (show KAt wA p 0 x from ⟨y0, y1, y2⟩)
  clear y0 y1 y2
  refine wp_region_held_drew (S := fun W' => Fr0 none' wA W') (by kernel_rfl) ((Fr0.refl none' wA).drew) (fun hHeld => ?_)
  refine take_on (i := 0) (v := .slice a n cap) rfl (by kernel_rfl) (by kernel_rfl) (by kernel_rfl) (fun _ _ _ h => h) (by kernel_rfl) (fun W' hSW => ?_) (by assumption) ?_
  · clear hSW
    first | (go_simp; done) | exact rfl | (go_simp; rfl) | (go_simp; omega)
  try simp only [Act.put, List.setIfInBounds_toArray, List.set_cons_zero, List.set_cons_succ]
  refine take_on (i := 2) (v := .agg #[.int .i64 (x : Key3).time, .int .i64 (x : Key3).source, .int .i64 (x : Key3).seq]) rfl (by kernel_rfl) (by kernel_rfl) (by kernel_rfl) (fun _ _ _ h => h) (by kernel_rfl) (fun W' hSW => ?_) (by assumption) ?_
  · obtain ⟨x0, x1, x2⟩ := HX.out.later hSW
    clear hSW
    first | (go_simp; done) | exact rfl | (go_simp; rfl) | (go_simp; omega)
  try simp only [Act.put, List.setIfInBounds_toArray, List.set_cons_zero, List.set_cons_succ]
  refine take_call (i := 1) rfl (by kernel_rfl) (by kernel_rfl) (fun K' hK => ?_)
  go_simp
  refine (rSort_any L o a n cap _ HO.out (HP.out.later (F10.out.trans hHeld)) Hl.out (by have := Hn.out; omega)).mono ?_
  rintro e wB ⟨vT, rfl, hr, hf⟩
  rw [HS.out] at hr
  obtain ⟨aT, cT, rfl, hkT⟩ := KsAt.of_own hr rfl
  rw [Hs.out]
  have PT := Lib.hid hkT
  have hB := hHeld.trans hf
  clear hf hr hkT hHeld
  go_wp2_with fail
  refine hK.out _ _ hB (fun hHeld => ?_)
  clear hK K'
  try simp only [Act.put, List.setIfInBounds_toArray, List.set_cons_zero, List.set_cons_succ]
  clear hB
  refine take_call (i := 3) rfl (by kernel_rfl) (by kernel_rfl) (fun K' hK => ?_)
  go_simp
  refine (HRe2.out _ _ _ PT.out).mono ?_
  rintro e wC ⟨rfl, hf⟩
  have hB := hHeld.trans hf
  clear hf hHeld
  go_wp2_with fail
  refine hK.out _ _ hB (fun hHeld => ?_)
  clear hK K'
  try simp only [Act.put, List.setIfInBounds_toArray, List.set_cons_zero, List.set_cons_succ]
  clear hB
  have F12 := Lib.hid (F10.out.trans hHeld)
  have P1 := Lib.hid (P1.out.later hHeld)
  have P2 := Lib.hid (P2.out.later hHeld)
  have R2 := Lib.hid (fun h0 => ownsRow_q_fr (R2.out h0) hHeld (fun _ _ h => h))
  refine take_on (i := 4) (v := .tuple #[.int .i64 (i2 : Int), .bool b2, .int .i64 0]) rfl (by kernel_rfl) (by kernel_rfl) (by kernel_rfl) (fun _ _ _ h => h) (by kernel_rfl) (fun W' hSW => ?_) (by assumption) ?_
  · clear hSW
    first | (go_simp; done) | exact rfl | (go_simp; rfl) | (go_simp; omega)
  try simp only [Act.put, List.setIfInBounds_toArray, List.set_cons_zero, List.set_cons_succ]
  refine take_on (i := 5) (v := .int .i64 (i2 : Int)) rfl (by kernel_rfl) (by kernel_rfl) (by kernel_rfl) (fun _ _ _ h => h) (by kernel_rfl) (fun W' hSW => ?_) (by assumption) ?_
  · clear hSW
    first | (go_simp; done) | exact rfl | (go_simp; rfl) | (go_simp; omega)
  try simp only [Act.put, List.setIfInBounds_toArray, List.set_cons_zero, List.set_cons_succ]
  refine take_on (i := 6) (v := .bool b2) rfl (by kernel_rfl) (by kernel_rfl) (by kernel_rfl) (fun _ _ _ h => h) (by kernel_rfl) (fun W' hSW => ?_) (by assumption) ?_
  · clear hSW
    first | (go_simp; done) | exact rfl | (go_simp; rfl) | (go_simp; omega)
  try simp only [Act.put, List.setIfInBounds_toArray, List.set_cons_zero, List.set_cons_succ]
  refine take_on (i := 7) (v := .int .i64 0) rfl (by kernel_rfl) (by kernel_rfl) (by kernel_rfl) (fun _ _ _ h => h) (by kernel_rfl) (fun W' hSW => ?_) (by assumption) ?_
  · clear hSW
    first | (go_simp; done) | exact rfl | (go_simp; rfl) | (go_simp; omega)
  try simp only [Act.put, List.setIfInBounds_toArray, List.set_cons_zero, List.set_cons_succ]
  refine take_on (i := 8) (v := .int .i64 (i2 : Int)) rfl (by kernel_rfl) (by kernel_rfl) (by kernel_rfl) (fun _ _ _ h => h) (by kernel_rfl) (fun W' hSW => ?_) (by assumption) ?_
  · clear hSW
    first | (go_simp; done) | exact rfl | (go_simp; rfl) | (go_simp; omega)
  try simp only [Act.put, List.setIfInBounds_toArray, List.set_cons_zero, List.set_cons_succ]
  refine take_on (i := 9) (v := .bool b2) rfl (by kernel_rfl) (by kernel_rfl) (by kernel_rfl) (fun _ _ _ h => h) (by kernel_rfl) (fun W' hSW => ?_) (by assumption) ?_
  · clear hSW
    first | (go_simp; done) | exact rfl | (go_simp; rfl) | (go_simp; omega)
  try simp only [Act.put, List.setIfInBounds_toArray, List.set_cons_zero, List.set_cons_succ]
  refine wpAnyH_done (by kernel_rfl) ?_ _
  clear hHeld PT KB HX
  go_wp2_with fail
  go_loopw [13, 79] (fun _ c wr => ∃ j : Nat, c = .int .i64 j ∧ j ≤ s ∧ Hid (RowLeft B a2 s c2 wr) ∧ Hid (Fr0 (fun k => 0 < s ∧ (.slice a2 s c2 : Value).ownBlock = some k) wC wr)) (fun _ c _ => s - (Go.RowKit.intOf c).toNat)
  case atStart => exact ⟨0, rfl, Nat.zero_le _, fun h0 => ⟨S, Hs.out, R2.out h0⟩, Fr0.refl _ _⟩
  case round =>
    obtain ⟨j, rfl, hj, hR, hf⟩ := hrel
    by_cases hlt : j < s
    · have d0 : decide ((j : Int) < (s : Int)) = true := decide_eq_true (by omega)
      have e5 : IntKind.i64.wrap ((j : Int) + 1) = (j : Int) + 1 := IntWalk.i64_in _ (by have := Hsn.out; omega)
      have c01 : (0 : Int) ≤ (j : Int) := by omega
      have c02 : (j : Int) < (s : Int) := by omega
      obtain ⟨X, hX, hr⟩ := hR.out (by omega)
      obtain ⟨g, cap', cur, hv, hgb, _⟩ : ∃ g cap' cur, (.slice a2 s c2 : Value) = .slice (some ⟨g, 0, none⟩) s cap' ∧ B ≤ g ∧ wr.heap[g]? = some cur := by
        rcases hr.2 with ⟨h0, hz⟩ | ⟨g, cap', cur, h1, hb, hh, _⟩
        · omega
        · exact ⟨g, cap', _, h1, hb, hh⟩
      cases hv
      have f0 := row_frozen hr (j * 3)
      have f1 := row_frozen hr (j * 3 + 1)
      have f2 := row_frozen hr (j * 3 + 2)
      obtain ⟨x1, hx1⟩ : ∃ x, X[j]? = some x := ⟨_, List.getElem?_eq_getElem (by rw [hX]; exact hlt)⟩
      obtain ⟨g1, o1, e1', hc⟩ := rowKs hr hX j x1 hx1
      cases e1'
      rw [Nat.zero_add] at hc
      obtain ⟨y0, y1, y2⟩ := hc
      have Hr := Lib.hid hr
      have HX := Lib.hid hX
      have Hlt := Lib.hid hlt
      clear hr hX hx1 hlt
      go_wp2_with fail
      exact ⟨⟨j + 1, by simp, by have := Hlt.out; omega, fun _ => ⟨X.set j ⟨-1, 0, 0⟩, by rw [List.length_set]; exact HX.out, row_setK (x := ⟨-1, 0, 0⟩) Hr.out HX.out Hlt.out⟩, ((hf.out.setCell (fun _ => ⟨by have := Hlt.out; omega, rfl⟩) _).setCell (fun _ => ⟨by have := Hlt.out; omega, rfl⟩) _).setCell (fun _ => ⟨by have := Hlt.out; omega, rfl⟩) _⟩, by simp [Go.RowKit.intOf]; have := Hlt.out; omega⟩
    · obtain rfl : j = s := by omega
      have d0 : decide ((j : Int) < (j : Int)) = false := decide_eq_false (by omega)
      have hgB : ∀ k, k < B → ¬ (0 < j ∧ (.slice a2 j c2 : Value).ownBlock = some k) := fun k hk h => by
        have := ((R2.out h.1).lt k h.2).1
        omega
      have hwB : w.heap.size ≤ B := by rw [← HB.out]; exact F1.out.size
      have PF := Lib.hid (PA1.out.off P1.out hf.out (fun k hk => hgB k (by rw [← HB.out]; exact hk)))
      have PL := Lib.hid (HP.out.off (HP.out.later F12.out) hf.out (fun k hk => hgB k (Nat.lt_of_lt_of_le hk hwB)))
      have FF := Lib.hid (F12.out.trans' hf.out (fun k hk h => hgB k (Nat.lt_of_lt_of_le hk hwB) h))
      have z1 : ((i2 : Int) == (i2 : Int)) = true := by simp
      have z2 : (b2 == b2) = true := by simp
      clear hgB hwB hf hR
      go_wp2_with fail
      refine (sameKs_any a1 a n n c1 cap L L _ Hl.out Hl.out (by have := Hn.out; omega) (by have := Hn.out; omega) PF.out PL.out).mono ?_
      rintro e wD ⟨rfl, hf⟩
      rw [show decide (L = L) = true from decide_eq_true rfl]
      have FE := Lib.hid (FF.out.trans hf)
      clear hf
      go_wp2_with fail
      go_ret
      exact ⟨rfl, FE.out⟩
set_option maxRecDepth 100000 in
set_option maxHeartbeats 4000000 in
theorem KeyLists_any (a : Option Addr) (n cap : Nat) (L : List Key3) (x : Key3) (w : World) (hLd : Laid7 w) (hl : L.length = n) (_hc : n ≤ cap) (_hcm : cap ≤ maxLen) (hP : KsIn w a L) :
    Calls Tryd.prog 3 #[.slice a n cap, keyV x] w fun e w' => e = .returned (.bool true) ∧ Fr0 none' w w' := by
  have HR := Lib.hid (fun (W : World) (hn : n ≤ 60) (hP : KsIn W a L) => lists_any L x a n cap W hP hl hn)
  have HL := Lib.hid hLd
  have HP := Lib.hid hP
  have HA := Lib.hid awake_any
  simp only [keyV] at HR ⊢
  clear hLd hP
  go_enter Tryd.func3, Tryd.ntmps3
  by_cases hn : n ≤ 60
  · have d1 : decide ((60 : Int) < (n : Int)) = false := decide_eq_false (by omega)
    have HR := Lib.hid (fun W => HR.out W hn)
    clear hn
    go_wp2_with fail
    have F0 := Lib.hid ((Fr0.refl none' w).alloc (.cells #[.int .i64 x.time, .int .i64 x.source, .int .i64 x.seq] 24))
    refine (HR.out _ (HP.out.later F0.out)).mono ?_
    rintro e w1 ⟨rfl, hf⟩
    have F1 := Lib.hid (F0.out.trans hf)
    clear hf
    go_wp2_with fail
    refine (HA.out _ (HL.out.later F1.out)).mono ?_
    rintro e w2 ⟨rfl, hf⟩
    have F2 := Lib.hid (F1.out.trans hf)
    clear hf
    go_wp2_with fail
    go_ret
    exact ⟨rfl, F2.out⟩
  · have d1 : decide ((60 : Int) < (n : Int)) = true := decide_eq_true (by omega)
    clear hn
    go_wp2_with fail
    have F0 := Lib.hid ((Fr0.refl none' w).alloc (.cells #[.int .i64 x.time, .int .i64 x.source, .int .i64 x.seq] 24))
    refine (HA.out _ (HL.out.later F0.out)).mono ?_
    rintro e w2 ⟨rfl, hf⟩
    have F2 := Lib.hid (F0.out.trans hf)
    clear hf
    go_wp2_with fail
    go_ret
    exact ⟨rfl, F2.out⟩
end Go.Proofs.YtpklgpdlkdlbbaaDoor

namespace Go.Proofs.YtpklgpdlkdlbbaaDoor.keyLists
open Go Go.ChangeShapes Go.WideShapes Go.ChangeAt Go.RowKit Go.Proofs.YtpklgpdlkdlbbaaDoor

set_option maxRecDepth 100000 in
theorem lifted (os : Os) (started : os.Started) (H : Type) (enc : TypeId × Value → H) :
    ReturnsInHanded {} Tryd.checked os 3 .any (fun w args => (Rows.keyListsSpec.pre enc Tryd.prog Tryd.f3 Rows.keyListsRow.domain false w args ∧ laidMet Tryd.prog laidK w) ∧ sizedMet enc Tryd.prog Tryd.f3 (OpenSpec.ofChange Rows.keyListsSpec) false w args)
      (Rows.keyListsSpec.post enc Tryd.prog Tryd.f3 false true false false) := by
  refine returnsInHanded_of_change_and (C := Tryd.checked) (X := fun w _ => laidMet Tryd.prog laidK w) (fun _ _ _ hh h => h.of_heap hh) own_knob started (by kernel_rfl) Tryd.func3
    (ChangeSpec.witness_at (enc := enc) (C := Tryd.checked) (os := os) (X := fun w _ => laidMet Tryd.prog laidK w) false (laidWorld os) #[.slice none 0 0, .agg #[.int .i64 0, .int .i64 0, .int .i64 0]] 8 rfl (by kernel_rfl) (by kernel_rfl) (by kernel_rfl) (by kernel_rfl) (by kernel_rfl) (laidWorld_met os _)) ?_
  intro W base args ds gs before hval0 hW _ hsz0 hL _
  have hval : ∀ (j : Nat) t v, Tryd.f3.params[j]? = some t → args[j]? = some v → Value.okWide Tryd.prog W .any base t v := hval0
  have hW' := hW
  obtain ⟨p, q, hA0, hV, rfl, hfz, hnd⟩ := hW
  have hA : DataW.TrodAll enc Tryd.prog W 0 (fun _ => true) true Tryd.f3.params.toList args.toList ds p := hA0
  rw [Tryd.params3] at hA hval
  obtain ⟨v0, vs0, d0, ds0, p0, q0, hargs, rfl, rfl, h0, r0⟩ := trodAll_cons hA
  obtain ⟨v1, vs1, d1, ds1, p1, q1, rfl, rfl, rfl, h1, r1⟩ := trodAll_cons r0
  obtain ⟨rfl, rfl, rfl⟩ := trodAll_nil r1
  obtain rfl : args = #[v0, v1] := by cases args; simp_all
  obtain ⟨rfl, rfl⟩ := trodVars_none hV
  clear hA0 hval0
  simp only [List.append_nil] at hW'
  have l0 : ∀ x ∈ p0, x.block < W.heap.size := fun x hx => hW'.lt x (by simp [hx])
  have t0 := fun W' (hb : Below W.heap.size W W') => Below.trod laid_own (by kernel_rfl) (of_decide_eq_true (by kernel_rfl)) h0 hb l0
  have l1 : ∀ x ∈ p1, x.block < W.heap.size := fun x hx => hW'.lt x (by simp [hx])
  have t1 := fun W' (hb : Below W.heap.size W W') => Below.trod laid_own (by kernel_rfl) (of_decide_eq_true (by kernel_rfl)) h1 hb l1
  obtain ⟨a0, n0, cap0, X0, rfl, hn0, hc0, hm0, hb0⟩ := keys_arg (hval 0 22 v0 rfl rfl) h0
  obtain ⟨x1, rfl⟩ := key_arg (hval 1 24 v1 rfl rfl) h1
  refine (KeyLists_any a0 n0 cap0 X0 x1 W (laid7_of hL) hn0 hc0 hm0 hb0).mono fun e W' ⟨he, hg0⟩ => ?_
  have hg := hg0.below (Nat.le_refl _) (fun _ _ h => h)
  subst he
  exact ⟨_, rfl, post_belowK (pa := (p0 ++ (p1 ++ []))) (pv := []) hW' (fun _ _ _ => (trodAll_cons_mk (shut_bool Tryd.underlying4 _) trodAll_mk0)) (trodAll_cons_mk (t0 _ hg) (trodAll_cons_mk (t1 _ hg) trodAll_mk0)) (fun _ _ => rfl) hg⟩

theorem over : Rows.keyListsRow.holds Tryd.pinned (OpenSpec.ofChange Rows.keyListsSpec) :=
  OpenClaim.holds_of_wide 3 Tryd.f3 rfl rfl rfl rfl rfl rfl rfl ⟨rfl, rfl, rfl, rfl, rfl⟩ rfl rfl rfl rfl rfl (by kernel_rfl) Tryd.func3 (by kernel_rfl)
    (of_decide_eq_true (by kernel_rfl)) (by unfold Func.isWrapper; first | (rw [if_pos (by decide +kernel)]; kernel_rfl) | (rw [if_neg (by decide +kernel)]; exact ⟨rfl, rfl⟩))
    (fun os started H enc _ => lifted os started H enc)

theorem proved : Rows.KeyListsCardSaid :=
  Claim7.holds_tied_plain_at .later [] [.data, .data, .data, .sentinel, .sentinel] true _ true
    over (fun _ h => by cases h) (by kernel_rfl) (fun _ h => by cases h) keyLists_row_tie rfl ⟨rfl, rfl⟩ (by kernel_rfl) rfl
    (fun f fn hf hfn => by
      obtain rfl : f = 3 := Option.some.inj ((show Tryd.prog.funcNamed "fermata/fermatalaw07.KeyLists" = some 3 by kernel_rfl).symm.trans hf) |>.symm
      obtain rfl : fn = Tryd.f3 := (Option.some.inj (Tryd.func3.symm.trans hfn)).symm
      exact ⟨by kernel_rfl, fun j t ht => by
        rw [Tryd.params3] at ht
        have sK : Tryd.prog.wantsStandIn 24 = false := by kernel_rfl
        have sL : Tryd.prog.wantsStandIn 22 = false := by kernel_rfl
        have hm : t ∈ [22, 24] := by
          have := Array.mem_of_getElem? ht
          simpa using this
        simp only [List.mem_cons, List.not_mem_nil, or_false, or_self] at hm
        rcases hm with rfl | rfl
        · exact sL
        · exact sK⟩)
    (by kernel_rfl)
#print axioms proved
end Go.Proofs.YtpklgpdlkdlbbaaDoor.keyLists
