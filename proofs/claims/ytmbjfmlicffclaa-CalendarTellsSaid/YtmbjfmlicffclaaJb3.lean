/-
  Spaces: what each function of the package does, and what the laws make of it.
-/
import Derived.Test.YtmbjfmlicffclaaJb2
import Derived.Test.YtmbjfmlicffclaaJa
import Derived.Test.YtmbjfmlicffclaaJb1
import Derived.Shelf.Spec.SlicesGrow
set_option linter.unusedSimpArgs false
set_option linter.unusedVariables false

/-
  The reference of layer 12: Odd, Right.
-/
namespace Go.Proofs.Ytmbjfmlicffclaa
open Go Go.RowKit
attribute [local go_sem ↓] Go.wp_at_zero Go.wp_at_succ
attribute [local go_sem] Oper.semAt_some wide_fn wide_depth wide_fnR wide_depthR

set_option maxRecDepth 100000 in
set_option maxHeartbeats 2000000 in
theorem rOdd_any {w : World} {a : Option Addr} {m cap : Nat} (L : List Ca) (h : CasIn w a L) (hl : L.length = m) (hm : m ≤ 100000) :
  Calls Try.prog 75 #[.slice a m cap] w fun e w' => e = .returned (.int .i64 (oddC L)) ∧ Fr0 none' w w' := by
 have H := Lib.hid h
 have Hl := Lib.hid hl
 obtain ⟨R, hR⟩ : ∃ R, oddC L = R := ⟨_, rfl⟩
 rw [hR]
 have HR := Lib.hid hR
 clear h hl hR
 go_enter Try.func75, Try.ntmps75
 go_wp2_with fail
 go_loopw [3] (fun i wr => ∃ k : Nat, k ≤ m ∧ i = .int .i64 k ∧ Hid (∀ b ∈ L.take k, 1 ≤ b.kind ∧ b.kind ≤ 5) ∧ Hid (Fr0 none' w wr)) (fun i _ => m - (Go.RowKit.intOf i).toNat)
 case atStart => exact ⟨0, Nat.zero_le _, rfl, by unfold Hid; simp, Fr0.refl _ _⟩
 case round =>
  obtain ⟨k, hk, rfl, hpre, hfr⟩ := hrel
  by_cases hlt : k < m
  ·obtain ⟨x, hx⟩ : ∃ x, L[k]? = some x := ⟨_, List.getElem?_eq_getElem (by rw [Hl.out]; exact hlt)⟩
   obtain ⟨g, o, rfl, hxc⟩ := (H.out.later hfr.out) k x hx
   obtain ⟨x0, _, _, _, _, _, _⟩ := hxc
   have k1 : (0 : Int) ≤ (k : Int) := by omega
   have k2 : (k : Int) < (m : Int) := by omega
   have Hx := Lib.hid hx
   obtain ⟨kd, y, t⟩ := x
   simp only at x0
   clear hx
   by_cases hkd : 1 ≤ kd ∧ kd ≤ 5
   ·have hnext := Lib.hid (show ∀ b ∈ L.take (k + 1), 1 ≤ b.kind ∧ b.kind ≤ 5 from fun b hb => by
     rw [List.take_add_one, Hx.out, List.mem_append] at hb
     rcases hb with hb | hb
     ·exact hpre.out b hb
     ·simp at hb; subst hb; exact hkd)
    have d1 : decide (kd < 1) = false := decide_eq_false (by omega)
    have d2 : decide (kd > 5) = false := decide_eq_false (by omega)
    have d3 : decide (5 < kd) = false := decide_eq_false (by omega)
    clear hkd
    go_wp2_with fail
    go_roundw
    case rel => exact ⟨k + 1, by omega, by go_num, hnext, hfr⟩
    case measure => simp [Go.RowKit.intOf]; omega
   ·have hres := Lib.hid (show (k : Int) = R by rw [← HR.out]; exact (oddC_at hpre.out Hx.out hkd).symm)
    by_cases h1 : kd < 1
    ·have d1 : decide (kd < 1) = true := decide_eq_true h1
     clear hkd h1
     go_wp2_with fail
     go_ret
     exact ⟨by rw [← hres.out]; rfl, hfr.out⟩
    ·have d1 : decide (kd < 1) = false := decide_eq_false h1
     have d2 : decide (kd > 5) = true := decide_eq_true (by omega)
     have d3 : decide (5 < kd) = true := decide_eq_true (by omega)
     clear hkd h1
     go_wp2_with fail
     go_ret
     exact ⟨by rw [← hres.out]; rfl, hfr.out⟩
  ·have hres := Lib.hid (show (-1 : Int) = R by
    rw [← HR.out]
    refine (oddC_none (fun b hb => hpre.out b ?_)).symm
    rwa [List.take_of_length_le (by rw [Hl.out]; omega)])
   go_wp2_with fail
   go_ret
   exact ⟨by rw [← hres.out]; rfl, hfr.out⟩
/-- A list in order is a right calendar if it can be put whole into an empty queue. -/
theorem right_all {L : List Ev} {n : Nat} (ha : AscE L) (hn : n ≤ 256) : (allV n [] L).2 = 0 ↔ RightC L n := by
 constructor
 ·intro h
  have hc : (chkE [] L).2 = 0 := by
   unfold allV at h
   by_cases h0 : (chkE [] L).2 = 0
   ·exact h0
   ·rw [if_pos h0] at h; exact absurd h h0
  obtain ⟨h1, h2, _⟩ := chkE_ok hc
  have h3 := dup_once (E := []) (l := L) List.nodup_nil h2
  rw [List.append_nil] at h3
  have h4 : ¬ n - ([] : List Ev).length < L.length := fun hlt => by
   unfold allV at h
   rw [if_neg (by rw [hc]; simp), if_pos hlt] at h
   cases h
  rw [List.length_nil] at h4
  exact ⟨⟨by omega, by omega⟩, by omega, ha, h1, h3⟩
 ·rintro ⟨_, h1, _, h2, h3⟩
  have := (all_ok (n := n) (E := []) h2 (by rw [List.append_nil]; exact h3) (by rw [List.length_nil]; omega)).1
  rw [this]
set_option maxRecDepth 100000 in
set_option maxHeartbeats 2000000 in
theorem rRight12_any {w : World} {a : Option Addr} {n cap : Nat} {c : Int} (L : List Ev) (h : EsIn w a L) (hl : L.length = n) (hn : n ≤ 10000) (hcap : n ≤ cap) :
  Calls Try.prog 47 #[.slice a n cap, .int .i64 c] w fun e w' => EndR L c w e w' := by
 have HS := Lib.hid (rSorted_any (cap := cap) L h hl hn)
 by_cases c0 : c < 0
 ·have d1 : decide (c < 0) = true := decide_eq_true c0
  have hr : Hid (¬ RightC L c) := fun h => by have := h.1; omega
  clear h hl c0
  go_enter Try.func47, Try.ntmps47
  go_wp2_with fail
  go_ret
  exact EndR.of rfl ⟨fun h => (by cases h), fun h => absurd h hr.out⟩ (Fr0.refl _ _)
 have d1 : decide (c < 0) = false := decide_eq_false c0
 by_cases c1 : c > 256
 ·have d2 : decide (c > 256) = true := decide_eq_true c1
  have d3 : decide (256 < c) = true := decide_eq_true c1
  have hr : Hid (¬ RightC L c) := fun h => by have := h.1; omega
  clear h hl c0 c1
  go_enter Try.func47, Try.ntmps47
  go_wp2_with fail
  go_ret
  exact EndR.of rfl ⟨fun h => (by cases h), fun h => absurd h hr.out⟩ (Fr0.refl _ _)
 have d2 : decide (c > 256) = false := decide_eq_false c1
 have d3 : decide (256 < c) = false := decide_eq_false c1
 by_cases c2 : n > 256
 ·have d4 : decide ((n : Int) > 256) = true := decide_eq_true (by omega)
  have d5 : decide ((256 : Int) < (n : Int)) = true := decide_eq_true (by omega)
  have hr : Hid (¬ RightC L c) := fun h => by have := h.1; have := h.2.1; omega
  clear h hl c0 c1 c2
  go_enter Try.func47, Try.ntmps47
  go_wp2_with fail
  go_ret
  exact EndR.of rfl ⟨fun h => (by cases h), fun h => absurd h hr.out⟩ (Fr0.refl _ _)
 have d4 : decide ((n : Int) > 256) = false := decide_eq_false (by omega)
 have d5 : decide ((256 : Int) < (n : Int)) = false := decide_eq_false (by omega)
 obtain ⟨N, rfl⟩ : ∃ N : Nat, c = (N : Int) := ⟨c.toNat, by omega⟩
 by_cases ho : AscE L
 ·rw [show decide (AscE L) = true from decide_eq_true ho] at HS
  have HP := Lib.hid (fun (W : World) (hf : Fr0 none' w W) => rPutAll_any (w := W) (a := none) (la := a) (m := 0) (cap := 0) (n := N) (k := n) (lc := cap) [] L (fun i x hx => by simp at hx) rfl (by omega) (by omega) (by omega) (by omega) (h.later hf) hl (by omega) hcap (fun g o s e => by cases e) List.nodup_nil)
  have Hr := Lib.hid (right_all ho (n := N) (by omega))
  obtain ⟨T, hT⟩ : ∃ T, allV N [] L = T := ⟨_, rfl⟩
  rw [hT] at HP Hr
  obtain ⟨t1, t2⟩ := T
  simp only at Hr
  clear h hl c0 c1 c2 ho hT
  go_enter Try.func47, Try.ntmps47
  go_wp2_with fail
  refine HS.out.mono ?_
  rintro e w1 ⟨rfl, hf⟩
  have F := Lib.hid hf
  clear hf
  go_wp2_with fail
  refine (HP.out _ F.out).mono ?_
  rintro e w2 ⟨v, rfl, ⟨va, vc, rfl, _⟩, hf⟩
  have F := Lib.hid (F.out.trans hf)
  clear hf
  by_cases h0 : t2 = 0
  ·have hr := Lib.hid (Hr.out.1 h0)
   subst h0
   go_wp2_with fail
   go_ret
   exact EndR.of rfl ⟨fun _ => hr.out, fun _ => rfl⟩ (F.out.alloc _)
  ·have hr := Lib.hid (fun h => h0 (Hr.out.2 h))
   have e1 : (t2 == 0) = false := beq_eq_false_iff_ne.2 h0
   clear h0
   go_wp2_with fail
   go_ret
   exact EndR.of rfl ⟨fun h => (by cases h), fun h => absurd h hr.out⟩ (F.out.alloc _)
 ·rw [show decide (AscE L) = false from decide_eq_false ho] at HS
  have hr : Hid (¬ RightC L N) := fun h => ho h.2.2.1
  clear h hl c0 c1 c2 ho
  go_enter Try.func47, Try.ntmps47
  go_wp2_with fail
  refine HS.out.mono ?_
  rintro e w1 ⟨rfl, hf⟩
  have F := Lib.hid hf
  clear hf
  go_wp2_with fail
  go_ret
  exact EndR.of rfl ⟨fun h => (by cases h), fun h => absurd h hr.out⟩ F.out
end Go.Proofs.Ytmbjfmlicffclaa

/-
  append in a region, onto an own row of elements of several cells.
-/
namespace Go.Proofs.Ytmbjfmlicffclaa
open Go.RowKit

theorem wp_append_k {P : Program} {w : World} {o : Oper} {a : Act} {K : Act → World → Prop} {Q : Exit → Act → World → Prop} (s x : Operand) (t tx : TypeId)
  (ho : o.op = .call { callee := .builtin .append, args := #[s, x], argTypes := #[t, tx] })
  (base : Nat) (e : TypeId) (i : TypeInfo) (z : Value) (size bytes : Nat) (ht : P.underlying t = some (.slice e)) (hi : P.info? e = some i) (hz : i.zero = some z)
  (hsize : i.size = size) (hby : i.bytes = bytes) (hzs : z.cells.size = size) (hsz : 0 < size)
  (v : Value) (n : Nat) (xs : List Value) (hs : a.eval s = v) (hown : w.ownsRow base e size v n xs)
  (xv : Value) (m : Nat) (news : List Value) (hx : a.eval x = xv) (hsrc : Src P size tx xv m news w)
  (h63 : n + m ≤ maxLen) (hbytes : (n + m) * bytes ≤ 140737488355328) (hbase : base ≤ w.heap.size)
  (h : ∀ v' w', w'.ownsRow base e size v' (n + m) (xs ++ news) → w.grownBy w' v.ownBlock → w.drawn ≤ w'.drawn → (v'.ownBlock = v.ownBlock ∨ v'.ownBlock = some w.heap.size) → K (a.put o.dst v') w') : o.wp P a w K Q := by
 obtain ⟨v', w', hr, h2, h3, h4, h5⟩ := run_append_own_k (P := P) w base t tx o.type e i z size bytes ht hi hz hsize hby hzs hsz v n xs hown xv m news hsrc h63 hbytes hbase
 unfold Oper.wp execOp
 simp only [ho, resolve, invoke, builtin, Sem.run_bind, Sem.run_pure, Result.andThen_ok, List.map_toArray, List.map_cons, List.map_nil, hs, hx, hr]
 exact h v' w' h2 h3 h4 h5
end Go.Proofs.Ytmbjfmlicffclaa

/-
  The reference of layer 10: Cancel.
-/
namespace Go.Proofs.Ytmbjfmlicffclaa
open Go Go.RowKit
attribute [local go_sem ↓] Go.wp_at_zero Go.wp_at_succ
attribute [local go_sem] Oper.semAt_some wide_fn wide_depth wide_fnR wide_depthR

set_option maxRecDepth 100000 in
set_option maxHeartbeats 2000000 in
theorem rCancel_none {w : World} {a : Option Addr} {m cap : Nat} (c : Int) (E : List Ev) (h : EsIn w a E) (hl : E.length = m) (hm : m ≤ 1000) (hc : m ≤ cap) (p : Int × Int) (hn : findE p E = none) :
  Calls Try.prog 98 #[.agg #[.int .i64 c, .slice a m cap], .int .i64 p.1, .int .i64 p.2] w fun e w' => e = .returned (.tuple #[.agg #[.int .i64 c, .slice a m cap], evV ⟨⟨0, 0, 0⟩, 0, 0⟩, .int .i64 6]) ∧ Fr0 none' w w' := by
 have hat : atE p E = -1 := by
  rcases at_find p E with ⟨h1, _⟩ | ⟨k, x, _, _, h2, _⟩
  ·exact h1
  ·rw [hn] at h2; cases h2
 have HE := Lib.hid (fun (W : World) (hf : Fr0 none' w W) => rat_any E (h.later hf) hl (cap := cap) (by omega) p.1 p.2)
 rw [show atE (p.1, p.2) E = -1 from hat] at HE
 clear h hl hat hn
 simp only [evV]
 go_enter Try.func98, Try.ntmps98
 go_wp2_with fail
 obtain ⟨SB, hSB⟩ : ∃ B, w.heap.size = B := ⟨_, rfl⟩
 obtain ⟨W1, hW1⟩ : ∃ W, w.alloc (.cells #[.int .i64 c, .slice a m cap] 135) = W := ⟨_, rfl⟩
 have HS := Lib.hid (show W1.heap[SB]? = some (.cells #[.int .i64 c, .slice a m cap] 135 (0, 0)) by rw [← hW1, ← hSB]; exact World.alloc_heap_new w _)
 have HF := Lib.hid (show Fr0 none' w W1 by rw [← hW1]; exact (Fr0.refl _ _).alloc _)
 rw [hW1]
 try rw [hSB]
 have HSB := Lib.hid hSB
 have HSz := Lib.hid (show W1.heap.size = SB + 1 by rw [← hW1, World.size_alloc, hSB])
 clear hW1 hSB
 have s0 := cells_in HS.out 0
 have s1 := cells_in HS.out 1
 simp at s0 s1
 go_wp2_with fail
 obtain ⟨W3, hW3⟩ : ∃ W, (W1.alloc (.cells #[.int .i64 0, .slice none 0 0] 135)).alloc (.cells #[.int .i64 0, .int .i64 0, .int .i64 0, .int .i64 0, .int .i64 0] 47) = W := ⟨_, rfl⟩
 have h3 : Fr0 none' W1 W3 := by rw [← hW3]; exact ((Fr0.refl _ _).alloc _).alloc _
 have HR1 := Lib.hid (show W3.heap[SB + 1]? = some (.cells #[.int .i64 0, .slice none 0 0] 135 (0, 0)) by
  rw [← hW3, ← HSz.out]
  exact ((((Fr0.refl none' (W1.alloc (.cells #[.int .i64 0, .slice none 0 0] 135))).alloc _).block W1.heap.size (by rw [World.size_alloc]; omega) id)).trans (World.alloc_heap_new W1 _))
 have HR2 := Lib.hid (show W3.heap[SB + 1 + 1]? = some (.cells #[.int .i64 0, .int .i64 0, .int .i64 0, .int .i64 0, .int .i64 0] 47 (0, 0)) by
  have h7 := World.alloc_heap_new (W1.alloc (.cells #[.int .i64 0, .slice none 0 0] 135)) (.cells #[.int .i64 0, .int .i64 0, .int .i64 0, .int .i64 0, .int .i64 0] 47)
  rw [World.size_alloc, HSz.out] at h7
  rw [← hW3]
  exact h7)
 have HS3 := Lib.hid ((h3.block SB (Array.getElem?_eq_some_iff.1 HS.out).1 id).trans HS.out)
 have HF3 := Lib.hid (HF.out.trans h3)
 rw [hW3]
 clear hW3 h3 s0 s1
 refine (HE.out _ HF3.out).mono ?_
 rintro e w4 ⟨rfl, rfl⟩
 have t0 := thaw_in HR1.out 0
 have t1 := thaw_in HR1.out 1
 have u0 := cells_in HR1.out 0
 have u1 := cells_in HR1.out 1
 have s0 := cells_in HS3.out 0
 have s1 := cells_in HS3.out 1
 have v0 := thaw_in HR2.out 0
 have v1 := thaw_in HR2.out 1
 have v2 := thaw_in HR2.out 2
 have v3 := thaw_in HR2.out 3
 have v4 := thaw_in HR2.out 4
 have e0 := cells_in HR2.out 0
 have e1 := cells_in HR2.out 1
 have e2 := cells_in HR2.out 2
 have e3 := cells_in HR2.out 3
 have e4 := cells_in HR2.out 4
 simp at u0 u1 s0 s1 e0 e1 e2 e3 e4
 go_wp2_with fail
 obtain ⟨W6, hW6⟩ : ∃ W, ((((((W3.setCell ⟨SB + 1, 0, none⟩ (.int .i64 c)).setCell ⟨SB + 1, 1, none⟩ (.slice a m cap)).setCell ⟨SB + 1 + 1, 0, none⟩ (.int .i64 0)).setCell ⟨SB + 1 + 1, 1, none⟩ (.int .i64 0)).setCell ⟨SB + 1 + 1, 2, none⟩ (.int .i64 0)).setCell ⟨SB + 1 + 1, 3, none⟩ (.int .i64 0)).setCell ⟨SB + 1 + 1, 4, none⟩ (.int .i64 0) = W := ⟨_, rfl⟩
 have hg : SB + 1 < w.heap.size → none' (SB + 1) := fun e => by have := HSB.out; omega
 have hg2 : SB + 1 + 1 < w.heap.size → none' (SB + 1 + 1) := fun e => by have := HSB.out; omega
 have f6 : Fr0 none' w W6 := by rw [← hW6]; exact ((((((HF3.out.setCell hg _).setCell hg _).setCell hg2 _).setCell hg2 _).setCell hg2 _).setCell hg2 _).setCell hg2 _
 obtain ⟨W5, hW5⟩ : ∃ W, (W3.setCell ⟨SB + 1, 0, none⟩ (.int .i64 c)).setCell ⟨SB + 1, 1, none⟩ (.slice a m cap) = W := ⟨_, rfl⟩
 have hb5 : W5.heap[SB + 1]? = some (.cells #[.int .i64 c, .slice a m cap] 135 (0, 0)) := by rw [← hW5]; exact heap_set_cell (heap_set_cell HR1.out _) _
 have hc5 : W5.heap[SB + 1 + 1]? = some (.cells #[.int .i64 0, .int .i64 0, .int .i64 0, .int .i64 0, .int .i64 0] 47 (0, 0)) := (Fr0.block (show Fr0 (fun k => k = SB + 1) W3 W5 by rw [← hW5]; exact ((Fr0.refl (fun k => k = SB + 1) W3).setCell (fun _ => rfl) _).setCell (fun _ => rfl) _) (SB + 1 + 1) (Array.getElem?_eq_some_iff.1 HR2.out).1 (fun e => by omega)).trans HR2.out
 rw [hW5] at hW6
 have hb6 : W6.heap[SB + 1]? = some (.cells #[.int .i64 c, .slice a m cap] 135 (0, 0)) := (Fr0.block (show Fr0 (fun k => k = SB + 1 + 1) W5 W6 by rw [← hW6]; exact (((((Fr0.refl (fun k => k = SB + 1 + 1) W5).setCell (fun _ => rfl) _).setCell (fun _ => rfl) _).setCell (fun _ => rfl) _).setCell (fun _ => rfl) _).setCell (fun _ => rfl) _) (SB + 1) (Array.getElem?_eq_some_iff.1 hb5).1 (fun e => by omega)).trans hb5
 have hc6 : W6.heap[SB + 1 + 1]? = some (.cells #[.int .i64 0, .int .i64 0, .int .i64 0, .int .i64 0, .int .i64 0] 47 (0, 0)) := by rw [← hW6]; exact heap_set_cell (heap_set_cell (heap_set_cell (heap_set_cell (heap_set_cell hc5 _) _) _) _) _
 rw [hW5, hW6]
 clear hW6 hW5 hb5 hc5 hg hg2 t0 t1 u0 u1 s0 s1 v0 v1 v2 v3 v4 e0 e1 e2 e3 e4
 have r0 := cells_in hb6 0
 have r1 := cells_in hb6 1
 have e0 := cells_in hc6 0
 have e1 := cells_in hc6 1
 have e2 := cells_in hc6 2
 have e3 := cells_in hc6 3
 have e4 := cells_in hc6 4
 simp at r0 r1 e0 e1 e2 e3 e4
 exact bodyPost_ret (v := .tuple #[.agg #[.int .i64 c, .slice a m cap], .agg #[.int .i64 0, .int .i64 0, .int .i64 0, .int .i64 0, .int .i64 0], .int .i64 6]) (by simp [results, Try.results98, go_sem, r0, r1, e0, e1, e2, e3, e4]) rfl ⟨rfl, f6⟩
set_option maxRecDepth 100000 in
set_option maxHeartbeats 2000000 in
theorem rCancel_some {w : World} {a : Option Addr} {m cap k : Nat} (c : Int) (E : List Ev) (h : EsIn w a E) (hl : E.length = m) (hm : m ≤ 1000) (hc : m ≤ cap) (p : Int × Int) (x : Ev) (hk : atE p E = k) (hx : E[k]? = some x) :
  Calls Try.prog 98 #[.agg #[.int .i64 c, .slice a m cap], .int .i64 p.1, .int .i64 p.2] w fun e w' => ∃ v, e = .returned (.tuple #[v, evV x, .int .i64 0]) ∧ RAt w' a w.heap.size c (E.take k ++ E.drop (k + 1)) v ∧ Fr0 none' w w' := by
 obtain ⟨i0, hi, hz0, hz1, hz2⟩ := info_parts info_event0
 have H := Lib.hid h
 have Hl := Lib.hid hl
 have Hx := Lib.hid hx
 have HE := Lib.hid (fun (W : World) (hf : Fr0 none' w W) => rat_any E (h.later hf) hl (cap := cap) (by omega) p.1 p.2)
 rw [show atE (p.1, p.2) E = k from hk] at HE
 have hkm : k < m := by have := (List.getElem?_eq_some_iff.1 hx).1; omega
 clear h hl hk hx
 simp only [evV]
 go_enter Try.func98, Try.ntmps98
 go_wp2_with fail
 obtain ⟨SB, hSB⟩ : ∃ B, w.heap.size = B := ⟨_, rfl⟩
 obtain ⟨W1, hW1⟩ : ∃ W, w.alloc (.cells #[.int .i64 c, .slice a m cap] 135) = W := ⟨_, rfl⟩
 have HS := Lib.hid (show W1.heap[SB]? = some (.cells #[.int .i64 c, .slice a m cap] 135 (0, 0)) by rw [← hW1, ← hSB]; exact World.alloc_heap_new w _)
 have HF := Lib.hid (show Fr0 none' w W1 by rw [← hW1]; exact (Fr0.refl _ _).alloc _)
 rw [hW1]
 try rw [hSB]
 have HSB := Lib.hid hSB
 have HSz := Lib.hid (show W1.heap.size = SB + 1 by rw [← hW1, World.size_alloc, hSB])
 clear hW1 hSB
 have s0 := cells_in HS.out 0
 have s1 := cells_in HS.out 1
 simp at s0 s1
 go_wp2_with fail
 obtain ⟨W3, hW3⟩ : ∃ W, (W1.alloc (.cells #[.int .i64 0, .slice none 0 0] 135)).alloc (.cells #[.int .i64 0, .int .i64 0, .int .i64 0, .int .i64 0, .int .i64 0] 47) = W := ⟨_, rfl⟩
 have h3 : Fr0 none' W1 W3 := by rw [← hW3]; exact ((Fr0.refl _ _).alloc _).alloc _
 have HR1 := Lib.hid (show W3.heap[SB + 1]? = some (.cells #[.int .i64 0, .slice none 0 0] 135 (0, 0)) by
  rw [← hW3, ← HSz.out]
  exact ((((Fr0.refl none' (W1.alloc (.cells #[.int .i64 0, .slice none 0 0] 135))).alloc _).block W1.heap.size (by rw [World.size_alloc]; omega) id)).trans (World.alloc_heap_new W1 _))
 have HR2 := Lib.hid (show W3.heap[SB + 1 + 1]? = some (.cells #[.int .i64 0, .int .i64 0, .int .i64 0, .int .i64 0, .int .i64 0] 47 (0, 0)) by
  have h7 := World.alloc_heap_new (W1.alloc (.cells #[.int .i64 0, .slice none 0 0] 135)) (.cells #[.int .i64 0, .int .i64 0, .int .i64 0, .int .i64 0, .int .i64 0] 47)
  rw [World.size_alloc, HSz.out] at h7
  rw [← hW3]
  exact h7)
 have HS3 := Lib.hid ((h3.block SB (Array.getElem?_eq_some_iff.1 HS.out).1 id).trans HS.out)
 have HF3 := Lib.hid (HF.out.trans h3)
 rw [hW3]
 clear hW3 h3 s0 s1
 refine (HE.out _ HF3.out).mono ?_
 rintro e w4 ⟨rfl, rfl⟩
 have d1 : decide ((k : Int) < 0) = false := decide_eq_false (by omega)
 go_wp2_with fail
 clear d1
 obtain ⟨g, o, rfl, hat⟩ := H.out k x Hx.out
 have hgl : ∀ b, w.heap.size ≤ b → g ≠ b := fun b hb e => by
  have := World.block_lt_of_cell? _ _ hat.1
  simp only at this
  omega
 have hat3 := hat.later HF3.out
 have HZ := Lib.hid (fun (W' : World) (hf : Fr0 (fun k => k = SB + 1 ∨ k = SB + 1 + 1) W3 W') => (show W'.cell? ⟨SB, 0, none⟩ = some (.int .i64 c) ∧ W'.cell? ⟨SB, 1, none⟩ = some (.slice (some ⟨g, o, none⟩) m cap) ∧ EAt W' g (o + k * 5) x from by
  have h7 := (hf.block SB (Array.getElem?_eq_some_iff.1 HS3.out).1 (fun h => by rcases h with h | h <;> omega)).trans HS3.out
  have s0 := cells_in h7 0
  have s1 := cells_in h7 1
  simp at s0 s1
  exact ⟨s0, s1, hat3.fr0 hf (fun h => by have h8 := HSB.out; rcases h with h | h <;> exact hgl _ (by omega) h)⟩))
 have hE3 : EsIn W3 (some ⟨g, o, none⟩) E := H.out.later HF3.out
 obtain ⟨q, hq⟩ : ∃ q, k + 1 = q := ⟨_, rfl⟩
 have wq : IntKind.i64.wrap ((k : Int) + 1) = (q : Int) := by rw [IntWalk.i64_in _ (by omega)]; omega
 have hdR : (if cap = q then some (⟨g, o, none⟩ : Addr) else some ⟨g, o + q * 5, none⟩) = dR cap q (some ⟨g, o, none⟩) := by
  unfold dR
  rw [Option.map_some, Addr.add_mid]
 have Hq := Lib.hid hq
 have m1 : (0 : Int) ≤ (k : Int) := by omega
 have m2 : (k : Int) ≤ (cap : Int) := by omega
 have m3 : (q : Int) ≤ (m : Int) := by omega
 have m4 : (0 : Int) ≤ (q : Int) := by omega
 have m5 : (m : Int) ≤ (cap : Int) := by omega
 have m6 : (k : Int) < (m : Int) := by omega
 have m7 : (k : Int) ≤ (m : Int) := by omega
 have HE3 := Lib.hid hE3
 have HR3 := Lib.hid (show SB + 1 + 1 < W3.heap.size from (Array.getElem?_eq_some_iff.1 HR2.out).1)
 clear hat hE3 hgl hat3 hq
 refine wp_region_held_drew (S := fun W' => Fr0 (fun k => k = SB + 1 ∨ k = SB + 1 + 1) W3 W') (by kernel_rfl) ((Fr0.refl _ W3).drew) (fun hHeld => ?_)
 refine tkn (i := 0) (v := .pointer (some ⟨SB, 0, none⟩)) (fun W' hSW => ?_) ?_
 ·obtain ⟨s0, s1, b0, b1, b2, b3, b4⟩ := HZ.out W' hSW
  first | (go_simp; done) | exact rfl | (go_simp; rfl) | (go_simp; omega)
 try simp only [pUt, pUn, sEt, sEz, sEs]
 refine tkn (i := 1) (v := .int .i64 c) (fun W' hSW => ?_) ?_
 ·obtain ⟨s0, s1, b0, b1, b2, b3, b4⟩ := HZ.out W' hSW
  first | (go_simp; done) | exact rfl | (go_simp; rfl) | (go_simp; omega)
 try simp only [pUt, pUn, sEt, sEz, sEs]
 refine tkn (i := 3) (v := .pointer (some ⟨SB, 1, none⟩)) (fun W' hSW => ?_) ?_
 ·obtain ⟨s0, s1, b0, b1, b2, b3, b4⟩ := HZ.out W' hSW
  first | (go_simp; done) | exact rfl | (go_simp; rfl) | (go_simp; omega)
 try simp only [pUt, pUn, sEt, sEz, sEs]
 refine tkn (i := 4) (v := .slice (some ⟨g, o, none⟩) m cap) (fun W' hSW => ?_) ?_
 ·obtain ⟨s0, s1, b0, b1, b2, b3, b4⟩ := HZ.out W' hSW
  first | (go_simp; done) | exact rfl | (go_simp; rfl) | (go_simp; omega)
 try simp only [pUt, pUn, sEt, sEz, sEs]
 refine tkn (i := 5) (v := .int .i64 k) (fun W' hSW => ?_) ?_
 ·obtain ⟨s0, s1, b0, b1, b2, b3, b4⟩ := HZ.out W' hSW
  first | (go_simp; done) | exact rfl | (go_simp; rfl) | (go_simp; omega)
 try simp only [pUt, pUn, sEt, sEz, sEs]
 refine tkn (i := 6) (v := .slice (some ⟨g, o, none⟩) k cap) (fun W' hSW => ?_) ?_
 ·obtain ⟨s0, s1, b0, b1, b2, b3, b4⟩ := HZ.out W' hSW
  first | (go_simp; done) | exact rfl | (go_simp; rfl) | (go_simp; omega)
 try simp only [pUt, pUn, sEt, sEz, sEs]
 refine tkn (i := 8) (v := .pointer (some ⟨SB, 1, none⟩)) (fun W' hSW => ?_) ?_
 ·obtain ⟨s0, s1, b0, b1, b2, b3, b4⟩ := HZ.out W' hSW
  first | (go_simp; done) | exact rfl | (go_simp; rfl) | (go_simp; omega)
 try simp only [pUt, pUn, sEt, sEz, sEs]
 refine tkn (i := 9) (v := .slice (some ⟨g, o, none⟩) m cap) (fun W' hSW => ?_) ?_
 ·obtain ⟨s0, s1, b0, b1, b2, b3, b4⟩ := HZ.out W' hSW
  first | (go_simp; done) | exact rfl | (go_simp; rfl) | (go_simp; omega)
 try simp only [pUt, pUn, sEt, sEz, sEs]
 refine tkn (i := 10) (v := .int .i64 k) (fun W' hSW => ?_) ?_
 ·obtain ⟨s0, s1, b0, b1, b2, b3, b4⟩ := HZ.out W' hSW
  first | (go_simp; done) | exact rfl | (go_simp; rfl) | (go_simp; omega)
 try simp only [pUt, pUn, sEt, sEz, sEs]
 refine tkn (i := 11) (v := .int .i64 q) (fun W' hSW => ?_) ?_
 ·obtain ⟨s0, s1, b0, b1, b2, b3, b4⟩ := HZ.out W' hSW
  first | (go_simp; done) | exact rfl | (go_simp; rfl) | (go_simp; omega)
 try simp only [pUt, pUn, sEt, sEz, sEs]
 refine tkn (i := 12) (v := .slice (dR cap q (some ⟨g, o, none⟩)) (m - q) (cap - q)) (fun W' hSW => ?_) ?_
 ·obtain ⟨s0, s1, b0, b1, b2, b3, b4⟩ := HZ.out W' hSW
  first | (go_simp; done) | exact rfl | (go_simp; rfl) | (go_simp; omega)
 try simp only [pUt, pUn, sEt, sEz, sEs]
 refine tkn (i := 15) (v := .pointer (some ⟨SB, 1, none⟩)) (fun W' hSW => ?_) ?_
 ·obtain ⟨s0, s1, b0, b1, b2, b3, b4⟩ := HZ.out W' hSW
  first | (go_simp; done) | exact rfl | (go_simp; rfl) | (go_simp; omega)
 try simp only [pUt, pUn, sEt, sEz, sEs]
 refine tkn (i := 16) (v := .slice (some ⟨g, o, none⟩) m cap) (fun W' hSW => ?_) ?_
 ·obtain ⟨s0, s1, b0, b1, b2, b3, b4⟩ := HZ.out W' hSW
  first | (go_simp; done) | exact rfl | (go_simp; rfl) | (go_simp; omega)
 try simp only [pUt, pUn, sEt, sEz, sEs]
 refine tkn (i := 17) (v := .int .i64 k) (fun W' hSW => ?_) ?_
 ·obtain ⟨s0, s1, b0, b1, b2, b3, b4⟩ := HZ.out W' hSW
  first | (go_simp; done) | exact rfl | (go_simp; rfl) | (go_simp; omega)
 try simp only [pUt, pUn, sEt, sEz, sEs]
 refine tkn (i := 18) (v := .pointer (some ⟨g, o + k * 5, none⟩)) (fun W' hSW => ?_) ?_
 ·obtain ⟨s0, s1, b0, b1, b2, b3, b4⟩ := HZ.out W' hSW
  first | (go_simp; done) | exact rfl | (go_simp; rfl) | (go_simp; omega)
 try simp only [pUt, pUn, sEt, sEz, sEs]
 refine tkn (i := 19) (v := .agg #[.int .i64 x.key.time, .int .i64 x.key.source, .int .i64 x.key.seq, .int .i64 x.to, .int .i64 x.value]) (fun W' hSW => ?_) ?_
 ·obtain ⟨s0, s1, b0, b1, b2, b3, b4⟩ := HZ.out W' hSW
  first | (go_simp; done) | exact rfl | (go_simp; rfl) | (go_simp; omega)
 try simp only [pUt, pUn, sEt, sEz, sEs]
 refine take_call (i := 2) rfl (by kernel_rfl) (by kernel_rfl) (fun K hK => ?_)
 go_simp
 obtain ⟨V1, hV1⟩ : ∃ W, W3.alloc (.cells #[] 47) = W := ⟨_, rfl⟩
 obtain ⟨gr, hgr⟩ : ∃ g, W3.heap.size = g := ⟨_, rfl⟩
 have fV : Fr0 none' W3 V1 := by rw [← hV1]; exact (Fr0.refl _ _).alloc _
 have hrow0 : V1.ownsRow W3.heap.size 47 5 (.slice (some ⟨gr, 0, none⟩) 0 0) 0 [] := by
  rw [← hV1, ← hgr]
  exact World.ownsRow_lit (base := W3.heap.size) (e := 47) (size := 5) W3 #[] 0 (Nat.le_refl _) (by unfold maxLen; omega) rfl
 rw [hV1]
 try rw [hgr]
 have Hgr := Lib.hid hgr
 refine hK.out _ _ ((fV.drew).mono (fun _ _ h => h.elim)) (fun hS => ?_)
 clear hK K hV1 hgr
 try simp only [pUt, pUn, sEt, sEz, sEs]
 refine take_call (i := 7) rfl (by kernel_rfl) (by kernel_rfl) (fun K hK => ?_)
 have hsrc := ((HE3.out.later fV.drew).take k).src (n := k) (by rw [List.length_take, Hl.out]; omega) cap Try.underlying24
 refine wp_append_k _ _ 24 24 rfl W3.heap.size 47 i0 (.agg #[.int .i64 0, .int .i64 0, .int .i64 0, .int .i64 0, .int .i64 0]) 5 40 Try.underlying24 hi hz0 hz1 hz2 rfl (by decide) (.slice (some ⟨gr, 0, none⟩) 0 0) 0 _ rfl (ownsRow_fr0 hrow0 ((Fr0.refl none' V1).drew) (fun _ _ h => h)) (.slice (some ⟨g, o, none⟩) k cap) k _ rfl hsrc (by unfold maxLen; omega) (by omega) fV.size ?_
 intro v9 V9 hown hgw hdr hob
 have f9 : Fr0 none' W3 V9 := (fV.drew).trans' ((Fr0.refl (fun i => (Value.slice (some ⟨gr, 0, none⟩) 0 0).ownBlock = some i) _).grown hgw (fun i hi _ => hi)) (fun i hi h => by have := (hrow0.lt i h).1; omega)
 have hown9 := hown
 rw [Nat.zero_add, List.nil_append] at hown9
 have Hown := Lib.hid hown9
 have F9 := Lib.hid f9
 refine hK.out _ _ (f9.mono (fun _ _ h => h.elim)) (fun hS => ?_)
 clear hK K hgw hdr hob hsrc hrow0 fV hown f9 hS
 try simp only [pUt, pUn, sEt, sEz, sEs]
 refine take_call (i := 13) rfl (by kernel_rfl) (by kernel_rfl) (fun K hK => ?_)
 have hq := Hq.out
 have hsrc := ((HE3.out.later F9.out).restR (cap := cap) (by rw [Hl.out]; exact hc) q).src (n := m - q) (by rw [List.length_drop, Hl.out]) (cap - q) Try.underlying24
 refine wp_append_k _ _ 24 24 rfl W3.heap.size 47 i0 (.agg #[.int .i64 0, .int .i64 0, .int .i64 0, .int .i64 0, .int .i64 0]) 5 40 Try.underlying24 hi hz0 hz1 hz2 rfl (by decide) v9 k _ rfl Hown.out (.slice (dR cap q (some ⟨g, o, none⟩)) (m - q) (cap - q)) (m - q) _ rfl hsrc (by unfold maxLen; omega) (by omega) F9.out.size ?_
 intro v10 V10 hown hgw hdr hob
 have f10 : Fr0 none' W3 V10 := F9.out.trans' ((Fr0.refl (fun i => v9.ownBlock = some i) _).grown hgw (fun i hi _ => hi)) (fun i hi h => by have := (Hown.out.lt i h).1; omega)
 rw [← flatEv_append] at hown
 have hlen : (E.take k ++ E.drop q).length = k + (m - q) := by rw [List.length_append, List.length_take, List.length_drop, Hl.out]; omega
 obtain ⟨va, vc, rfl, _, _⟩ := EsIn.of_own hown
 have Hown := Lib.hid hown
 have Hlen := Lib.hid hlen
 have F10 := Lib.hid f10
 refine hK.out _ _ (f10.mono (fun _ _ h => h.elim)) (fun hS => ?_)
 clear hK K hgw hdr hob hsrc hown f10 hS hq hlen hHeld
 try simp only [pUt, pUn, sEt, sEz, sEs]
 have hS : Fr0 (fun k => k = SB + 1 ∨ k = SB + 1 + 1) W3 V10 := F10.out.mono (fun _ _ h => h.elim)
 refine tkn (i := 14) (v := .agg #[.int .i64 c, .slice va (k + (m - q)) vc]) (fun W' hSW => ?_) ?_
 ·obtain ⟨s0, s1, b0, b1, b2, b3, b4⟩ := HZ.out W' hSW
  first | (go_simp; done) | exact rfl | (go_simp; rfl) | (go_simp; omega)
 try simp only [pUt, pUn, sEt, sEz, sEs]
 have HR1 := Lib.hid ((F10.out.block (SB + 1) (Array.getElem?_eq_some_iff.1 HR1.out).1 id).trans HR1.out)
 have HR2 := Lib.hid ((F10.out.block (SB + 1 + 1) (Array.getElem?_eq_some_iff.1 HR2.out).1 id).trans HR2.out)
 refine take_call (i := 20) rfl (by kernel_rfl) (by kernel_rfl) (fun K hK => ?_)
 have t0 := thaw_in HR1.out 0
 have t1 := thaw_in HR1.out 1
 have u0 := cells_in HR1.out 0
 have u1 := cells_in HR1.out 1
 simp at u0 u1
 go_simp
 obtain ⟨W5, hW5⟩ : ∃ W, (V10.setCell ⟨SB + 1, 0, none⟩ (.int .i64 c)).setCell ⟨SB + 1, 1, none⟩ (.slice va (k + (m - q)) vc) = W := ⟨_, rfl⟩
 have f5 : Fr0 (fun k => k = SB + 1) V10 W5 := by rw [← hW5]; exact ((Fr0.refl (fun k => k = SB + 1) V10).setCell (fun _ => rfl) _).setCell (fun _ => rfl) _
 have HQ1 := Lib.hid (show W5.heap[SB + 1]? = some (.cells #[.int .i64 c, .slice va (k + (m - q)) vc] 135 (0, 0)) by rw [← hW5]; exact heap_set_cell (heap_set_cell HR1.out _) _)
 have HQ2 := Lib.hid ((f5.block (SB + 1 + 1) (Array.getElem?_eq_some_iff.1 HR2.out).1 (fun e => by omega)).trans HR2.out)
 rw [hW5]
 refine hK.out _ _ (hS.trans (f5.mono (fun _ _ h => .inl h))) (fun hS => ?_)
 clear hK K hW5 t0 t1 u0 u1
 try simp only [pUt, pUn, sEt, sEz, sEs]
 refine take_call (i := 21) rfl (by kernel_rfl) (by kernel_rfl) (fun K hK => ?_)
 have t0 := thaw_in HQ2.out 0
 have t1 := thaw_in HQ2.out 1
 have t2 := thaw_in HQ2.out 2
 have t3 := thaw_in HQ2.out 3
 have t4 := thaw_in HQ2.out 4
 have u0 := cells_in HQ2.out 0
 have u1 := cells_in HQ2.out 1
 have u2 := cells_in HQ2.out 2
 have u3 := cells_in HQ2.out 3
 have u4 := cells_in HQ2.out 4
 simp at u0 u1 u2 u3 u4
 go_simp
 obtain ⟨W6, hW6⟩ : ∃ W, ((((W5.setCell ⟨SB + 1 + 1, 0, none⟩ (.int .i64 x.key.time)).setCell ⟨SB + 1 + 1, 1, none⟩ (.int .i64 x.key.source)).setCell ⟨SB + 1 + 1, 2, none⟩ (.int .i64 x.key.seq)).setCell ⟨SB + 1 + 1, 3, none⟩ (.int .i64 x.to)).setCell ⟨SB + 1 + 1, 4, none⟩ (.int .i64 x.value) = W := ⟨_, rfl⟩
 have f6 : Fr0 (fun k => k = SB + 1 + 1) W5 W6 := by rw [← hW6]; exact (((((Fr0.refl (fun k => k = SB + 1 + 1) W5).setCell (fun _ => rfl) _).setCell (fun _ => rfl) _).setCell (fun _ => rfl) _).setCell (fun _ => rfl) _).setCell (fun _ => rfl) _
 have HQ1 := Lib.hid ((f6.block (SB + 1) (Array.getElem?_eq_some_iff.1 HQ1.out).1 (fun e => by omega)).trans HQ1.out)
 have HQ2 := Lib.hid (show W6.heap[SB + 1 + 1]? = some (.cells (cev x).toArray 47 (0, 0)) by rw [← hW6]; exact heap_set_cell (heap_set_cell (heap_set_cell (heap_set_cell (heap_set_cell HQ2.out _) _) _) _) _)
 rw [hW6]
 refine hK.out _ _ (hS.trans (f6.mono (fun _ _ h => .inr h))) (fun hS => ?_)
 clear hK K hW6 t0 t1 t2 t3 t4 u0 u1 u2 u3 u4
 try simp only [pUt, pUn, sEt, sEz, sEs]
 refine tkn (i := 22) (v := .int .i64 0) (fun W' hSW => ?_) ?_
 ·obtain ⟨s0, s1, b0, b1, b2, b3, b4⟩ := HZ.out W' hSW
  first | (go_simp; done) | exact rfl | (go_simp; rfl) | (go_simp; omega)
 try simp only [pUt, pUn, sEt, sEz, sEs]
 refine wpAnyH_done (by kernel_rfl) ?_ _
 have r0 := cells_in HQ1.out 0
 have r1 := cells_in HQ1.out 1
 simp at r0 r1
 have e0 := cells_in HQ2.out 0
 have e1 := cells_in HQ2.out 1
 have e2 := cells_in HQ2.out 2
 have e3 := cells_in HQ2.out 3
 have e4 := cells_in HQ2.out 4
 simp [cev] at e0 e1 e2 e3 e4
 have f610 : Fr0 (fun k => k = SB + 1 ∨ k = SB + 1 + 1) V10 W6 := (f5.mono (fun _ _ h => .inl h)).trans (f6.mono (fun _ _ h => .inr h))
 have HRow := Lib.hid (ownsRow_fr0 Hown.out f610 (fun g hg h => by
  have h7 := (Hown.out.lt g hg).1
  have h8 := (Array.getElem?_eq_some_iff.1 HS3.out).1
  have h9 := HR3.out
  rcases h with h | h <;> omega))
 have HFF := Lib.hid (show Fr0 none' w W6 from HF3.out.trans' hS (fun k hk h => by have := HSB.out; rcases h with h | h <;> omega))
 clear f5 f6 f610 hS
 go_wp2_with fail
 refine bodyPost_ret (v := .tuple #[.agg #[.int .i64 c, .slice va (k + (m - q)) vc], .agg #[.int .i64 x.key.time, .int .i64 x.key.source, .int .i64 x.key.seq, .int .i64 x.to, .int .i64 x.value], .int .i64 0]) (by simp [results, Try.results98, go_sem, r0, r1, e0, e1, e2, e3, e4]) rfl ⟨_, rfl, ?_, HFF.out⟩
 have hq := Hq.out
 subst hq
 rw [← Hlen.out] at HRow ⊢
 exact RAt.own HRow.out HF3.out.size
end Go.Proofs.Ytmbjfmlicffclaa

/-
  The reference of layer 10: TakeBefore (no text of the queue).
-/
namespace Go.Proofs.Ytmbjfmlicffclaa
open Go Go.RowKit
attribute [local go_sem ↓] Go.wp_at_zero Go.wp_at_succ
attribute [local go_sem] Oper.semAt_some wide_fn wide_depth wide_fnR wide_depthR

theorem bef_snoc {t : Int} {E : List Ev} {i : Nat} {x : Ev} (hx : E[i]? = some x) : befE t (E.take (i + 1)) = befE t (E.take i) ++ (if x.key.time < t then [x] else []) ∧ aftE t (E.take (i + 1)) = aftE t (E.take i) ++ (if x.key.time < t then [] else [x]) := by
 unfold befE aftE
 rw [List.take_add_one, hx, List.filter_append, List.filter_append]
 by_cases h : x.key.time < t
 ·simp [h]
 ·simp [h]
set_option maxRecDepth 100000 in
set_option maxHeartbeats 2000000 in
theorem rTakeBefore_any {w : World} {a : Option Addr} {m cap : Nat} (c : Int) (E : List Ev) (h : EsIn w a E) (hl : E.length = m) (hm : m ≤ 1000) (t : Int) :
  Calls Try.prog 97 #[.agg #[.int .i64 c, .slice a m cap], .int .i64 t] w fun e w' => ∃ v r, e = .returned (.tuple #[v, r]) ∧ RAt w' a w.heap.size c (aftE t E) v ∧ w'.ownsRow w.heap.size 47 5 r (befE t E).length (flatEv (befE t E)) ∧ Fr0 none' w w' := by
 obtain ⟨i0, hi, hz0, hz1, hz2⟩ := info_parts info_event0
 have H := Lib.hid h
 have Hl := Lib.hid hl
 clear h hl
 go_enter Try.func97, Try.ntmps97
 go_wp2_with fail
 obtain ⟨SB, hSB⟩ : ∃ B, w.heap.size = B := ⟨_, rfl⟩
 obtain ⟨W1, hW1⟩ : ∃ W, w.alloc (.cells #[.int .i64 c, .slice a m cap] 135) = W := ⟨_, rfl⟩
 have hs1 : W1.heap[SB]? = some (.cells #[.int .i64 c, .slice a m cap] 135 (0, 0)) := by rw [← hW1, ← hSB]; exact World.alloc_heap_new w _
 have f1 : Fr0 none' w W1 := by rw [← hW1]; exact (Fr0.refl _ _).alloc _
 have z1 : W1.heap.size = SB + 1 := by rw [← hW1, World.size_alloc, hSB]
 rw [hW1]
 try rw [hSB]
 obtain ⟨W, hW⟩ : ∃ W, W1.alloc (.cells #[.int .i64 0, .slice none 0 0] 135) = W := ⟨_, rfl⟩
 have f3 : Fr0 none' W1 W := by rw [← hW]; exact (Fr0.refl _ _).alloc _
 have HZ := Lib.hid (show W.heap[SB + 1]? = some (.cells #[.int .i64 0, .slice none 0 0] 135 (0, 0)) by rw [← hW, ← z1]; exact World.alloc_heap_new W1 _)
 have HS := Lib.hid ((f3.block SB (Array.getElem?_eq_some_iff.1 hs1).1 id).trans hs1)
 have HF := Lib.hid (f1.trans f3)
 have HSB := Lib.hid hSB
 rw [hW]
 clear hW1 hSB hs1 f1 f3 hW z1
 go_loopw [6, 7, 8] (fun v6 v7 v8 wr => ∃ i : Nat, i ≤ m ∧ v8 = .int .i64 i ∧ Hid (wr.ownsRow (SB + 2) 47 5 v6 (befE t (E.take i)).length (flatEv (befE t (E.take i)))) ∧ Hid (wr.ownsRow (SB + 2) 47 5 v7 (aftE t (E.take i)).length (flatEv (aftE t (E.take i)))) ∧ Hid (∀ g g', v6.ownBlock = some g → v7.ownBlock = some g' → g ≠ g') ∧ Hid (wr.heap[SB]? = some (.cells #[.int .i64 c, .slice a m cap] 135 (0, 0))) ∧ Hid (wr.heap[SB + 1]? = some (.cells #[.int .i64 0, .slice none 0 0] 135 (0, 0))) ∧ Hid (Fr0 none' w wr)) (fun _ _ v8 _ => m - (Go.RowKit.intOf v8).toNat)
 case atStart => exact ⟨0, Nat.zero_le _, rfl, World.ownsRow_nil _ _ _ _, World.ownsRow_nil _ _ _ _, (fun g g' hg => by cases hg), HS, HZ, HF⟩
 case round =>
  obtain ⟨i, hi', rfl, HE, HA, HD, HS, HZ, HF⟩ := hrel
  obtain ⟨ea, ec, rfl, _, _⟩ := EsIn.of_own HE.out
  obtain ⟨la, lc, rfl, _, _⟩ := EsIn.of_own HA.out
  obtain ⟨B, hB⟩ : ∃ B, befE t (E.take i) = B := ⟨_, rfl⟩
  obtain ⟨A, hA⟩ : ∃ A, aftE t (E.take i) = A := ⟨_, rfl⟩
  have hle : B.length ≤ m ∧ A.length ≤ m := by
   have h1 : B.length ≤ (E.take i).length := by rw [← hB]; exact List.length_filter_le _ _
   have h2 : A.length ≤ (E.take i).length := by rw [← hA]; exact List.length_filter_le _ _
   rw [List.length_take] at h1 h2
   omega
  rw [hB] at HE HD ⊢
  rw [hA] at HA HD ⊢
  have s0 := cells_in HS.out 0
  have s1 := cells_in HS.out 1
  simp at s0 s1
  by_cases hlt : i < m
  ·obtain ⟨x, hx⟩ : ∃ x, E[i]? = some x := ⟨_, List.getElem?_eq_getElem (by rw [Hl.out]; exact hlt)⟩
   obtain ⟨g2, o, rfl, hxc⟩ := H.out i x hx
   obtain ⟨x0, x1, x2, x3, x4⟩ := hxc.later HF.out
   obtain ⟨hsb, hsa⟩ := bef_snoc (t := t) hx
   rw [hB] at hsb
   rw [hA] at hsa
   have k1 : (0 : Int) ≤ (i : Int) := by omega
   have k2 : (i : Int) < (m : Int) := by omega
   by_cases ht : x.key.time < t
   ·have d1 : decide (x.key.time < t) = true := decide_eq_true ht
    rw [if_pos ht] at hsb hsa
    rw [List.append_nil] at hsa
    have Hsb := Lib.hid hsb
    have Hsa := Lib.hid hsa
    clear hx hxc hB hA hsb hsa ht
    have hsrc := Src.newRow (P := Try.prog) (size := 5) (tx := 24) (ty := 47) wr Try.underlying24 1 1 (cev x) rfl (by simp [Value.oneCell', cev])
    simp only [cev] at hsrc
    have hbase : SB + 2 ≤ wr.heap.size := by have h1 := (Array.getElem?_eq_some_iff.1 HZ.out).1; omega
    go_wp2_with (at_builtin; refine wpList_append_k rfl _ _ 24 24 rfl (SB + 2) 47 i0 (.agg #[.int .i64 0, .int .i64 0, .int .i64 0, .int .i64 0, .int .i64 0]) 5 40 Try.underlying24 hi hz0 hz1 hz2 rfl (by decide) (Value.slice ea B.length ec) (B.length) _ rfl (ownsRow_fr0 HE.out ((Fr0.refl none' wr).alloc _) (fun _ _ h => h)) (.slice (some ⟨(wr).heap.size, 0, none⟩) 1 1) 1 _ rfl hsrc (by unfold maxLen; omega) (by omega) (by simp; omega) ?_; intro v9 w9 hown hgrow hdr hob; obtain ⟨g9, c9, rfl⟩ := ownsRow_k_succ hown; have Lw9 := Lib.hid HE.out.lt; have Fw9 := Lib.hid (show Fr0 (fun i => (Value.slice ea B.length ec).ownBlock = some i) wr w9 from ((Fr0.refl _ wr).alloc _).grown hgrow (fun i hi _ => hi)); have Rw9 := Lib.hid hown; have Ow9 := Lib.hid hob; clear hown hgrow hdr hob hsrc)
    have HSn := Lib.hid ((Fw9.out.block SB (Array.getElem?_eq_some_iff.1 HS.out).1 (fun h => by have := (Lw9.out SB h).1; omega)).trans HS.out)
    have HZn := Lib.hid ((Fw9.out.block (SB + 1) (Array.getElem?_eq_some_iff.1 HZ.out).1 (fun h => by have := (Lw9.out (SB + 1) h).1; omega)).trans HZ.out)
    have HFn := Lib.hid (HF.out.trans' Fw9.out (fun i hi h => by have := (Lw9.out i h).1; have := HSB.out; omega))
    clear x0 x1 x2 x3 x4 s0 s1
    go_roundw
    case rel =>
     refine ⟨i + 1, by omega, by go_num, ?_, ?_, ?_, HSn, HZn, HFn⟩
     ·rw [Hsb.out, List.length_append, List.length_singleton]
      have := Rw9.out
      simpa [Lib.hid, Hid, flatEv, cev] using this
     ·rw [Hsa.out]
      exact ownsRow_fr0 HA.out Fw9.out (fun g hg h => HD.out g g h hg rfl)
     ·intro g g' hg hg'
      rcases Ow9.out with h | h
      ·rw [h] at hg
       exact HD.out g g' hg hg'
      ·rw [h] at hg
       injection hg with hg
       have := (HA.out.lt g' hg').2
       rw [World.size_alloc] at hg
       omega
    case measure => simp [Go.RowKit.intOf]; omega
   ·have d1 : decide (x.key.time < t) = false := decide_eq_false ht
    rw [if_neg ht] at hsb hsa
    rw [List.append_nil] at hsb
    have Hsb := Lib.hid hsb
    have Hsa := Lib.hid hsa
    clear hx hxc hB hA hsb hsa ht
    have hsrc := Src.newRow (P := Try.prog) (size := 5) (tx := 24) (ty := 47) wr Try.underlying24 1 1 (cev x) rfl (by simp [Value.oneCell', cev])
    simp only [cev] at hsrc
    have hbase : SB + 2 ≤ wr.heap.size := by have h1 := (Array.getElem?_eq_some_iff.1 HZ.out).1; omega
    go_wp2_with (at_builtin; refine wpList_append_k rfl _ _ 24 24 rfl (SB + 2) 47 i0 (.agg #[.int .i64 0, .int .i64 0, .int .i64 0, .int .i64 0, .int .i64 0]) 5 40 Try.underlying24 hi hz0 hz1 hz2 rfl (by decide) (Value.slice la A.length lc) (A.length) _ rfl (ownsRow_fr0 HA.out ((Fr0.refl none' wr).alloc _) (fun _ _ h => h)) (.slice (some ⟨(wr).heap.size, 0, none⟩) 1 1) 1 _ rfl hsrc (by unfold maxLen; omega) (by omega) (by simp; omega) ?_; intro v9 w9 hown hgrow hdr hob; obtain ⟨g9, c9, rfl⟩ := ownsRow_k_succ hown; have Lw9 := Lib.hid HA.out.lt; have Fw9 := Lib.hid (show Fr0 (fun i => (Value.slice la A.length lc).ownBlock = some i) wr w9 from ((Fr0.refl _ wr).alloc _).grown hgrow (fun i hi _ => hi)); have Rw9 := Lib.hid hown; have Ow9 := Lib.hid hob; clear hown hgrow hdr hob hsrc)
    have HSn := Lib.hid ((Fw9.out.block SB (Array.getElem?_eq_some_iff.1 HS.out).1 (fun h => by have := (Lw9.out SB h).1; omega)).trans HS.out)
    have HZn := Lib.hid ((Fw9.out.block (SB + 1) (Array.getElem?_eq_some_iff.1 HZ.out).1 (fun h => by have := (Lw9.out (SB + 1) h).1; omega)).trans HZ.out)
    have HFn := Lib.hid (HF.out.trans' Fw9.out (fun i hi h => by have := (Lw9.out i h).1; have := HSB.out; omega))
    clear x0 x1 x2 x3 x4 s0 s1
    go_roundw
    case rel =>
     refine ⟨i + 1, by omega, by go_num, ?_, ?_, ?_, HSn, HZn, HFn⟩
     ·rw [Hsb.out]
      exact ownsRow_fr0 HE.out Fw9.out (fun g hg h => HD.out g g hg h rfl)
     ·rw [Hsa.out, List.length_append, List.length_singleton]
      have := Rw9.out
      simpa [Lib.hid, Hid, flatEv, cev] using this
     ·intro g g' hg hg'
      rcases Ow9.out with h | h
      ·rw [h] at hg'
       exact HD.out g g' hg hg'
      ·rw [h] at hg'
       injection hg' with hg'
       have := (HE.out.lt g hg).2
       rw [World.size_alloc] at hg'
       omega
    case measure => simp [Go.RowKit.intOf]; omega
  ·have hEt : E.take i = E := List.take_of_length_le (by rw [Hl.out]; omega)
   rw [hEt] at hB hA
   have HB := Lib.hid hB
   have HAl := Lib.hid hA
   clear hEt hB hA
   have t0 := thaw_in HZ.out 0
   have t1 := thaw_in HZ.out 1
   have u0 := cells_in HZ.out 0
   have u1 := cells_in HZ.out 1
   simp at u0 u1
   go_wp2_with fail
   obtain ⟨W6, hW6⟩ : ∃ W, (wr.setCell ⟨SB + 1, 0, none⟩ (.int .i64 c)).setCell ⟨SB + 1, 1, none⟩ (.slice la A.length lc) = W := ⟨_, rfl⟩
   have f7 : Fr0 (fun k => k = SB + 1) wr W6 := by rw [← hW6]; exact ((Fr0.refl (fun k => k = SB + 1) wr).setCell (fun _ => rfl) _).setCell (fun _ => rfl) _
   have hb6 : W6.heap[SB + 1]? = some (.cells #[.int .i64 c, .slice la A.length lc] 135 (0, 0)) := by rw [← hW6]; exact heap_set_cell (heap_set_cell HZ.out _) _
   rw [hW6]
   clear hW6 t0 t1 u0 u1
   have r0 := cells_in hb6 0
   have r1 := cells_in hb6 1
   simp at r0 r1
   refine bodyPost_ret (v := .tuple #[.agg #[.int .i64 c, .slice la A.length lc], .slice ea B.length ec]) (by simp [results, Try.results97, go_sem, r0, r1]) rfl ⟨_, _, rfl, ?_, ?_, HF.out.trans' f7 (fun i hi e => by have := HSB.out; omega)⟩
   ·rw [HAl.out]
    exact RAt.own (ownsRow_fr0 HA.out f7 (fun g hg e => by have := (HA.out.lt g hg).1; omega)) (by have := HSB.out; omega)
   ·rw [HB.out]
    exact own_low (ownsRow_fr0 HE.out f7 (fun g hg e => by have := (HE.out.lt g hg).1; omega)) (by have := HSB.out; omega)
end Go.Proofs.Ytmbjfmlicffclaa

/-
  The reference of layer 12: act.
-/
namespace Go.Proofs.Ytmbjfmlicffclaa
open Go Go.RowKit
attribute [local go_sem ↓] Go.wp_at_zero Go.wp_at_succ
attribute [local go_sem] Oper.semAt_some wide_fn wide_depth wide_fnR wide_depthR

/-- Where a row of the reference lies, if it has events: in an old one's block, which has some too, or in a new one. -/
def FromE (a b : Option Addr) (N M : Nat) (E F : List Ev) : Prop := ∀ g o s, b = some ⟨g, o, s⟩ → F ≠ [] → ((∃ o' s', a = some ⟨g, o', s'⟩) ∧ E ≠ []) ∨ (N ≤ g ∧ g < M)
theorem FromE.nil (a b : Option Addr) (N M : Nat) (E : List Ev) : FromE a b N M E [] := fun g o s e h => absurd rfl h
theorem FromE.self (a : Option Addr) (N M : Nat) (E : List Ev) : FromE a a N M E E := fun g o s e h => .inl ⟨⟨o, s, e⟩, h⟩
theorem FromE.mono {a b : Option Addr} {N N' M M' : Nat} {E F : List Ev} (h : FromE a b N M E F) (hN : N' ≤ N) (hM : M ≤ M') : FromE a b N' M' E F := fun g o s e h0 => (h g o s e h0).imp id (fun h => by omega)
theorem FromE.trans {a b c : Option Addr} {N N' M M' : Nat} {E F G : List Ev} (h : FromE a b N M E F) (h2 : FromE b c N' M' F G) (hN : N ≤ N') (hM : M ≤ M') : FromE a c N M' E G := fun g o s e h0 => by
 rcases h2 g o s e h0 with ⟨⟨o', s', e'⟩, h1⟩ | h3
 ·exact (h g o' s' e' h1).imp id (fun h => by omega)
 ·exact .inr (by omega)
theorem FromE.of {a b : Option Addr} {w' : World} {N N' : Nat} {E F : List Ev} (h : ∀ g o s, b = some ⟨g, o, s⟩ → (∃ o' s', a = some ⟨g, o', s'⟩) ∨ (N ≤ g ∧ g < w'.heap.size)) (hE : F ≠ [] → E ≠ []) (hN : N' ≤ N) : FromE a b N' w'.heap.size E F := fun g o s e h0 => (h g o s e).imp (fun h => ⟨h, hE h0⟩) (fun h => by omega)
theorem EsIn.off {S : Nat → Prop} {w w' : World} {a : Option Addr} {F : List Ev} (h : EsIn w a F) (hf : Fr0 S w w') (hS : ∀ g o s, a = some ⟨g, o, s⟩ → F ≠ [] → ¬ S g) : EsIn w' a F := by
 cases F with
 | nil => exact fun i x hx => by simp at hx
 | cons x r => exact h.fr0 hf (fun g o s e => hS g o s e (by simp))
theorem EsIn.ltC {w : World} {a : Option Addr} {L : List Ev} (h : EsIn w a L) (h0 : L ≠ []) : ∀ g o s, a = some ⟨g, o, s⟩ → g < w.heap.size := fun g o s e => by
 cases L with
 | nil => exact absurd rfl h0
 | cons x r =>
  obtain ⟨g', o', e', hc⟩ := h 0 x rfl
  rw [e] at e'
  injection e' with e'
  injection e' with e1 _
  rw [e1]
  exact World.block_lt_of_cell? _ _ hc.1
/-- What an act of the reference leaves. -/
def ActQ (w : World) (a : Option Addr) (n : Nat) (E E' : List Ev) (f : Int) (ys : List Ev) (e : Ending) (w' : World) : Prop :=
 ∃ va vc ya yc, e = .returned (.tuple #[.agg #[.int .i64 n, .slice va E'.length vc], .agg #[.int .i64 f, .slice ya ys.length yc]]) ∧ E'.length ≤ vc ∧ EsIn w' va E' ∧ EsIn w' ya ys ∧ FromE a va w.heap.size w'.heap.size E E' ∧ FromE a ya w.heap.size w'.heap.size E ys ∧ Fr0 none' w w'
def ActP (w : World) (a : Option Addr) (n : Nat) (E : List Ev) (x : Ca) : Ending → World → Prop := ActQ w a n E (doC n E x).1 (doC n E x).2.err (doC n E x).2.evs
theorem setN {S : Nat → Prop} {w V : World} (h : Fr0 S w V) {b o : Nat} {v : Value} (hb : S b) : Fr0 S w (V.setCell ⟨b, o, none⟩ v) := h.setCell (fun _ => hb) v
/-- The end of act. -/
theorem act_end {w w1 V : World} {a va ya : Option Addr} {n N vc yc : Nat} {E E' ys : List Ev} {f : Int} (hE : ∀ g o s, a = some ⟨g, o, s⟩ → E ≠ [] → g < N) (hN : w.heap.size = N) (hF : Fr0 none' w w1) (hV : Fr0 (fun k => N ≤ k ∧ k < N + 5) w1 V) (hvc : E'.length ≤ vc)
  (hv : EsIn w1 va E') (hy : EsIn w1 ya ys) (fv : FromE a va (N + 5) w1.heap.size E E') (fy : FromE a ya (N + 5) w1.heap.size E ys) : ActQ w a n E E' f ys (.returned (.tuple #[.agg #[.int .i64 n, .slice va E'.length vc], .agg #[.int .i64 f, .slice ya ys.length yc]])) V := by
 have key : ∀ b F, FromE a b (N + 5) w1.heap.size E F → ∀ g o s, b = some ⟨g, o, s⟩ → F ≠ [] → ¬ (N ≤ g ∧ g < N + 5) := fun b F h g o s e h0 hk => by
  rcases h g o s e h0 with ⟨⟨o', s', e'⟩, h1⟩ | h1
  ·have := hE g o' s' e' h1; omega
  ·omega
 have hs := hV.size
 exact ⟨va, vc, ya, yc, rfl, hvc, hv.off hV (key _ _ fv), hy.off hV (key _ _ fy), fv.mono (by omega) hs, fy.mono (by omega) hs, hF.trans' hV (fun k hk h => by omega)⟩
/-- The boxes of act. -/
structure ActB (W : World) (N n : Nat) (a : Option Addr) (m cap : Nat) (x : Ca) : Prop where
 b0 : W.heap[N]? = some (.cells #[.int .i64 n, .slice a m cap] 135 (0, 0))
 b1 : W.heap[N + 1]? = some (.cells #[.int .u8 x.kind, .int .i64 x.x.key.time, .int .i64 x.x.key.source, .int .i64 x.x.key.seq, .int .i64 x.x.to, .int .i64 x.x.value, .int .i64 x.time] 140 (0, 0))
 b2 : W.heap[N + 1 + 1]? = some (.cells #[.int .i64 0, .slice none 0 0] 135 (0, 0))
 b3 : W.heap[N + 1 + 1 + 1]? = some (.cells #[.int .i64 0, .slice none 0 0] 137 (0, 0))
 b4 : W.heap[N + 1 + 1 + 1 + 1]? = some (.cells #[.int .i64 0, .int .i64 0, .int .i64 0, .int .i64 0, .int .i64 0] 47 (0, 0))
theorem ActB.later {W W' : World} {N n : Nat} {a : Option Addr} {m cap : Nat} {x : Ca} (h : ActB W N n a m cap x) (hf : Fr0 none' W W') : ActB W' N n a m cap x :=
 ⟨(hf.block _ (Array.getElem?_eq_some_iff.1 h.b0).1 id).trans h.b0, (hf.block _ (Array.getElem?_eq_some_iff.1 h.b1).1 id).trans h.b1, (hf.block _ (Array.getElem?_eq_some_iff.1 h.b2).1 id).trans h.b2, (hf.block _ (Array.getElem?_eq_some_iff.1 h.b3).1 id).trans h.b3, (hf.block _ (Array.getElem?_eq_some_iff.1 h.b4).1 id).trans h.b4⟩
def wAct (w : World) (n : Nat) (a : Option Addr) (m cap : Nat) (x : Ca) : World :=
 ((((w.alloc (.cells #[.int .i64 n, .slice a m cap] 135)).alloc (.cells #[.int .u8 x.kind, .int .i64 x.x.key.time, .int .i64 x.x.key.source, .int .i64 x.x.key.seq, .int .i64 x.x.to, .int .i64 x.x.value, .int .i64 x.time] 140)).alloc (.cells #[.int .i64 0, .slice none 0 0] 135)).alloc (.cells #[.int .i64 0, .slice none 0 0] 137)).alloc (.cells #[.int .i64 0, .int .i64 0, .int .i64 0, .int .i64 0, .int .i64 0] 47)
theorem wAct_is (w : World) (n : Nat) (a : Option Addr) (m cap : Nat) (x : Ca) : ActB (wAct w n a m cap x) w.heap.size n a m cap x ∧ Fr0 none' w (wAct w n a m cap x) := by
 have key : ∀ (V : World) (o : Obj) (k : Nat), k < V.heap.size → (V.alloc o).heap[k]? = V.heap[k]? := fun V o k hk => ((Fr0.refl none' V).alloc o).block k hk id
 unfold wAct
 refine ⟨⟨?_, ?_, ?_, ?_, ?_⟩, (((((Fr0.refl _ _).alloc _).alloc _).alloc _).alloc _).alloc _⟩
 ·rw [key _ _ _ (by simp only [World.size_alloc]; omega), key _ _ _ (by simp only [World.size_alloc]; omega), key _ _ _ (by simp only [World.size_alloc]; omega), key _ _ _ (by simp only [World.size_alloc]; omega)]
  exact World.alloc_heap_new _ _
 ·rw [key _ _ _ (by simp only [World.size_alloc]; omega), key _ _ _ (by simp only [World.size_alloc]; omega), key _ _ _ (by simp only [World.size_alloc]; omega)]
  have h1 := World.alloc_heap_new (w.alloc (.cells #[.int .i64 n, .slice a m cap] 135)) (.cells #[.int .u8 x.kind, .int .i64 x.x.key.time, .int .i64 x.x.key.source, .int .i64 x.x.key.seq, .int .i64 x.x.to, .int .i64 x.x.value, .int .i64 x.time] 140)
  rwa [World.size_alloc] at h1
 ·rw [key _ _ _ (by simp only [World.size_alloc]; omega), key _ _ _ (by simp only [World.size_alloc]; omega)]
  have h1 := World.alloc_heap_new ((w.alloc (.cells #[.int .i64 n, .slice a m cap] 135)).alloc (.cells #[.int .u8 x.kind, .int .i64 x.x.key.time, .int .i64 x.x.key.source, .int .i64 x.x.key.seq, .int .i64 x.x.to, .int .i64 x.x.value, .int .i64 x.time] 140)) (.cells #[.int .i64 0, .slice none 0 0] 135)
  rwa [World.size_alloc, World.size_alloc] at h1
 ·rw [key _ _ _ (by simp only [World.size_alloc]; omega)]
  have h1 := World.alloc_heap_new (((w.alloc (.cells #[.int .i64 n, .slice a m cap] 135)).alloc (.cells #[.int .u8 x.kind, .int .i64 x.x.key.time, .int .i64 x.x.key.source, .int .i64 x.x.key.seq, .int .i64 x.x.to, .int .i64 x.x.value, .int .i64 x.time] 140)).alloc (.cells #[.int .i64 0, .slice none 0 0] 135)) (.cells #[.int .i64 0, .slice none 0 0] 137)
  rwa [World.size_alloc, World.size_alloc, World.size_alloc] at h1
 ·have h1 := World.alloc_heap_new ((((w.alloc (.cells #[.int .i64 n, .slice a m cap] 135)).alloc (.cells #[.int .u8 x.kind, .int .i64 x.x.key.time, .int .i64 x.x.key.source, .int .i64 x.x.key.seq, .int .i64 x.x.to, .int .i64 x.x.value, .int .i64 x.time] 140)).alloc (.cells #[.int .i64 0, .slice none 0 0] 135)).alloc (.cells #[.int .i64 0, .slice none 0 0] 137)) (.cells #[.int .i64 0, .int .i64 0, .int .i64 0, .int .i64 0, .int .i64 0] 47)
  rwa [World.size_alloc, World.size_alloc, World.size_alloc, World.size_alloc] at h1
set_option maxRecDepth 100000 in
set_option maxHeartbeats 2000000 in
theorem ract1_any {w : World} {a : Option Addr} {m cap n : Nat} (E : List Ev) (h : EsIn w a E) (hl : E.length = m) (hm : m ≤ 1000) (hc : m ≤ cap) (hn : m ≤ n) (hn' : n ≤ 256) (x : Ev) (t : Int) :
  Calls Try.prog 76 #[.agg #[.int .i64 n, .slice a m cap], actCV ⟨1, x, t⟩] w (ActQ w a n E (allE n E [x]) (allV n E [x]).2 []) := by
 unfold actCV
 simp only
 have HP := Lib.hid (fun (W : World) (hf : Fr0 none' w W) => rPut_at (w := W) E (h.later hf) hl hm hc hn hn' x)
 have HE := Lib.hid (fun g o s e h0 => h.ltC h0 g o s e)
 obtain ⟨E', hE'⟩ : ∃ E', allE n E [x] = E' := ⟨_, rfl⟩
 obtain ⟨f, hF⟩ : ∃ f, (allV n E [x]).2 = f := ⟨_, rfl⟩
 rw [hE', hF] at HP
 rw [hE', hF]
 clear hE' hF h
 go_enter Try.func76, Try.ntmps76
 obtain ⟨N, hN⟩ : ∃ N, w.heap.size = N := ⟨_, rfl⟩
 obtain ⟨W, hW⟩ : ∃ W, wAct w n a m cap ⟨1, x, t⟩ = W := ⟨_, rfl⟩
 have hx := wAct_is w n a m cap ⟨1, x, t⟩
 rw [hW] at hx
 unfold wAct at hW
 simp only at hW hx
 rw [hN] at hx
 have HB := Lib.hid hx.1
 have F := Lib.hid hx.2
 have HN := Lib.hid hN
 have HW := Lib.hid hW
 clear hx hN hW
 go_wp2_with fail
 rw [HW.out]
 try simp only [HN.out]
 clear HW
 refine (HP.out _ F.out).mono ?_
 rintro e w1 ⟨v, rfl, hA, hf⟩
 have hW5 := (Array.getElem?_eq_some_iff.1 HB.out.b4).1
 obtain ⟨va, vc, rfl, hvc, hv, hfr⟩ : ∃ va vc, v = .agg #[.int .i64 n, .slice va E'.length vc] ∧ E'.length ≤ vc ∧ EsIn w1 va E' ∧ FromE a va (N + 5) w1.heap.size E E' := by
  rcases hA with ⟨rfl, va, vc, h1, h2, h3, h4⟩ | ⟨va, vc, h1, h2, h3, h4⟩
  ·exact ⟨va, vc, h1, h2, h3, FromE.of h4 id (by omega)⟩
  ·exact ⟨va, vc, h1, h2, h3, fun g o s e h0 => (h4 g o s e).elim (fun ⟨_, _, e⟩ => by cases e) (fun h => .inr (by omega))⟩
 have HV := Lib.hid hv
 have HFr := Lib.hid hfr
 have HB := Lib.hid (HB.out.later hf)
 have F := Lib.hid (F.out.trans hf)
 clear hf
 clear hA hv hfr hW5
 have a0 := cells_in HB.out.b0 0
 have a1 := cells_in HB.out.b0 1
 have u0 := thaw_in HB.out.b0 0
 have u1 := thaw_in HB.out.b0 1
 have a2 := cells_in HB.out.b2 0
 have a3 := cells_in HB.out.b2 1
 have u2 := thaw_in HB.out.b2 0
 have u3 := thaw_in HB.out.b2 1
 have a4 := cells_in HB.out.b3 0
 have a5 := cells_in HB.out.b3 1
 have u4 := thaw_in HB.out.b3 0
 have u5 := thaw_in HB.out.b3 1
 simp at a0 a1 a2 a3 a4 a5
 go_wp2_with fail
 refine bodyPost_ret (v := .tuple #[.agg #[.int .i64 n, .slice va E'.length vc], .agg #[.int .i64 f, .slice none 0 0]]) (by simp [results, Try.results76, go_sem, a0, a1, a2, a3, a4, a5]) rfl ?_
 refine act_end (fun g o s e h0 => by have := HE.out g o s e h0; have := HN.out; omega) HN.out F.out ?_ hvc HV.out (fun i y hy => by simp at hy) HFr.out (FromE.nil _ _ _ _ _)
 refine setN (setN (setN (setN (setN (setN (Fr0.refl _ _) ?_) ?_) ?_) ?_) ?_) ?_ <;> exact ⟨by omega, by omega⟩
set_option maxRecDepth 100000 in
set_option maxHeartbeats 2000000 in
theorem ract3_any {w : World} {a : Option Addr} {m cap n : Nat} (E : List Ev) (h : EsIn w a E) (hl : E.length = m) (hm : m ≤ 1000) (x : Ev) (t : Int) :
  Calls Try.prog 76 #[.agg #[.int .i64 n, .slice a m cap], actCV ⟨3, x, t⟩] w (ActQ w a n E (aftE t E) 0 (befE t E)) := by
 unfold actCV
 simp only
 have HP := Lib.hid (fun (W : World) (hf : Fr0 none' w W) => rTakeBefore_any (w := W) (cap := cap) n E (h.later hf) hl hm t)
 have HE := Lib.hid (fun g o s e h0 => h.ltC h0 g o s e)
 have hne : aftE t E ≠ [] → E ≠ [] := fun h1 h2 => h1 (by rw [h2]; rfl)
 obtain ⟨E', hE'⟩ : ∃ E', aftE t E = E' := ⟨_, rfl⟩
 obtain ⟨ys, hF⟩ : ∃ f, befE t E = f := ⟨_, rfl⟩
 rw [hE', hF] at HP
 rw [hE'] at hne
 rw [hE', hF]
 clear hE' hF h
 go_enter Try.func76, Try.ntmps76
 obtain ⟨N, hN⟩ : ∃ N, w.heap.size = N := ⟨_, rfl⟩
 obtain ⟨W, hW⟩ : ∃ W, wAct w n a m cap ⟨3, x, t⟩ = W := ⟨_, rfl⟩
 have hx := wAct_is w n a m cap ⟨3, x, t⟩
 rw [hW] at hx
 unfold wAct at hW
 simp only at hW hx
 rw [hN] at hx
 have HB := Lib.hid hx.1
 have F := Lib.hid hx.2
 have HN := Lib.hid hN
 have HW := Lib.hid hW
 clear hx hN hW
 go_wp2_with fail
 rw [HW.out]
 try simp only [HN.out]
 clear HW
 refine (HP.out _ F.out).mono ?_
 rintro e w1 ⟨v, r, rfl, ⟨va, vc, rfl, hvc, hv, h4⟩, hr, hf⟩
 have hW5 := (Array.getElem?_eq_some_iff.1 HB.out.b4).1
 have HFr := Lib.hid (show FromE a va (N + 5) w1.heap.size E E' from FromE.of h4 hne (by omega))
 have HFy := Lib.hid (show ∀ g o s, r = .slice (some ⟨g, o, s⟩) 0 0 → True from fun _ _ _ _ => trivial)
 have HV := Lib.hid hv
 obtain ⟨ya, yc, rfl, _, hy⟩ := EsIn.of_own hr
 have HFy := Lib.hid (show FromE a ya (N + 5) w1.heap.size E ys from fun g o s e h0 => by
  rcases hr.2 with ⟨e1, h1⟩ | ⟨g', cp, cur, e1, _, _⟩
  ·exact absurd (List.eq_nil_of_length_eq_zero h1) h0
  ·injection e1 with e1 _ _
   rw [e] at e1
   injection e1 with e1
   injection e1 with e1 _ _
   subst e1
   have := hr.lt g (by rw [e]; first | rfl | simp [Value.ownBlock])
   exact .inr (by omega))
 have HY := Lib.hid hy
 have HB := Lib.hid (HB.out.later hf)
 have F := Lib.hid (F.out.trans hf)
 clear hf
 clear hv hr hy h4 hne
 have hsw := (Array.getElem?_eq_some_iff.1 HB.out.b4).1
 obtain ⟨sb, hsb⟩ : ∃ b, w1.heap.size = b := ⟨_, rfl⟩
 rw [hsb] at hsw
 obtain ⟨W2, hW2⟩ : ∃ W, w1.alloc (.cells #[.int .i64 n, .slice va E'.length vc] 135) = W := ⟨_, rfl⟩
 have hf : Fr0 none' w1 W2 := by rw [← hW2]; exact (Fr0.refl _ _).alloc _
 have b5 : W2.heap[sb]? = some (.cells #[.int .i64 n, .slice va E'.length vc] 135 (0, 0)) := by rw [← hW2, ← hsb]; exact World.alloc_heap_new _ _
 have HV := Lib.hid (HV.out.later hf)
 have HY := Lib.hid (HY.out.later hf)
 have HFr := Lib.hid (HFr.out.mono (Nat.le_refl _) hf.size)
 have HFy := Lib.hid (HFy.out.mono (Nat.le_refl _) hf.size)
 have HB := Lib.hid (HB.out.later hf)
 have F := Lib.hid (F.out.trans hf)
 clear hf
 have a0 := cells_in HB.out.b0 0
 have a1 := cells_in HB.out.b0 1
 have u0 := thaw_in HB.out.b0 0
 have u1 := thaw_in HB.out.b0 1
 have a2 := cells_in HB.out.b2 0
 have a3 := cells_in HB.out.b2 1
 have u2 := thaw_in HB.out.b2 0
 have u3 := thaw_in HB.out.b2 1
 have a4 := cells_in HB.out.b3 0
 have a5 := cells_in HB.out.b3 1
 have u4 := thaw_in HB.out.b3 0
 have u5 := thaw_in HB.out.b3 1
 simp at a0 a1 a2 a3 a4 a5
 have s0 := cells_in b5 0
 have s1 := cells_in b5 1
 simp at s0 s1
 clear hW5
 have hq1 : N + 1 + 1 ≠ sb := by omega
 have hq2 : N + 1 + 1 + 1 ≠ sb := by omega
 go_wp2_with fail
 refine bodyPost_ret (v := .tuple #[.agg #[.int .i64 n, .slice va E'.length vc], .agg #[.int .i64 0, .slice ya ys.length yc]]) (by simp [results, Try.results76, go_sem, a0, a1, a2, a3, a4, a5]) rfl ?_
 refine act_end (fun g o s e h0 => by have := HE.out g o s e h0; have := HN.out; omega) HN.out F.out ?_ hvc HV.out HY.out HFr.out HFy.out
 refine setN (setN (setN (setN (Fr0.refl _ _) ?_) ?_) ?_) ?_ <;> exact ⟨by omega, by omega⟩
set_option maxRecDepth 100000 in
set_option maxHeartbeats 2000000 in
theorem ract5_any {w : World} {a : Option Addr} {m cap n : Nat} (E : List Ev) (h : EsIn w a E) (hl : E.length = m) (x : Ev) (t : Int) :
  Calls Try.prog 76 #[.agg #[.int .i64 n, .slice a m cap], actCV ⟨5, x, t⟩] w (ActQ w a n E [] 0 E) := by
 unfold actCV
 simp only
 have HE := Lib.hid (fun g o s e h0 => h.ltC h0 g o s e)
 have HL := Lib.hid h
 have Hl := Lib.hid hl
 clear h hl
 go_enter Try.func76, Try.ntmps76
 obtain ⟨N, hN⟩ : ∃ N, w.heap.size = N := ⟨_, rfl⟩
 obtain ⟨W, hW⟩ : ∃ W, wAct w n a m cap ⟨5, x, t⟩ = W := ⟨_, rfl⟩
 have hx := wAct_is w n a m cap ⟨5, x, t⟩
 rw [hW] at hx
 unfold wAct at hW
 simp only at hW hx
 rw [hN] at hx
 have HB := Lib.hid hx.1
 have F := Lib.hid hx.2
 have HN := Lib.hid hN
 have HW := Lib.hid hW
 clear hx hN hW
 go_wp2_with fail
 rw [HW.out]
 try simp only [HN.out]
 clear HW
 have HZ := Lib.hid (show ∀ W', Fr0 (fun k => k = N + 1 + 1 ∨ k = N + 1 + 1 + 1) W W' → W'.cell? ⟨N, 0, none⟩ = some (.int .i64 n) ∧ W'.cell? ⟨N, 1, none⟩ = some (.slice a m cap) from fun W' hf => by
  have h0 := (hf.block N (Array.getElem?_eq_some_iff.1 HB.out.b0).1 (fun h => by omega)).trans HB.out.b0
  have s0 := cells_in h0 0
  have s1 := cells_in h0 1
  simp at s0 s1
  exact ⟨s0, s1⟩)
 refine wp_region_held_drew (S := fun W' => Fr0 (fun k => k = N + 1 + 1 ∨ k = N + 1 + 1 + 1) W W') (by kernel_rfl) ((Fr0.refl _ W).drew) (fun hHeld => ?_)
 refine tkn (i := 0) (v := .pointer (some ⟨N, 0, none⟩)) (fun W' hSW => ?_) ?_
 ·obtain ⟨t0, t1⟩ := HZ.out W' hSW
  first | (go_simp; done) | exact rfl | (go_simp; rfl) | (go_simp; omega)
 try simp only [pUt, pUn, sEt, sEz, sEs]
 refine tkn (i := 1) (v := .int .i64 n) (fun W' hSW => ?_) ?_
 ·obtain ⟨t0, t1⟩ := HZ.out W' hSW
  first | (go_simp; done) | exact rfl | (go_simp; rfl) | (go_simp; omega)
 try simp only [pUt, pUn, sEt, sEz, sEs]
 refine tkn (i := 2) (v := .agg #[.int .i64 n, .slice none 0 0]) (fun W' hSW => ?_) ?_
 ·obtain ⟨t0, t1⟩ := HZ.out W' hSW
  first | (go_simp; done) | exact rfl | (go_simp; rfl) | (go_simp; omega)
 try simp only [pUt, pUn, sEt, sEz, sEs]
 refine tkn (i := 3) (v := .pointer (some ⟨N, 1, none⟩)) (fun W' hSW => ?_) ?_
 ·obtain ⟨t0, t1⟩ := HZ.out W' hSW
  first | (go_simp; done) | exact rfl | (go_simp; rfl) | (go_simp; omega)
 try simp only [pUt, pUn, sEt, sEz, sEs]
 refine tkn (i := 4) (v := .slice a m cap) (fun W' hSW => ?_) ?_
 ·obtain ⟨t0, t1⟩ := HZ.out W' hSW
  first | (go_simp; done) | exact rfl | (go_simp; rfl) | (go_simp; omega)
 try simp only [pUt, pUn, sEt, sEz, sEs]
 refine tkn (i := 5) (v := .agg #[.int .i64 0, .slice a m cap]) (fun W' hSW => ?_) ?_
 ·obtain ⟨t0, t1⟩ := HZ.out W' hSW
  first | (go_simp; done) | exact rfl | (go_simp; rfl) | (go_simp; omega)
 try simp only [pUt, pUn, sEt, sEz, sEs]
 have HD := Lib.hid (HB.out.later (Fr0.refl none' W).drew)
 have t2 := thaw_in HD.out.b2 0
 have t3 := thaw_in HD.out.b2 1
 have t4 := thaw_in HD.out.b3 0
 have t5 := thaw_in HD.out.b3 1
 have a0 := cells_in HB.out.b0 0
 have a1 := cells_in HB.out.b0 1
 have u0 := thaw_in HB.out.b0 0
 have u1 := thaw_in HB.out.b0 1
 have a2 := cells_in HB.out.b2 0
 have a3 := cells_in HB.out.b2 1
 have u2 := thaw_in HB.out.b2 0
 have u3 := thaw_in HB.out.b2 1
 have a4 := cells_in HB.out.b3 0
 have a5 := cells_in HB.out.b3 1
 have u4 := thaw_in HB.out.b3 0
 have u5 := thaw_in HB.out.b3 1
 simp at a0 a1 a2 a3 a4 a5
 refine take_call (i := 6) rfl (by kernel_rfl) (by kernel_rfl) (fun K hK => ?_)
 go_simp
 refine hK.out _ _ (setN (setN hHeld (.inl rfl)) (.inl rfl)) (fun hS => ?_)
 clear hK K
 try simp only [pUt, pUn, sEt, sEz, sEs]
 refine take_call (i := 7) rfl (by kernel_rfl) (by kernel_rfl) (fun K hK => ?_)
 go_simp
 refine hK.out _ _ (setN (setN hS (.inr rfl)) (.inr rfl)) (fun hS => ?_)
 clear hK K
 try simp only [pUt, pUn, sEt, sEz, sEs]
 refine wpAnyH_done (by kernel_rfl) ?_ _
 go_wp2_with fail
 try simp only [Exit.inBlock, Exit.then]
 refine bodyPost_ret (v := .tuple #[.agg #[.int .i64 n, .slice none 0 0], .agg #[.int .i64 0, .slice a m cap]]) (by simp [results, Try.results76, go_sem, a0, a1, a2, a3, a4, a5]) rfl ?_
 obtain rfl := Hl.out
 refine act_end (E' := []) (fun g o s e h0 => by have := HE.out g o s e h0; have := HN.out; omega) HN.out F.out ?_ (Nat.zero_le _) (fun i y hy => by simp at hy) (HL.out.later F.out) (FromE.nil _ _ _ _ _) (FromE.self _ _ _ _)
 refine Fr0.drew ?_
 refine setN (setN (setN (setN (Fr0.refl _ _) ?_) ?_) ?_) ?_ <;> exact ⟨by omega, by omega⟩
/-- The state and the event are set. -/
def wSet (W : World) (N : Nat) (v0 v1 z0 z1 z2 z3 z4 : Value) : World :=
 ((((((W.setCell ⟨N, 0, none⟩ v0).setCell ⟨N, 1, none⟩ v1).setCell ⟨N + 1 + 1 + 1 + 1, 0, none⟩ z0).setCell ⟨N + 1 + 1 + 1 + 1, 1, none⟩ z1).setCell ⟨N + 1 + 1 + 1 + 1, 2, none⟩ z2).setCell ⟨N + 1 + 1 + 1 + 1, 3, none⟩ z3).setCell ⟨N + 1 + 1 + 1 + 1, 4, none⟩ z4
theorem wSet_is {W : World} {N n : Nat} {a : Option Addr} {m cap : Nat} {x : Ca} (h : ActB W N n a m cap x) (n' : Nat) (a' : Option Addr) (m' cap' : Nat) (z0 z1 z2 z3 z4 : Value) :
  (wSet W N (.int .i64 n') (.slice a' m' cap') z0 z1 z2 z3 z4).heap[N]? = some (.cells #[.int .i64 n', .slice a' m' cap'] 135 (0, 0)) ∧ (wSet W N (.int .i64 n') (.slice a' m' cap') z0 z1 z2 z3 z4).heap[N + 1 + 1]? = some (.cells #[.int .i64 0, .slice none 0 0] 135 (0, 0)) ∧
   (wSet W N (.int .i64 n') (.slice a' m' cap') z0 z1 z2 z3 z4).heap[N + 1 + 1 + 1]? = some (.cells #[.int .i64 0, .slice none 0 0] 137 (0, 0)) ∧ (wSet W N (.int .i64 n') (.slice a' m' cap') z0 z1 z2 z3 z4).heap[N + 1 + 1 + 1 + 1]? = some (.cells #[z0, z1, z2, z3, z4] 47 (0, 0)) ∧
   Fr0 (fun k => N ≤ k ∧ k < N + 5) W (wSet W N (.int .i64 n') (.slice a' m' cap') z0 z1 z2 z3 z4) ∧ Fr0 (fun k => k = N ∨ k = N + 1 + 1 + 1 + 1) W (wSet W N (.int .i64 n') (.slice a' m' cap') z0 z1 z2 z3 z4) := by
 have hf : Fr0 (fun k => k = N ∨ k = N + 1 + 1 + 1 + 1) W (wSet W N (.int .i64 n') (.slice a' m' cap') z0 z1 z2 z3 z4) := setN (setN (setN (setN (setN (setN (setN (Fr0.refl _ _) (.inl rfl)) (.inl rfl)) (.inr rfl)) (.inr rfl)) (.inr rfl)) (.inr rfl)) (.inr rfl)
 have h4 : Fr0 (fun k => k = N + 1 + 1 + 1 + 1) ((W.setCell ⟨N, 0, none⟩ (.int .i64 n')).setCell ⟨N, 1, none⟩ (.slice a' m' cap')) (wSet W N (.int .i64 n') (.slice a' m' cap') z0 z1 z2 z3 z4) := by
  unfold wSet
  exact (((((Fr0.refl (fun k => k = N + 1 + 1 + 1 + 1) _).setCell (fun _ => rfl) _).setCell (fun _ => rfl) _).setCell (fun _ => rfl) _).setCell (fun _ => rfl) _).setCell (fun _ => rfl) _
 have h0 : Fr0 (fun k => k = N) W ((W.setCell ⟨N, 0, none⟩ (.int .i64 n')).setCell ⟨N, 1, none⟩ (.slice a' m' cap')) := ((Fr0.refl (fun k => k = N) _).setCell (fun _ => rfl) _).setCell (fun _ => rfl) _
 have b0 : ((W.setCell ⟨N, 0, none⟩ (.int .i64 n')).setCell ⟨N, 1, none⟩ (.slice a' m' cap')).heap[N]? = some (.cells #[.int .i64 n', .slice a' m' cap'] 135 (0, 0)) := heap_set_cell (heap_set_cell h.b0 _) _
 have b4 := (h0.block (N + 1 + 1 + 1 + 1) (Array.getElem?_eq_some_iff.1 h.b4).1 (fun e => by have e : N + 1 + 1 + 1 + 1 = N := e; omega)).trans h.b4
 refine ⟨(h4.block N (Array.getElem?_eq_some_iff.1 b0).1 (fun e => by have e : N = N + 1 + 1 + 1 + 1 := e; omega)).trans b0, (hf.block _ (Array.getElem?_eq_some_iff.1 h.b2).1 (fun e => by omega)).trans h.b2, (hf.block _ (Array.getElem?_eq_some_iff.1 h.b3).1 (fun e => by omega)).trans h.b3, ?_, hf.mono (fun k _ hk => by omega), hf⟩
 have e := heap_set_cell (o := 4) (heap_set_cell (o := 3) (heap_set_cell (o := 2) (heap_set_cell (o := 1) (heap_set_cell (o := 0) b4 z0) z1) z2) z3) z4
 unfold wSet
 simpa using e
set_option maxRecDepth 100000 in
set_option maxHeartbeats 2000000 in
theorem ract4n_any {w : World} {a : Option Addr} {m cap n : Nat} (E : List Ev) (h : EsIn w a E) (hl : E.length = m) (hm : m ≤ 1000) (hc : m ≤ cap) (x : Ev) (t : Int) (hno : findE x.name E = none) :
  Calls Try.prog 76 #[.agg #[.int .i64 n, .slice a m cap], actCV ⟨4, x, t⟩] w (ActQ w a n E E 6 []) := by
 unfold actCV
 simp only
 have HP := Lib.hid (fun (W : World) (hf : Fr0 none' w W) => rCancel_none (w := W) n E (h.later hf) hl hm hc x.name hno)
 unfold evV at HP
 simp only [Ev.name] at HP
 have HE := Lib.hid (fun g o s e h0 => h.ltC h0 g o s e)
 have HL := Lib.hid h
 have Hl := Lib.hid hl
 clear h hl hno
 go_enter Try.func76, Try.ntmps76
 obtain ⟨N, hN⟩ : ∃ N, w.heap.size = N := ⟨_, rfl⟩
 obtain ⟨W, hW⟩ : ∃ W, wAct w n a m cap ⟨4, x, t⟩ = W := ⟨_, rfl⟩
 have hx := wAct_is w n a m cap ⟨4, x, t⟩
 rw [hW] at hx
 unfold wAct at hW
 simp only at hW hx
 rw [hN] at hx
 have HB := Lib.hid hx.1
 have F := Lib.hid hx.2
 have HN := Lib.hid hN
 have HW := Lib.hid hW
 clear hx hN hW
 go_wp2_with fail
 rw [HW.out]
 try simp only [HN.out]
 clear HW
 refine (HP.out _ F.out).mono ?_
 rintro e w1 ⟨rfl, hf⟩
 have HB := Lib.hid (HB.out.later hf)
 have F := Lib.hid (F.out.trans hf)
 clear hf
 have a0 := cells_in HB.out.b0 0
 have a1 := cells_in HB.out.b0 1
 have u0 := thaw_in HB.out.b0 0
 have u1 := thaw_in HB.out.b0 1
 have a2 := cells_in HB.out.b2 0
 have a3 := cells_in HB.out.b2 1
 have u2 := thaw_in HB.out.b2 0
 have u3 := thaw_in HB.out.b2 1
 have a4 := cells_in HB.out.b3 0
 have a5 := cells_in HB.out.b3 1
 have u4 := thaw_in HB.out.b3 0
 have u5 := thaw_in HB.out.b3 1
 simp at a0 a1 a2 a3 a4 a5
 have x0 := cells_in HB.out.b4 0
 have x1 := cells_in HB.out.b4 1
 have x2 := cells_in HB.out.b4 2
 have x3 := cells_in HB.out.b4 3
 have x4 := cells_in HB.out.b4 4
 have y0 := thaw_in HB.out.b4 0
 have y1 := thaw_in HB.out.b4 1
 have y2 := thaw_in HB.out.b4 2
 have y3 := thaw_in HB.out.b4 3
 have y4 := thaw_in HB.out.b4 4
 simp at x0 x1 x2 x3 x4
 obtain ⟨V, hV⟩ : ∃ V, wSet w1 N (.int .i64 n) (.slice a m cap) (.int .i64 0) (.int .i64 0) (.int .i64 0) (.int .i64 0) (.int .i64 0) = V := ⟨_, rfl⟩
 obtain ⟨c0, c2, c3, c4, fV5, fV⟩ := wSet_is HB.out n a m cap (.int .i64 0) (.int .i64 0) (.int .i64 0) (.int .i64 0) (.int .i64 0)
 rw [hV] at c0 c2 c3 c4 fV5 fV
 unfold wSet at hV
 have C0 := Lib.hid c0
 have C2 := Lib.hid c2
 have C3 := Lib.hid c3
 have C4 := Lib.hid c4
 have FV5 := Lib.hid fV5
 have d0 := cells_in c0 0
 have d1 := cells_in c0 1
 have d2 := cells_in c2 0
 have d3 := cells_in c2 1
 have d4 := cells_in c3 0
 have d5 := cells_in c3 1
 have e2 := thaw_in c2 0
 have e3 := thaw_in c2 1
 have e4 := thaw_in c3 0
 have e5 := thaw_in c3 1
 have g0 := cells_in c4 0
 have g1 := cells_in c4 1
 have g2 := cells_in c4 2
 have g3 := cells_in c4 3
 have g4 := cells_in c4 4
 simp at d0 d1 d2 d3 d4 d5 g0 g1 g2 g3 g4
 clear c0 c2 c3 c4 fV5 fV
 go_wp2_with fail
 refine bodyPost_ret (v := .tuple #[.agg #[.int .i64 n, .slice a m cap], .agg #[.int .i64 6, .slice none 0 0]]) (by simp [results, Try.results76, go_sem, d0, d1, d2, d3, d4, d5]) rfl ?_
 obtain rfl := Hl.out
 refine act_end (fun g o s e h0 => by have := HE.out g o s e h0; have := HN.out; omega) HN.out F.out (FV5.out.trans ?_) hc (HL.out.later F.out) (fun i y hy => by simp at hy) (FromE.self _ _ _ _) (FromE.nil _ _ _ _ _)
 refine setN (setN (setN (setN (Fr0.refl _ _) ?_) ?_) ?_) ?_ <;> exact ⟨by omega, by omega⟩
set_option maxRecDepth 100000 in
set_option maxHeartbeats 2000000 in
theorem ract2n_any {w : World} {a : Option Addr} {m cap n : Nat} (E : List Ev) (hE : E = []) (hm : m = 0) (x : Ev) (t : Int) :
  Calls Try.prog 76 #[.agg #[.int .i64 n, .slice a m cap], actCV ⟨2, x, t⟩] w (ActQ w a n E E 6 []) := by
 have hl : E.length = m := by rw [hE, hm]; rfl
 have h : EsIn w a E := by rw [hE]; exact fun i y hy => by simp at hy
 have hc : m ≤ cap := by omega
 unfold actCV
 simp only
 have HP := Lib.hid (fun (W : World) (_ : Fr0 none' w W) => rTake_nil (w := W) (a := a) (cap := cap) n)
 unfold evV at HP
 rw [← hm] at HP
 have HE := Lib.hid (fun g o s e h0 => h.ltC h0 g o s e)
 have HL := Lib.hid h
 have Hl := Lib.hid hl
 clear h hl hE hm
 go_enter Try.func76, Try.ntmps76
 obtain ⟨N, hN⟩ : ∃ N, w.heap.size = N := ⟨_, rfl⟩
 obtain ⟨W, hW⟩ : ∃ W, wAct w n a m cap ⟨2, x, t⟩ = W := ⟨_, rfl⟩
 have hx := wAct_is w n a m cap ⟨2, x, t⟩
 rw [hW] at hx
 unfold wAct at hW
 simp only at hW hx
 rw [hN] at hx
 have HB := Lib.hid hx.1
 have F := Lib.hid hx.2
 have HN := Lib.hid hN
 have HW := Lib.hid hW
 clear hx hN hW
 go_wp2_with fail
 rw [HW.out]
 try simp only [HN.out]
 clear HW
 refine (HP.out _ F.out).mono ?_
 rintro e w1 ⟨rfl, hf⟩
 have HB := Lib.hid (HB.out.later hf)
 have F := Lib.hid (F.out.trans hf)
 clear hf
 have a0 := cells_in HB.out.b0 0
 have a1 := cells_in HB.out.b0 1
 have u0 := thaw_in HB.out.b0 0
 have u1 := thaw_in HB.out.b0 1
 have a2 := cells_in HB.out.b2 0
 have a3 := cells_in HB.out.b2 1
 have u2 := thaw_in HB.out.b2 0
 have u3 := thaw_in HB.out.b2 1
 have a4 := cells_in HB.out.b3 0
 have a5 := cells_in HB.out.b3 1
 have u4 := thaw_in HB.out.b3 0
 have u5 := thaw_in HB.out.b3 1
 simp at a0 a1 a2 a3 a4 a5
 have x0 := cells_in HB.out.b4 0
 have x1 := cells_in HB.out.b4 1
 have x2 := cells_in HB.out.b4 2
 have x3 := cells_in HB.out.b4 3
 have x4 := cells_in HB.out.b4 4
 have y0 := thaw_in HB.out.b4 0
 have y1 := thaw_in HB.out.b4 1
 have y2 := thaw_in HB.out.b4 2
 have y3 := thaw_in HB.out.b4 3
 have y4 := thaw_in HB.out.b4 4
 simp at x0 x1 x2 x3 x4
 obtain ⟨V, hV⟩ : ∃ V, wSet w1 N (.int .i64 n) (.slice a m cap) (.int .i64 0) (.int .i64 0) (.int .i64 0) (.int .i64 0) (.int .i64 0) = V := ⟨_, rfl⟩
 obtain ⟨c0, c2, c3, c4, fV5, fV⟩ := wSet_is HB.out n a m cap (.int .i64 0) (.int .i64 0) (.int .i64 0) (.int .i64 0) (.int .i64 0)
 rw [hV] at c0 c2 c3 c4 fV5 fV
 unfold wSet at hV
 have C0 := Lib.hid c0
 have C2 := Lib.hid c2
 have C3 := Lib.hid c3
 have C4 := Lib.hid c4
 have FV5 := Lib.hid fV5
 have d0 := cells_in c0 0
 have d1 := cells_in c0 1
 have d2 := cells_in c2 0
 have d3 := cells_in c2 1
 have d4 := cells_in c3 0
 have d5 := cells_in c3 1
 have e2 := thaw_in c2 0
 have e3 := thaw_in c2 1
 have e4 := thaw_in c3 0
 have e5 := thaw_in c3 1
 have g0 := cells_in c4 0
 have g1 := cells_in c4 1
 have g2 := cells_in c4 2
 have g3 := cells_in c4 3
 have g4 := cells_in c4 4
 simp at d0 d1 d2 d3 d4 d5 g0 g1 g2 g3 g4
 clear c0 c2 c3 c4 fV5 fV
 go_wp2_with fail
 refine bodyPost_ret (v := .tuple #[.agg #[.int .i64 n, .slice a m cap], .agg #[.int .i64 6, .slice none 0 0]]) (by simp [results, Try.results76, go_sem, d0, d1, d2, d3, d4, d5]) rfl ?_
 obtain rfl := Hl.out
 refine act_end (fun g o s e h0 => by have := HE.out g o s e h0; have := HN.out; omega) HN.out F.out (FV5.out.trans ?_) hc (HL.out.later F.out) (fun i y hy => by simp at hy) (FromE.self _ _ _ _) (FromE.nil _ _ _ _ _)
 refine setN (setN (setN (setN (Fr0.refl _ _) ?_) ?_) ?_) ?_ <;> exact ⟨by omega, by omega⟩
set_option maxRecDepth 100000 in
set_option maxHeartbeats 2000000 in
theorem ract4_any {w : World} {a : Option Addr} {m cap n k : Nat} (E : List Ev) (h : EsIn w a E) (hl : E.length = m) (hm : m ≤ 1000) (hc : m ≤ cap) (x : Ev) (t : Int) (y : Ev) (hk : atE x.name E = k) (hy : E[k]? = some y) :
  Calls Try.prog 76 #[.agg #[.int .i64 n, .slice a m cap], actCV ⟨4, x, t⟩] w (ActQ w a n E (E.take k ++ E.drop (k + 1)) 0 [y]) := by
 unfold actCV
 simp only
 have HP := Lib.hid (fun (W : World) (hf : Fr0 none' w W) => rCancel_some (w := W) n E (h.later hf) hl hm hc x.name y hk hy)
 unfold evV at HP
 simp only [Ev.name] at HP
 have HE := Lib.hid (fun g o s e h0 => h.ltC h0 g o s e)
 have hne : E.take k ++ E.drop (k + 1) ≠ [] → E ≠ [] := fun _ h2 => by rw [h2] at hy; simp at hy
 obtain ⟨E', hE'⟩ : ∃ E', E.take k ++ E.drop (k + 1) = E' := ⟨_, rfl⟩
 rw [hE'] at HP hne
 rw [hE']
 clear h hl hk hy hE'
 go_enter Try.func76, Try.ntmps76
 obtain ⟨N, hN⟩ : ∃ N, w.heap.size = N := ⟨_, rfl⟩
 obtain ⟨W, hW⟩ : ∃ W, wAct w n a m cap ⟨4, x, t⟩ = W := ⟨_, rfl⟩
 have hx := wAct_is w n a m cap ⟨4, x, t⟩
 rw [hW] at hx
 unfold wAct at hW
 simp only at hW hx
 rw [hN] at hx
 have HB := Lib.hid hx.1
 have F := Lib.hid hx.2
 have HN := Lib.hid hN
 have HW := Lib.hid hW
 clear hx hN hW
 go_wp2_with fail
 rw [HW.out]
 try simp only [HN.out]
 clear HW
 refine (HP.out _ F.out).mono ?_
 rintro e w1 ⟨v, rfl, ⟨va, vc, rfl, hvc, hv, h4⟩, hf⟩
 have hW5 := (Array.getElem?_eq_some_iff.1 HB.out.b4).1
 have HFr := Lib.hid (show FromE a va (N + 5) w1.heap.size E E' from FromE.of h4 hne (by omega))
 have HV := Lib.hid hv
 have HB := Lib.hid (HB.out.later hf)
 have F := Lib.hid (F.out.trans hf)
 clear hf
 clear hv h4 hne hW5
 have a0 := cells_in HB.out.b0 0
 have a1 := cells_in HB.out.b0 1
 have u0 := thaw_in HB.out.b0 0
 have u1 := thaw_in HB.out.b0 1
 have a2 := cells_in HB.out.b2 0
 have a3 := cells_in HB.out.b2 1
 have u2 := thaw_in HB.out.b2 0
 have u3 := thaw_in HB.out.b2 1
 have a4 := cells_in HB.out.b3 0
 have a5 := cells_in HB.out.b3 1
 have u4 := thaw_in HB.out.b3 0
 have u5 := thaw_in HB.out.b3 1
 simp at a0 a1 a2 a3 a4 a5
 have x0 := cells_in HB.out.b4 0
 have x1 := cells_in HB.out.b4 1
 have x2 := cells_in HB.out.b4 2
 have x3 := cells_in HB.out.b4 3
 have x4 := cells_in HB.out.b4 4
 have y0 := thaw_in HB.out.b4 0
 have y1 := thaw_in HB.out.b4 1
 have y2 := thaw_in HB.out.b4 2
 have y3 := thaw_in HB.out.b4 3
 have y4 := thaw_in HB.out.b4 4
 simp at x0 x1 x2 x3 x4
 obtain ⟨V, hV⟩ : ∃ V, wSet w1 N (.int .i64 n) (.slice va E'.length vc) (.int .i64 y.key.time) (.int .i64 y.key.source) (.int .i64 y.key.seq) (.int .i64 y.to) (.int .i64 y.value) = V := ⟨_, rfl⟩
 obtain ⟨c0, c2, c3, c4, fV5, fV⟩ := wSet_is HB.out n va E'.length vc (.int .i64 y.key.time) (.int .i64 y.key.source) (.int .i64 y.key.seq) (.int .i64 y.to) (.int .i64 y.value)
 rw [hV] at c0 c2 c3 c4 fV5 fV
 unfold wSet at hV
 have C0 := Lib.hid c0
 have C2 := Lib.hid c2
 have C3 := Lib.hid c3
 have C4 := Lib.hid c4
 have FV5 := Lib.hid fV5
 have d0 := cells_in c0 0
 have d1 := cells_in c0 1
 have d2 := cells_in c2 0
 have d3 := cells_in c2 1
 have d4 := cells_in c3 0
 have d5 := cells_in c3 1
 have e2 := thaw_in c2 0
 have e3 := thaw_in c2 1
 have e4 := thaw_in c3 0
 have e5 := thaw_in c3 1
 have g0 := cells_in c4 0
 have g1 := cells_in c4 1
 have g2 := cells_in c4 2
 have g3 := cells_in c4 3
 have g4 := cells_in c4 4
 simp at d0 d1 d2 d3 d4 d5 g0 g1 g2 g3 g4
 clear c0 c2 c3 c4 fV5 fV
 have hsV := Lib.hid (Array.getElem?_eq_some_iff.1 C4.out).1
 go_wp2_with fail
 clear hV d0 d1 d2 d3 d4 d5 e2 e3 e4 e5 g0 g1 g2 g3 g4 a0 a1 a2 a3 a4 a5 u0 u1 u2 u3 u4 u5 x0 x1 x2 x3 x4 y0 y1 y2 y3 y4
 have HZ := Lib.hid (show ∀ W', Fr0 (fun k => k = N + 1 + 1 ∨ k = N + 1 + 1 + 1) V W' → W'.cell? ⟨N, 0, none⟩ = some (.int .i64 n) ∧ W'.cell? ⟨N, 1, none⟩ = some (.slice va E'.length vc) ∧ EAt W' (N + 1 + 1 + 1 + 1) 0 y from fun W' hf => by
  have h0 := (hf.block N (Array.getElem?_eq_some_iff.1 C0.out).1 (fun h => by omega)).trans C0.out
  have h4 := (hf.block (N + 1 + 1 + 1 + 1) (Array.getElem?_eq_some_iff.1 C4.out).1 (fun h => by omega)).trans C4.out
  have s0 := cells_in h0 0
  have s1 := cells_in h0 1
  simp at s0 s1
  exact ⟨s0, s1, by rw [cells_in h4]; rfl, by rw [cells_in h4]; rfl, by rw [cells_in h4]; rfl, by rw [cells_in h4]; rfl, by rw [cells_in h4]; rfl⟩)
 refine wp_region_held_drew (S := fun W' => Fr0 (fun k => k = N + 1 + 1 ∨ k = N + 1 + 1 + 1) V W') (by kernel_rfl) ((Fr0.refl _ V).drew) (fun hHeld => ?_)
 have D2 := Lib.hid (((Fr0.refl none' V).drew.block _ (Array.getElem?_eq_some_iff.1 C2.out).1 id).trans C2.out)
 have D3 := Lib.hid (((Fr0.refl none' V).drew.block _ (Array.getElem?_eq_some_iff.1 C3.out).1 id).trans C3.out)
 generalize V.drew = WD at hHeld D2 D3 ⊢
 refine tkn (i := 0) (v := .agg #[.int .i64 n, .slice va E'.length vc]) (fun W' hSW => ?_) ?_
 ·obtain ⟨t0, t1, t2, t3, t4, t5, t6⟩ := HZ.out W' hSW
  (try simp only [Nat.zero_add] at t2 t3 t4 t5 t6)
  first | (go_simp; done) | exact rfl | (go_simp; rfl) | (go_simp; omega)
 try simp only [pUt, pUn, sEt, sEz, sEs]
 refine tkn (i := 1) (v := .agg #[.int .i64 y.key.time, .int .i64 y.key.source, .int .i64 y.key.seq, .int .i64 y.to, .int .i64 y.value]) (fun W' hSW => ?_) ?_
 ·obtain ⟨t0, t1, t2, t3, t4, t5, t6⟩ := HZ.out W' hSW
  (try simp only [Nat.zero_add] at t2 t3 t4 t5 t6)
  first | (go_simp; done) | exact rfl | (go_simp; rfl) | (go_simp; omega)
 try simp only [pUt, pUn, sEt, sEz, sEs]
 refine wpAnyH_ready (rs := [2, 4]) (by kernel_rfl) (by simp) (AllReadyH.cons (op_at rfl) (fun K hK => ?_) (AllReadyH.cons (op_at rfl) (fun K hK => ?_) AllReadyH.nil))
 ·rw [if_pos (by kernel_rfl)]
  go_simp
  obtain ⟨rb, hrb⟩ : ∃ b, (WD).heap.size = b := ⟨_, rfl⟩
  obtain ⟨W3, hW3⟩ : ∃ W, (WD).alloc (.cells #[.int .i64 y.key.time, .int .i64 y.key.source, .int .i64 y.key.seq, .int .i64 y.to, .int .i64 y.value] 47) = W := ⟨_, rfl⟩
  have f3 : Fr0 none' (WD) W3 := by rw [← hW3]; exact (Fr0.refl _ _).alloc _
  have F3 := Lib.hid f3
  have B5 := Lib.hid (show W3.heap[rb]? = some (.cells #[.int .i64 y.key.time, .int .i64 y.key.source, .int .i64 y.key.seq, .int .i64 y.to, .int .i64 y.value] 47 (0, 0)) by rw [← hW3, ← hrb]; exact World.alloc_heap_new _ _)
  have Hrb := Lib.hid (show N + 5 ≤ rb by have := hHeld.size; have := hsV.out; omega)
  rw [hW3]
  try rw [hrb]
  clear hW3 hrb
  have D2 := Lib.hid ((f3.block _ (Array.getElem?_eq_some_iff.1 D2.out).1 id).trans D2.out)
  have D3 := Lib.hid ((f3.block _ (Array.getElem?_eq_some_iff.1 D3.out).1 id).trans D3.out)
  clear f3
  refine hK.out _ _ (hHeld.trans' F3.out (fun _ _ h => h.elim)) (fun hHeld => ?_)
  clear hK K
  try simp only [pUt, pUn, sEt, sEz, sEs]
  refine tkn (i := 3) (v := .agg #[.int .i64 0, .slice (some ⟨rb, 0, none⟩) 1 1]) (fun W' hSW => ?_) ?_
  ·first | (go_simp; done) | exact rfl | (go_simp; rfl) | (go_simp; omega)
  try simp only [pUt, pUn, sEt, sEz, sEs]
  have c0 := cells_in D2.out 0
  have c1 := cells_in D2.out 1
  have q0 := thaw_in D2.out 0
  have q1 := thaw_in D2.out 1
  simp at c0 c1
  refine take_call (i := 4) rfl (by kernel_rfl) (by kernel_rfl) (fun K hK => ?_)
  go_simp
  obtain ⟨W4, hW4⟩ : ∃ W, ((W3).setCell ⟨N + 1 + 1, 0, none⟩ (.int .i64 n)).setCell ⟨N + 1 + 1, 1, none⟩ (.slice va E'.length vc) = W := ⟨_, rfl⟩
  have f4 : Fr0 (fun k => k = N + 1 + 1) (W3) W4 := by rw [← hW4]; exact ((Fr0.refl (fun k => k = N + 1 + 1) _).setCell (fun _ => rfl) _).setCell (fun _ => rfl) _
  have D2 := Lib.hid (show W4.heap[N + 1 + 1]? = some (.cells #[.int .i64 n, .slice va E'.length vc] _ (0, 0)) by rw [← hW4]; exact heap_set_cell (heap_set_cell D2.out _) _)
  rw [hW4]
  clear hW4 c0 c1 q0 q1
  have B5 := Lib.hid ((f4.block rb (Array.getElem?_eq_some_iff.1 B5.out).1 (fun e => by have e : rb = N + 1 + 1 := e; have := Hrb.out; omega)).trans B5.out)
  have D3 := Lib.hid ((f4.block _ (Array.getElem?_eq_some_iff.1 D3.out).1 (fun e => by have e : N + 1 + 1 + 1 = N + 1 + 1 := e; omega)).trans D3.out)
  refine hK.out _ _ (hHeld.trans (f4.mono (fun k _ h => .inl h))) (fun hHeld => ?_)
  clear hK K f4
  try simp only [pUt, pUn, sEt, sEz, sEs]
  have c0 := cells_in D3.out 0
  have c1 := cells_in D3.out 1
  have q0 := thaw_in D3.out 0
  have q1 := thaw_in D3.out 1
  simp at c0 c1
  refine take_call (i := 5) rfl (by kernel_rfl) (by kernel_rfl) (fun K hK => ?_)
  go_simp
  obtain ⟨W5, hW4⟩ : ∃ W, ((W4).setCell ⟨N + 1 + 1 + 1, 0, none⟩ (.int .i64 0)).setCell ⟨N + 1 + 1 + 1, 1, none⟩ (.slice (some ⟨rb, 0, none⟩) 1 1) = W := ⟨_, rfl⟩
  have f4 : Fr0 (fun k => k = N + 1 + 1 + 1) (W4) W5 := by rw [← hW4]; exact ((Fr0.refl (fun k => k = N + 1 + 1 + 1) _).setCell (fun _ => rfl) _).setCell (fun _ => rfl) _
  have D3 := Lib.hid (show W5.heap[N + 1 + 1 + 1]? = some (.cells #[.int .i64 0, .slice (some ⟨rb, 0, none⟩) 1 1] _ (0, 0)) by rw [← hW4]; exact heap_set_cell (heap_set_cell D3.out _) _)
  rw [hW4]
  clear hW4 c0 c1 q0 q1
  have B5 := Lib.hid ((f4.block rb (Array.getElem?_eq_some_iff.1 B5.out).1 (fun e => by have e : rb = N + 1 + 1 + 1 := e; have := Hrb.out; omega)).trans B5.out)
  have D2 := Lib.hid ((f4.block _ (Array.getElem?_eq_some_iff.1 D2.out).1 (fun e => by have e : N + 1 + 1 = N + 1 + 1 + 1 := e; omega)).trans D2.out)
  refine hK.out _ _ (hHeld.trans (f4.mono (fun k _ h => .inr h))) (fun hHeld => ?_)
  clear hK K f4
  try simp only [pUt, pUn, sEt, sEz, sEs]
  refine wpAnyH_done (by kernel_rfl) ?_ _
  go_wp2_with fail
  have p2 := cells_in D2.out 0
  have p3 := cells_in D2.out 1
  have p4 := cells_in D3.out 0
  have p5 := cells_in D3.out 1
  simp at p2 p3 p4 p5
  refine bodyPost_ret (v := .tuple #[.agg #[.int .i64 n, .slice va E'.length vc], .agg #[.int .i64 0, .slice (some ⟨rb, 0, none⟩) 1 1]]) (by simp [results, Try.results76, go_sem, p2, p3, p4, p5]) rfl ?_
  have hV5 : Fr0 (fun k => N ≤ k ∧ k < N + 5) w1 W5 := FV5.out.trans (hHeld.mono (fun k _ hk => by omega))
  have hF5 : Fr0 none' w W5 := F.out.trans' hV5 (fun k hk h => by have := HN.out; omega)
  have hs5 : rb < W5.heap.size := (Array.getElem?_eq_some_iff.1 B5.out).1
  have hV3 : EsIn W5 va E' := HV.out.off hV5 (fun g o s e h0 hk => by
   rcases HFr.out g o s e h0 with ⟨⟨o', s', e'⟩, h1⟩ | h1
   ·have := HE.out g o' s' e' h1; have := HN.out; omega
   ·omega)
  exact act_end (ys := [y]) (fun g o s e h0 => by have := HE.out g o s e h0; have := HN.out; omega) HN.out hF5 (Fr0.refl _ _) hvc hV3 (EsIn.of_cells (n := 1) B5.out (by simp [flatEv, cev])) (HFr.out.mono (Nat.le_refl _) hV5.size) (fun g o s e h0 => .inr (by injection e with e; injection e with e _ _; subst e; exact ⟨Hrb.out, hs5⟩))
 ·rw [if_pos (by kernel_rfl)]
  go_simp
  have c0 := cells_in D2.out 0
  have c1 := cells_in D2.out 1
  have q0 := thaw_in D2.out 0
  have q1 := thaw_in D2.out 1
  simp at c0 c1
  go_simp
  obtain ⟨W4, hW4⟩ : ∃ W, ((WD).setCell ⟨N + 1 + 1, 0, none⟩ (.int .i64 n)).setCell ⟨N + 1 + 1, 1, none⟩ (.slice va E'.length vc) = W := ⟨_, rfl⟩
  have f4 : Fr0 (fun k => k = N + 1 + 1) (WD) W4 := by rw [← hW4]; exact ((Fr0.refl (fun k => k = N + 1 + 1) _).setCell (fun _ => rfl) _).setCell (fun _ => rfl) _
  have D2 := Lib.hid (show W4.heap[N + 1 + 1]? = some (.cells #[.int .i64 n, .slice va E'.length vc] _ (0, 0)) by rw [← hW4]; exact heap_set_cell (heap_set_cell D2.out _) _)
  rw [hW4]
  clear hW4 c0 c1 q0 q1
  have D3 := Lib.hid ((f4.block _ (Array.getElem?_eq_some_iff.1 D3.out).1 (fun e => by have e : N + 1 + 1 + 1 = N + 1 + 1 := e; omega)).trans D3.out)
  refine hK.out _ _ (hHeld.trans (f4.mono (fun k _ h => .inl h))) (fun hHeld => ?_)
  clear hK K f4
  try simp only [pUt, pUn, sEt, sEz, sEs]
  refine take_call (i := 2) rfl (by kernel_rfl) (by kernel_rfl) (fun K hK => ?_)
  go_simp
  obtain ⟨rb, hrb⟩ : ∃ b, (W4).heap.size = b := ⟨_, rfl⟩
  obtain ⟨W3, hW3⟩ : ∃ W, (W4).alloc (.cells #[.int .i64 y.key.time, .int .i64 y.key.source, .int .i64 y.key.seq, .int .i64 y.to, .int .i64 y.value] 47) = W := ⟨_, rfl⟩
  have f3 : Fr0 none' (W4) W3 := by rw [← hW3]; exact (Fr0.refl _ _).alloc _
  have F3 := Lib.hid f3
  have B5 := Lib.hid (show W3.heap[rb]? = some (.cells #[.int .i64 y.key.time, .int .i64 y.key.source, .int .i64 y.key.seq, .int .i64 y.to, .int .i64 y.value] 47 (0, 0)) by rw [← hW3, ← hrb]; exact World.alloc_heap_new _ _)
  have Hrb := Lib.hid (show N + 5 ≤ rb by have := hHeld.size; have := hsV.out; omega)
  rw [hW3]
  try rw [hrb]
  clear hW3 hrb
  have D2 := Lib.hid ((f3.block _ (Array.getElem?_eq_some_iff.1 D2.out).1 id).trans D2.out)
  have D3 := Lib.hid ((f3.block _ (Array.getElem?_eq_some_iff.1 D3.out).1 id).trans D3.out)
  clear f3
  refine hK.out _ _ (hHeld.trans' F3.out (fun _ _ h => h.elim)) (fun hHeld => ?_)
  clear hK K
  try simp only [pUt, pUn, sEt, sEz, sEs]
  refine tkn (i := 3) (v := .agg #[.int .i64 0, .slice (some ⟨rb, 0, none⟩) 1 1]) (fun W' hSW => ?_) ?_
  ·first | (go_simp; done) | exact rfl | (go_simp; rfl) | (go_simp; omega)
  try simp only [pUt, pUn, sEt, sEz, sEs]
  have c0 := cells_in D3.out 0
  have c1 := cells_in D3.out 1
  have q0 := thaw_in D3.out 0
  have q1 := thaw_in D3.out 1
  simp at c0 c1
  refine take_call (i := 5) rfl (by kernel_rfl) (by kernel_rfl) (fun K hK => ?_)
  go_simp
  obtain ⟨W5, hW4⟩ : ∃ W, ((W3).setCell ⟨N + 1 + 1 + 1, 0, none⟩ (.int .i64 0)).setCell ⟨N + 1 + 1 + 1, 1, none⟩ (.slice (some ⟨rb, 0, none⟩) 1 1) = W := ⟨_, rfl⟩
  have f4 : Fr0 (fun k => k = N + 1 + 1 + 1) (W3) W5 := by rw [← hW4]; exact ((Fr0.refl (fun k => k = N + 1 + 1 + 1) _).setCell (fun _ => rfl) _).setCell (fun _ => rfl) _
  have D3 := Lib.hid (show W5.heap[N + 1 + 1 + 1]? = some (.cells #[.int .i64 0, .slice (some ⟨rb, 0, none⟩) 1 1] _ (0, 0)) by rw [← hW4]; exact heap_set_cell (heap_set_cell D3.out _) _)
  rw [hW4]
  clear hW4 c0 c1 q0 q1
  have B5 := Lib.hid ((f4.block rb (Array.getElem?_eq_some_iff.1 B5.out).1 (fun e => by have e : rb = N + 1 + 1 + 1 := e; have := Hrb.out; omega)).trans B5.out)
  have D2 := Lib.hid ((f4.block _ (Array.getElem?_eq_some_iff.1 D2.out).1 (fun e => by have e : N + 1 + 1 = N + 1 + 1 + 1 := e; omega)).trans D2.out)
  refine hK.out _ _ (hHeld.trans (f4.mono (fun k _ h => .inr h))) (fun hHeld => ?_)
  clear hK K f4
  try simp only [pUt, pUn, sEt, sEz, sEs]
  refine wpAnyH_done (by kernel_rfl) ?_ _
  go_wp2_with fail
  have p2 := cells_in D2.out 0
  have p3 := cells_in D2.out 1
  have p4 := cells_in D3.out 0
  have p5 := cells_in D3.out 1
  simp at p2 p3 p4 p5
  refine bodyPost_ret (v := .tuple #[.agg #[.int .i64 n, .slice va E'.length vc], .agg #[.int .i64 0, .slice (some ⟨rb, 0, none⟩) 1 1]]) (by simp [results, Try.results76, go_sem, p2, p3, p4, p5]) rfl ?_
  have hV5 : Fr0 (fun k => N ≤ k ∧ k < N + 5) w1 W5 := FV5.out.trans (hHeld.mono (fun k _ hk => by omega))
  have hF5 : Fr0 none' w W5 := F.out.trans' hV5 (fun k hk h => by have := HN.out; omega)
  have hs5 : rb < W5.heap.size := (Array.getElem?_eq_some_iff.1 B5.out).1
  have hV3 : EsIn W5 va E' := HV.out.off hV5 (fun g o s e h0 hk => by
   rcases HFr.out g o s e h0 with ⟨⟨o', s', e'⟩, h1⟩ | h1
   ·have := HE.out g o' s' e' h1; have := HN.out; omega
   ·omega)
  exact act_end (ys := [y]) (fun g o s e h0 => by have := HE.out g o s e h0; have := HN.out; omega) HN.out hF5 (Fr0.refl _ _) hvc hV3 (EsIn.of_cells (n := 1) B5.out (by simp [flatEv, cev])) (HFr.out.mono (Nat.le_refl _) hV5.size) (fun g o s e h0 => .inr (by injection e with e; injection e with e _ _; subst e; exact ⟨Hrb.out, hs5⟩))
set_option maxRecDepth 100000 in
set_option maxHeartbeats 2000000 in
theorem ract2_any {w : World} {a : Option Addr} {m cap n : Nat} (y : Ev) (E' : List Ev) (h : EsIn w a (y :: E')) (hl : E'.length + 1 = m) (hm : m ≤ 1000) (hc : m ≤ cap) (x : Ev) (t : Int) :
  Calls Try.prog 76 #[.agg #[.int .i64 n, .slice a m cap], actCV ⟨2, x, t⟩] w (ActQ w a n (y :: E') E' 0 [y]) := by
 unfold actCV
 simp only
 have HP := Lib.hid (fun (W : World) (hf : Fr0 none' w W) => rTake_some (w := W) n y E' (h.later hf) hl hm hc)
 unfold evV at HP
 have HE := Lib.hid (fun g o s e h0 => h.ltC h0 g o s e)
 have hne : E' ≠ [] → y :: E' ≠ [] := fun _ h2 => by cases h2
 obtain ⟨E, hE⟩ : ∃ E, y :: E' = E := ⟨_, rfl⟩
 rw [hE] at HE hne
 rw [hE]
 clear h hl hE
 go_enter Try.func76, Try.ntmps76
 obtain ⟨N, hN⟩ : ∃ N, w.heap.size = N := ⟨_, rfl⟩
 obtain ⟨W, hW⟩ : ∃ W, wAct w n a m cap ⟨2, x, t⟩ = W := ⟨_, rfl⟩
 have hx := wAct_is w n a m cap ⟨2, x, t⟩
 rw [hW] at hx
 unfold wAct at hW
 simp only at hW hx
 rw [hN] at hx
 have HB := Lib.hid hx.1
 have F := Lib.hid hx.2
 have HN := Lib.hid hN
 have HW := Lib.hid hW
 clear hx hN hW
 go_wp2_with fail
 rw [HW.out]
 try simp only [HN.out]
 clear HW
 refine (HP.out _ F.out).mono ?_
 rintro e w1 ⟨v, rfl, ⟨va, vc, rfl, hvc, hv, h4⟩, hf⟩
 have hW5 := (Array.getElem?_eq_some_iff.1 HB.out.b4).1
 have HFr := Lib.hid (show FromE a va (N + 5) w1.heap.size E E' from FromE.of h4 hne (by omega))
 have HV := Lib.hid hv
 have HB := Lib.hid (HB.out.later hf)
 have F := Lib.hid (F.out.trans hf)
 clear hf
 clear hv h4 hne hW5
 have a0 := cells_in HB.out.b0 0
 have a1 := cells_in HB.out.b0 1
 have u0 := thaw_in HB.out.b0 0
 have u1 := thaw_in HB.out.b0 1
 have a2 := cells_in HB.out.b2 0
 have a3 := cells_in HB.out.b2 1
 have u2 := thaw_in HB.out.b2 0
 have u3 := thaw_in HB.out.b2 1
 have a4 := cells_in HB.out.b3 0
 have a5 := cells_in HB.out.b3 1
 have u4 := thaw_in HB.out.b3 0
 have u5 := thaw_in HB.out.b3 1
 simp at a0 a1 a2 a3 a4 a5
 have x0 := cells_in HB.out.b4 0
 have x1 := cells_in HB.out.b4 1
 have x2 := cells_in HB.out.b4 2
 have x3 := cells_in HB.out.b4 3
 have x4 := cells_in HB.out.b4 4
 have y0 := thaw_in HB.out.b4 0
 have y1 := thaw_in HB.out.b4 1
 have y2 := thaw_in HB.out.b4 2
 have y3 := thaw_in HB.out.b4 3
 have y4 := thaw_in HB.out.b4 4
 simp at x0 x1 x2 x3 x4
 obtain ⟨V, hV⟩ : ∃ V, wSet w1 N (.int .i64 n) (.slice va E'.length vc) (.int .i64 y.key.time) (.int .i64 y.key.source) (.int .i64 y.key.seq) (.int .i64 y.to) (.int .i64 y.value) = V := ⟨_, rfl⟩
 obtain ⟨c0, c2, c3, c4, fV5, fV⟩ := wSet_is HB.out n va E'.length vc (.int .i64 y.key.time) (.int .i64 y.key.source) (.int .i64 y.key.seq) (.int .i64 y.to) (.int .i64 y.value)
 rw [hV] at c0 c2 c3 c4 fV5 fV
 unfold wSet at hV
 have C0 := Lib.hid c0
 have C2 := Lib.hid c2
 have C3 := Lib.hid c3
 have C4 := Lib.hid c4
 have FV5 := Lib.hid fV5
 have d0 := cells_in c0 0
 have d1 := cells_in c0 1
 have d2 := cells_in c2 0
 have d3 := cells_in c2 1
 have d4 := cells_in c3 0
 have d5 := cells_in c3 1
 have e2 := thaw_in c2 0
 have e3 := thaw_in c2 1
 have e4 := thaw_in c3 0
 have e5 := thaw_in c3 1
 have g0 := cells_in c4 0
 have g1 := cells_in c4 1
 have g2 := cells_in c4 2
 have g3 := cells_in c4 3
 have g4 := cells_in c4 4
 simp at d0 d1 d2 d3 d4 d5 g0 g1 g2 g3 g4
 clear c0 c2 c3 c4 fV5 fV
 have hsV := Lib.hid (Array.getElem?_eq_some_iff.1 C4.out).1
 go_wp2_with fail
 clear hV d0 d1 d2 d3 d4 d5 e2 e3 e4 e5 g0 g1 g2 g3 g4 a0 a1 a2 a3 a4 a5 u0 u1 u2 u3 u4 u5 x0 x1 x2 x3 x4 y0 y1 y2 y3 y4
 have HZ := Lib.hid (show ∀ W', Fr0 (fun k => k = N + 1 + 1 ∨ k = N + 1 + 1 + 1) V W' → W'.cell? ⟨N, 0, none⟩ = some (.int .i64 n) ∧ W'.cell? ⟨N, 1, none⟩ = some (.slice va E'.length vc) ∧ EAt W' (N + 1 + 1 + 1 + 1) 0 y from fun W' hf => by
  have h0 := (hf.block N (Array.getElem?_eq_some_iff.1 C0.out).1 (fun h => by omega)).trans C0.out
  have h4 := (hf.block (N + 1 + 1 + 1 + 1) (Array.getElem?_eq_some_iff.1 C4.out).1 (fun h => by omega)).trans C4.out
  have s0 := cells_in h0 0
  have s1 := cells_in h0 1
  simp at s0 s1
  exact ⟨s0, s1, by rw [cells_in h4]; rfl, by rw [cells_in h4]; rfl, by rw [cells_in h4]; rfl, by rw [cells_in h4]; rfl, by rw [cells_in h4]; rfl⟩)
 refine wp_region_held_drew (S := fun W' => Fr0 (fun k => k = N + 1 + 1 ∨ k = N + 1 + 1 + 1) V W') (by kernel_rfl) ((Fr0.refl _ V).drew) (fun hHeld => ?_)
 have D2 := Lib.hid (((Fr0.refl none' V).drew.block _ (Array.getElem?_eq_some_iff.1 C2.out).1 id).trans C2.out)
 have D3 := Lib.hid (((Fr0.refl none' V).drew.block _ (Array.getElem?_eq_some_iff.1 C3.out).1 id).trans C3.out)
 generalize V.drew = WD at hHeld D2 D3 ⊢
 refine tkn (i := 0) (v := .agg #[.int .i64 n, .slice va E'.length vc]) (fun W' hSW => ?_) ?_
 ·obtain ⟨t0, t1, t2, t3, t4, t5, t6⟩ := HZ.out W' hSW
  (try simp only [Nat.zero_add] at t2 t3 t4 t5 t6)
  first | (go_simp; done) | exact rfl | (go_simp; rfl) | (go_simp; omega)
 try simp only [pUt, pUn, sEt, sEz, sEs]
 refine tkn (i := 1) (v := .agg #[.int .i64 y.key.time, .int .i64 y.key.source, .int .i64 y.key.seq, .int .i64 y.to, .int .i64 y.value]) (fun W' hSW => ?_) ?_
 ·obtain ⟨t0, t1, t2, t3, t4, t5, t6⟩ := HZ.out W' hSW
  (try simp only [Nat.zero_add] at t2 t3 t4 t5 t6)
  first | (go_simp; done) | exact rfl | (go_simp; rfl) | (go_simp; omega)
 try simp only [pUt, pUn, sEt, sEz, sEs]
 refine wpAnyH_ready (rs := [2, 4]) (by kernel_rfl) (by simp) (AllReadyH.cons (op_at rfl) (fun K hK => ?_) (AllReadyH.cons (op_at rfl) (fun K hK => ?_) AllReadyH.nil))
 ·rw [if_pos (by kernel_rfl)]
  go_simp
  obtain ⟨rb, hrb⟩ : ∃ b, (WD).heap.size = b := ⟨_, rfl⟩
  obtain ⟨W3, hW3⟩ : ∃ W, (WD).alloc (.cells #[.int .i64 y.key.time, .int .i64 y.key.source, .int .i64 y.key.seq, .int .i64 y.to, .int .i64 y.value] 47) = W := ⟨_, rfl⟩
  have f3 : Fr0 none' (WD) W3 := by rw [← hW3]; exact (Fr0.refl _ _).alloc _
  have F3 := Lib.hid f3
  have B5 := Lib.hid (show W3.heap[rb]? = some (.cells #[.int .i64 y.key.time, .int .i64 y.key.source, .int .i64 y.key.seq, .int .i64 y.to, .int .i64 y.value] 47 (0, 0)) by rw [← hW3, ← hrb]; exact World.alloc_heap_new _ _)
  have Hrb := Lib.hid (show N + 5 ≤ rb by have := hHeld.size; have := hsV.out; omega)
  rw [hW3]
  try rw [hrb]
  clear hW3 hrb
  have D2 := Lib.hid ((f3.block _ (Array.getElem?_eq_some_iff.1 D2.out).1 id).trans D2.out)
  have D3 := Lib.hid ((f3.block _ (Array.getElem?_eq_some_iff.1 D3.out).1 id).trans D3.out)
  clear f3
  refine hK.out _ _ (hHeld.trans' F3.out (fun _ _ h => h.elim)) (fun hHeld => ?_)
  clear hK K
  try simp only [pUt, pUn, sEt, sEz, sEs]
  refine tkn (i := 3) (v := .agg #[.int .i64 0, .slice (some ⟨rb, 0, none⟩) 1 1]) (fun W' hSW => ?_) ?_
  ·first | (go_simp; done) | exact rfl | (go_simp; rfl) | (go_simp; omega)
  try simp only [pUt, pUn, sEt, sEz, sEs]
  have c0 := cells_in D2.out 0
  have c1 := cells_in D2.out 1
  have q0 := thaw_in D2.out 0
  have q1 := thaw_in D2.out 1
  simp at c0 c1
  refine take_call (i := 4) rfl (by kernel_rfl) (by kernel_rfl) (fun K hK => ?_)
  go_simp
  obtain ⟨W4, hW4⟩ : ∃ W, ((W3).setCell ⟨N + 1 + 1, 0, none⟩ (.int .i64 n)).setCell ⟨N + 1 + 1, 1, none⟩ (.slice va E'.length vc) = W := ⟨_, rfl⟩
  have f4 : Fr0 (fun k => k = N + 1 + 1) (W3) W4 := by rw [← hW4]; exact ((Fr0.refl (fun k => k = N + 1 + 1) _).setCell (fun _ => rfl) _).setCell (fun _ => rfl) _
  have D2 := Lib.hid (show W4.heap[N + 1 + 1]? = some (.cells #[.int .i64 n, .slice va E'.length vc] _ (0, 0)) by rw [← hW4]; exact heap_set_cell (heap_set_cell D2.out _) _)
  rw [hW4]
  clear hW4 c0 c1 q0 q1
  have B5 := Lib.hid ((f4.block rb (Array.getElem?_eq_some_iff.1 B5.out).1 (fun e => by have e : rb = N + 1 + 1 := e; have := Hrb.out; omega)).trans B5.out)
  have D3 := Lib.hid ((f4.block _ (Array.getElem?_eq_some_iff.1 D3.out).1 (fun e => by have e : N + 1 + 1 + 1 = N + 1 + 1 := e; omega)).trans D3.out)
  refine hK.out _ _ (hHeld.trans (f4.mono (fun k _ h => .inl h))) (fun hHeld => ?_)
  clear hK K f4
  try simp only [pUt, pUn, sEt, sEz, sEs]
  have c0 := cells_in D3.out 0
  have c1 := cells_in D3.out 1
  have q0 := thaw_in D3.out 0
  have q1 := thaw_in D3.out 1
  simp at c0 c1
  refine take_call (i := 5) rfl (by kernel_rfl) (by kernel_rfl) (fun K hK => ?_)
  go_simp
  obtain ⟨W5, hW4⟩ : ∃ W, ((W4).setCell ⟨N + 1 + 1 + 1, 0, none⟩ (.int .i64 0)).setCell ⟨N + 1 + 1 + 1, 1, none⟩ (.slice (some ⟨rb, 0, none⟩) 1 1) = W := ⟨_, rfl⟩
  have f4 : Fr0 (fun k => k = N + 1 + 1 + 1) (W4) W5 := by rw [← hW4]; exact ((Fr0.refl (fun k => k = N + 1 + 1 + 1) _).setCell (fun _ => rfl) _).setCell (fun _ => rfl) _
  have D3 := Lib.hid (show W5.heap[N + 1 + 1 + 1]? = some (.cells #[.int .i64 0, .slice (some ⟨rb, 0, none⟩) 1 1] _ (0, 0)) by rw [← hW4]; exact heap_set_cell (heap_set_cell D3.out _) _)
  rw [hW4]
  clear hW4 c0 c1 q0 q1
  have B5 := Lib.hid ((f4.block rb (Array.getElem?_eq_some_iff.1 B5.out).1 (fun e => by have e : rb = N + 1 + 1 + 1 := e; have := Hrb.out; omega)).trans B5.out)
  have D2 := Lib.hid ((f4.block _ (Array.getElem?_eq_some_iff.1 D2.out).1 (fun e => by have e : N + 1 + 1 = N + 1 + 1 + 1 := e; omega)).trans D2.out)
  refine hK.out _ _ (hHeld.trans (f4.mono (fun k _ h => .inr h))) (fun hHeld => ?_)
  clear hK K f4
  try simp only [pUt, pUn, sEt, sEz, sEs]
  refine wpAnyH_done (by kernel_rfl) ?_ _
  go_wp2_with fail
  have p2 := cells_in D2.out 0
  have p3 := cells_in D2.out 1
  have p4 := cells_in D3.out 0
  have p5 := cells_in D3.out 1
  simp at p2 p3 p4 p5
  refine bodyPost_ret (v := .tuple #[.agg #[.int .i64 n, .slice va E'.length vc], .agg #[.int .i64 0, .slice (some ⟨rb, 0, none⟩) 1 1]]) (by simp [results, Try.results76, go_sem, p2, p3, p4, p5]) rfl ?_
  have hV5 : Fr0 (fun k => N ≤ k ∧ k < N + 5) w1 W5 := FV5.out.trans (hHeld.mono (fun k _ hk => by omega))
  have hF5 : Fr0 none' w W5 := F.out.trans' hV5 (fun k hk h => by have := HN.out; omega)
  have hs5 : rb < W5.heap.size := (Array.getElem?_eq_some_iff.1 B5.out).1
  have hV3 : EsIn W5 va E' := HV.out.off hV5 (fun g o s e h0 hk => by
   rcases HFr.out g o s e h0 with ⟨⟨o', s', e'⟩, h1⟩ | h1
   ·have := HE.out g o' s' e' h1; have := HN.out; omega
   ·omega)
  exact act_end (ys := [y]) (fun g o s e h0 => by have := HE.out g o s e h0; have := HN.out; omega) HN.out hF5 (Fr0.refl _ _) hvc hV3 (EsIn.of_cells (n := 1) B5.out (by simp [flatEv, cev])) (HFr.out.mono (Nat.le_refl _) hV5.size) (fun g o s e h0 => .inr (by injection e with e; injection e with e _ _; subst e; exact ⟨Hrb.out, hs5⟩))
 ·rw [if_pos (by kernel_rfl)]
  go_simp
  have c0 := cells_in D2.out 0
  have c1 := cells_in D2.out 1
  have q0 := thaw_in D2.out 0
  have q1 := thaw_in D2.out 1
  simp at c0 c1
  go_simp
  obtain ⟨W4, hW4⟩ : ∃ W, ((WD).setCell ⟨N + 1 + 1, 0, none⟩ (.int .i64 n)).setCell ⟨N + 1 + 1, 1, none⟩ (.slice va E'.length vc) = W := ⟨_, rfl⟩
  have f4 : Fr0 (fun k => k = N + 1 + 1) (WD) W4 := by rw [← hW4]; exact ((Fr0.refl (fun k => k = N + 1 + 1) _).setCell (fun _ => rfl) _).setCell (fun _ => rfl) _
  have D2 := Lib.hid (show W4.heap[N + 1 + 1]? = some (.cells #[.int .i64 n, .slice va E'.length vc] _ (0, 0)) by rw [← hW4]; exact heap_set_cell (heap_set_cell D2.out _) _)
  rw [hW4]
  clear hW4 c0 c1 q0 q1
  have D3 := Lib.hid ((f4.block _ (Array.getElem?_eq_some_iff.1 D3.out).1 (fun e => by have e : N + 1 + 1 + 1 = N + 1 + 1 := e; omega)).trans D3.out)
  refine hK.out _ _ (hHeld.trans (f4.mono (fun k _ h => .inl h))) (fun hHeld => ?_)
  clear hK K f4
  try simp only [pUt, pUn, sEt, sEz, sEs]
  refine take_call (i := 2) rfl (by kernel_rfl) (by kernel_rfl) (fun K hK => ?_)
  go_simp
  obtain ⟨rb, hrb⟩ : ∃ b, (W4).heap.size = b := ⟨_, rfl⟩
  obtain ⟨W3, hW3⟩ : ∃ W, (W4).alloc (.cells #[.int .i64 y.key.time, .int .i64 y.key.source, .int .i64 y.key.seq, .int .i64 y.to, .int .i64 y.value] 47) = W := ⟨_, rfl⟩
  have f3 : Fr0 none' (W4) W3 := by rw [← hW3]; exact (Fr0.refl _ _).alloc _
  have F3 := Lib.hid f3
  have B5 := Lib.hid (show W3.heap[rb]? = some (.cells #[.int .i64 y.key.time, .int .i64 y.key.source, .int .i64 y.key.seq, .int .i64 y.to, .int .i64 y.value] 47 (0, 0)) by rw [← hW3, ← hrb]; exact World.alloc_heap_new _ _)
  have Hrb := Lib.hid (show N + 5 ≤ rb by have := hHeld.size; have := hsV.out; omega)
  rw [hW3]
  try rw [hrb]
  clear hW3 hrb
  have D2 := Lib.hid ((f3.block _ (Array.getElem?_eq_some_iff.1 D2.out).1 id).trans D2.out)
  have D3 := Lib.hid ((f3.block _ (Array.getElem?_eq_some_iff.1 D3.out).1 id).trans D3.out)
  clear f3
  refine hK.out _ _ (hHeld.trans' F3.out (fun _ _ h => h.elim)) (fun hHeld => ?_)
  clear hK K
  try simp only [pUt, pUn, sEt, sEz, sEs]
  refine tkn (i := 3) (v := .agg #[.int .i64 0, .slice (some ⟨rb, 0, none⟩) 1 1]) (fun W' hSW => ?_) ?_
  ·first | (go_simp; done) | exact rfl | (go_simp; rfl) | (go_simp; omega)
  try simp only [pUt, pUn, sEt, sEz, sEs]
  have c0 := cells_in D3.out 0
  have c1 := cells_in D3.out 1
  have q0 := thaw_in D3.out 0
  have q1 := thaw_in D3.out 1
  simp at c0 c1
  refine take_call (i := 5) rfl (by kernel_rfl) (by kernel_rfl) (fun K hK => ?_)
  go_simp
  obtain ⟨W5, hW4⟩ : ∃ W, ((W3).setCell ⟨N + 1 + 1 + 1, 0, none⟩ (.int .i64 0)).setCell ⟨N + 1 + 1 + 1, 1, none⟩ (.slice (some ⟨rb, 0, none⟩) 1 1) = W := ⟨_, rfl⟩
  have f4 : Fr0 (fun k => k = N + 1 + 1 + 1) (W3) W5 := by rw [← hW4]; exact ((Fr0.refl (fun k => k = N + 1 + 1 + 1) _).setCell (fun _ => rfl) _).setCell (fun _ => rfl) _
  have D3 := Lib.hid (show W5.heap[N + 1 + 1 + 1]? = some (.cells #[.int .i64 0, .slice (some ⟨rb, 0, none⟩) 1 1] _ (0, 0)) by rw [← hW4]; exact heap_set_cell (heap_set_cell D3.out _) _)
  rw [hW4]
  clear hW4 c0 c1 q0 q1
  have B5 := Lib.hid ((f4.block rb (Array.getElem?_eq_some_iff.1 B5.out).1 (fun e => by have e : rb = N + 1 + 1 + 1 := e; have := Hrb.out; omega)).trans B5.out)
  have D2 := Lib.hid ((f4.block _ (Array.getElem?_eq_some_iff.1 D2.out).1 (fun e => by have e : N + 1 + 1 = N + 1 + 1 + 1 := e; omega)).trans D2.out)
  refine hK.out _ _ (hHeld.trans (f4.mono (fun k _ h => .inr h))) (fun hHeld => ?_)
  clear hK K f4
  try simp only [pUt, pUn, sEt, sEz, sEs]
  refine wpAnyH_done (by kernel_rfl) ?_ _
  go_wp2_with fail
  have p2 := cells_in D2.out 0
  have p3 := cells_in D2.out 1
  have p4 := cells_in D3.out 0
  have p5 := cells_in D3.out 1
  simp at p2 p3 p4 p5
  refine bodyPost_ret (v := .tuple #[.agg #[.int .i64 n, .slice va E'.length vc], .agg #[.int .i64 0, .slice (some ⟨rb, 0, none⟩) 1 1]]) (by simp [results, Try.results76, go_sem, p2, p3, p4, p5]) rfl ?_
  have hV5 : Fr0 (fun k => N ≤ k ∧ k < N + 5) w1 W5 := FV5.out.trans (hHeld.mono (fun k _ hk => by omega))
  have hF5 : Fr0 none' w W5 := F.out.trans' hV5 (fun k hk h => by have := HN.out; omega)
  have hs5 : rb < W5.heap.size := (Array.getElem?_eq_some_iff.1 B5.out).1
  have hV3 : EsIn W5 va E' := HV.out.off hV5 (fun g o s e h0 hk => by
   rcases HFr.out g o s e h0 with ⟨⟨o', s', e'⟩, h1⟩ | h1
   ·have := HE.out g o' s' e' h1; have := HN.out; omega
   ·omega)
  exact act_end (ys := [y]) (fun g o s e h0 => by have := HE.out g o s e h0; have := HN.out; omega) HN.out hF5 (Fr0.refl _ _) hvc hV3 (EsIn.of_cells (n := 1) B5.out (by simp [flatEv, cev])) (HFr.out.mono (Nat.le_refl _) hV5.size) (fun g o s e h0 => .inr (by injection e with e; injection e with e _ _; subst e; exact ⟨Hrb.out, hs5⟩))
end Go.Proofs.Ytmbjfmlicffclaa

/-
  slices.Equal at ints.
-/
namespace Go.Proofs.Ytmbjfmlicffclaa
open Go Go.RowKit
attribute [local go_sem ↓] Go.wp_at_zero Go.wp_at_succ

/-- Ints in memory. -/
def IsIn (w : World) (a : Option Addr) (L : List Int) : Prop := ∀ i x, L[i]? = some x → ∃ g o, a = some ⟨g, o, none⟩ ∧ w.cell? ⟨g, o + i, none⟩ = some (.int .i64 x)
theorem IsIn.fr0 {S : Nat → Prop} {w w' : World} {a : Option Addr} {L : List Int} (h : IsIn w a L) (hf : Fr0 S w w') (hS : ∀ g o s, a = some ⟨g, o, s⟩ → ¬ S g) : IsIn w' a L := fun i x hx => by
 obtain ⟨g, o, rfl, hc⟩ := h i x hx
 exact ⟨g, o, rfl, (hf.cell (p := ⟨g, o + i, none⟩) (World.block_lt_of_cell? _ _ hc) (hS g o none rfl)).trans hc⟩
theorem IsIn.later {w w' : World} {a : Option Addr} {L : List Int} (h : IsIn w a L) (hf : Fr0 none' w w') : IsIn w' a L := h.fr0 hf (fun _ _ _ _ h => h)
theorem IsIn.of_own {w : World} {base : Nat} {v : Value} {n : Nat} {L : List Int} (h : w.ownsRow base 3 1 v n (L.map (Value.int .i64))) : ∃ a cap, v = .slice a n cap ∧ L.length = n ∧ IsIn w a L := by
 have hl : L.length = n := by have := h.1; rw [List.length_map] at this; omega
 rcases h.2 with ⟨rfl, h0⟩ | ⟨g, cap, cur, rfl, hb, hg, hn', hcm, hs, ht⟩
 ·have : L = [] := List.eq_nil_of_length_eq_zero (by omega)
  subst this
  exact ⟨none, 0, by rw [h0], hl, fun i x h => by simp at h⟩
 ·refine ⟨_, cap, rfl, hl, fun i x hx => ⟨g, 0, rfl, ?_⟩⟩
  have hj : (L.map (Value.int .i64))[i]? = some (.int .i64 x) := by rw [List.getElem?_map, hx]; rfl
  rw [Nat.zero_add, cells_in hg, ← Array.getElem?_toList]
  rw [← ht, List.getElem?_take] at hj
  split at hj
  ·exact hj
  ·cases hj
set_option maxRecDepth 100000 in
set_option maxHeartbeats 2000000 in
theorem sameIs_any (a a' : Option Addr) (n n' cap cap' : Nat) (xs ys : List Int) (w : World) (hn : xs.length = n) (hn' : ys.length = n') (hm : n ≤ 1000000) (hm' : n' ≤ 1000000)
  (hc : IsIn w a xs) (hc' : IsIn w a' ys) :
  Calls Try.prog 30 #[.slice a n cap, .slice a' n' cap'] w fun e w' => e = .returned (.bool (decide (xs = ys))) ∧ Fr0 none' w w' := by
 obtain ⟨R, hR⟩ : ∃ R, decide (xs = ys) = R := ⟨_, rfl⟩
 rw [hR]
 have HR := Lib.hid hR
 have Hn := Lib.hid hn
 have Hn' := Lib.hid hn'
 have Hc := Lib.hid hc
 have Hc' := Lib.hid hc'
 clear hR hn hn' hc hc'
 by_cases hnn : n = n'
 ·subst hnn
  have d0 : ((n : Int) != (n : Int)) = false := by simp
  go_enter Try.func30, Try.ntmps30
  go_wp2
  clear d0
  go_loopw [13] (fun i wr => ∃ k : Nat, k ≤ n ∧ i = .int .i64 k ∧ Hid (xs.take k = ys.take k) ∧ Hid (Fr0 none' w wr)) (fun i _ => n - (Go.RowKit.intOf i).toNat)
  case atStart => exact ⟨0, Nat.zero_le _, rfl, rfl, Fr0.refl _ _⟩
  case round =>
   obtain ⟨k, hk, rfl, hpre, hb⟩ := hrel
   by_cases hlt : k < n
   ·have h1 : k < xs.length := by rw [Hn.out]; exact hlt
    have h2 : k < ys.length := by rw [Hn'.out]; exact hlt
    obtain ⟨x, hx⟩ : ∃ x, xs[k]? = some x := ⟨_, List.getElem?_eq_getElem h1⟩
    obtain ⟨y, hy⟩ : ∃ y, ys[k]? = some y := ⟨_, List.getElem?_eq_getElem h2⟩
    obtain ⟨g, o, rfl, hcx⟩ := Hc.out k x hx
    obtain ⟨g', o', rfl, hcy⟩ := Hc'.out k y hy
    have x0 := hb.out.later hcx
    have y0 := hb.out.later hcy
    have hx' := Lib.hid hx
    have hy' := Lib.hid hy
    have FW := hb
    clear hx hy h1 h2 hcx hcy
    have c1 : (0 : Int) ≤ (k : Int) := by omega
    have c2 : (k : Int) < (n : Int) := by omega
    by_cases hxy : x = y
    ·subst hxy
     have d1 : (x == x) = true := beq_self_eq_true x
     have d2 : (x != x) = false := by simp
     go_wp2
     go_quiet (fail)

     go_wp2
     refine ⟨⟨k + 1, by omega, by go_num, by unfold Hid; rw [List.take_add_one, List.take_add_one, hpre.out, hx'.out, hy'.out], by first | exact FW | exact ⟨FW.out.os, FW.out.tape, FW.out.output, FW.out.size, FW.out.block⟩⟩, ?_⟩
     simp [Go.RowKit.intOf]; omega
    ·have d1 : (x == y) = false := beq_eq_false_iff_ne.2 hxy
     have d2 : (x != y) = true := bne_iff_ne.2 hxy
     have hres : Hid (false = R) := by
      unfold Hid; rw [← HR.out]
      refine (decide_eq_false (fun h => hxy ?_)).symm
      have := hx'.out; rw [h, hy'.out] at this; exact (Option.some.inj this).symm
     clear hxy
     go_wp2
     go_quiet (fail)

     go_wp2
     go_ret
     exact ⟨ret_bool hres.out, by first | exact FW.out | exact ⟨FW.out.os, FW.out.tape, FW.out.output, FW.out.size, FW.out.block⟩⟩
   ·have hres : Hid (true = R) := by
     unfold Hid; rw [← HR.out]
     refine (decide_eq_true ?_).symm
     have := hpre.out
     rwa [List.take_of_length_le (by rw [Hn.out]; omega), List.take_of_length_le (by rw [Hn'.out]; omega)] at this
    go_wp2
    go_ret
    exact ⟨ret_bool hres.out, hb⟩
 ·have hres : Hid (false = R) := by
   unfold Hid; rw [← HR.out]
   refine (decide_eq_false (fun h => hnn ?_)).symm
   rw [← Hn.out, ← Hn'.out, h]
  have d0 : ((n : Int) != (n' : Int)) = true := by simp; omega
  clear hnn
  go_enter Try.func30, Try.ntmps30
  go_wp2
  go_ret
  exact ⟨ret_bool hres.out, Fr0.refl _ _⟩
end Go.Proofs.Ytmbjfmlicffclaa

/-
  The example of the chapter calendar.
-/
namespace Go.Proofs.Ytmbjfmlicffclaa
open Go Go.RowKit
attribute [local go_sem ↓] Go.wp_at_zero Go.wp_at_succ
attribute [local go_sem] Oper.semAt_some wide_fn wide_depth wide_fnR wide_depthR

set_option maxRecDepth 100000 in
set_option maxHeartbeats 1000000 in
theorem cat_any (a b c : Int) (w : World) : Calls Try.prog 28 #[.int .i64 a, .int .i64 b, .int .i64 c] w fun e w' => e = .returned (evV ⟨⟨a, b, c⟩, 1, 0⟩) ∧ Fr0 none' w w' := by
 unfold evV
 go_enter Try.func28, Try.ntmps28
 go_wp2_with fail
 obtain ⟨V, hV⟩ : ∃ V, (w.alloc (.cells #[.int .i64 a, .int .i64 b, .int .i64 c, .int .i64 1, .int .i64 0] 47)) = V := ⟨_, rfl⟩
 have hf : Fr0 none' w V := by rw [← hV]; exact (Fr0.refl _ _).alloc _
 have hb : V.heap[w.heap.size]? = some (.cells #[.int .i64 a, .int .i64 b, .int .i64 c, .int .i64 1, .int .i64 0] 47 (0, 0)) := by
  rw [← hV]
  exact World.alloc_heap_new w _
 rw [hV]
 have y0 := cells_in hb 0
 have y1 := cells_in hb 1
 have y2 := cells_in hb 2
 have y3 := cells_in hb 3
 have y4 := cells_in hb 4
 simp at y0 y1 y2 y3 y4
 exact bodyPost_ret (v := .agg #[.int .i64 a, .int .i64 b, .int .i64 c, .int .i64 1, .int .i64 0]) (by simp [results, Try.results28, go_sem, y0, y1, y2, y3, y4]) rfl ⟨rfl, hf⟩
theorem own_cap {w : World} {base : Nat} {e : TypeId} {size : Nat} {v : Value} {n : Nat} {xs : List Value} (h : w.ownsRow base e size v n xs) {a : Option Addr} {m c : Nat} (hv : v = .slice a m c) : n ≤ c := by
 rcases h.2 with ⟨rfl, h0⟩ | ⟨g, cap, cur, rfl, _, _, hn, _⟩
 ·injection hv with h1 h2 h3; omega
 ·injection hv with h1 h2 h3; omega
/-- Do at what it is known to do. -/
theorem Do_told {w : World} {a : Option Addr} {n cap : Nat} {c : Int} {L E : List Ev} {x : Ca} {T : Tl} {i f : Int} (hp : playC L c [x] = (E, [T], i, f)) (h : EsIn w a L) (hl : L.length = n) (hn : n ≤ 10000) (hcap : n ≤ cap) (hk : 0 ≤ x.kind ∧ x.kind < 256) :
  Calls Try.prog 29 #[.slice a n cap, .int .i64 c, actCV x] w fun e w' => ∃ va vc ya yc, e = .returned (.tuple #[.slice va E.length vc, .agg #[.int .i64 T.err, .slice ya T.evs.length yc], .int .i64 f]) ∧ E.length ≤ vc ∧ EsIn w' va E ∧ EsIn w' ya T.evs ∧ Fr0 none' w w' := by
 refine (Do_any (c := c) L x h hl hn hcap hk).mono ?_
 rintro e w' ⟨v, y, rfl, hv, hy, hyr, _, hf⟩
 unfold doT at hy
 rw [hp] at hv hy ⊢
 simp only [List.headD_cons] at hy
 subst hy
 obtain ⟨va, vc, rfl, _, h1⟩ := EsIn.of_own hv
 obtain ⟨ya, yc, hye, _, h2⟩ := EsIn.of_own hyr
 refine ⟨va, vc, ya, yc, ?_, own_cap hv rfl, h1, h2, hf⟩
 unfold Td.v at hye
 unfold Td.val Td.tl
 rw [hye]
/-- Play at what it is known to do. -/
theorem Play_told {w : World} {a aa : Option Addr} {n cap m ca : Nat} {c : Int} {L E : List Ev} {A : List Ca} {T : List Tl} {i f : Int} (hp : playC L c A = (E, T, i, f)) (h : EsIn w a L) (hl : L.length = n) (hn : n ≤ 10000) (hcap : n ≤ cap) (hA : CasIn w aa A) (hAl : A.length = m) (hm : m ≤ 100000) (hk : ∀ x ∈ A, 0 ≤ x.kind ∧ x.kind < 256) :
  Calls Try.prog 17 #[.slice a n cap, .int .i64 c, .slice aa m ca] w fun e w' => ∃ va vc ua uc ys, e = .returned (.tuple #[.slice va E.length vc, .slice ua T.length uc, .int .i64 i, .int .i64 f]) ∧ E.length ≤ vc ∧ EsIn w' va E ∧ TdsIn w' ua ys ∧ ys.map Td.tl = T ∧ (∀ y ∈ ys, EsIn w' y.sa y.evs ∧ y.sn = y.evs.length) ∧ Fr0 none' w w' := by
 refine (Play_any (c := c) L A h hl hn hcap hA hAl hm hk).mono ?_
 rintro e w' ⟨v, u, ys, rfl, hv, hu, hT, _, hf⟩
 rw [hp] at hv hu hT ⊢
 obtain ⟨va, vc, rfl, _, h1⟩ := EsIn.of_own hv
 obtain ⟨ua, uc, rfl, _, h2⟩ := TdsIn.of_own hu
 refine ⟨va, vc, ua, uc, ys, rfl, own_cap hv rfl, h1, h2, hT.tl, fun y hy => ?_, hf⟩
 obtain ⟨ya, yc, hye, _, h3⟩ := EsIn.of_own (hT.row y hy)
 unfold Td.v at hye
 injection hye with e1 e2 e3
 exact ⟨by rw [e1]; exact h3, e2⟩
theorem three_of {α β : Type} {f : α → β} {ys : List α} {a b c : β} (h : ys.map f = [a, b, c]) : ∃ x y z, ys = [x, y, z] := by
 have hl : ys.length = 3 := by rw [← List.length_map (f := f), h]; rfl
 cases ys with
 | nil => simp at hl
 | cons x r =>
  cases r with
  | nil => simp at hl
  | cons y r =>
   cases r with
   | nil => simp at hl
   | cons z r =>
    cases r with
    | nil => exact ⟨x, y, z, rfl⟩
    | cons _ _ => simp at hl
def caA : Ev := ⟨⟨5, 1, 0⟩, 1, 0⟩
def caB : Ev := ⟨⟨3, 2, 0⟩, 1, 0⟩
def caC : Ev := ⟨⟨9, 3, 3⟩, 1, 0⟩
def evZ : Ev := ⟨⟨0, 0, 0⟩, 0, 0⟩
theorem goodA : GoodE 2 [caA] := ⟨by decide, by unfold OnceE; decide, by intro x hx; simp at hx; subst hx; decide, by decide⟩
theorem goodBA : GoodE 2 [caB, caA] := ⟨by decide, by unfold OnceE; decide, by intro x hx; simp at hx; rcases hx with rfl | rfl <;> decide, by decide⟩
theorem awake_p1 : playC [caA] 2 [⟨1, caB, 0⟩] = ([caB, caA], [⟨0, []⟩], -1, 0) := by
 rw [show (2 : Int) = ((2 : Nat) : Int) from rfl, playC_ok goodA (by omega) (by intro a ha; simp at ha; subst ha; decide)]
 decide
theorem awake_p2 : playC [caB, caA] 2 [⟨1, caC, 0⟩] = ([caB, caA], [⟨4, []⟩], -1, 0) := by
 rw [show (2 : Int) = ((2 : Nat) : Int) from rfl, playC_ok goodBA (by omega) (by intro a ha; simp at ha; subst ha; decide)]
 decide
theorem awake_p3 : playC [caB, caA] 2 [⟨3, evZ, 5⟩, ⟨4, caA, 0⟩, ⟨2, evZ, 0⟩] = ([], [⟨0, [caB]⟩, ⟨0, [caA]⟩, ⟨6, []⟩], -1, 0) := by
 rw [show (2 : Int) = ((2 : Nat) : Int) from rfl, playC_ok goodBA (by omega) (by intro a ha; simp at ha; rcases ha with rfl | rfl | rfl <;> decide)]
 decide
theorem awake_c : countC [caB, caA] 3 5 = (1, 0) := by unfold countC; rw [if_pos (by decide)]; rfl
theorem awake_t : timesC [caB, caA] = [3, 5] := by decide
set_option maxRecDepth 100000 in
set_option maxHeartbeats 4000000 in
theorem cawake_any (w : World) : Calls Try.prog 9 #[] w fun e w' => e = .returned (.bool true) ∧ Fr0 none' w w' := by
 go_enter Try.func9, Try.ntmps9
 have F := Lib.hid (Fr0.refl none' w)
 go_wp2_with fail
 refine (cat_any 5 1 0 _).mono ?_
 rintro e wA ⟨rfl, hfA⟩
 have F := Lib.hid (F.out.trans hfA)
 clear hfA
 simp only [evV]
 go_wp2_with fail
 refine (cat_any 3 2 0 _).mono ?_
 rintro e wA ⟨rfl, hfA⟩
 have F := Lib.hid (F.out.trans hfA)
 clear hfA
 simp only [evV]
 go_wp2_with fail
 obtain ⟨ab, hab⟩ : ∃ b, wA.heap.size = b := ⟨_, rfl⟩
 obtain ⟨W1, hW1⟩ : ∃ W, ((wA.alloc (.cells #[.int .i64 5, .int .i64 1, .int .i64 0, .int .i64 1, .int .i64 0] 47)).alloc (.cells #[.int .i64 3, .int .i64 2, .int .i64 0, .int .i64 1, .int .i64 0] 47)).alloc (.cells #[.int .i64 5, .int .i64 1, .int .i64 0, .int .i64 1, .int .i64 0] 47) = W := ⟨_, rfl⟩
 have hA : W1.heap[ab]? = some (.cells #[.int .i64 5, .int .i64 1, .int .i64 0, .int .i64 1, .int .i64 0] 47 (0, 0)) := by
  rw [← hW1, ← hab]
  exact ((((Fr0.refl none' _).alloc _).alloc _).block _ (by rw [World.size_alloc]; omega) id).trans (World.alloc_heap_new wA _)
 have hB : W1.heap[ab + 1]? = some (.cells #[.int .i64 3, .int .i64 2, .int .i64 0, .int .i64 1, .int .i64 0] 47 (0, 0)) := by
  have h1 := World.alloc_heap_new (wA.alloc (.cells #[.int .i64 5, .int .i64 1, .int .i64 0, .int .i64 1, .int .i64 0] 47)) (.cells #[.int .i64 3, .int .i64 2, .int .i64 0, .int .i64 1, .int .i64 0] 47)
  rw [World.size_alloc, hab] at h1
  rw [← hW1]
  exact (((Fr0.refl none' _).alloc _).block _ (by rw [World.size_alloc, World.size_alloc, hab]; omega) id).trans h1
 have hl : EsIn W1 (some ⟨ab + 1 + 1, 0, none⟩) [caA] := by
  have h1 := World.alloc_heap_new ((wA.alloc (.cells #[.int .i64 5, .int .i64 1, .int .i64 0, .int .i64 1, .int .i64 0] 47)).alloc (.cells #[.int .i64 3, .int .i64 2, .int .i64 0, .int .i64 1, .int .i64 0] 47)) (.cells #[.int .i64 5, .int .i64 1, .int .i64 0, .int .i64 1, .int .i64 0] 47)
  rw [World.size_alloc, World.size_alloc, hab, hW1] at h1
  exact EsIn.of_cells (n := 1) h1 (by simp [flatEv, cev, caA])
 have HA := Lib.hid hA
 have HB := Lib.hid hB
 have F := Lib.hid (F.out.trans (show Fr0 none' wA W1 by rw [← hW1]; exact (((Fr0.refl _ _).alloc _).alloc _).alloc _))
 rw [hW1]
 try rw [hab]
 clear hA hB hW1 hab
 have HD := Do_told (n := 1) (cap := 1) awake_p1 hl rfl (by omega) (by omega) (by decide)
 simp only [actCV] at HD
 rw [show caB.key.time = 3 from rfl, show caB.key.source = 2 from rfl, show caB.key.seq = 0 from rfl, show caB.to = 1 from rfl, show caB.value = 0 from rfl] at HD
 refine HD.mono ?_
 clear hl HD
 rintro e w2 ⟨va, vc, ya, yc, rfl, hvc, hv, hy, hf⟩
 simp only [List.length_cons, List.length_nil, Nat.zero_add, Nat.reduceAdd] at hvc
 have HA := Lib.hid ((hf.block ab (Array.getElem?_eq_some_iff.1 HA.out).1 id).trans HA.out)
 have HB := Lib.hid ((hf.block (ab + 1) (Array.getElem?_eq_some_iff.1 HB.out).1 id).trans HB.out)
 have F := Lib.hid (F.out.trans hf)
 have HV := Lib.hid hv
 clear hv hy hf
 simp only [List.length_cons, List.length_nil, Nat.zero_add, Nat.reduceAdd]
 go_wp2_with fail
 obtain ⟨tb, htb⟩ : ∃ b, w2.heap.size = b := ⟨_, rfl⟩
 obtain ⟨W, hW⟩ : ∃ W, w2.alloc (.cells #[.int .i64 0, .slice ya 0 yc] 51) = W := ⟨_, rfl⟩
 have hf : Fr0 none' w2 W := by rw [← hW]; exact (Fr0.refl _ _).alloc _
 have hnew : W.heap[tb]? = some (.cells #[.int .i64 0, .slice ya 0 yc] 51 (0, 0)) := by rw [← hW, ← htb]; exact World.alloc_heap_new _ _
 rw [hW]
 try rw [htb]
 have HA := Lib.hid ((hf.block _ (Array.getElem?_eq_some_iff.1 HA.out).1 id).trans HA.out)
 have HB := Lib.hid ((hf.block _ (Array.getElem?_eq_some_iff.1 HB.out).1 id).trans HB.out)
 have HV := Lib.hid (HV.out.later hf)
 have F := Lib.hid (F.out.trans hf)
 try have HT := Lib.hid ((hf.block _ (Array.getElem?_eq_some_iff.1 HT.out).1 id).trans HT.out)
 try have HU := Lib.hid ((hf.block _ (Array.getElem?_eq_some_iff.1 HU.out).1 id).trans HU.out)
 try have HS := Lib.hid (HS.out.later hf)
 clear hf hW htb
 have HT := Lib.hid hnew
 clear hnew
 refine (cat_any 9 3 3 _).mono ?_
 rintro e wC ⟨rfl, hf⟩
 have HA := Lib.hid ((hf.block _ (Array.getElem?_eq_some_iff.1 HA.out).1 id).trans HA.out)
 have HB := Lib.hid ((hf.block _ (Array.getElem?_eq_some_iff.1 HB.out).1 id).trans HB.out)
 have HV := Lib.hid (HV.out.later hf)
 have F := Lib.hid (F.out.trans hf)
 try have HT := Lib.hid ((hf.block _ (Array.getElem?_eq_some_iff.1 HT.out).1 id).trans HT.out)
 try have HU := Lib.hid ((hf.block _ (Array.getElem?_eq_some_iff.1 HU.out).1 id).trans HU.out)
 try have HS := Lib.hid (HS.out.later hf)
 clear hf
 simp only [evV]
 go_wp2_with fail
 have HD := Do_told (n := 2) (cap := vc) awake_p2 HV.out rfl (by omega) hvc (by decide)
 simp only [actCV] at HD
 rw [show caC.key.time = 9 from rfl, show caC.key.source = 3 from rfl, show caC.key.seq = 3 from rfl, show caC.to = 1 from rfl, show caC.value = 0 from rfl] at HD
 refine HD.mono ?_
 clear HD
 rintro e w3 ⟨sa, sc, za, zc, rfl, hsc, hs, hz, hf⟩
 simp only [List.length_cons, List.length_nil, Nat.zero_add, Nat.reduceAdd] at hsc
 have HA := Lib.hid ((hf.block _ (Array.getElem?_eq_some_iff.1 HA.out).1 id).trans HA.out)
 have HB := Lib.hid ((hf.block _ (Array.getElem?_eq_some_iff.1 HB.out).1 id).trans HB.out)
 have HV := Lib.hid (HV.out.later hf)
 have F := Lib.hid (F.out.trans hf)
 try have HT := Lib.hid ((hf.block _ (Array.getElem?_eq_some_iff.1 HT.out).1 id).trans HT.out)
 try have HU := Lib.hid ((hf.block _ (Array.getElem?_eq_some_iff.1 HU.out).1 id).trans HU.out)
 try have HS := Lib.hid (HS.out.later hf)
 have HS := Lib.hid hs
 clear hs hz hf
 simp only [List.length_cons, List.length_nil, Nat.zero_add, Nat.reduceAdd]
 obtain ⟨ub, hub⟩ : ∃ b, w3.heap.size = b := ⟨_, rfl⟩
 obtain ⟨W, hW⟩ : ∃ W, w3.alloc (.cells #[.int .i64 4, .slice za 0 zc] 51) = W := ⟨_, rfl⟩
 have hf : Fr0 none' w3 W := by rw [← hW]; exact (Fr0.refl _ _).alloc _
 have hnew : W.heap[ub]? = some (.cells #[.int .i64 4, .slice za 0 zc] 51 (0, 0)) := by rw [← hW, ← hub]; exact World.alloc_heap_new _ _
 have HA := Lib.hid ((hf.block _ (Array.getElem?_eq_some_iff.1 HA.out).1 id).trans HA.out)
 have HB := Lib.hid ((hf.block _ (Array.getElem?_eq_some_iff.1 HB.out).1 id).trans HB.out)
 have HV := Lib.hid (HV.out.later hf)
 have F := Lib.hid (F.out.trans hf)
 try have HT := Lib.hid ((hf.block _ (Array.getElem?_eq_some_iff.1 HT.out).1 id).trans HT.out)
 try have HU := Lib.hid ((hf.block _ (Array.getElem?_eq_some_iff.1 HU.out).1 id).trans HU.out)
 try have HS := Lib.hid (HS.out.later hf)
 have HU := Lib.hid hnew
 clear hnew hf
 have a0 := cells_in HA.out 0
 have a1 := cells_in HA.out 1
 have a2 := cells_in HA.out 2
 have a3 := cells_in HA.out 3
 have a4 := cells_in HA.out 4
 simp at a0 a1 a2 a3 a4
 go_wp2_with fail
 clear a0 a1 a2 a3 a4
 try rw [hub]
 clear hW hub
 obtain ⟨lb, hlb⟩ : ∃ b, W.heap.size = b := ⟨_, rfl⟩
 obtain ⟨V, hV⟩ : ∃ V, W.alloc (.cells #[.int .u8 3, .int .i64 0, .int .i64 0, .int .i64 0, .int .i64 0, .int .i64 0, .int .i64 5, .int .u8 4, .int .i64 5, .int .i64 1, .int .i64 0, .int .i64 1, .int .i64 0, .int .i64 0, .int .u8 2, .int .i64 0, .int .i64 0, .int .i64 0, .int .i64 0, .int .i64 0, .int .i64 0] 49) = V := ⟨_, rfl⟩
 have hf : Fr0 none' W V := by rw [← hV]; exact (Fr0.refl _ _).alloc _
 have hnew : V.heap[lb]? = some (.cells #[.int .u8 3, .int .i64 0, .int .i64 0, .int .i64 0, .int .i64 0, .int .i64 0, .int .i64 5, .int .u8 4, .int .i64 5, .int .i64 1, .int .i64 0, .int .i64 1, .int .i64 0, .int .i64 0, .int .u8 2, .int .i64 0, .int .i64 0, .int .i64 0, .int .i64 0, .int .i64 0, .int .i64 0] 49 (0, 0)) := by rw [← hV, ← hlb]; exact World.alloc_heap_new _ _
 rw [hV]
 try rw [hlb]
 have HA := Lib.hid ((hf.block _ (Array.getElem?_eq_some_iff.1 HA.out).1 id).trans HA.out)
 have HB := Lib.hid ((hf.block _ (Array.getElem?_eq_some_iff.1 HB.out).1 id).trans HB.out)
 have HV := Lib.hid (HV.out.later hf)
 have F := Lib.hid (F.out.trans hf)
 try have HT := Lib.hid ((hf.block _ (Array.getElem?_eq_some_iff.1 HT.out).1 id).trans HT.out)
 try have HU := Lib.hid ((hf.block _ (Array.getElem?_eq_some_iff.1 HU.out).1 id).trans HU.out)
 try have HS := Lib.hid (HS.out.later hf)
 have hcas : CasIn V (some ⟨lb, 0, none⟩) [⟨3, evZ, 5⟩, ⟨4, caA, 0⟩, ⟨2, evZ, 0⟩] := fun i y hy => by
  match i with
  | 0 =>
   obtain rfl : _ = y := by simpa using hy
   exact ⟨_, _, rfl, cells_in hnew 0, cells_in hnew 1, cells_in hnew 2, cells_in hnew 3, cells_in hnew 4, cells_in hnew 5, cells_in hnew 6⟩
  | 1 =>
   obtain rfl : _ = y := by simpa using hy
   exact ⟨_, _, rfl, cells_in hnew 7, cells_in hnew 8, cells_in hnew 9, cells_in hnew 10, cells_in hnew 11, cells_in hnew 12, cells_in hnew 13⟩
  | 2 =>
   obtain rfl : _ = y := by simpa using hy
   exact ⟨_, _, rfl, cells_in hnew 14, cells_in hnew 15, cells_in hnew 16, cells_in hnew 17, cells_in hnew 18, cells_in hnew 19, cells_in hnew 20⟩
  | i + 3 => simp at hy
 have HP := Play_told (n := 2) (cap := vc) (m := 3) (ca := 3) awake_p3 HV.out rfl (by omega) hvc hcas rfl (by omega) (by intro x hx; simp at hx; rcases hx with rfl | rfl | rfl <;> decide)
 refine HP.mono ?_
 clear hnew hf hcas hV hlb HP
 rintro e w4 ⟨pa, pc, ua, uc, ys, rfl, _, hp, hu, hys, hyr, hf⟩
 have HA := Lib.hid ((hf.block _ (Array.getElem?_eq_some_iff.1 HA.out).1 id).trans HA.out)
 have HB := Lib.hid ((hf.block _ (Array.getElem?_eq_some_iff.1 HB.out).1 id).trans HB.out)
 have HV := Lib.hid (HV.out.later hf)
 have F := Lib.hid (F.out.trans hf)
 try have HT := Lib.hid ((hf.block _ (Array.getElem?_eq_some_iff.1 HT.out).1 id).trans HT.out)
 try have HU := Lib.hid ((hf.block _ (Array.getElem?_eq_some_iff.1 HU.out).1 id).trans HU.out)
 try have HS := Lib.hid (HS.out.later hf)
 obtain ⟨y0, y1, y2, rfl⟩ := three_of hys
 simp only [List.map_cons, List.map_nil, List.cons.injEq, and_true] at hys
 obtain ⟨t0, t1, t2⟩ := hys
 obtain ⟨m0, n0⟩ := hyr y0 (by simp)
 obtain ⟨m1, n1⟩ := hyr y1 (by simp)
 obtain ⟨m2, n2⟩ := hyr y2 (by simp)
 obtain ⟨e0, a0, k0, c0, v0⟩ := y0
 obtain ⟨e1, a1, k1, c1, v1⟩ := y1
 obtain ⟨e2, a2, k2, c2, v2⟩ := y2
 simp only [Td.tl, Tl.mk.injEq] at t0 t1 t2
 obtain ⟨rfl, rfl⟩ := t0
 obtain ⟨rfl, rfl⟩ := t1
 obtain ⟨rfl, rfl⟩ := t2
 simp only [List.length_cons, List.length_nil, Nat.zero_add] at n0 n1 n2
 subst n0 n1 n2
 simp only at m0 m1 m2
 have HM0 := Lib.hid m0
 have HM1 := Lib.hid m1
 have HTD := Lib.hid hu
 clear hf hyr hp m0 m1 m2 hu
 simp only [List.length_cons, List.length_nil, Nat.zero_add, Nat.reduceAdd]
 go_wp2_with fail
 refine (Count_any (n := 2) (cap := vc) (f := 3) (t := 5) [caB, caA] HV.out rfl (by omega)).mono ?_
 rw [awake_c]
 rintro e w5 ⟨rfl, hf⟩
 have HA := Lib.hid ((hf.block _ (Array.getElem?_eq_some_iff.1 HA.out).1 id).trans HA.out)
 have HB := Lib.hid ((hf.block _ (Array.getElem?_eq_some_iff.1 HB.out).1 id).trans HB.out)
 have HV := Lib.hid (HV.out.later hf)
 have F := Lib.hid (F.out.trans hf)
 try have HT := Lib.hid ((hf.block _ (Array.getElem?_eq_some_iff.1 HT.out).1 id).trans HT.out)
 try have HU := Lib.hid ((hf.block _ (Array.getElem?_eq_some_iff.1 HU.out).1 id).trans HU.out)
 try have HS := Lib.hid (HS.out.later hf)
 have HM0 := Lib.hid (HM0.out.later hf)
 have HM1 := Lib.hid (HM1.out.later hf)
 have HTD := Lib.hid (HTD.out.later hf)
 clear hf
 go_wp2_with fail
 refine (Times_any (n := 2) (cap := vc) [caB, caA] HV.out rfl (by omega)).mono ?_
 rw [if_pos (by decide), if_pos (by decide), if_pos (by decide), awake_t]
 rintro e w6 ⟨v, rfl, ht, hf⟩
 have HA := Lib.hid ((hf.block _ (Array.getElem?_eq_some_iff.1 HA.out).1 id).trans HA.out)
 have HB := Lib.hid ((hf.block _ (Array.getElem?_eq_some_iff.1 HB.out).1 id).trans HB.out)
 have HV := Lib.hid (HV.out.later hf)
 have F := Lib.hid (F.out.trans hf)
 try have HT := Lib.hid ((hf.block _ (Array.getElem?_eq_some_iff.1 HT.out).1 id).trans HT.out)
 try have HU := Lib.hid ((hf.block _ (Array.getElem?_eq_some_iff.1 HU.out).1 id).trans HU.out)
 try have HS := Lib.hid (HS.out.later hf)
 have HM0 := Lib.hid (HM0.out.later hf)
 have HM1 := Lib.hid (HM1.out.later hf)
 have HTD := Lib.hid (HTD.out.later hf)
 have HTI := Lib.hid ht
 clear hf ht
 go_wp2_with fail
 obtain ⟨g, o, rfl, d0⟩ := HTD.out 0 _ rfl
 obtain ⟨_, _, hg1, d1⟩ := HTD.out 1 _ rfl
 injection hg1 with hg1
 injection hg1 with hg1 ho1
 subst hg1 ho1
 obtain ⟨_, _, hg2, d2⟩ := HTD.out 2 _ rfl
 injection hg2 with hg2
 injection hg2 with hg2 ho2
 subst hg2 ho2
 obtain ⟨_, d0⟩ := d0
 obtain ⟨_, d1⟩ := d1
 obtain ⟨d2, _⟩ := d2
 simp only [Nat.zero_mul, Nat.add_zero, Nat.one_mul, Nat.reduceMul] at d0 d1 d2
 have z0 := cells_in HA.out 0
 have z1 := cells_in HA.out 1
 have z2 := cells_in HA.out 2
 have z3 := cells_in HA.out 3
 have z4 := cells_in HA.out 4
 have y0 := cells_in HB.out 0
 have y1 := cells_in HB.out 1
 have y2 := cells_in HB.out 2
 have y3 := cells_in HB.out 3
 have y4 := cells_in HB.out 4
 have t0 := cells_in HT.out 0
 have u0 := cells_in HU.out 0
 simp at z0 z1 z2 z3 z4 y0 y1 y2 y3 y4 t0 u0
 have HZ := Lib.hid (fun (W' : World) (hf : Fr0 none' w6 W') => And.intro (hf.later z0) <| And.intro (hf.later z1) <| And.intro (hf.later z2) <| And.intro (hf.later z3) <| And.intro (hf.later z4) <| And.intro (hf.later y0) <| And.intro (hf.later y1) <| And.intro (hf.later y2) <| And.intro (hf.later y3) <| And.intro (hf.later y4) <| And.intro (hf.later t0) <| And.intro (hf.later u0) <| And.intro (hf.later d0) <| And.intro (hf.later d1) (hf.later d2))
 clear z0 z1 z2 z3 z4 y0 y1 y2 y3 y4 t0 u0 d0 d1 d2
 obtain ⟨ti, tc, rfl, _, hti⟩ := IsIn.of_own HTI.out
 have HTX := Lib.hid hti
 clear hti
 refine wp_region_held_drew (S := fun W' => Fr0 none' w6 W') (by kernel_rfl) ((Fr0.refl none' w6).drew) (fun hHeld => ?_)
 generalize w6.drew = WD at hHeld ⊢
 refine tkn (i := 0) (v := .int .i64 0) (fun W' hSW => ?_) ?_
 ·first | (go_simp; done) | exact rfl | (go_simp; rfl) | (go_simp; omega)
 try simp only [pUt, pUn, sEt, sEz, sEs]
 refine tkn (i := 1) (v := .int .i64 0) (fun W' hSW => ?_) ?_
 ·first | (go_simp; done) | exact rfl | (go_simp; rfl) | (go_simp; omega)
 try simp only [pUt, pUn, sEt, sEz, sEs]
 refine tkn (i := 2) (v := .int .i64 0) (fun W' hSW => ?_) ?_
 ·first | (go_simp; done) | exact rfl | (go_simp; rfl) | (go_simp; omega)
 try simp only [pUt, pUn, sEt, sEz, sEs]
 refine tkn (i := 3) (v := .int .i64 0) (fun W' hSW => ?_) ?_
 ·first | (go_simp; done) | exact rfl | (go_simp; rfl) | (go_simp; omega)
 try simp only [pUt, pUn, sEt, sEz, sEs]
 refine tkn (i := 4) (v := .int .i64 0) (fun W' hSW => ?_) ?_
 ·first | (go_simp; done) | exact rfl | (go_simp; rfl) | (go_simp; omega)
 try simp only [pUt, pUn, sEt, sEz, sEs]
 refine tkn (i := 5) (v := .int .i64 0) (fun W' hSW => ?_) ?_
 ·first | (go_simp; done) | exact rfl | (go_simp; rfl) | (go_simp; omega)
 try simp only [pUt, pUn, sEt, sEz, sEs]
 refine tkn (i := 6) (v := .int .i64 0) (fun W' hSW => ?_) ?_
 ·first | (go_simp; done) | exact rfl | (go_simp; rfl) | (go_simp; omega)
 try simp only [pUt, pUn, sEt, sEz, sEs]
 refine tkn (i := 7) (v := .int .i64 0) (fun W' hSW => ?_) ?_
 ·first | (go_simp; done) | exact rfl | (go_simp; rfl) | (go_simp; omega)
 try simp only [pUt, pUn, sEt, sEz, sEs]
 refine tkn (i := 8) (v := .int .i64 0) (fun W' hSW => ?_) ?_
 ·first | (go_simp; done) | exact rfl | (go_simp; rfl) | (go_simp; omega)
 try simp only [pUt, pUn, sEt, sEz, sEs]
 refine tkn (i := 9) (v := .bool true) (fun W' hSW => ?_) ?_
 ·first | (go_simp; done) | exact rfl | (go_simp; rfl) | (go_simp; omega)
 try simp only [pUt, pUn, sEt, sEz, sEs]
 refine tkn (i := 10) (v := .bool true) (fun W' hSW => ?_) ?_
 ·first | (go_simp; done) | exact rfl | (go_simp; rfl) | (go_simp; omega)
 try simp only [pUt, pUn, sEt, sEz, sEs]
 refine tkn (i := 11) (v := .slice va 2 vc) (fun W' hSW => ?_) ?_
 ·first | (go_simp; done) | exact rfl | (go_simp; rfl) | (go_simp; omega)
 try simp only [pUt, pUn, sEt, sEz, sEs]
 refine tkn (i := 12) (v := .agg #[.int .i64 3, .int .i64 2, .int .i64 0, .int .i64 1, .int .i64 0]) (fun W' hSW => ?_) ?_
 ·obtain ⟨z0, z1, z2, z3, z4, y0, y1, y2, y3, y4, t0, u0, d0, d1, d2⟩ := HZ.out W' hSW
  first | (go_simp; done) | exact rfl | (go_simp; rfl) | (go_simp; omega)
 try simp only [pUt, pUn, sEt, sEz, sEs]
 refine tkn (i := 13) (v := .agg #[.int .i64 5, .int .i64 1, .int .i64 0, .int .i64 1, .int .i64 0]) (fun W' hSW => ?_) ?_
 ·obtain ⟨z0, z1, z2, z3, z4, y0, y1, y2, y3, y4, t0, u0, d0, d1, d2⟩ := HZ.out W' hSW
  first | (go_simp; done) | exact rfl | (go_simp; rfl) | (go_simp; omega)
 try simp only [pUt, pUn, sEt, sEz, sEs]
 refine take_call (i := 14) rfl (by kernel_rfl) (by kernel_rfl) (fun K hK => ?_)
 go_simp
 obtain ⟨nb, hnb⟩ : ∃ b, WD.heap.size = b := ⟨_, rfl⟩
 obtain ⟨W2, hW2⟩ : ∃ W2, WD.alloc (.cells #[.int .i64 3, .int .i64 2, .int .i64 0, .int .i64 1, .int .i64 0, .int .i64 5, .int .i64 1, .int .i64 0, .int .i64 1, .int .i64 0] 47) = W2 := ⟨_, rfl⟩
 have hn2 : W2.heap[nb]? = some (.cells #[.int .i64 3, .int .i64 2, .int .i64 0, .int .i64 1, .int .i64 0, .int .i64 5, .int .i64 1, .int .i64 0, .int .i64 1, .int .i64 0] 47 (0, 0)) := by rw [← hW2, ← hnb]; exact World.alloc_heap_new _ _
 have F2 := Lib.hid (hHeld.trans (show Fr0 none' WD W2 by rw [← hW2]; exact (Fr0.refl _ _).alloc _))
 rw [hW2]
 try rw [hnb]
 clear hW2 hnb
 refine hK.out _ _ F2.out (fun hHeld => ?_)
 clear hK K
 try simp only [pUt, pUn, sEt, sEz, sEs]
 refine take_call (i := 15) rfl (by kernel_rfl) (by kernel_rfl) (fun K hK => ?_)
 go_simp
 have HSM := Same_any va (some ⟨nb, 0, none⟩) 2 2 vc 2 [caB, caA] [caB, caA] W2 rfl rfl (by omega) (by omega) (HV.out.later hHeld) (EsIn.of_cells (n := 2) hn2 (by simp [flatEv, cev, caA, caB]))
 rw [show decide (([caB, caA] : List Ev) = [caB, caA]) = true by decide] at HSM
 refine HSM.mono ?_
 clear HSM
 rintro e WD ⟨rfl, hfA⟩
 have FA := Lib.hid (hHeld.trans hfA)
 clear hfA
 go_wp2_with fail
 refine hK.out _ _ FA.out (fun hHeld => ?_)
 clear hK K
 try simp only [pUt, pUn, sEt, sEz, sEs]
 refine tkn (i := 16) (v := .bool true) (fun W' hSW => ?_) ?_
 ·first | (go_simp; done) | exact rfl | (go_simp; rfl) | (go_simp; omega)
 try simp only [pUt, pUn, sEt, sEz, sEs]
 refine tkn (i := 17) (v := .bool true) (fun W' hSW => ?_) ?_
 ·first | (go_simp; done) | exact rfl | (go_simp; rfl) | (go_simp; omega)
 try simp only [pUt, pUn, sEt, sEz, sEs]
 refine tkn (i := 18) (v := .pointer (some ⟨tb, 0, none⟩)) (fun W' hSW => ?_) ?_
 ·obtain ⟨z0, z1, z2, z3, z4, y0, y1, y2, y3, y4, t0, u0, d0, d1, d2⟩ := HZ.out W' hSW
  first | (go_simp; done) | exact rfl | (go_simp; rfl) | (go_simp; omega)
 try simp only [pUt, pUn, sEt, sEz, sEs]
 refine tkn (i := 19) (v := .int .i64 0) (fun W' hSW => ?_) ?_
 ·obtain ⟨z0, z1, z2, z3, z4, y0, y1, y2, y3, y4, t0, u0, d0, d1, d2⟩ := HZ.out W' hSW
  first | (go_simp; done) | exact rfl | (go_simp; rfl) | (go_simp; omega)
 try simp only [pUt, pUn, sEt, sEz, sEs]
 refine tkn (i := 20) (v := .bool true) (fun W' hSW => ?_) ?_
 ·first | (go_simp; done) | exact rfl | (go_simp; rfl) | (go_simp; omega)
 try simp only [pUt, pUn, sEt, sEz, sEs]
 refine tkn (i := 21) (v := .bool true) (fun W' hSW => ?_) ?_
 ·first | (go_simp; done) | exact rfl | (go_simp; rfl) | (go_simp; omega)
 try simp only [pUt, pUn, sEt, sEz, sEs]
 refine tkn (i := 22) (v := .bool true) (fun W' hSW => ?_) ?_
 ·first | (go_simp; done) | exact rfl | (go_simp; rfl) | (go_simp; omega)
 try simp only [pUt, pUn, sEt, sEz, sEs]
 refine tkn (i := 23) (v := .pointer (some ⟨ub, 0, none⟩)) (fun W' hSW => ?_) ?_
 ·obtain ⟨z0, z1, z2, z3, z4, y0, y1, y2, y3, y4, t0, u0, d0, d1, d2⟩ := HZ.out W' hSW
  first | (go_simp; done) | exact rfl | (go_simp; rfl) | (go_simp; omega)
 try simp only [pUt, pUn, sEt, sEz, sEs]
 refine tkn (i := 24) (v := .int .i64 4) (fun W' hSW => ?_) ?_
 ·obtain ⟨z0, z1, z2, z3, z4, y0, y1, y2, y3, y4, t0, u0, d0, d1, d2⟩ := HZ.out W' hSW
  first | (go_simp; done) | exact rfl | (go_simp; rfl) | (go_simp; omega)
 try simp only [pUt, pUn, sEt, sEz, sEs]
 refine tkn (i := 25) (v := .bool true) (fun W' hSW => ?_) ?_
 ·first | (go_simp; done) | exact rfl | (go_simp; rfl) | (go_simp; omega)
 try simp only [pUt, pUn, sEt, sEz, sEs]
 refine tkn (i := 26) (v := .bool true) (fun W' hSW => ?_) ?_
 ·first | (go_simp; done) | exact rfl | (go_simp; rfl) | (go_simp; omega)
 try simp only [pUt, pUn, sEt, sEz, sEs]
 refine tkn (i := 27) (v := .bool true) (fun W' hSW => ?_) ?_
 ·first | (go_simp; done) | exact rfl | (go_simp; rfl) | (go_simp; omega)
 try simp only [pUt, pUn, sEt, sEz, sEs]
 refine tkn (i := 28) (v := .slice sa 2 sc) (fun W' hSW => ?_) ?_
 ·first | (go_simp; done) | exact rfl | (go_simp; rfl) | (go_simp; omega)
 try simp only [pUt, pUn, sEt, sEz, sEs]
 refine tkn (i := 29) (v := .slice va 2 vc) (fun W' hSW => ?_) ?_
 ·first | (go_simp; done) | exact rfl | (go_simp; rfl) | (go_simp; omega)
 try simp only [pUt, pUn, sEt, sEz, sEs]
 refine take_call (i := 30) rfl (by kernel_rfl) (by kernel_rfl) (fun K hK => ?_)
 go_simp
 have HSM := Same_any sa va 2 2 sc vc [caB, caA] [caB, caA] WD rfl rfl (by omega) (by omega) (HS.out.later hHeld) (HV.out.later hHeld)
 rw [show decide (([caB, caA] : List Ev) = [caB, caA]) = true by decide] at HSM
 refine HSM.mono ?_
 clear HSM
 rintro e WD ⟨rfl, hfA⟩
 have FA := Lib.hid (hHeld.trans hfA)
 clear hfA
 go_wp2_with fail
 refine hK.out _ _ FA.out (fun hHeld => ?_)
 clear hK K
 try simp only [pUt, pUn, sEt, sEz, sEs]
 refine tkn (i := 31) (v := .bool true) (fun W' hSW => ?_) ?_
 ·first | (go_simp; done) | exact rfl | (go_simp; rfl) | (go_simp; omega)
 try simp only [pUt, pUn, sEt, sEz, sEs]
 refine tkn (i := 32) (v := .bool true) (fun W' hSW => ?_) ?_
 ·first | (go_simp; done) | exact rfl | (go_simp; rfl) | (go_simp; omega)
 try simp only [pUt, pUn, sEt, sEz, sEs]
 refine tkn (i := 33) (v := .slice pa 0 pc) (fun W' hSW => ?_) ?_
 ·first | (go_simp; done) | exact rfl | (go_simp; rfl) | (go_simp; omega)
 try simp only [pUt, pUn, sEt, sEz, sEs]
 refine tkn (i := 34) (v := .int .i64 0) (fun W' hSW => ?_) ?_
 ·first | (go_simp; done) | exact rfl | (go_simp; rfl) | (go_simp; omega)
 try simp only [pUt, pUn, sEt, sEz, sEs]
 refine tkn (i := 35) (v := .bool true) (fun W' hSW => ?_) ?_
 ·first | (go_simp; done) | exact rfl | (go_simp; rfl) | (go_simp; omega)
 try simp only [pUt, pUn, sEt, sEz, sEs]
 refine tkn (i := 36) (v := .bool true) (fun W' hSW => ?_) ?_
 ·first | (go_simp; done) | exact rfl | (go_simp; rfl) | (go_simp; omega)
 try simp only [pUt, pUn, sEt, sEz, sEs]
 refine tkn (i := 37) (v := .bool true) (fun W' hSW => ?_) ?_
 ·first | (go_simp; done) | exact rfl | (go_simp; rfl) | (go_simp; omega)
 try simp only [pUt, pUn, sEt, sEz, sEs]
 refine tkn (i := 38) (v := .int .i64 (-1)) (fun W' hSW => ?_) ?_
 ·first | (go_simp; done) | exact rfl | (go_simp; rfl) | (go_simp; omega)
 try simp only [pUt, pUn, sEt, sEz, sEs]
 refine tkn (i := 39) (v := .bool true) (fun W' hSW => ?_) ?_
 ·first | (go_simp; done) | exact rfl | (go_simp; rfl) | (go_simp; omega)
 try simp only [pUt, pUn, sEt, sEz, sEs]
 refine tkn (i := 40) (v := .bool true) (fun W' hSW => ?_) ?_
 ·first | (go_simp; done) | exact rfl | (go_simp; rfl) | (go_simp; omega)
 try simp only [pUt, pUn, sEt, sEz, sEs]
 refine tkn (i := 41) (v := .bool true) (fun W' hSW => ?_) ?_
 ·first | (go_simp; done) | exact rfl | (go_simp; rfl) | (go_simp; omega)
 try simp only [pUt, pUn, sEt, sEz, sEs]
 refine tkn (i := 42) (v := .slice (some ⟨g, o, none⟩) 3 uc) (fun W' hSW => ?_) ?_
 ·first | (go_simp; done) | exact rfl | (go_simp; rfl) | (go_simp; omega)
 try simp only [pUt, pUn, sEt, sEz, sEs]
 refine tkn (i := 43) (v := .int .i64 3) (fun W' hSW => ?_) ?_
 ·first | (go_simp; done) | exact rfl | (go_simp; rfl) | (go_simp; omega)
 try simp only [pUt, pUn, sEt, sEz, sEs]
 refine tkn (i := 44) (v := .bool true) (fun W' hSW => ?_) ?_
 ·first | (go_simp; done) | exact rfl | (go_simp; rfl) | (go_simp; omega)
 try simp only [pUt, pUn, sEt, sEz, sEs]
 refine tkn (i := 45) (v := .bool true) (fun W' hSW => ?_) ?_
 ·first | (go_simp; done) | exact rfl | (go_simp; rfl) | (go_simp; omega)
 try simp only [pUt, pUn, sEt, sEz, sEs]
 refine tkn (i := 46) (v := .bool true) (fun W' hSW => ?_) ?_
 ·first | (go_simp; done) | exact rfl | (go_simp; rfl) | (go_simp; omega)
 try simp only [pUt, pUn, sEt, sEz, sEs]
 refine tkn (i := 47) (v := .slice (some ⟨g, o, none⟩) 3 uc) (fun W' hSW => ?_) ?_
 ·first | (go_simp; done) | exact rfl | (go_simp; rfl) | (go_simp; omega)
 try simp only [pUt, pUn, sEt, sEz, sEs]
 refine tkn (i := 48) (v := .pointer (some ⟨g, o, none⟩)) (fun W' hSW => ?_) ?_
 ·first | (go_simp; done) | exact rfl | (go_simp; rfl) | (go_simp; omega)
 try simp only [pUt, pUn, sEt, sEz, sEs]
 refine tkn (i := 49) (v := .pointer (some ⟨g, o + 1, none⟩)) (fun W' hSW => ?_) ?_
 ·first | (go_simp; done) | exact rfl | (go_simp; rfl) | (go_simp; omega)
 try simp only [pUt, pUn, sEt, sEz, sEs]
 refine tkn (i := 50) (v := .slice a0 1 c0) (fun W' hSW => ?_) ?_
 ·obtain ⟨z0, z1, z2, z3, z4, y0, y1, y2, y3, y4, t0, u0, d0, d1, d2⟩ := HZ.out W' hSW
  first | (go_simp; done) | exact rfl | (go_simp; rfl) | (go_simp; omega)
 try simp only [pUt, pUn, sEt, sEz, sEs]
 refine tkn (i := 51) (v := .agg #[.int .i64 3, .int .i64 2, .int .i64 0, .int .i64 1, .int .i64 0]) (fun W' hSW => ?_) ?_
 ·obtain ⟨z0, z1, z2, z3, z4, y0, y1, y2, y3, y4, t0, u0, d0, d1, d2⟩ := HZ.out W' hSW
  first | (go_simp; done) | exact rfl | (go_simp; rfl) | (go_simp; omega)
 try simp only [pUt, pUn, sEt, sEz, sEs]
 refine take_call (i := 52) rfl (by kernel_rfl) (by kernel_rfl) (fun K hK => ?_)
 go_simp
 obtain ⟨nb, hnb⟩ : ∃ b, WD.heap.size = b := ⟨_, rfl⟩
 obtain ⟨W2, hW2⟩ : ∃ W2, WD.alloc (.cells #[.int .i64 3, .int .i64 2, .int .i64 0, .int .i64 1, .int .i64 0] 47) = W2 := ⟨_, rfl⟩
 have hn2 : W2.heap[nb]? = some (.cells #[.int .i64 3, .int .i64 2, .int .i64 0, .int .i64 1, .int .i64 0] 47 (0, 0)) := by rw [← hW2, ← hnb]; exact World.alloc_heap_new _ _
 have F2 := Lib.hid (hHeld.trans (show Fr0 none' WD W2 by rw [← hW2]; exact (Fr0.refl _ _).alloc _))
 rw [hW2]
 try rw [hnb]
 clear hW2 hnb
 refine hK.out _ _ F2.out (fun hHeld => ?_)
 clear hK K
 try simp only [pUt, pUn, sEt, sEz, sEs]
 refine take_call (i := 53) rfl (by kernel_rfl) (by kernel_rfl) (fun K hK => ?_)
 go_simp
 have HSM := Same_any a0 (some ⟨nb, 0, none⟩) 1 1 c0 1 [caB] [caB] W2 rfl rfl (by omega) (by omega) (HM0.out.later hHeld) (EsIn.of_cells (n := 1) hn2 (by simp [flatEv, cev, caB]))
 rw [show decide (([caB] : List Ev) = [caB]) = true by decide] at HSM
 refine HSM.mono ?_
 clear HSM
 rintro e WD ⟨rfl, hfA⟩
 have FA := Lib.hid (hHeld.trans hfA)
 clear hfA
 go_wp2_with fail
 refine hK.out _ _ FA.out (fun hHeld => ?_)
 clear hK K
 try simp only [pUt, pUn, sEt, sEz, sEs]
 refine tkn (i := 54) (v := .bool true) (fun W' hSW => ?_) ?_
 ·first | (go_simp; done) | exact rfl | (go_simp; rfl) | (go_simp; omega)
 try simp only [pUt, pUn, sEt, sEz, sEs]
 refine tkn (i := 55) (v := .bool true) (fun W' hSW => ?_) ?_
 ·first | (go_simp; done) | exact rfl | (go_simp; rfl) | (go_simp; omega)
 try simp only [pUt, pUn, sEt, sEz, sEs]
 refine tkn (i := 56) (v := .slice (some ⟨g, o, none⟩) 3 uc) (fun W' hSW => ?_) ?_
 ·first | (go_simp; done) | exact rfl | (go_simp; rfl) | (go_simp; omega)
 try simp only [pUt, pUn, sEt, sEz, sEs]
 refine tkn (i := 57) (v := .pointer (some ⟨g, o + 2, none⟩)) (fun W' hSW => ?_) ?_
 ·first | (go_simp; done) | exact rfl | (go_simp; rfl) | (go_simp; omega)
 try simp only [pUt, pUn, sEt, sEz, sEs]
 refine tkn (i := 58) (v := .pointer (some ⟨g, o + 2 + 1, none⟩)) (fun W' hSW => ?_) ?_
 ·first | (go_simp; done) | exact rfl | (go_simp; rfl) | (go_simp; omega)
 try simp only [pUt, pUn, sEt, sEz, sEs]
 refine tkn (i := 59) (v := .slice a1 1 c1) (fun W' hSW => ?_) ?_
 ·obtain ⟨z0, z1, z2, z3, z4, y0, y1, y2, y3, y4, t0, u0, d0, d1, d2⟩ := HZ.out W' hSW
  first | (go_simp; done) | exact rfl | (go_simp; rfl) | (go_simp; omega)
 try simp only [pUt, pUn, sEt, sEz, sEs]
 refine tkn (i := 60) (v := .agg #[.int .i64 5, .int .i64 1, .int .i64 0, .int .i64 1, .int .i64 0]) (fun W' hSW => ?_) ?_
 ·obtain ⟨z0, z1, z2, z3, z4, y0, y1, y2, y3, y4, t0, u0, d0, d1, d2⟩ := HZ.out W' hSW
  first | (go_simp; done) | exact rfl | (go_simp; rfl) | (go_simp; omega)
 try simp only [pUt, pUn, sEt, sEz, sEs]
 refine take_call (i := 61) rfl (by kernel_rfl) (by kernel_rfl) (fun K hK => ?_)
 go_simp
 obtain ⟨nb, hnb⟩ : ∃ b, WD.heap.size = b := ⟨_, rfl⟩
 obtain ⟨W2, hW2⟩ : ∃ W2, WD.alloc (.cells #[.int .i64 5, .int .i64 1, .int .i64 0, .int .i64 1, .int .i64 0] 47) = W2 := ⟨_, rfl⟩
 have hn2 : W2.heap[nb]? = some (.cells #[.int .i64 5, .int .i64 1, .int .i64 0, .int .i64 1, .int .i64 0] 47 (0, 0)) := by rw [← hW2, ← hnb]; exact World.alloc_heap_new _ _
 have F2 := Lib.hid (hHeld.trans (show Fr0 none' WD W2 by rw [← hW2]; exact (Fr0.refl _ _).alloc _))
 rw [hW2]
 try rw [hnb]
 clear hW2 hnb
 refine hK.out _ _ F2.out (fun hHeld => ?_)
 clear hK K
 try simp only [pUt, pUn, sEt, sEz, sEs]
 refine take_call (i := 62) rfl (by kernel_rfl) (by kernel_rfl) (fun K hK => ?_)
 go_simp
 have HSM := Same_any a1 (some ⟨nb, 0, none⟩) 1 1 c1 1 [caA] [caA] W2 rfl rfl (by omega) (by omega) (HM1.out.later hHeld) (EsIn.of_cells (n := 1) hn2 (by simp [flatEv, cev, caA]))
 rw [show decide (([caA] : List Ev) = [caA]) = true by decide] at HSM
 refine HSM.mono ?_
 clear HSM
 rintro e WD ⟨rfl, hfA⟩
 have FA := Lib.hid (hHeld.trans hfA)
 clear hfA
 go_wp2_with fail
 refine hK.out _ _ FA.out (fun hHeld => ?_)
 clear hK K
 try simp only [pUt, pUn, sEt, sEz, sEs]
 refine tkn (i := 63) (v := .bool true) (fun W' hSW => ?_) ?_
 ·first | (go_simp; done) | exact rfl | (go_simp; rfl) | (go_simp; omega)
 try simp only [pUt, pUn, sEt, sEz, sEs]
 refine tkn (i := 64) (v := .bool true) (fun W' hSW => ?_) ?_
 ·first | (go_simp; done) | exact rfl | (go_simp; rfl) | (go_simp; omega)
 try simp only [pUt, pUn, sEt, sEz, sEs]
 refine tkn (i := 65) (v := .slice (some ⟨g, o, none⟩) 3 uc) (fun W' hSW => ?_) ?_
 ·first | (go_simp; done) | exact rfl | (go_simp; rfl) | (go_simp; omega)
 try simp only [pUt, pUn, sEt, sEz, sEs]
 refine tkn (i := 66) (v := .pointer (some ⟨g, o + 4, none⟩)) (fun W' hSW => ?_) ?_
 ·first | (go_simp; done) | exact rfl | (go_simp; rfl) | (go_simp; omega)
 try simp only [pUt, pUn, sEt, sEz, sEs]
 refine tkn (i := 67) (v := .pointer (some ⟨g, o + 4, none⟩)) (fun W' hSW => ?_) ?_
 ·first | (go_simp; done) | exact rfl | (go_simp; rfl) | (go_simp; omega)
 try simp only [pUt, pUn, sEt, sEz, sEs]
 refine tkn (i := 68) (v := .int .i64 6) (fun W' hSW => ?_) ?_
 ·obtain ⟨z0, z1, z2, z3, z4, y0, y1, y2, y3, y4, t0, u0, d0, d1, d2⟩ := HZ.out W' hSW
  first | (go_simp; done) | exact rfl | (go_simp; rfl) | (go_simp; omega)
 try simp only [pUt, pUn, sEt, sEz, sEs]
 refine tkn (i := 69) (v := .bool true) (fun W' hSW => ?_) ?_
 ·first | (go_simp; done) | exact rfl | (go_simp; rfl) | (go_simp; omega)
 try simp only [pUt, pUn, sEt, sEz, sEs]
 refine tkn (i := 70) (v := .bool true) (fun W' hSW => ?_) ?_
 ·first | (go_simp; done) | exact rfl | (go_simp; rfl) | (go_simp; omega)
 try simp only [pUt, pUn, sEt, sEz, sEs]
 refine tkn (i := 71) (v := .bool true) (fun W' hSW => ?_) ?_
 ·first | (go_simp; done) | exact rfl | (go_simp; rfl) | (go_simp; omega)
 try simp only [pUt, pUn, sEt, sEz, sEs]
 refine tkn (i := 72) (v := .int .i64 1) (fun W' hSW => ?_) ?_
 ·first | (go_simp; done) | exact rfl | (go_simp; rfl) | (go_simp; omega)
 try simp only [pUt, pUn, sEt, sEz, sEs]
 refine tkn (i := 73) (v := .bool true) (fun W' hSW => ?_) ?_
 ·first | (go_simp; done) | exact rfl | (go_simp; rfl) | (go_simp; omega)
 try simp only [pUt, pUn, sEt, sEz, sEs]
 refine tkn (i := 74) (v := .bool true) (fun W' hSW => ?_) ?_
 ·first | (go_simp; done) | exact rfl | (go_simp; rfl) | (go_simp; omega)
 try simp only [pUt, pUn, sEt, sEz, sEs]
 refine tkn (i := 75) (v := .bool true) (fun W' hSW => ?_) ?_
 ·first | (go_simp; done) | exact rfl | (go_simp; rfl) | (go_simp; omega)
 try simp only [pUt, pUn, sEt, sEz, sEs]
 refine tkn (i := 76) (v := .slice ti 2 tc) (fun W' hSW => ?_) ?_
 ·first | (go_simp; done) | exact rfl | (go_simp; rfl) | (go_simp; omega)
 try simp only [pUt, pUn, sEt, sEz, sEs]
 refine take_call (i := 77) rfl (by kernel_rfl) (by kernel_rfl) (fun K hK => ?_)
 go_simp
 obtain ⟨nb, hnb⟩ : ∃ b, WD.heap.size = b := ⟨_, rfl⟩
 obtain ⟨W2, hW2⟩ : ∃ W2, WD.alloc (.cells #[.int .i64 3, .int .i64 5] 3) = W2 := ⟨_, rfl⟩
 have hn2 : W2.heap[nb]? = some (.cells #[.int .i64 3, .int .i64 5] 3 (0, 0)) := by rw [← hW2, ← hnb]; exact World.alloc_heap_new _ _
 have F2 := Lib.hid (hHeld.trans (show Fr0 none' WD W2 by rw [← hW2]; exact (Fr0.refl _ _).alloc _))
 rw [hW2]
 try rw [hnb]
 clear hW2 hnb
 refine hK.out _ _ F2.out (fun hHeld => ?_)
 clear hK K
 try simp only [pUt, pUn, sEt, sEz, sEs]
 have hii : IsIn W2 (some ⟨nb, 0, none⟩) [3, 5] := fun i x hx => by
  match i with
  | 0 =>
   obtain rfl : _ = x := by simpa using hx
   exact ⟨_, _, rfl, cells_in hn2 0⟩
  | 1 =>
   obtain rfl : _ = x := by simpa using hx
   exact ⟨_, _, rfl, cells_in hn2 1⟩
  | i + 2 => simp at hx
 refine take_call (i := 78) rfl (by kernel_rfl) (by kernel_rfl) (fun K hK => ?_)
 go_simp
 have HSM := sameIs_any ti (some ⟨nb, 0, none⟩) 2 2 tc 2 [3, 5] [3, 5] W2 rfl rfl (by omega) (by omega) (HTX.out.later hHeld) hii
 rw [show decide (([3, 5] : List Int) = [3, 5]) = true by decide] at HSM
 refine HSM.mono ?_
 clear HSM
 rintro e WD ⟨rfl, hfA⟩
 have FA := Lib.hid (hHeld.trans hfA)
 clear hfA
 go_wp2_with fail
 refine hK.out _ _ FA.out (fun hHeld => ?_)
 clear hK K
 try simp only [pUt, pUn, sEt, sEz, sEs]
 refine tkn (i := 79) (v := .bool true) (fun W' hSW => ?_) ?_
 ·first | (go_simp; done) | exact rfl | (go_simp; rfl) | (go_simp; omega)
 try simp only [pUt, pUn, sEt, sEz, sEs]
 refine tkn (i := 80) (v := .bool true) (fun W' hSW => ?_) ?_
 ·first | (go_simp; done) | exact rfl | (go_simp; rfl) | (go_simp; omega)
 try simp only [pUt, pUn, sEt, sEz, sEs]
 refine wpAnyH_done (by kernel_rfl) ?_ _
 have FE := Lib.hid (F.out.trans hHeld)
 clear hHeld
 go_wp2_with fail
 go_ret
 exact ⟨rfl, FE.out⟩
end Go.Proofs.Ytmbjfmlicffclaa

/-
  Acts of small numbers.
-/
namespace Go.Proofs.Ytmbjfmlicffclaa
open Go Go.RowKit
attribute [local go_sem ↓] Go.wp_at_zero Go.wp_at_succ
attribute [local go_sem] Oper.semAt_some wide_fn wide_depth wide_fnR wide_depthR

/-- An event in small numbers (layer 11). -/
structure Sm5 where
 t : Int
 s : Int
 q : Int
 o : Int
 l : Int
def Sm5.ok (x : Sm5) : Prop := (0 ≤ x.t ∧ x.t < 256) ∧ (0 ≤ x.s ∧ x.s < 256) ∧ (0 ≤ x.q ∧ x.q < 256) ∧ (0 ≤ x.o ∧ x.o < 256) ∧ (0 ≤ x.l ∧ x.l < 256)
/-- An act in small numbers. -/
structure Smc where
 kind : Int
 x : Sm5
def Smc.ok (x : Smc) : Prop := (0 ≤ x.kind ∧ x.kind < 256) ∧ x.x.ok
end Go.Proofs.Ytmbjfmlicffclaa

/-
  Acts.
-/
namespace Go.Proofs.Ytmbjfmlicffclaa
open Go Go.RowKit
attribute [local go_sem ↓] Go.wp_at_zero Go.wp_at_succ
attribute [local go_sem] Oper.semAt_some wide_fn wide_depth wide_fnR wide_depthR

def SmcsIn (w : World) (a : Option Addr) (L : List Smc) : Prop := ∀ j x, L[j]? = some x → x.ok ∧ ∃ g o, a = some ⟨g, o, none⟩ ∧ w.cell? ⟨g, o + j * 6, none⟩ = some (.int .u8 x.kind) ∧ w.cell? ⟨g, o + j * 6 + 1, none⟩ = some (.int .u8 x.x.t) ∧ w.cell? ⟨g, o + j * 6 + 2, none⟩ = some (.int .u8 x.x.s) ∧ w.cell? ⟨g, o + j * 6 + 3, none⟩ = some (.int .u8 x.x.q) ∧ w.cell? ⟨g, o + j * 6 + 4, none⟩ = some (.int .u8 x.x.o) ∧ w.cell? ⟨g, o + j * 6 + 5, none⟩ = some (.int .u8 x.x.l)
theorem SmcsIn.later {w w' : World} {a : Option Addr} {L : List Smc} (h : SmcsIn w a L) (hf : Fr0 none' w w') : SmcsIn w' a L := by
 intro j x hj
 obtain ⟨h1, g, o, h2, c0, c1, c2, c3, c4, c5⟩ := h j x hj
 exact ⟨h1, g, o, h2, hf.later c0, hf.later c1, hf.later c2, hf.later c3, hf.later c4, hf.later c5⟩
def flatCa (L : List Ca) : List Value := L.flatMap fun a => [.int .u8 a.kind, .int .i64 a.x.key.time, .int .i64 a.x.key.source, .int .i64 a.x.key.seq, .int .i64 a.x.to, .int .i64 a.x.value, .int .i64 a.time]
theorem flatCa_snoc (L : List Ca) (a : Ca) : flatCa (L ++ [a]) = flatCa L ++ [.int .u8 a.kind, .int .i64 a.x.key.time, .int .i64 a.x.key.source, .int .i64 a.x.key.seq, .int .i64 a.x.to, .int .i64 a.x.value, .int .i64 a.time] := by simp [flatCa]
theorem info_act0 : (Try.prog.info? 49).map (fun i => (i.zero, i.size, i.bytes)) = some (some (.agg #[.int .u8 0, .int .i64 0, .int .i64 0, .int .i64 0, .int .i64 0, .int .i64 0, .int .i64 0]), 7, 56) := by kernel_rfl
end Go.Proofs.Ytmbjfmlicffclaa

/-
  alike: what acts told, compared.
-/
namespace Go.Proofs.Ytmbjfmlicffclaa
open Go Go.RowKit
attribute [local go_sem ↓] Go.wp_at_zero Go.wp_at_succ
attribute [local go_sem] Oper.semAt_some wide_fn wide_depth wide_fnR wide_depthR

theorem tl_eq (x y : Td) : decide (x.tl = y.tl) = ((x.err == y.err) && decide (x.evs = y.evs)) := by
 unfold Td.tl
 rw [Bool.eq_iff_iff]
 simp
/-- What was told, its events in memory. -/
def TdEv (w : World) (xs : List Td) : Prop := ∀ x ∈ xs, EsIn w x.sa x.evs ∧ x.evs.length = x.sn ∧ x.sn ≤ 10000
theorem TdEv.later {w w' : World} {xs : List Td} (h : TdEv w xs) (hf : Fr0 none' w w') : TdEv w' xs := fun x hx => ⟨(h x hx).1.later hf, (h x hx).2⟩
end Go.Proofs.Ytmbjfmlicffclaa

/-
  A row of acts, read.
-/
namespace Go.Proofs.Ytmbjfmlicffclaa
open Go Go.RowKit

def caL (a : Ca) : List Value := [.int .u8 a.kind, .int .i64 a.x.key.time, .int .i64 a.x.key.source, .int .i64 a.x.key.seq, .int .i64 a.x.to, .int .i64 a.x.value, .int .i64 a.time]
theorem caL_len : ∀ a : Ca, (caL a).length = 7 := fun _ => rfl
theorem flatCa_length (L : List Ca) : (flatCa L).length = L.length * 7 := by
 induction L with
 | nil => rfl
 | cons x r ih =>
  have e : flatCa (x :: r) = caL x ++ flatCa r := rfl
  rw [e, List.length_append, ih, caL_len, List.length_cons]; omega
theorem CasIn.of_flat {w : World} {g o : Nat} {L : List Ca} (h : ∀ j u, (flatCa L)[j]? = some u → w.cell? ⟨g, o + j, none⟩ = some u) : CasIn w (some ⟨g, o, none⟩) L := fun i x hx => by
 refine ⟨g, o, rfl, ?_, ?_, ?_, ?_, ?_, ?_, ?_⟩
 ·exact h (i * 7) _ (flat_some caL_len hx (j := 0) (by omega) rfl)
 ·rw [Nat.add_assoc]; exact h (i * 7 + 1) _ (flat_some caL_len hx (j := 1) (by omega) rfl)
 ·rw [Nat.add_assoc]; exact h (i * 7 + 2) _ (flat_some caL_len hx (j := 2) (by omega) rfl)
 ·rw [Nat.add_assoc]; exact h (i * 7 + 3) _ (flat_some caL_len hx (j := 3) (by omega) rfl)
 ·rw [Nat.add_assoc]; exact h (i * 7 + 4) _ (flat_some caL_len hx (j := 4) (by omega) rfl)
 ·rw [Nat.add_assoc]; exact h (i * 7 + 5) _ (flat_some caL_len hx (j := 5) (by omega) rfl)
 ·rw [Nat.add_assoc]; exact h (i * 7 + 6) _ (flat_some caL_len hx (j := 6) (by omega) rfl)
theorem CasIn.of_own {w : World} {base : Nat} {v : Value} {n : Nat} {L : List Ca} (h : w.ownsRow base 49 7 v n (flatCa L)) : ∃ a cap, v = .slice a n cap ∧ L.length = n ∧ n ≤ cap ∧ CasIn w a L := by
 have hl : L.length = n := by have := h.1; rw [flatCa_length] at this; omega
 rcases h.2 with ⟨rfl, h0⟩ | ⟨g, cap, cur, rfl, hb, hg, hn', hcm, hs, ht⟩
 ·have : L = [] := List.eq_nil_of_length_eq_zero (by omega)
  subst this
  exact ⟨none, 0, by rw [h0], hl, by omega, fun i x h => by simp at h⟩
 ·exact ⟨_, cap, rfl, hl, hn', CasIn.of_flat (fun j u hj => by
   rw [Nat.zero_add, cells_in hg, ← Array.getElem?_toList]
   rw [← ht, List.getElem?_take] at hj
   split at hj
   ·exact hj
   ·cases hj)⟩
theorem CasIn.take {w : World} {a : Option Addr} {L : List Ca} (h : CasIn w a L) (i : Nat) : CasIn w a (L.take i) := fun j x hx => by
 rw [List.getElem?_take] at hx
 split at hx
 ·exact h j x hx
 ·cases hx
theorem CasIn.drop {w : World} {g o : Nat} {L : List Ca} (h : CasIn w (some ⟨g, o, none⟩) L) (i : Nat) : CasIn w (some ⟨g, o + i * 7, none⟩) (L.drop i) := fun j x hx => by
 rw [List.getElem?_drop] at hx
 obtain ⟨g', o', e, hc⟩ := h (i + j) x hx
 injection e with e
 injection e with e1 e2
 subst e1 e2
 refine ⟨g, o + i * 7, rfl, ?_⟩
 rw [show o + i * 7 + j * 7 = o + (i + j) * 7 by omega]
 exact hc
end Go.Proofs.Ytmbjfmlicffclaa

/-
  The reference of layer 12: act, acts for the reference.
-/
namespace Go.Proofs.Ytmbjfmlicffclaa
open Go Go.RowKit
attribute [local go_sem ↓] Go.wp_at_zero Go.wp_at_succ
attribute [local go_sem] Oper.semAt_some wide_fn wide_depth wide_fnR wide_depthR

theorem ract_any {w : World} {a : Option Addr} {m cap n : Nat} (E : List Ev) (h : EsIn w a E) (hl : E.length = m) (hm : m ≤ 1000) (hc : m ≤ cap) (hn : m ≤ n) (hn' : n ≤ 256) (ho : OnceE E) (x : Ca) (hk : 1 ≤ x.kind ∧ x.kind ≤ 5) :
  Calls Try.prog 76 #[.agg #[.int .i64 n, .slice a m cap], actCV x] w (ActP w a n E x) := by
 obtain ⟨k, y, t⟩ := x
 have h5 : k = 1 ∨ k = 2 ∨ k = 3 ∨ k = 4 ∨ k = 5 := by have := hk.1; have := hk.2; simp only at *; omega
 clear hk
 unfold ActP
 rcases h5 with rfl | rfl | rfl | rfl | rfl
 ·exact ract1_any E h hl hm hc hn hn' y t
 ·cases E with
  | nil => exact ract2n_any [] rfl (by rw [← hl]; rfl) y t
  | cons z r => exact ract2_any z r h (by simpa using hl) hm hc y t
 ·exact ract3_any E h hl hm y t
 ·rcases at_find y.name E with ⟨h1, h2⟩ | ⟨i, z, h1, hx, h2, hn, _⟩
  ·have hd : doC n E ⟨4, y, t⟩ = (E, ⟨6, []⟩) := by
    show cancelC y.name E = _
    unfold cancelC
    rw [h2]
   rw [hd]
   exact ract4n_any E h hl hm hc y t h2
  ·have hd : doC n E ⟨4, y, t⟩ = (E.take i ++ E.drop (i + 1), ⟨0, [z]⟩) := by
    show cancelC y.name E = _
    unfold cancelC
    rw [h2, ← delE_some ho hx, hn]
   rw [hd]
   exact ract4_any E h hl hm hc y t z h1 hx
 ·exact ract5_any E h hl y t
theorem info_ract : (Try.prog.info? 140).map (fun i => (i.zero, i.size, i.bytes)) = some (some (.agg #[.int .u8 0, .int .i64 0, .int .i64 0, .int .i64 0, .int .i64 0, .int .i64 0, .int .i64 0]), 7, 56) := by kernel_rfl
theorem info_rtold : (Try.prog.info? 137).map (fun i => (i.zero, i.size, i.bytes)) = some (some (.agg #[.int .i64 0, .slice none 0 0]), 2, 32) := by kernel_rfl
theorem stepTh {L : List Ca} {k : Nat} {x : Ca} (h : L[k]? = some x) : flatCa (L.take (k + 1)) = flatCa (L.take k) ++ [.int .u8 x.kind, .int .i64 x.x.key.time, .int .i64 x.x.key.source, .int .i64 x.x.key.seq, .int .i64 x.x.to, .int .i64 x.x.value, .int .i64 x.time] := by
 rw [List.take_add_one, h, Option.toList_some, flatCa_snoc]
theorem flatCa_ownR {w : World} {base : Nat} {v : Value} {n : Nat} {L : List Ca} (h : w.ownsRow base 140 7 v n (flatCa L)) : ∃ a cap, v = .slice a n cap ∧ L.length = n ∧ n ≤ cap ∧ CasIn w a L := by
 have hl : L.length = n := by have := h.1; rw [flatCa_length] at this; omega
 rcases h.2 with ⟨rfl, h0⟩ | ⟨g, cap, cur, rfl, hb, hg, hn', hcm, hs, ht⟩
 ·have : L = [] := List.eq_nil_of_length_eq_zero (by omega)
  subst this
  exact ⟨none, 0, by rw [h0], hl, by omega, fun i x h => by simp at h⟩
 ·exact ⟨_, cap, rfl, hl, hn', CasIn.of_flat (fun j u hj => by
   rw [Nat.zero_add, cells_in hg, ← Array.getElem?_toList]
   rw [← ht, List.getElem?_take] at hj
   split at hj
   ·exact hj
   ·cases hj)⟩
set_option maxRecDepth 100000 in
set_option maxHeartbeats 2000000 in
theorem theirs_any {w : World} {a : Option Addr} {n cap : Nat} (L : List Ca) (h : CasIn w a L) (hl : L.length = n) (hn : n ≤ 10000) :
  Calls Try.prog 46 #[.slice a n cap] w fun e w' => ∃ v, e = .returned v ∧ w'.ownsRow w.heap.size 140 7 v n (flatCa L) ∧ Fr0 none' w w' := by
 obtain ⟨i0, hi, hz0, hz1, hz2⟩ := info_parts info_ract
 have H := Lib.hid h
 have Hl := Lib.hid hl
 obtain ⟨N, hN⟩ : ∃ N, w.heap.size = N := ⟨_, rfl⟩
 have HN := Lib.hid hN
 rw [hN]
 clear h hl hN
 go_enter Try.func46, Try.ntmps46
 go_wp2_with fail
 go_loopw [3, 8] (fun out i wr => ∃ k : Nat, k ≤ n ∧ i = .int .i64 k ∧ Hid (wr.ownsRow N 140 7 out k (flatCa (L.take k))) ∧ Hid (Fr0 none' w wr)) (fun _ i _ => n - (Go.RowKit.intOf i).toNat)
 case atStart => exact ⟨0, Nat.zero_le _, rfl, World.ownsRow_nil _ _ _ _, Fr0.refl _ _⟩
 case round =>
  obtain ⟨k, hk, rfl, hown, hfr⟩ := hrel
  by_cases hlt : k < n
  ·obtain ⟨x, hx⟩ : ∃ x, L[k]? = some x := ⟨_, List.getElem?_eq_getElem (by rw [Hl.out]; exact hlt)⟩
   obtain ⟨g, o, rfl, hxc⟩ := (H.out.later hfr.out) k x hx
   obtain ⟨x0, x1, x2, x3, x4, x5, x6⟩ := hxc
   have k1 : (0 : Int) ≤ (k : Int) := by omega
   have k2 : (k : Int) < (n : Int) := by omega
   have hsrc := Src.newRow (P := Try.prog) (size := 7) (tx := 99) (ty := 140) (wr.alloc (.cells #[.int .u8 x.kind, .int .i64 x.x.key.time, .int .i64 x.x.key.source, .int .i64 x.x.key.seq, .int .i64 x.x.to, .int .i64 x.x.value, .int .i64 x.time] 49)) Try.underlying99 1 1 [.int .u8 x.kind, .int .i64 x.x.key.time, .int .i64 x.x.key.source, .int .i64 x.x.key.seq, .int .i64 x.x.to, .int .i64 x.x.value, .int .i64 x.time] rfl (by simp [Value.oneCell'])
   rw [World.size_alloc] at hsrc
   have hNr : N ≤ wr.heap.size := by rw [← HN.out]; exact hfr.out.size
   have Hst := Lib.hid (stepTh hx)
   have Hown2 := Lib.hid ((hown.out.alloc (.cells #[.int .u8 x.kind, .int .i64 x.x.key.time, .int .i64 x.x.key.source, .int .i64 x.x.key.seq, .int .i64 x.x.to, .int .i64 x.x.value, .int .i64 x.time] 49)).alloc (.cells [Value.int .u8 x.kind, .int .i64 x.x.key.time, .int .i64 x.x.key.source, .int .i64 x.x.key.seq, .int .i64 x.x.to, .int .i64 x.x.value, .int .i64 x.time].toArray 140))
   have Fr2 := Lib.hid ((hfr.out.alloc (.cells #[.int .u8 x.kind, .int .i64 x.x.key.time, .int .i64 x.x.key.source, .int .i64 x.x.key.seq, .int .i64 x.x.to, .int .i64 x.x.value, .int .i64 x.time] 49)).alloc (.cells [Value.int .u8 x.kind, .int .i64 x.x.key.time, .int .i64 x.x.key.source, .int .i64 x.x.key.seq, .int .i64 x.x.to, .int .i64 x.x.value, .int .i64 x.time].toArray 140))
   have Hsrc := Lib.hid hsrc
   obtain ⟨va, vc, rfl⟩ : ∃ va vc, u3 = .slice va k vc := by
    rcases hown.out.2 with ⟨rfl, h0⟩ | ⟨g, cap, cur, rfl, _⟩
    ·exact ⟨none, 0, by rw [h0]⟩
    ·exact ⟨_, cap, rfl⟩
   clear hx hsrc hown hfr
   go_wp2_with (at_builtin; refine wpList_append_k rfl _ _ 99 99 rfl N 140 i0 (.agg #[.int .u8 0, .int .i64 0, .int .i64 0, .int .i64 0, .int .i64 0, .int .i64 0, .int .i64 0]) 7 56 Try.underlying99 hi hz0 hz1 hz2 rfl (by decide) _ k _ rfl Hown2.out (.slice (some ⟨wr.heap.size + 1, 0, none⟩) 1 1) 1 _ rfl Hsrc.out (by unfold maxLen; omega) (by omega) (by simp; omega) ?_; intro v' w2 hown' hgrow hdr hob)
   have Hfin := Lib.hid (Fr2.out.grown hgrow (fun j hj hl => by
    have h1 := (Hown2.out.lt j hj).1
    rw [HN.out] at hl; omega))
   rw [← Hst.out] at hown'
   have Hown' := Lib.hid hown'
   obtain ⟨g', cap', rfl⟩ := ownsRow_k_succ hown'
   clear hgrow hdr hob hown'
   go_wp2
   go_roundw
   case rel => exact ⟨k + 1, by omega, by go_num, Hown', Hfin⟩
   case measure => simp [Go.RowKit.intOf]; omega
  ·have hkm : k = n := by omega
   subst hkm
   have hfin : wr.ownsRow N 140 7 u3 k (flatCa L) := by
    have h1 := hown.out
    rw [List.take_of_length_le (by rw [Hl.out]; exact Nat.le_refl _)] at h1
    exact h1
   have Hf := Lib.hid hfin
   clear hown hfin
   go_wp2_with fail
   go_ret
   exact ⟨_, rfl, Hf.out, hfr.out⟩
end Go.Proofs.Ytmbjfmlicffclaa

/-
  The reference of layer 12: Play.
-/
namespace Go.Proofs.Ytmbjfmlicffclaa
open Go Go.RowKit
attribute [local go_sem ↓] Go.wp_at_zero Go.wp_at_succ
attribute [local go_sem] Oper.semAt_some wide_fn wide_depth wide_fnR wide_depthR

/-- What was told, its events in memory, in an old row's block or behind N. -/
def RTds (w : World) (a : Option Addr) (N : Nat) (L : List Ev) (ys : List Td) : Prop := ∀ y ∈ ys, EsIn w y.sa y.evs ∧ y.sn = y.evs.length ∧ FromE a y.sa N w.heap.size L y.evs
theorem RTds.later {w w' : World} {a : Option Addr} {N : Nat} {L : List Ev} {ys : List Td} (h : RTds w a N L ys) (hf : Fr0 none' w w') : RTds w' a N L ys := fun y hy => ⟨(h y hy).1.later hf, (h y hy).2.1, (h y hy).2.2.mono (Nat.le_refl _) hf.size⟩
theorem RTds.nil (w : World) (a : Option Addr) (N : Nat) (L : List Ev) : RTds w a N L [] := fun y hy => by simp at hy
/-- The end of the reference's Play. -/
def EndRP (L : List Ev) (c : Int) (A : List Ca) (a : Option Addr) (w : World) (e : Ending) (w' : World) : Prop :=
 ∃ va vc u ys, e = .returned (.tuple #[.slice va (playC L c A).1.length vc, u, .int .i64 (playC L c A).2.2.1, .int .i64 (playC L c A).2.2.2]) ∧ EsIn w' va (playC L c A).1 ∧ FromE a va w.heap.size w'.heap.size L (playC L c A).1 ∧ w'.ownsRow w.heap.size 137 2 u (playC L c A).2.1.length (flatTd ys) ∧ ys.map Td.tl = (playC L c A).2.1 ∧ RTds w' a w.heap.size L ys ∧ Fr0 none' w w'
theorem EndRP.none {L : List Ev} {c : Int} {A : List Ca} {a : Option Addr} {w w' : World} {i f : Int} {e : Ending} (he : e = .returned (.tuple #[.slice none 0 0, .slice none 0 0, .int .i64 i, .int .i64 f])) (h : playC L c A = ([], [], i, f)) (hf : Fr0 none' w w') : EndRP L c A a w e w' := by
 unfold EndRP
 rw [h]
 exact ⟨Option.none, 0, _, [], he, fun i x hx => by simp at hx, FromE.nil _ _ _ _ _, World.ownsRow_nil _ _ _ _, rfl, RTds.nil _ _ _ _, hf⟩
/-- A row of events that is not in the row of what was told. -/
def OffRow (out : Value) (b : Option Addr) (F : List Ev) : Prop := ∀ g o s, b = some ⟨g, o, s⟩ → F ≠ [] → out.ownBlock ≠ some g
/-- Where the reference's Play stands. -/
structure RPl (w wr : World) (a : Option Addr) (n SB : Nat) (L E : List Ev) (va : Option Addr) (vc : Nat) (out : Value) (k : Nat) (ys : List Td) : Prop where
 bx : wr.heap[SB]? = some (.cells #[.int .i64 n, .slice va E.length vc] 135 (0, 0))
 cap : E.length ≤ vc
 es : EsIn wr va E
 fr : FromE a va (SB + 1) wr.heap.size L E
 row : wr.ownsRow (SB + 1) 137 2 out k (flatTd ys)
 tds : RTds wr a (SB + 1) L ys
 oe : OffRow out va E
 oy : ∀ y ∈ ys, OffRow out y.sa y.evs
 f : Fr0 none' w wr
theorem RPl.step {w wr W1 w3 W4 W5 w6 : World} {a va va' ya : Option Addr} {n SB vc vc' yc k : Nat} {L E E' evs : List Ev} {out out' : Value} {ys : List Td} {err : Int} (h : RPl w wr a n SB L E va vc out k ys) (hla : ∀ g o s, a = some ⟨g, o, s⟩ → L ≠ [] → g < w.heap.size) (hsb : w.heap.size ≤ SB)
  (f1 : Fr0 none' wr W1) (hs1 : W1.heap.size = wr.heap.size + 1) (f3 : Fr0 none' W1 w3) (hc' : E'.length ≤ vc') (he : EsIn w3 va' E') (hy : EsIn w3 ya evs) (fv : FromE va va' W1.heap.size w3.heap.size E E') (fy : FromE va ya W1.heap.size w3.heap.size E evs)
  (f4 : Fr0 (fun g => g = SB ∨ g = wr.heap.size) w3 W4) (b4 : W4.heap[SB]? = some (.cells #[.int .i64 n, .slice va' E'.length vc'] 135 (0, 0))) (f5 : Fr0 none' W4 W5)
  (f6 : Fr0 (fun g => out.ownBlock = some g) W5 w6) (row6 : w6.ownsRow (SB + 1) 137 2 out' (k + 1) (flatTd (ys ++ [⟨err, ya, evs.length, yc, evs⟩]))) (ob : ∀ g, out'.ownBlock = some g → out.ownBlock = some g ∨ W5.heap.size ≤ g) :
  RPl w w6 a n SB L E' va' vc' out' (k + 1) (ys ++ [⟨err, ya, evs.length, yc, evs⟩]) := by
 have hsz : SB < wr.heap.size := (Array.getElem?_eq_some_iff.1 h.bx).1
 have s3 := f3.size
 have s4 := f4.size
 have s5 := f5.size
 have s6 := f6.size
 have hw := h.f.size
 have hout : ∀ g, out.ownBlock = some g → SB + 1 ≤ g ∧ g < wr.heap.size := fun g hg => h.row.lt g hg
 have old : ∀ b F, FromE a b (SB + 1) wr.heap.size L F → ∀ g o s, b = some ⟨g, o, s⟩ → F ≠ [] → g ≠ SB ∧ g < wr.heap.size := fun b F hf g o s e h0 => by
  rcases hf g o s e h0 with ⟨⟨o', s', e'⟩, h1⟩ | h1
  ·have := hla g o' s' e' h1; omega
  ·omega
 have key : ∀ b F, FromE va b W1.heap.size w3.heap.size E F → ∀ g o s, b = some ⟨g, o, s⟩ → F ≠ [] → (g ≠ SB ∧ g ≠ wr.heap.size ∧ g < w3.heap.size) ∧ out.ownBlock ≠ some g := fun b F hf g o s e h0 => by
  rcases hf g o s e h0 with ⟨⟨o', s', e'⟩, h1⟩ | h1
  ·have := old va E h.fr g o' s' e' h1
   exact ⟨by omega, h.oe g o' s' e' h1⟩
  ·exact ⟨by omega, fun hg => by have := hout g hg; omega⟩
 have far : ∀ b F, EsIn w3 b F → FromE va b W1.heap.size w3.heap.size E F → EsIn w6 b F := fun b F hb hf => by
  have h4 := hb.off f4 (fun g o s e h0 hk => by have := (key b F hf g o s e h0).1; omega)
  exact (h4.later f5).off f6 (fun g o s e h0 hk => (key b F hf g o s e h0).2 hk)
 have from' : ∀ b F, FromE va b W1.heap.size w3.heap.size E F → FromE a b (SB + 1) w6.heap.size L F := fun b F hf => (h.fr.trans hf (by omega) (by omega)).mono (Nat.le_refl _) (by omega)
 have offn : ∀ b F, FromE va b W1.heap.size w3.heap.size E F → OffRow out' b F := fun b F hf g o s e h0 hg => by
  have hk := key b F hf g o s e h0
  rcases ob g hg with h1 | h1
  ·exact hk.2 h1
  ·omega
 have f13 : Fr0 none' wr w3 := f1.trans f3
 have hbn : out.ownBlock ≠ some SB := fun hg => by have := hout SB hg; omega
 refine ⟨?_, hc', far va' E' he fv, from' va' E' fv, row6, fun y hy' => ?_, offn va' E' fv, fun y hy' => ?_, ?_⟩
 ·have b5 := (f5.block SB (Array.getElem?_eq_some_iff.1 b4).1 id).trans b4
  exact (f6.block SB (Array.getElem?_eq_some_iff.1 b5).1 hbn).trans b5
 ·rcases List.mem_append.1 hy' with hy' | hy'
  ·obtain ⟨t1, t2, t3⟩ := h.tds y hy'
   have t4 := (t1.later f13).off f4 (fun g o s e h0 hk => by have := old y.sa y.evs t3 g o s e h0; omega)
   exact ⟨(t4.later f5).off f6 (fun g o s e h0 hk => h.oy y hy' g o s e h0 hk), t2, t3.mono (Nat.le_refl _) (by omega)⟩
  ·obtain rfl := List.mem_singleton.1 hy'
   exact ⟨far ya evs hy fy, rfl, from' ya evs fy⟩
 ·rcases List.mem_append.1 hy' with hy' | hy'
  ·intro g o s e h0 hg
   rcases ob g hg with h1 | h1
   ·exact h.oy y hy' g o s e h0 h1
   ·have := old y.sa y.evs (h.tds y hy').2.2 g o s e h0; omega
  ·obtain rfl := List.mem_singleton.1 hy'
   exact offn ya evs fy
 ·exact (((h.f.trans f13).trans' f4 (fun g hg hk => by exfalso; rcases hk with rfl | rfl <;> omega)).trans f5).trans' f6 (fun g hg hk => by exfalso; have := hout g hk; omega)
set_option maxRecDepth 100000 in
set_option maxHeartbeats 4000000 in
theorem rPlay_any {w : World} {a aa : Option Addr} {n cap m ca : Nat} {c : Int} (L : List Ev) (A : List Ca) (h : EsIn w a L) (hl : L.length = n) (hn : n ≤ 1000) (hcap : n ≤ cap) (hA : CasIn w aa A) (hAl : A.length = m) (hm : m ≤ 100000) :
  Calls Try.prog 45 #[.slice a n cap, .int .i64 c, .slice aa m ca] w (EndRP L c A a w) := by
 obtain ⟨i0, hi, hz0, hz1, hz2⟩ := info_parts info_rtold
 have HR := Lib.hid (rRight12_any (c := c) L h hl (by omega) hcap)
 have HO := Lib.hid (fun (W : World) (hW : Fr0 none' w W) => rOdd_any (cap := ca) A (hA.later hW) hAl hm)
 have HL := Lib.hid h
 have HA := Lib.hid hA
 have Hl := Lib.hid hl
 have HAl := Lib.hid hAl
 clear h hl hA hAl
 go_enter Try.func45, Try.ntmps45
 go_wp2_with fail
 refine HR.out.mono ?_
 rintro e w1 ⟨b, rfl, hb, hf1⟩
 have F1 := Lib.hid hf1
 have HO1 := Lib.hid (HO.out _ hf1)
 clear HO hf1 HR
 cases b with
 | false =>
  have Hp := Lib.hid (playC_wrong (A := A) (fun h => by simpa using hb.2 h))
  clear hb HO1
  go_wp2_with fail
  try simp only [Exit.inBlock, Exit.then]
  refine bodyPost_ret (results_tmp4 rfl _ _ _) rfl ?_
  exact EndRP.none rfl Hp.out F1.out
 | true =>
  have Hrc := Lib.hid (hb.1 rfl)
  clear hb
  obtain ⟨R, hR⟩ : ∃ R, oddC A = R := ⟨_, rfl⟩
  rw [hR] at HO1
  have hR1 : -1 ≤ R := by rw [← hR]; exact oddC_ge A
  by_cases h0 : 0 ≤ R
  ·have Hp := Lib.hid (playC_odd Hrc.out (by rw [hR]; exact h0))
   rw [hR] at Hp
   have d1 : decide (R ≥ 0) = true := decide_eq_true h0
   have d2 : decide (0 ≤ R) = true := decide_eq_true h0
   clear hR h0
   go_wp2_with fail
   refine HO1.out.mono ?_
   rintro e w2 ⟨rfl, hf⟩
   have F2 := Lib.hid (F1.out.trans hf)
   clear hf
   go_wp2_with fail
   try simp only [Exit.inBlock, Exit.then]
   refine bodyPost_ret (results_tmp4 rfl _ _ _) rfl ?_
   exact EndRP.none rfl Hp.out F2.out
  ·have Hp := Lib.hid (playC_right Hrc.out (by rw [hR]; exact h0))
   have HK1 := Lib.hid (oddC_neg (by rw [hR]; exact h0))
   have hc0 : 0 ≤ c ∧ c ≤ 256 := Hrc.out.1
   obtain ⟨N, rfl⟩ : ∃ N : Nat, c = (N : Int) := ⟨c.toNat, by omega⟩
   have hN : N ≤ 256 := by omega
   obtain rfl : R = -1 := by omega
   rw [Int.toNat_natCast] at Hp
   clear hR h0 hR1 hc0
   go_wp2_with fail
   refine HO1.out.mono ?_
   rintro e w2 ⟨rfl, hf⟩
   have F2 := Lib.hid (F1.out.trans hf)
   clear hf
   have hla : ∀ g o s, a = some ⟨g, o, s⟩ → L ≠ [] → g < w.heap.size := fun g o s e h0 => HL.out.ltC h0 g o s e
   have HLa := Lib.hid hla
   obtain ⟨SB, hSB⟩ : ∃ B, w2.heap.size = B := ⟨_, rfl⟩
   have hsb : w.heap.size ≤ SB := by rw [← hSB]; exact F2.out.size
   have Hsb := Lib.hid hsb
   obtain ⟨W0, hW0⟩ : ∃ W, w2.alloc (.cells #[.int .i64 N, .slice a n cap] 135) = W := ⟨_, rfl⟩
   have f0 : Fr0 none' w2 W0 := by rw [← hW0]; exact (Fr0.refl _ _).alloc _
   have HP0 := Lib.hid (show RPl w W0 a N SB L (stC N L (A.take 0)) a cap (.slice none 0 0) 0 [] from
    ⟨by rw [← hW0, ← hSB]; show (w2.alloc _).heap[w2.heap.size]? = some (.cells #[.int .i64 N, .slice a L.length cap] _ _); rw [Hl.out]; exact World.alloc_heap_new _ _, by show L.length ≤ cap; rw [Hl.out]; exact hcap, HL.out.later (F2.out.trans f0), FromE.self _ _ _ _, World.ownsRow_nil _ _ _ _, RTds.nil _ _ _ _, (fun g o s e h0 hg => by cases hg), (fun y hy => by simp at hy), F2.out.trans f0⟩)
   clear f0 hla hsb
   go_wp2_with fail
   clear hW0 hSB
   go_loopw [12, 13] (fun out i wr => ∃ (k : Nat) (va : Option Addr) (vc : Nat) (ys : List Td), k ≤ m ∧ i = .int .i64 k ∧ Hid (RPl w wr a N SB L (stC N L (A.take k)) va vc out k ys) ∧ Hid (ys.map Td.tl = tlC N L (A.take k))) (fun _ i _ => m - (Go.RowKit.intOf i).toNat)
   case atStart => exact ⟨0, a, cap, [], Nat.zero_le _, rfl, HP0, by unfold Hid; rfl⟩
   case round =>
    obtain ⟨k, va, vc, ys, hk, rfl, hrp, htl⟩ := hrel
    by_cases hlt : k < m
    ·obtain ⟨x, hx⟩ : ∃ x, A[k]? = some x := ⟨_, List.getElem?_eq_getElem (by rw [HAl.out]; exact hlt)⟩
     have Hst := Lib.hid (stC_snoc (n := N) (E := L) hx)
     have Htl := Lib.hid (tlC_snoc (n := N) (E := L) hx)
     have Hkx := Lib.hid (HK1.out x (List.mem_of_getElem? hx))
     have hgE : GoodE N (stC N L (A.take k)) := GoodE.acts _ Hrc.out.good
     obtain ⟨E, hE⟩ : ∃ E, stC N L (A.take k) = E := ⟨_, rfl⟩
     rw [hE] at hrp Hst Htl hgE
     obtain ⟨E', hE'⟩ : ∃ E', (doC N E x).1 = E' := ⟨_, rfl⟩
     obtain ⟨T, hT⟩ : ∃ T, (doC N E x).2 = T := ⟨_, rfl⟩
     obtain ⟨g, o, rfl, hxc⟩ := (HA.out.later hrp.out.f) k x hx
     have k1 : (0 : Int) ≤ (k : Int) := by omega
     have k2 : (k : Int) < (m : Int) := by omega
     obtain ⟨tb, htb⟩ : ∃ b, wr.heap.size = b := ⟨_, rfl⟩
     obtain ⟨V1, hV1⟩ : ∃ W, wr.alloc (.cells #[.int .i64 0, .slice none 0 0] 137) = W := ⟨_, rfl⟩
     have bv : V1.heap[tb]? = some (.cells #[.int .i64 0, .slice none 0 0] 137 (0, 0)) := by rw [← hV1, ← htb]; exact World.alloc_heap_new _ _
     have v0 := cells_in bv 0
     have v1 := cells_in bv 1
     have v2 := thaw_in bv 0
     have v3 := thaw_in bv 1
     simp at v0 v1
     obtain ⟨W1, hW1⟩ : ∃ W, (V1.setCell ⟨tb, 0, none⟩ (.int .i64 0)).setCell ⟨tb, 1, none⟩ (.slice none 0 0) = W := ⟨_, rfl⟩
     have f1 : Fr0 none' wr W1 := by
      rw [← hW1, ← hV1]
      exact ((((Fr0.refl _ _).alloc _).setCell (fun h => by omega) _).setCell (fun h => by omega) _)
     have hs1 : W1.heap.size = wr.heap.size + 1 := by rw [← hW1, ← hV1]; simp only [World.size_setCell]; exact World.size_alloc _ _
     have bt : W1.heap[tb]? = some (.cells #[.int .i64 0, .slice none 0 0] 137 (0, 0)) := by rw [← hW1]; exact heap_set_cell (o := 1) (heap_set_cell (o := 0) bv _) _
     have bs := (f1.block SB (Array.getElem?_eq_some_iff.1 hrp.out.bx).1 id).trans hrp.out.bx
     have s0 := cells_in bs 0
     have s1 := cells_in bs 1
     simp at s0 s1
     obtain ⟨x0, x1, x2, x3, x4, x5, x6⟩ := hxc
     have y0 := f1.later x0
     have y1 := f1.later x1
     have y2 := f1.later x2
     have y3 := f1.later x3
     have y4 := f1.later x4
     have y5 := f1.later x5
     have y6 := f1.later x6
     obtain ⟨el, hel⟩ : ∃ l, E.length = l := ⟨_, rfl⟩
     have Hel := Lib.hid hel
     rw [hel] at s1
     have HC := Lib.hid (fun (W : World) (hf : Fr0 none' W1 W) => ract_any (w := W) (n := N) (cap := vc) E (hrp.out.es.later (f1.trans hf)) hel (by have := hgE.le; omega) (by have := hrp.out.cap; omega) (by have := hgE.le; omega) hN hgE.once x Hkx.out)
     unfold ActP actCV at HC
     rw [hE', hT] at HC
     have F1r := Lib.hid f1
     have Hs1 := Lib.hid hs1
     have Hbt := Lib.hid bt
     have Hbs := Lib.hid bs
     have Htb := Lib.hid htb
     have HE' := Lib.hid hE'
     have HT := Lib.hid hT
     have Hst' := Lib.hid hE
     clear hx hgE hE hE' hT f1 hs1 bt bs bv hel x0 x1 x2 x3 x4 x5 x6
     have HZ := Lib.hid (show ∀ W', Fr0 none' W1 W' → (W'.cell? ⟨SB, 0, none⟩ = some (.int .i64 N) ∧ W'.cell? ⟨SB, 1, none⟩ = some (.slice va el vc)) ∧ CaAt W' g (o + k * 7) x from fun W' hf => ⟨⟨hf.later s0, hf.later s1⟩, ⟨hf.later y0, hf.later y1, hf.later y2, hf.later y3, hf.later y4, hf.later y5, hf.later y6⟩⟩)
     clear s0 s1 y0 y1 y2 y3 y4 y5 y6
     go_wp2_with fail
     clear htb v0 v1 v2 v3 hV1 hW1
     refine wp_region_Y (zs := [9]) (S := fun W' => Fr0 none' W1 W') (by kernel_rfl) ?_
     have hHeld : Fr0 none' W1 W1.drew := (Fr0.refl _ _).drew
     refine takeY_on (i := 0) (v := .agg #[.int .i64 N, .slice va el vc]) rfl (by kernel_rfl) (by kernel_rfl) (by kernel_rfl) (by kernel_rfl) (by kernel_rfl) (fun _ _ _ h => h) (by kernel_rfl) (fun W' hSW => ?_) (by assumption) ?_
     ·obtain ⟨⟨t0, t1⟩, t2, t3, t4, t5, t6, t7, t8⟩ := HZ.out W' hSW
      first | (go_simp; done) | exact rfl | (go_simp; rfl) | (go_simp; omega)
     try simp only [pUt, pUn, sEt, sEz, sEs]
     refine takeY_on (i := 1) (v := .slice (some ⟨g, o, none⟩) m ca) rfl (by kernel_rfl) (by kernel_rfl) (by kernel_rfl) (by kernel_rfl) (by kernel_rfl) (fun _ _ _ h => h) (by kernel_rfl) (fun W' hSW => ?_) (by assumption) ?_
     ·obtain ⟨⟨t0, t1⟩, t2, t3, t4, t5, t6, t7, t8⟩ := HZ.out W' hSW
      first | (go_simp; done) | exact rfl | (go_simp; rfl) | (go_simp; omega)
     try simp only [pUt, pUn, sEt, sEz, sEs]
     refine takeY_on (i := 2) (v := .int .i64 (k : Int)) rfl (by kernel_rfl) (by kernel_rfl) (by kernel_rfl) (by kernel_rfl) (by kernel_rfl) (fun _ _ _ h => h) (by kernel_rfl) (fun W' hSW => ?_) (by assumption) ?_
     ·obtain ⟨⟨t0, t1⟩, t2, t3, t4, t5, t6, t7, t8⟩ := HZ.out W' hSW
      first | (go_simp; done) | exact rfl | (go_simp; rfl) | (go_simp; omega)
     try simp only [pUt, pUn, sEt, sEz, sEs]
     refine takeY_on (i := 3) (v := .pointer (some ⟨g, o + k * 7, none⟩)) rfl (by kernel_rfl) (by kernel_rfl) (by kernel_rfl) (by kernel_rfl) (by kernel_rfl) (fun _ _ _ h => h) (by kernel_rfl) (fun W' hSW => ?_) (by assumption) ?_
     ·obtain ⟨⟨t0, t1⟩, t2, t3, t4, t5, t6, t7, t8⟩ := HZ.out W' hSW
      first | (go_simp; done) | exact rfl | (go_simp; rfl) | (go_simp; omega)
     try simp only [pUt, pUn, sEt, sEz, sEs]
     refine takeY_on (i := 4) (v := .agg #[.int .u8 x.kind, .int .i64 x.x.key.time, .int .i64 x.x.key.source, .int .i64 x.x.key.seq, .int .i64 x.x.to, .int .i64 x.x.value, .int .i64 x.time]) rfl (by kernel_rfl) (by kernel_rfl) (by kernel_rfl) (by kernel_rfl) (by kernel_rfl) (fun _ _ _ h => h) (by kernel_rfl) (fun W' hSW => ?_) (by assumption) ?_
     ·obtain ⟨⟨t0, t1⟩, t2, t3, t4, t5, t6, t7, t8⟩ := HZ.out W' hSW
      first | (go_simp; done) | exact rfl | (go_simp; rfl) | (go_simp; omega)
     try simp only [pUt, pUn, sEt, sEz, sEs]
     refine takeY_call (i := 5) rfl (by kernel_rfl) (by kernel_rfl) (fun K hK => ?_)
     go_simp
     refine (HC.out _ hHeld).mono ?_
     rintro e w3 ⟨va', vc', ya, yc, rfl, hc', he, hy, fv, fy, f3⟩
     have fv : FromE va va' W1.heap.size w3.heap.size E E' := fv
     have fy : FromE va ya W1.heap.size w3.heap.size E T.evs := fy
     have f3 : Fr0 none' W1 w3 := hHeld.trans f3
     go_wp2_with fail
     refine hK.out _ _ (.inr f3) ?_
     clear hK K
     have hHeld := f3
     try simp only [pUt, pUn, sEt, sEz, sEs]
     refine takeY_on (i := 6) (v := .tuple #[.agg #[.int .i64 N, .slice va' E'.length vc'], .agg #[.int .i64 T.err, .slice ya T.evs.length yc]]) rfl (by kernel_rfl) (by kernel_rfl) (by kernel_rfl) (by kernel_rfl) (by kernel_rfl) (fun _ _ _ h => h) (by kernel_rfl) (fun W' hSW => ?_) (by assumption) ?_
     ·obtain ⟨⟨t0, t1⟩, t2, t3, t4, t5, t6, t7, t8⟩ := HZ.out W' hSW
      first | (go_simp; done) | exact rfl | (go_simp; rfl) | (go_simp; omega)
     try simp only [pUt, pUn, sEt, sEz, sEs]
     refine takeY_on (i := 7) (v := .agg #[.int .i64 N, .slice va' E'.length vc']) rfl (by kernel_rfl) (by kernel_rfl) (by kernel_rfl) (by kernel_rfl) (by kernel_rfl) (fun _ _ _ h => h) (by kernel_rfl) (fun W' hSW => ?_) (by assumption) ?_
     ·obtain ⟨⟨t0, t1⟩, t2, t3, t4, t5, t6, t7, t8⟩ := HZ.out W' hSW
      first | (go_simp; done) | exact rfl | (go_simp; rfl) | (go_simp; omega)
     try simp only [pUt, pUn, sEt, sEz, sEs]
     have Fv := Lib.hid fv
     have Fy := Lib.hid fy
     have He := Lib.hid he
     have Hy := Lib.hid hy
     have F3 := Lib.hid f3
     have b3 := (f3.block SB (Array.getElem?_eq_some_iff.1 Hbs.out).1 id).trans Hbs.out
     have t3 := (f3.block tb (Array.getElem?_eq_some_iff.1 Hbt.out).1 id).trans Hbt.out
     have a0 := cells_in b3 0
     have a1 := cells_in b3 1
     have a2 := cells_in t3 0
     have a3 := cells_in t3 1
     have u0 := thaw_in b3 0
     have u1 := thaw_in b3 1
     have u2 := thaw_in t3 0
     have u3 := thaw_in t3 1
     simp at a0 a1 a2 a3
     have hne : SB ≠ tb := by have := (Array.getElem?_eq_some_iff.1 hrp.out.bx).1; have := Htb.out; omega
     obtain ⟨W4, hW4⟩ : ∃ W, (((w3.setCell ⟨SB, 0, none⟩ (.int .i64 N)).setCell ⟨SB, 1, none⟩ (.slice va' E'.length vc')).setCell ⟨tb, 0, none⟩ (.int .i64 T.err)).setCell ⟨tb, 1, none⟩ (.slice ya T.evs.length yc) = W := ⟨_, rfl⟩
     have f4 : Fr0 (fun g => g = SB ∨ g = wr.heap.size) w3 W4 := by rw [← hW4, Htb.out]; exact setN (setN (setN (setN (Fr0.refl _ _) (.inl rfl)) (.inl rfl)) (.inr rfl)) (.inr rfl)
     have b4 : W4.heap[SB]? = some (.cells #[.int .i64 N, .slice va' E'.length vc'] 135 (0, 0)) := by
      have e1 := heap_set_cell (o := 1) (heap_set_cell (o := 0) b3 (.int .i64 N)) (.slice va' E'.length vc')
      have e2 : Fr0 (fun g => g = tb) ((w3.setCell ⟨SB, 0, none⟩ (.int .i64 N)).setCell ⟨SB, 1, none⟩ (.slice va' E'.length vc')) W4 := by rw [← hW4]; exact ((Fr0.refl (fun g => g = tb) _).setCell (fun _ => rfl) _).setCell (fun _ => rfl) _
      exact (e2.block SB (Array.getElem?_eq_some_iff.1 e1).1 hne).trans e1
     have t4 : W4.heap[tb]? = some (.cells #[.int .i64 T.err, .slice ya T.evs.length yc] 137 (0, 0)) := by
      have e0 : Fr0 (fun g => g = SB) w3 ((w3.setCell ⟨SB, 0, none⟩ (.int .i64 N)).setCell ⟨SB, 1, none⟩ (.slice va' E'.length vc')) := ((Fr0.refl (fun g => g = SB) _).setCell (fun _ => rfl) _).setCell (fun _ => rfl) _
      have e1 := (e0.block tb (Array.getElem?_eq_some_iff.1 t3).1 (fun e => hne e.symm)).trans t3
      rw [← hW4]
      exact heap_set_cell (o := 1) (heap_set_cell (o := 0) e1 (.int .i64 T.err)) (.slice ya T.evs.length yc)
     have c0 := cells_in t4 0
     have c1 := cells_in t4 1
     simp at c0 c1
     have hrow4 : W4.ownsRow (SB + 1) 137 2 u12 k (flatTd ys) := ownsRow_fr0 (ownsRow_fr0 (ownsRow_fr0 hrp.out.row F1r.out (fun _ _ h => h)) F3.out (fun _ _ h => h)) f4 (fun g hg h => by have := hrp.out.row.lt g hg; omega)
     have hsrc := Src.newRow (P := Try.prog) (size := 2) (tx := 96) (ty := 137) W4 Try.underlying96 1 1 [.int .i64 T.err, .slice ya T.evs.length yc] rfl (by simp [Value.oneCell'])
     have Hrow5 := Lib.hid (hrow4.alloc (.cells [Value.int .i64 T.err, .slice ya T.evs.length yc].toArray 137))
     have Hsrc := Lib.hid hsrc
     have F4 := Lib.hid f4
     have B4 := Lib.hid b4
     have Hsz : SB + 1 ≤ W4.heap.size := by have := (Array.getElem?_eq_some_iff.1 b4).1; omega
     obtain ⟨oa, oc, rfl⟩ : ∃ oa oc, u12 = .slice oa k oc := by
      rcases hrp.out.row.2 with ⟨rfl, h0⟩ | ⟨g, cap, cur, rfl, _⟩
      ·exact ⟨none, 0, by rw [h0]⟩
      ·exact ⟨_, cap, rfl⟩
     clear fv fy he hy f3 b3 t3 f4 b4 t4 hrow4 hsrc HC
     refine takeY_two (i := 8) (j := 9) rfl rfl (by kernel_rfl) (by kernel_rfl) (by kernel_rfl) (fun K hK => ?_) (fun K hK => ?_)
     ·go_simp
      refine hK.out _ _ (.inr hHeld) ?_
      clear hK K
      try simp only [pUt, pUn, sEt, sEz, sEs]
      refine takeY_call (i := 9) rfl (by kernel_rfl) (by kernel_rfl) (fun K hK => ?_)
      go_simp
      refine hK.out _ _ (.inl (by kernel_rfl)) ?_
      clear hK K
      try simp only [pUt, pUn, sEt, sEz, sEs]
      refine takeY_call (i := 10) rfl (by kernel_rfl) (by kernel_rfl) (fun K hK => ?_)
      go_simp
      try rw [hW4]
      refine hK.out _ _ (.inl (by kernel_rfl)) ?_
      clear hK K
      try simp only [pUt, pUn, sEt, sEz, sEs]
      refine wpAnyY_done (by kernel_rfl) ?_ _
      go_wp2_with (at_builtin; refine wpList_append_k rfl _ _ 96 96 rfl (SB + 1) 137 i0 (.agg #[.int .i64 0, .slice none 0 0]) 2 32 Try.underlying96 hi hz0 hz1 hz2 rfl (by decide) _ k _ rfl Hrow5.out (.slice (some ⟨W4.heap.size, 0, none⟩) 1 1) 1 _ rfl Hsrc.out (by unfold maxLen; omega) (by omega) (by simp; omega) ?_; intro v' w6 hown' hgrow hdr hob)
      have hst := hrp.out.step HLa.out Hsb.out F1r.out Hs1.out F3.out hc' He.out Hy.out Fv.out Fy.out F4.out B4.out ((Fr0.refl none' W4).alloc (.cells [Value.int .i64 T.err, .slice ya T.evs.length yc].toArray 137)) ((Fr0.refl (fun g => (Value.slice oa k oc).ownBlock = some g) _).grown hgrow (fun g hg _ => hg)) (err := T.err) (yc := yc) (out' := v') (by rw [flatTd_snoc]; exact hown') (fun g hg => by
       rcases hob with e | e
       ·rw [e] at hg; exact .inl hg
       ·rw [e] at hg; injection hg with hg; exact .inr (by omega))
      have htl' : (ys ++ [(⟨T.err, ya, T.evs.length, yc, T.evs⟩ : Td)]).map Td.tl = tlC N L (A.take (k + 1)) := by
       rw [List.map_append, htl.out, Htl.out, HT.out]
       rfl
      rw [← HE'.out, ← Hst.out] at hst
      have Hrp' := Lib.hid hst
      have Htl' := Lib.hid htl'
      obtain ⟨g', cap', rfl⟩ := ownsRow_k_succ hown'
      clear hgrow hdr hob hown' hst htl' a0 a1 a2 a3 u0 u1 u2 u3 c0 c1 hW4
      go_wp2
      go_roundw
      case rel => exact ⟨k + 1, va', vc', _, by omega, by go_num, Hrp', Htl'⟩
      case measure => simp [Go.RowKit.intOf]; omega
     ·go_simp
      refine hK.out _ _ (.inl (by kernel_rfl)) ?_
      clear hK K
      try simp only [pUt, pUn, sEt, sEz, sEs]
      refine takeY_call (i := 8) rfl (by kernel_rfl) (by kernel_rfl) (fun K hK => ?_)
      go_simp
      refine hK.out _ _ (.inl (by kernel_rfl)) ?_
      clear hK K
      try simp only [pUt, pUn, sEt, sEz, sEs]
      refine takeY_call (i := 10) rfl (by kernel_rfl) (by kernel_rfl) (fun K hK => ?_)
      go_simp
      try rw [hW4]
      refine hK.out _ _ (.inl (by kernel_rfl)) ?_
      clear hK K
      try simp only [pUt, pUn, sEt, sEz, sEs]
      refine wpAnyY_done (by kernel_rfl) ?_ _
      go_wp2_with (at_builtin; refine wpList_append_k rfl _ _ 96 96 rfl (SB + 1) 137 i0 (.agg #[.int .i64 0, .slice none 0 0]) 2 32 Try.underlying96 hi hz0 hz1 hz2 rfl (by decide) _ k _ rfl Hrow5.out (.slice (some ⟨W4.heap.size, 0, none⟩) 1 1) 1 _ rfl Hsrc.out (by unfold maxLen; omega) (by omega) (by simp; omega) ?_; intro v' w6 hown' hgrow hdr hob)
      have hst := hrp.out.step HLa.out Hsb.out F1r.out Hs1.out F3.out hc' He.out Hy.out Fv.out Fy.out F4.out B4.out ((Fr0.refl none' W4).alloc (.cells [Value.int .i64 T.err, .slice ya T.evs.length yc].toArray 137)) ((Fr0.refl (fun g => (Value.slice oa k oc).ownBlock = some g) _).grown hgrow (fun g hg _ => hg)) (err := T.err) (yc := yc) (out' := v') (by rw [flatTd_snoc]; exact hown') (fun g hg => by
       rcases hob with e | e
       ·rw [e] at hg; exact .inl hg
       ·rw [e] at hg; injection hg with hg; exact .inr (by omega))
      have htl' : (ys ++ [(⟨T.err, ya, T.evs.length, yc, T.evs⟩ : Td)]).map Td.tl = tlC N L (A.take (k + 1)) := by
       rw [List.map_append, htl.out, Htl.out, HT.out]
       rfl
      rw [← HE'.out, ← Hst.out] at hst
      have Hrp' := Lib.hid hst
      have Htl' := Lib.hid htl'
      obtain ⟨g', cap', rfl⟩ := ownsRow_k_succ hown'
      clear hgrow hdr hob hown' hst htl' a0 a1 a2 a3 u0 u1 u2 u3 c0 c1 hW4
      go_wp2
      go_roundw
      case rel => exact ⟨k + 1, va', vc', _, by omega, by go_num, Hrp', Htl'⟩
      case measure => simp [Go.RowKit.intOf]; omega
    ·have hkm : k = m := by omega
     subst hkm
     have s0 := cells_in hrp.out.bx 0
     have s1 := cells_in hrp.out.bx 1
     simp at s0 s1
     have htk : A.take k = A := List.take_of_length_le (by rw [HAl.out]; exact Nat.le_refl _)
     rw [htk] at hrp htl
     have HE := Lib.hid (show EndRP L N A a w (.returned (.tuple #[.slice va (stC N L A).length vc, u12, .int .i64 (-1), .int .i64 0])) wr from by
      unfold EndRP
      rw [Hp.out]
      have hsb := Hsb.out
      refine ⟨_, _, _, ys, rfl, hrp.out.es, hrp.out.fr.mono (by omega) (Nat.le_refl _), ?_, htl.out, fun y hy => ⟨(hrp.out.tds y hy).1, (hrp.out.tds y hy).2.1, (hrp.out.tds y hy).2.2.mono (by omega) (Nat.le_refl _)⟩, hrp.out.f⟩
      have h1 := ownsRow_k_mono hrp.out.row (show w.heap.size ≤ SB + 1 by omega)
      have h2 : (tlC N L A).length = k := by rw [tlC_length, HAl.out]
      simp only
      rw [h2]
      exact h1)
     obtain ⟨en, hen⟩ : ∃ l, (stC N L A).length = l := ⟨_, rfl⟩
     rw [htk, hen] at s1
     rw [hen] at HE
     clear hrp htl htk hen
     go_wp2_with fail
     try simp only [Exit.inBlock, Exit.then]
     refine bodyPost_ret (results_tmp4 rfl _ _ _) rfl ?_
     exact HE.out
end Go.Proofs.Ytmbjfmlicffclaa

/-
  told: what acts told, compared with what the reference tells.
-/
namespace Go.Proofs.Ytmbjfmlicffclaa
open Go Go.RowKit
attribute [local go_sem ↓] Go.wp_at_zero Go.wp_at_succ
attribute [local go_sem] Oper.semAt_some wide_fn wide_depth wide_fnR wide_depthR

set_option maxRecDepth 100000 in
set_option maxHeartbeats 2000000 in
theorem toldOne_any {w : World} (x y : Td) (hx : EsIn w x.sa x.evs) (hy : EsIn w y.sa y.evs) (hxl : x.evs.length = x.sn) (hyl : y.evs.length = y.sn) (hxm : x.sn ≤ 10000) (hym : y.sn ≤ 10000) :
  Calls Try.prog 79 #[x.val, y.val] w fun e w' => e = .returned (.bool (decide (x.tl = y.tl))) ∧ Fr0 none' w w' := by
 have HS := Lib.hid (fun (W : World) (hf : Fr0 none' w W) => sameEs_any x.sa y.sa x.sn y.sn x.sc y.sc x.evs y.evs W hxl hyl (by omega) (by omega) (hx.later hf) (hy.later hf))
 rw [tl_eq]
 obtain ⟨b, hb⟩ : ∃ b, decide (x.evs = y.evs) = b := ⟨_, rfl⟩
 rw [hb] at HS ⊢
 obtain ⟨c, hc⟩ : ∃ c, (x.err == y.err) = c := ⟨_, rfl⟩
 rw [hc]
 clear hx hy hxl hyl hb
 unfold Td.val
 cases c with
 | false =>
  go_enter Try.func79, Try.ntmps79
  go_wp2_with fail
  go_ret
  exact ⟨rfl, ((Fr0.refl _ _).alloc _).alloc _⟩
 | true =>
  go_enter Try.func79, Try.ntmps79
  go_wp2_with fail
  refine (HS.out _ (((Fr0.refl _ _).alloc _).alloc _)).mono ?_
  rintro e w1 ⟨rfl, hf⟩
  have F := Lib.hid ((((Fr0.refl none' w).alloc _).alloc _).trans hf)
  clear hf
  go_wp2_with fail
  go_ret
  exact ⟨rfl, F.out⟩
set_option maxRecDepth 100000 in
set_option maxHeartbeats 2000000 in
theorem equalRt_any (a a' : Option Addr) (n n' cap cap' : Nat) (xs ys : List Td) (w : World) (hn : xs.length = n) (hn' : ys.length = n') (hm : n ≤ 1000000) (hm' : n' ≤ 1000000)
  (hc : TdsIn w a xs) (hc' : TdsIn w a' ys) (he : TdEv w xs) (he' : TdEv w ys) :
  Calls Try.prog 78 #[.slice a n cap, .slice a' n' cap', .func (.func 79) #[] #[]] w fun e w' => e = .returned (.bool (decide (xs.map Td.tl = ys.map Td.tl))) ∧ Fr0 none' w w' := by
 obtain ⟨R, hR⟩ : ∃ R, decide (xs.map Td.tl = ys.map Td.tl) = R := ⟨_, rfl⟩
 rw [hR]
 have HR := Lib.hid hR
 have Hn := Lib.hid hn
 have Hn' := Lib.hid hn'
 have Hc := Lib.hid hc
 have Hc' := Lib.hid hc'
 have He := Lib.hid he
 have He' := Lib.hid he'
 clear hR hn hn' hc hc' he he'
 by_cases hnn : n = n'
 ·subst hnn
  have d0 : ((n : Int) != (n : Int)) = false := by simp
  go_enter Try.func78, Try.ntmps78
  go_wp2_with fail
  go_loopw [17] (fun i wr => ∃ k : Nat, k ≤ n ∧ i = .int .i64 k ∧ Hid ((xs.map Td.tl).take k = (ys.map Td.tl).take k) ∧ Hid (Fr0 none' w wr)) (fun i _ => n - (Go.RowKit.intOf i).toNat)
  case atStart => exact ⟨0, Nat.zero_le _, rfl, rfl, Fr0.refl _ _⟩
  case round =>
   obtain ⟨k, hk, rfl, hpre, hb⟩ := hrel
   by_cases hlt : k < n
   ·obtain ⟨x, hx⟩ : ∃ x, xs[k]? = some x := ⟨_, List.getElem?_eq_getElem (by rw [Hn.out]; exact hlt)⟩
    obtain ⟨y, hy⟩ : ∃ y, ys[k]? = some y := ⟨_, List.getElem?_eq_getElem (by rw [Hn'.out]; exact hlt)⟩
    obtain ⟨g, o, rfl, hcx⟩ := (Hc.out.later hb.out) k x hx
    obtain ⟨g', o', rfl, hcy⟩ := (Hc'.out.later hb.out) k y hy
    obtain ⟨x0, x1⟩ := hcx
    obtain ⟨y0, y1⟩ := hcy
    have c1 : (0 : Int) ≤ (k : Int) := by omega
    have c2 : (k : Int) < (n : Int) := by omega
    obtain ⟨W1, hW1⟩ : ∃ V, wr.alloc (.cells #[.int .i64 x.err, .slice x.sa x.sn x.sc] 51) = V := ⟨_, rfl⟩
    have f1 : Fr0 none' wr W1 := by rw [← hW1]; exact (Fr0.refl _ _).alloc _
    have y2 := f1.later y0
    have y3 := f1.later y1
    obtain ⟨W2, hW2⟩ : ∃ V, W1.alloc (.cells #[.int .i64 y.err, .slice y.sa y.sn y.sc] 137) = V := ⟨_, rfl⟩
    have f2 : Fr0 none' W1 W2 := by rw [← hW2]; exact (Fr0.refl _ _).alloc _
    have b1 : W1.heap[wr.heap.size]? = some (.cells #[.int .i64 x.err, .slice x.sa x.sn x.sc] 51 (0, 0)) := by rw [← hW1]; exact World.alloc_heap_new _ _
    have b2 : W2.heap[W1.heap.size]? = some (.cells #[.int .i64 y.err, .slice y.sa y.sn y.sc] 137 (0, 0)) := by rw [← hW2]; exact World.alloc_heap_new _ _
    have b3 := (f2.block wr.heap.size (Array.getElem?_eq_some_iff.1 b1).1 id).trans b1
    have t0 := cells_in b3 0
    have t1 := cells_in b3 1
    have s0 := cells_in b2 0
    have s1 := cells_in b2 1
    simp at t0 t1 s0 s1
    have F2 := Lib.hid ((hb.out.trans f1).trans f2)
    have hex := He.out x (List.mem_of_getElem? hx)
    have hey := He'.out y (List.mem_of_getElem? hy)
    have HA := Lib.hid (toldOne_any x y (hex.1.later F2.out) (hey.1.later F2.out) hex.2.1 hey.2.1 hex.2.2 hey.2.2)
    unfold Td.val at HA
    have hx' := Lib.hid hx
    have hy' := Lib.hid hy
    clear hx hy hex hey b1 b2 b3 f1 f2
    by_cases hxy : x.tl = y.tl
    ·rw [show decide (x.tl = y.tl) = true from decide_eq_true hxy] at HA
     have hnext := Lib.hid (show (xs.map Td.tl).take (k + 1) = (ys.map Td.tl).take (k + 1) by
      rw [List.take_add_one, List.take_add_one, hpre.out, List.getElem?_map, List.getElem?_map, hx'.out, hy'.out, Option.map_some, Option.map_some, hxy])
     clear hxy
     go_wp2_with fail
     refine HA.out.mono ?_
     rintro e w3 ⟨rfl, hf⟩
     have F3 := Lib.hid (F2.out.trans hf)
     clear hf
     go_wp2_with fail
     go_roundw
     case rel => exact ⟨k + 1, by omega, by go_num, hnext, F3⟩
     case measure => simp [Go.RowKit.intOf]; omega
    ·rw [show decide (x.tl = y.tl) = false from decide_eq_false hxy] at HA
     have hres : Hid (false = R) := by
      unfold Hid; rw [← HR.out]
      refine (decide_eq_false (fun h => hxy ?_)).symm
      have h1 := congrArg (fun l => l[k]?) h
      simp only [List.getElem?_map, hx'.out, hy'.out, Option.map_some] at h1
      exact Option.some.inj h1
     clear hxy
     go_wp2_with fail
     refine HA.out.mono ?_
     rintro e w3 ⟨rfl, hf⟩
     have F3 := Lib.hid (F2.out.trans hf)
     clear hf
     go_wp2_with fail
     go_ret
     exact ⟨ret_bool hres.out, F3.out⟩
   ·have hres : Hid (true = R) := by
     unfold Hid; rw [← HR.out]
     refine (decide_eq_true ?_).symm
     have := hpre.out
     rwa [List.take_of_length_le (by rw [List.length_map, Hn.out]; omega), List.take_of_length_le (by rw [List.length_map, Hn'.out]; omega)] at this
    go_wp2_with fail
    go_ret
    exact ⟨ret_bool hres.out, hb.out⟩
 ·have hres : Hid (false = R) := by
   unfold Hid; rw [← HR.out]
   refine (decide_eq_false (fun h => hnn ?_)).symm
   have := congrArg List.length h
   rw [List.length_map, List.length_map, Hn.out, Hn'.out] at this
   exact this
  have d0 : ((n : Int) != (n' : Int)) = true := by simp; omega
  clear hnn
  go_enter Try.func78, Try.ntmps78
  go_wp2_with fail
  go_ret
  exact ⟨ret_bool hres.out, Fr0.refl _ _⟩
set_option maxRecDepth 100000 in
theorem told12_any (a a' : Option Addr) (n n' cap cap' : Nat) (xs ys : List Td) (w : World) (hn : xs.length = n) (hn' : ys.length = n') (hm : n ≤ 1000000) (hm' : n' ≤ 1000000)
  (hc : TdsIn w a xs) (hc' : TdsIn w a' ys) (he : TdEv w xs) (he' : TdEv w ys) :
  Calls Try.prog 48 #[.slice a n cap, .slice a' n' cap'] w fun e w' => e = .returned (.bool (decide (xs.map Td.tl = ys.map Td.tl))) ∧ Fr0 none' w w' := by
 have HC := Lib.hid (equalRt_any a a' n n' cap cap' xs ys w hn hn' hm hm' hc hc' he he')
 obtain ⟨b, hb⟩ : ∃ b, decide (xs.map Td.tl = ys.map Td.tl) = b := ⟨_, rfl⟩
 rw [hb] at HC ⊢
 clear hn hn' hc hc' he he' hb
 go_enter Try.func48, Try.ntmps48
 go_wp2_with fail
 refine HC.out.mono ?_
 rintro e w1 ⟨rfl, hf⟩
 have F := Lib.hid hf
 clear hf
 go_wp2_with fail
 go_ret
 exact ⟨rfl, F.out⟩
end Go.Proofs.Ytmbjfmlicffclaa

/-
  slices.Grow and slices.Concat at what was told.
-/
namespace Go.Proofs
open Go.Shelf
def Try.growT_ren : Go.Shelf.Ren := ⟨fun | 4 => 53 | n => n, fun | 22 => 40 | 25 => 51 | 3 => 3 | 4 => 4 | 9 => 9 | 20 => 20 | 0 => 0 | n => n, fun | n => n⟩
theorem Try.growT : Go.Proofs.Lays8.n4 Try.prog Try.growT_ren := {
 mixed := by kernel_rfl
 f4 := ⟨Try.f53.name, by decide, Try.func53.trans (congrArg some (by kernel_rfl))⟩
 t0 := Try.underlying0
 a0 := Try.isAgg0
 z0 := Try.sizeOf0
 v0 := Try.zeroValue0
 t3 := Try.underlying3
 a3 := Try.isAgg3
 z3 := Try.sizeOf3
 v3 := Try.zeroValue3
 t4 := Try.underlying4
 a4 := Try.isAgg4
 z4 := Try.sizeOf4
 v4 := Try.zeroValue4
 t9 := Try.underlying9
 a9 := Try.isAgg9
 z9 := Try.sizeOf9
 v9 := Try.zeroValue9
 t20 := Try.underlying20
 a20 := Try.isAgg20
 z20 := Try.sizeOf20
 v20 := Try.zeroValue20
 t22 := Try.underlying40
 a22 := Try.isAgg40
 z22 := Try.sizeOf40
 v22 := Try.zeroValue40 }
end Go.Proofs
namespace Go.Proofs.Ytmbjfmlicffclaa
open Go Go.RowKit
attribute [local go_sem ↓] Go.wp_at_zero Go.wp_at_succ
attribute [local go_sem] Oper.semAt_some wide_fn wide_depth wide_fnR wide_depthR

theorem flatTd_one (L : List Td) : ∀ v ∈ flatTd L, v.oneCell' = true := fun v hv => by
 simp only [flatTd, List.mem_flatMap] at hv
 obtain ⟨p, _, hv⟩ := hv
 simp only [Td.cells, List.mem_cons, List.not_mem_nil, or_false] at hv
 rcases hv with rfl | rfl <;> rfl
theorem TdsIn.flat {w : World} {g o : Nat} {L : List Td} (h : TdsIn w (some ⟨g, o, none⟩) L) (j : Nat) (u : Value) (hj : (flatTd L)[j]? = some u) : w.cell? ⟨g, o + j, none⟩ = some u := by
 have hlt : j < L.length * 2 := by rw [← flatTd_length]; exact (List.getElem?_eq_some_iff.1 hj).1
 have hk : j / 2 < L.length := by omega
 obtain ⟨g', o', e, c0, c1⟩ := h (j / 2) L[j / 2] (List.getElem?_eq_getElem hk)
 injection e with e
 injection e with e1 e2
 subst e1; subst e2
 have h3 := flat_at td_len L (j / 2) (j % 2) (by omega)
 rw [show j / 2 * 2 + j % 2 = j by omega, List.getElem?_eq_getElem hk] at h3
 have h3 : some u = (L[j / 2].cells)[j % 2]? := hj.symm.trans h3
 have : j % 2 = 0 ∨ j % 2 = 1 := by omega
 rcases this with h | h
 ·rw [h] at h3; rw [show o + j = o + j / 2 * 2 by omega, h3]; exact c0
 ·rw [h] at h3; rw [show o + j = o + j / 2 * 2 + 1 by omega, h3]; exact c1
theorem TdsIn.src {w : World} {a : Option Addr} {L : List Td} {n : Nat} (h : TdsIn w a L) (hn : L.length = n) (cap : Nat) {tx e' : TypeId} (hk : Try.prog.underlying tx = some (.slice e')) : Src Try.prog 2 tx (.slice a n cap) n (flatTd L) w := by
 cases a with
 | none =>
  have hL : L = [] := by
   clear hn
   cases L with
   | nil => rfl
   | cons p r => obtain ⟨g, o, e, _⟩ := h 0 p rfl; cases e
  subst hL
  have hn : 0 = n := hn
  subst hn
  exact Src.ofNil w hk cap
 | some ad =>
  refine Src.ofSlice w hk ad n cap (flatTd L) (by rw [flatTd_length, hn]) (fun j u hj => ?_) (flatTd_one L)
  obtain ⟨g, o, s⟩ := ad
  obtain ⟨p, hp⟩ : ∃ p, L[0]? = some p := by
   cases L with
   | nil => simp [flatTd] at hj
   | cons p r => exact ⟨p, rfl⟩
  obtain ⟨g', o', e, _⟩ := h 0 p hp
  cases e
  rw [Addr.add_lit]
  exact h.flat j u hj
set_option maxRecDepth 100000 in
/-- Grow of nothing: an own row without elements. -/
theorem grow_nilT (n : Nat) (hn : n ≤ 1000) (w : World) : Calls Try.prog 53 #[.slice none 0 0, .int .i64 n] w fun e w' => ∃ v, e = .returned v ∧ w'.ownsRow w.heap.size 51 2 v 0 (flatTd []) ∧ Fr0 none' w w' := by
 obtain ⟨i0, hi, hz0, hz1, hz2⟩ := info_parts info_told
 by_cases h0 : n = 0
 ·subst h0
  have hg : Calls Try.prog 53 #[.slice none 0 0, .int .i64 ((0 : Nat) : Int)] w fun e w' => e = .returned (.slice none 0 0) ∧ w' = w := Any8.slices_Grow_room Try.growT none 0 0 0 w (Nat.zero_le 0) (Nat.zero_le _) (Nat.zero_le _) (Nat.zero_le 0)
  refine Calls.mono hg ?_
  intro e w' h
  obtain ⟨h1, h2⟩ := h
  subst h1
  subst h2
  exact ⟨_, rfl, World.ownsRow_nil _ _ _ _, Fr0.refl _ _⟩
 ·refine (Any8.slices_Grow_grow Try.growT i0 _ hi hz0 (by rw [hz1]; omega) none 0 0 n [] w (Nat.le_refl _) (by omega) (by rw [hz2]; omega) (by omega) (by simp) (fun _ => rfl) (fun a h => by cases h)).mono ?_
  rintro e w' ⟨rfl, rfl⟩
  have hge := grownCap_ge w (0 + n) 0 (Try.growT_ren.t 25)
  have hcm := grownCap_le_maxLen w (0 + n) 0 (Try.growT_ren.t 25) (by unfold maxLen; omega)
  refine ⟨_, rfl, ⟨by simp [flatTd], .inr ⟨w.heap.size, _, _, rfl, Nat.le_refl _, World.alloc_heap_new w.drew _, Nat.zero_le _, hcm, ?_, by simp [flatTd]⟩⟩, ((Fr0.refl _ _).drew).alloc _⟩
  simp only [Array.size_append, List.size_toArray, size_zeroCells]
  generalize grownCap w (0 + n) 0 (Try.growT_ren.t 25) = G at hge ⊢
  show 0 + (0 + n - 0) * 2 + (G - (0 + n)) * 2 = G * 2
  omega
/-- Two rows among the arguments. -/
structure TwoRowsT (w : World) (lb : Nat) (a1 a2 : Option Addr) (n1 n2 c1 c2 : Nat) (L1 L2 : List Td) : Prop where
 blk : w.heap[lb]? = some (.cells #[.slice a1 n1 c1, .slice a2 n2 c2] 40 (0, 0))
 r1 : TdsIn w a1 L1
 r2 : TdsIn w a2 L2
 l1 : L1.length = n1
 l2 : L2.length = n2
 m : n1 ≤ 400 ∧ n2 ≤ 400
theorem TwoRowsT.later {w w' : World} {lb : Nat} {a1 a2 : Option Addr} {n1 n2 c1 c2 : Nat} {L1 L2 : List Td} (h : TwoRowsT w lb a1 a2 n1 n2 c1 c2 L1 L2) (hf : Fr0 none' w w') : TwoRowsT w' lb a1 a2 n1 n2 c1 c2 L1 L2 :=
 ⟨(hf.block lb (Array.getElem?_eq_some_iff.1 h.blk).1 id).trans h.blk, h.r1.later hf, h.r2.later hf, h.l1, h.l2, h.m⟩
end Go.Proofs.Ytmbjfmlicffclaa

/-
  CalendarParts.
-/
namespace Go.Proofs.Ytmbjfmlicffclaa
open Go Go.RowKit
attribute [local go_sem ↓] Go.wp_at_zero Go.wp_at_succ
attribute [local go_sem] Oper.semAt_some wide_fn wide_depth wide_fnR wide_depthR

/-- Where the rest of a row of acts starts. -/
def dC (cap n : Nat) (a : Option Addr) : Option Addr := if cap = n then a else a.map (fun x => x.add (n * 7))
theorem casIn_nil (W : World) (a : Option Addr) : CasIn W a [] := fun i x hx => by simp at hx
theorem CasIn.rest {W : World} {a : Option Addr} {S : List Ca} (h : CasIn W a S) {cap : Nat} (hc : S.length ≤ cap) (n : Nat) : CasIn W (dC cap n a) (S.drop n) := by
 unfold dC
 split
 ·next e =>
  rw [List.drop_of_length_le (by omega)]
  exact casIn_nil W a
 ·cases a with
  | none =>
   intro i x hx
   rw [List.getElem?_drop] at hx
   obtain ⟨g, o, e, _⟩ := h _ x hx
   cases e
  | some A =>
   intro i x hx
   have hx' := hx
   rw [List.getElem?_drop] at hx'
   obtain ⟨g, o, e, _⟩ := h _ x hx'
   injection e with e
   subst e
   have h1 := h.drop n i x hx
   rw [Option.map_some, Addr.add_mid]
   exact h1
theorem tlC_le {n : Nat} : ∀ (A : List Ca) {E : List Ev}, GoodE n E → ∀ t ∈ tlC n E A, t.evs.length ≤ n
 | [], _, _, t, ht => by simp [tlC] at ht
 | a :: r, E, h, t, ht => by
  rw [tlC, List.mem_cons] at ht
  rcases ht with rfl | ht
  ·exact (told_good h a).le
  ·exact tlC_le r (h.act a) t ht
end Go.Proofs.Ytmbjfmlicffclaa
