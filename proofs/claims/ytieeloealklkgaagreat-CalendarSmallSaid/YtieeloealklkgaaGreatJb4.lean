/-
  Spaces: what each function of the package does, and what the laws make of it.
-/
import Derived.Test.YtieeloealklkgaaGreatJb1
import Derived.Test.YtieeloealklkgaaGreatJa1
import Derived.Test.YtieeloealklkgaaGreatJb3
import Derived.Test.YtieeloealklkgaaGreatJb2
set_option linter.unusedSimpArgs false
set_option linter.unusedVariables false
set_option maxRecDepth 100000

/-
  The reference of layer 10: Less, Right, at, with.
-/
namespace Go.Proofs.YtieeloealklkgaaGreat
open Go Go.RowKit
attribute [local go_sem ↓] Go.wp_at_zero Go.wp_at_succ
attribute [local go_sem] Oper.semAt_some wide_fn wide_depth wide_fnR wide_depthR

set_option maxHeartbeats 2000000 in
theorem rRightK_any (k : Key3) (w : World) : Calls Tryz.prog 110 #[keyV k] w fun e w' => e = .returned (.bool (decide (RightK k))) ∧ Fr0 none' w w' := by
 simp only [keyV]
 go_enter Tryz.func110, Tryz.ntmps110
 go_wp2_with fail
 all_goals
  go_ret
  refine ⟨congrArg (fun b => Ending.returned (Value.bool b)) ?_, ((Fr0.refl _ _).alloc _)⟩
  first
   | exact (decide_eq_false (by unfold RightK; omega)).symm
   | exact decide_eq_decide.2 (by unfold RightK; omega)
set_option maxHeartbeats 2000000 in
theorem rLessK_any (a b : Key3) (w : World) : Calls Tryz.prog 90 #[keyV a, keyV b] w fun e w' => e = .returned (.bool (decide (cmpK a b < 0))) ∧ Fr0 none' w w' := by
 simp only [keyV]
 go_enter Tryz.func90, Tryz.ntmps90
 go_wp2_with fail
 all_goals
  go_ret
  refine ⟨congrArg (fun b => Ending.returned (Value.bool b)) (decide_eq_decide.2 ?_), (((Fr0.refl _ _).alloc _).alloc _)⟩
  rw [cmpK_lt]
  try simp only [bne_iff_ne, ne_eq, bne_eq_false_iff_eq, Bool.not_eq_true] at *
  omega
set_option maxHeartbeats 2000000 in
theorem rRightE_any (x : Ev) (w : World) : Calls Tryz.prog 91 #[evV x] w fun e w' => e = .returned (.bool (decide (RightE x))) ∧ Fr0 none' w w' := by
 have HR := Lib.hid (rRightK_any x.key)
 simp only [keyV] at HR
 unfold evV
 go_enter Tryz.func91, Tryz.ntmps91
 go_wp2_with fail
 obtain ⟨B, hB⟩ : ∃ B, w.heap.size = B := ⟨_, rfl⟩
 obtain ⟨W, hW⟩ : ∃ W, w.alloc (.cells #[.int .i64 x.key.time, .int .i64 x.key.source, .int .i64 x.key.seq, .int .i64 x.to, .int .i64 x.value] 30) = W := ⟨_, rfl⟩
 have F1 := Lib.hid (show Fr0 none' w W by rw [← hW]; exact (Fr0.refl _ _).alloc _)
 have hb : W.heap[B]? = some (.cells (cev x).toArray 30 (0, 0)) := by rw [← hW, ← hB]; exact World.alloc_heap_new w _
 rw [hW]
 try rw [hB]
 clear hW hB
 refine (HR.out _).mono ?_
 rintro e w2 ⟨rfl, hf⟩
 have hb2 := (hf.block B (Array.getElem?_eq_some_iff.1 hb).1 id).trans hb
 have F2 := Lib.hid (F1.out.trans hf)
 clear hf hb F1
 have a0 := cells_in hb2 0
 have a1 := cells_in hb2 1
 have a2 := cells_in hb2 2
 have a3 := cells_in hb2 3
 have a4 := cells_in hb2 4
 simp [cev] at a0 a1 a2 a3 a4
 clear hb2
 by_cases h1 : RightK x.key
 ·rw [decide_eq_true h1]
  go_wp2_with fail
  all_goals
   go_ret
   refine ⟨congrArg (fun b => Ending.returned (Value.bool b)) ?_, F2.out⟩
   first
    | exact (decide_eq_false (fun h => by have := h.2; omega)).symm
    | exact decide_eq_decide.2 ⟨fun h => ⟨h1, by omega, by omega⟩, fun h => by have := h.2; omega⟩
 ·rw [decide_eq_false h1]
  go_wp2_with fail
  go_ret
  exact ⟨congrArg (fun b => Ending.returned (Value.bool b)) (decide_eq_false (fun h => h1 h.1)).symm, F2.out⟩

set_option maxHeartbeats 2000000 in
theorem rat_any {w : World} {a : Option Addr} {n cap : Nat} (E : List Ev) (h : EsIn w a E) (hl : E.length = n) (hn : n ≤ 1000000) (s q : Int) :
  Calls Tryz.prog 92 #[.slice a n cap, .int .i64 s, .int .i64 q] w fun e w' => e = .returned (.int .i64 (atE (s, q) E)) ∧ w = w' := by
 obtain ⟨R, hR⟩ : ∃ R, atE (s, q) E = R := ⟨_, rfl⟩
 rw [hR]
 have HR := Lib.hid hR
 have H := Lib.hid h
 have Hl := Lib.hid hl
 clear h hl hR
 go_enter Tryz.func92, Tryz.ntmps92
 go_wp2_with fail
 go_loopw [7] (fun i wr => ∃ k : Nat, k ≤ n ∧ i = .int .i64 k ∧ Hid (∀ y ∈ E.take k, (y.name == (s, q)) = false) ∧ wr = w) (fun i _ => n - (Go.RowKit.intOf i).toNat)
 case atStart => exact ⟨0, Nat.zero_le _, rfl, by unfold Hid; simp, rfl⟩
 case round =>
  obtain ⟨k, hk, rfl, hpre, rfl⟩ := hrel
  by_cases hlt : k < n
  ·obtain ⟨x, hx⟩ : ∃ x, E[k]? = some x := ⟨_, List.getElem?_eq_getElem (by rw [Hl.out]; exact hlt)⟩
   obtain ⟨g2, o, rfl, hxc⟩ := H.out k x hx
   obtain ⟨x0, x1, x2, x3, x4⟩ := hxc
   have Hx := Lib.hid hx
   have k1 : (0 : Int) ≤ (k : Int) := by omega
   have k2 : (k : Int) < (n : Int) := by omega
   have hno : Hid ((x.name == (s, q)) = false → ∀ y ∈ E.take (k + 1), (y.name == (s, q)) = false) := fun hfx y hy => by
    rw [List.take_add_one, Hx.out, List.mem_append] at hy
    rcases hy with hy | hy
    ·exact hpre.out y hy
    ·simp at hy; subst hy; exact hfx
   have hyes : Hid ((x.name == (s, q)) = true → (k : Int) = R) := fun hfx => by
    rw [← HR.out]; exact (idxI_at hpre.out Hx.out hfx).symm
   clear hx
   by_cases h1 : x.key.source = s
   ·have e1 : (x.key.source == s) = true := by simpa using h1
    by_cases h2 : x.key.seq = q
    ·have e2 : (x.key.seq == q) = true := by simpa using h2
     have hres := Lib.hid (hyes.out (by simp [Ev.name, h1, h2]))
     clear h1 h2
     go_wp2_with fail
     go_ret
     exact ⟨congrArg (fun b => Ending.returned (Value.int .i64 b)) hres.out, rfl⟩
    ·have e2 : (x.key.seq == q) = false := by simpa using h2
     have hres := Lib.hid (hno.out (by simp [Ev.name, h1, h2]))
     clear h1 h2
     go_wp2_with fail
     go_roundw
     case rel => exact ⟨k + 1, by omega, by go_num, hres, trivial⟩
     case measure => simp [Go.RowKit.intOf]; omega
   ·have e1 : (x.key.source == s) = false := by simpa using h1
    have hres := Lib.hid (hno.out (by simp [Ev.name, h1]))
    clear h1
    go_wp2_with fail
    go_roundw
    case rel => exact ⟨k + 1, by omega, by go_num, hres, trivial⟩
    case measure => simp [Go.RowKit.intOf]; omega
  ·have hres := Lib.hid (show (-1 : Int) = R by
    rw [← HR.out]
    have := hpre.out
    rw [List.take_of_length_le (by rw [Hl.out]; omega)] at this
    exact (idxI_none this).symm)
   go_wp2
   go_ret
   exact ⟨congrArg (fun b => Ending.returned (Value.int .i64 b)) hres.out, rfl⟩

theorem own_low {w : World} {base base' : Nat} {e : TypeId} {size : Nat} {v : Value} {n : Nat} {xs : List Value} (h : w.ownsRow base e size v n xs) (hb : base' ≤ base) : w.ownsRow base' e size v n xs := by
 obtain ⟨h1, h2⟩ := h
 refine ⟨h1, ?_⟩
 rcases h2 with h2 | ⟨g, cap, cur, hv, hg, r⟩
 ·exact Or.inl h2
 ·exact Or.inr ⟨g, cap, cur, hv, Nat.le_trans hb hg, r⟩
/-- One round of putting an event among others. -/
def wStep (x : Ev) (s : Bool × List Ev) (y : Ev) : Bool × List Ev := if s.1 = false ∧ cmpK x.key y.key < 0 then (true, s.2 ++ [x] ++ [y]) else (s.1, s.2 ++ [y])
def wRun (x : Ev) (E : List Ev) : Bool × List Ev := E.foldl (wStep x) (false, [])
def withE (x : Ev) (E : List Ev) : List Ev := if (wRun x E).1 then (wRun x E).2 else (wRun x E).2 ++ [x]
theorem wRun_snoc {x y : Ev} {E : List Ev} {k : Nat} (h : E[k]? = some y) : wRun x (E.take (k + 1)) = wStep x (wRun x (E.take k)) y := by
 unfold wRun
 rw [List.take_add_one, h, List.foldl_append]
 rfl
theorem wRun_there (x : Ev) : ∀ (E out : List Ev), E.foldl (wStep x) (true, out) = (true, out ++ E)
 | [], out => by simp
 | y :: r, out => by
  rw [List.foldl_cons]
  have : wStep x (true, out) y = (true, out ++ [y]) := by unfold wStep; simp
  rw [this, wRun_there x r, List.append_assoc]
  rfl
theorem wRun_ins (x : Ev) : ∀ (E out : List Ev), (∀ y ∈ E, y.key ≠ x.key) → (if (E.foldl (wStep x) (false, out)).1 then (E.foldl (wStep x) (false, out)).2 else (E.foldl (wStep x) (false, out)).2 ++ [x]) = out ++ insE x E
 | [], out, _ => by simp [insE]
 | y :: r, out, h => by
  have hne := h y (List.mem_cons_self ..)
  have hanti := cmpK_anti x.key y.key
  have hz : cmpK y.key x.key ≠ 0 := fun e => hne ((cmpK_eq ..).1 e)
  rw [List.foldl_cons, insE]
  by_cases hlt : cmpK y.key x.key < 0
  ·have : wStep x (false, out) y = (false, out ++ [y]) := by unfold wStep; rw [if_neg]; simp; omega
   rw [this, if_pos hlt, wRun_ins x r _ (fun z hz => h z (List.mem_cons_of_mem _ hz))]
   simp
  ·have : wStep x (false, out) y = (true, out ++ [x] ++ [y]) := by unfold wStep; rw [if_pos]; simp; omega
   rw [this, if_neg hlt, wRun_there]
   simp
theorem withE_ins {x : Ev} {E : List Ev} (h : ∀ y ∈ E, y.name ≠ x.name) : withE x E = insE x E := by
 have := wRun_ins x E [] (fun y hy e => h y hy (name_key e))
 unfold withE wRun
 rw [this]
 rfl
theorem wStep_len (x : Ev) (s : Bool × List Ev) (y : Ev) : (wStep x s y).2.length ≤ s.2.length + 2 := by
 unfold wStep
 split <;> simp
theorem wRun_len (x : Ev) (E : List Ev) : (wRun x E).2.length ≤ E.length * 2 := by
 have : ∀ (E : List Ev) (s : Bool × List Ev), (E.foldl (wStep x) s).2.length ≤ s.2.length + E.length * 2 := by
  intro E
  induction E with
  | nil => intro s; simp
  | cons y r ih =>
   intro s
   have h1 := ih (wStep x s y)
   have h2 := wStep_len x s y
   rw [List.foldl_cons, List.length_cons]
   omega
 have := this E (false, [])
 unfold wRun
 simpa using this
set_option maxHeartbeats 2000000 in
theorem rwith_any {w : World} {a : Option Addr} {n cap : Nat} (E : List Ev) (h : EsIn w a E) (hl : E.length = n) (hn : n ≤ 1000) (x : Ev) :
  Calls Tryz.prog 109 #[.slice a n cap, evV x] w fun e w' => ∃ v, e = .returned v ∧ w'.ownsRow w.heap.size 30 5 v (withE x E).length (flatEv (withE x E)) ∧ Fr0 none' w w' := by
 obtain ⟨i0, hi, hz0, hz1, hz2⟩ := info_parts info_event0
 have H := Lib.hid h
 have Hl := Lib.hid hl
 clear h hl
 unfold evV
 go_enter Tryz.func109, Tryz.ntmps109
 go_wp2_with fail
 obtain ⟨B, hB⟩ : ∃ B, w.heap.size = B := ⟨_, rfl⟩
 obtain ⟨W, hW⟩ : ∃ W, w.alloc (.cells #[.int .i64 x.key.time, .int .i64 x.key.source, .int .i64 x.key.seq, .int .i64 x.to, .int .i64 x.value] 30) = W := ⟨_, rfl⟩
 have F1 := Lib.hid (show Fr0 none' w W by rw [← hW]; exact (Fr0.refl _ _).alloc _)
 have HB := Lib.hid (show W.heap[B]? = some (.cells (cev x).toArray 30 (0, 0)) by rw [← hW, ← hB]; exact World.alloc_heap_new w _)
 have Hb := Lib.hid hB
 rw [hW]
 try rw [hB]
 clear hW hB
 go_loopw [5, 6, 7] (fun v5 v6 i wr => ∃ (k : Nat) (b : Bool) (out : List Ev), k ≤ n ∧ i = .int .i64 k ∧ v6 = .bool b ∧ Hid (wRun x (E.take k) = (b, out)) ∧ Hid (wr.ownsRow (w.heap.size + 1) 30 5 v5 out.length (flatEv out)) ∧ Hid (wr.heap[B]? = some (.cells (cev x).toArray 30 (0, 0))) ∧ Hid (Fr0 none' w wr)) (fun _ _ i _ => n - (Go.RowKit.intOf i).toNat)
 case atStart => exact ⟨0, false, [], Nat.zero_le _, rfl, rfl, rfl, World.ownsRow_nil _ _ _ _, HB, F1⟩
 case round =>
  obtain ⟨k, b, out, hk, rfl, rfl, hrun, hrow, hbx, hfr⟩ := hrel
  have hol : out.length ≤ 2000 := by
   have h1 := wRun_len x (E.take k)
   rw [hrun.out, List.length_take] at h1
   simp only at h1
   omega
  obtain ⟨va, vc, rfl, _, _⟩ := EsIn.of_own hrow.out
  have a0 := cells_in hbx.out 0
  have a1 := cells_in hbx.out 1
  have a2 := cells_in hbx.out 2
  have a3 := cells_in hbx.out 3
  have a4 := cells_in hbx.out 4
  simp [cev] at a0 a1 a2 a3 a4
  by_cases hlt : k < n
  ·obtain ⟨y, hy⟩ : ∃ y, E[k]? = some y := ⟨_, List.getElem?_eq_getElem (by rw [Hl.out]; exact hlt)⟩
   obtain ⟨g2, o, rfl, hxc⟩ := H.out k y hy
   obtain ⟨x0, x1, x2, x3, x4⟩ := hxc.later hfr.out
   have k1 : (0 : Int) ≤ (k : Int) := by omega
   have k2 : (k : Int) < (n : Int) := by omega
   have hsn := wRun_snoc (x := x) hy
   rw [hrun.out] at hsn
   have HL := Lib.hid (rLessK_any x.key y.key)
   simp only [keyV] at HL
   obtain ⟨c, hc⟩ : ∃ c, decide (cmpK x.key y.key < 0) = c := ⟨_, rfl⟩
   rw [hc] at HL
   have Hsn := Lib.hid hsn
   have Hc := Lib.hid hc
   clear hy hsn hc
   have HY := Lib.hid hxc
   have HX := Lib.hid (fun (W' : World) (hf : Fr0 none' wr W') => (hf.block B (Array.getElem?_eq_some_iff.1 hbx.out).1 id).trans hbx.out)
   clear a0 a1 a2 a3 a4 x0 x1 x2 x3 x4 hxc
   cases b with
   | true =>
    have hst := Hsn.out
    rw [show wStep x (true, out) y = (true, out ++ [y]) by unfold wStep; simp] at hst
    have Hst := Lib.hid hst
    clear hst
    go_wp2_with fail
    refine wp_region_held_drew (S := fun W' => Fr0 none' wr W') (by kernel_rfl) ((Fr0.refl none' wr).drew) (fun hHeld => ?_)
    refine tk0 (i := 0) (v := .bool true) ?_
    try simp only[pUt,pUn,sEt,sEz,sEs]
    refine tk0 (i := 1) (v := .bool false) ?_
    try simp only[pUt,pUn,sEt,sEz,sEs]
    refine tk0 (i := 2) (v := .bool false) ?_
    try simp only[pUt,pUn,sEt,sEz,sEs]
    refine tkf (i := 3) ?_
    try simp only[pUt,pUn,sEt,sEz,sEs]
    refine tkf (i := 4) ?_
    try simp only[pUt,pUn,sEt,sEz,sEs]
    refine tkf (i := 5) ?_
    try simp only[pUt,pUn,sEt,sEz,sEs]
    refine tkf (i := 6) ?_
    try simp only[pUt,pUn,sEt,sEz,sEs]
    refine tkf (i := 7) ?_
    try simp only[pUt,pUn,sEt,sEz,sEs]
    refine tkf (i := 8) ?_
    try simp only[pUt,pUn,sEt,sEz,sEs]
    refine tkf (i := 9) ?_
    try simp only[pUt,pUn,sEt,sEz,sEs]
    refine tkf (i := 10) ?_
    try simp only[pUt,pUn,sEt,sEz,sEs]
    refine tk0 (i := 11) (v := .bool false) ?_
    try simp only[pUt,pUn,sEt,sEz,sEs]
    refine wpAnyH_done (by kernel_rfl) ?_ _
    have hf2 : Fr0 none' wr wr.drew := (Fr0.refl none' wr).drew
    obtain ⟨w2, hw2⟩ : ∃ w2, wr.drew = w2 := ⟨_, rfl⟩
    rw [hw2] at hf2 ⊢
    clear hw2
    have hrow := Lib.hid (ownsRow_fr0 hrow.out hf2 (fun _ _ h => h))
    have hbx := Lib.hid ((hf2.block B (Array.getElem?_eq_some_iff.1 hbx.out).1 id).trans hbx.out)
    have hfr := Lib.hid (hfr.out.trans hf2)
    clear hf2 HX
    obtain ⟨x0, x1, x2, x3, x4⟩ := HY.out.later hfr.out
    have hsrc := Src.newRow (P := Tryz.prog) (size := 5) (tx := 22) (ty := 30) w2 Tryz.underlying22 1 1 (cev y) rfl (by simp [Value.oneCell', cev])
    simp only [cev] at hsrc
    have hbase : w.heap.size + 1 ≤ (w2).heap.size := by have h1 := (Array.getElem?_eq_some_iff.1 hbx.out).1; have := Hb.out; omega
    go_wp2_with (at_builtin; refine wpList_append_k rfl _ _ 22 22 rfl (w.heap.size + 1) 30 i0 (.agg #[.int .i64 0, .int .i64 0, .int .i64 0, .int .i64 0, .int .i64 0]) 5 40 Tryz.underlying22 hi hz0 hz1 hz2 rfl (by decide) (Value.slice va out.length vc) (out.length) _ rfl (ownsRow_fr0 hrow.out ((Fr0.refl none' w2).alloc _) (fun _ _ h => h)) (.slice (some ⟨(w2).heap.size, 0, none⟩) 1 1) 1 _ rfl hsrc (by unfold maxLen; omega) (by omega) (by simp; omega) ?_; intro v9 w9 hown hgrow hdr hob; obtain ⟨g9, c9, rfl⟩ := ownsRow_k_succ hown; have Lw9 := Lib.hid hrow.out.lt; have Fw9 := Lib.hid (show Fr0 (fun i => (Value.slice va out.length vc).ownBlock = some i) w2 w9 from ((Fr0.refl _ w2).alloc _).grown hgrow (fun i hi _ => hi)); have Rw9 := Lib.hid hown; clear hown hgrow hdr hob hsrc)
    have hrow := Lib.hid (show (w9).ownsRow (w.heap.size + 1) 30 5 (.slice (some ⟨g9, 0, none⟩) (out.length + 1) c9) (out.length + 1) (flatEv (out ++ [y])) by simpa [flatEv, cev] using Rw9.out)
    have hbx := Lib.hid ((Fw9.out.block B (Array.getElem?_eq_some_iff.1 hbx.out).1 (fun h => by have := (Lw9.out B h).1; have := Hb.out; omega)).trans hbx.out)
    have hfr := Lib.hid (hfr.out.trans' Fw9.out (fun i hi h => by have := (Lw9.out i h).1; omega))
    clear x0 x1 x2 x3 x4
    go_roundw
    case rel => exact ⟨k + 1, _, _, by omega, by go_num, rfl, Hst, by simpa using hrow, hbx, hfr⟩
    case measure => simp [Go.RowKit.intOf]; omega
   | false =>
    go_wp2_with fail
    refine wp_region_held_drew (S := fun W' => Fr0 none' wr W') (by kernel_rfl) ((Fr0.refl none' wr).drew) (fun hHeld => ?_)
    refine tk0 (i := 0) (v := .bool false) ?_
    try simp only[pUt,pUn,sEt,sEz,sEs]
    refine tk0 (i := 1) (v := .bool true) ?_
    try simp only[pUt,pUn,sEt,sEz,sEs]
    refine tk0 (i := 2) (v := .bool true) ?_
    try simp only[pUt,pUn,sEt,sEz,sEs]
    refine tk0 (i := 3) (v := .pointer (some ⟨B, 0, none⟩)) ?_
    try simp only[pUt,pUn,sEt,sEz,sEs]
    refine tkn (i := 4) (v := .agg #[.int .i64 x.key.time, .int .i64 x.key.source, .int .i64 x.key.seq]) (fun W' hSW => ?_) ?_
    ·have hb := HX.out W' hSW
     have x0 := cells_in hb 0
     have x1 := cells_in hb 1
     have x2 := cells_in hb 2
     have x3 := cells_in hb 3
     have x4 := cells_in hb 4
     simp [cev] at x0 x1 x2 x3 x4
     clear hb
     first|go_simp;done|exact rfl|go_simp;rfl|go_simp;omega
    try simp only[pUt,pUn,sEt,sEz,sEs]
    refine tk0 (i := 5) (v := .slice (some ⟨g2, o, none⟩) n cap) ?_
    try simp only[pUt,pUn,sEt,sEz,sEs]
    refine tk0 (i := 6) (v := .int .i64 k) ?_
    try simp only[pUt,pUn,sEt,sEz,sEs]
    refine tk0 (i := 7) (v := .pointer (some ⟨g2, o + k * 5, none⟩)) ?_
    try simp only[pUt,pUn,sEt,sEz,sEs]
    refine tk0 (i := 8) (v := .pointer (some ⟨g2, o + k * 5, none⟩)) ?_
    try simp only[pUt,pUn,sEt,sEz,sEs]
    refine tkn (i := 9) (v := .agg #[.int .i64 y.key.time, .int .i64 y.key.source, .int .i64 y.key.seq]) (fun W' hSW => ?_) ?_
    ·obtain ⟨b0, b1, b2, b3, b4⟩ := HY.out.later (hfr.out.trans hSW)
     first|go_simp;done|exact rfl|go_simp;rfl|go_simp;omega
    try simp only[pUt,pUn,sEt,sEz,sEs]
    refine take_call (i := 10) rfl (by kernel_rfl) (by kernel_rfl) (fun K hK => ?_)
    go_simp
    refine (HL.out _).mono ?_
    rintro e w2 ⟨rfl, hf2⟩
    have hf2 : Fr0 none' wr w2 := ((Fr0.refl none' wr).drew).trans hf2
    go_wp2_with fail
    refine hK.out _ _ hf2 (fun hS => ?_)
    clear hK K
    try simp only[pUt,pUn,sEt,sEz,sEs]
    refine tk0 (i := 11) (v := .bool c) ?_
    try simp only[pUt,pUn,sEt,sEz,sEs]
    refine wpAnyH_done (by kernel_rfl) ?_ _
    clear hHeld hS
    have hrow := Lib.hid (ownsRow_fr0 hrow.out hf2 (fun _ _ h => h))
    have hbx := Lib.hid ((hf2.block B (Array.getElem?_eq_some_iff.1 hbx.out).1 id).trans hbx.out)
    have hfr := Lib.hid (hfr.out.trans hf2)
    clear hf2 HX
    cases c with
    | true =>
     have hst := Hsn.out
     rw [show wStep x (false, out) y = (true, out ++ [x] ++ [y]) by unfold wStep; rw [if_pos ⟨rfl, of_decide_eq_true Hc.out⟩]] at hst
     have Hst := Lib.hid hst
     clear hst
     have a0 := cells_in hbx.out 0
     have a1 := cells_in hbx.out 1
     have a2 := cells_in hbx.out 2
     have a3 := cells_in hbx.out 3
     have a4 := cells_in hbx.out 4
     simp [cev] at a0 a1 a2 a3 a4
     have hsrc := Src.newRow (P := Tryz.prog) (size := 5) (tx := 22) (ty := 30) w2 Tryz.underlying22 1 1 (cev x) rfl (by simp [Value.oneCell', cev])
     simp only [cev] at hsrc
     have hbase : w.heap.size + 1 ≤ w2.heap.size := by have h1 := (Array.getElem?_eq_some_iff.1 hbx.out).1; have := Hb.out; omega
     go_wp2_with (at_builtin; first | (refine wpList_append_k rfl _ _ 22 22 rfl (w.heap.size + 1) 30 i0 (.agg #[.int .i64 0, .int .i64 0, .int .i64 0, .int .i64 0, .int .i64 0]) 5 40 Tryz.underlying22 hi hz0 hz1 hz2 rfl (by decide) (Value.slice va out.length vc) (out.length) _ rfl (ownsRow_fr0 hrow.out ((Fr0.refl none' w2).alloc _) (fun _ _ h => h)) (.slice (some ⟨(w2).heap.size, 0, none⟩) 1 1) 1 _ rfl hsrc (by unfold maxLen; omega) (by omega) (by simp; omega) ?_; intro v9 w9 hown hgrow hdr hob; obtain ⟨g9, c9, rfl⟩ := ownsRow_k_succ hown; have Lw9 := Lib.hid hrow.out.lt; have Fw9 := Lib.hid (show Fr0 (fun i => (Value.slice va out.length vc).ownBlock = some i) w2 w9 from ((Fr0.refl _ w2).alloc _).grown hgrow (fun i hi _ => hi)); have Rw9 := Lib.hid hown; clear hown hgrow hdr hob hsrc; obtain ⟨x0, x1, x2, x3, x4⟩ := HY.out.later (hfr.out.trans' Fw9.out (fun i hi h => by have := (Lw9.out i h).1; omega)); have hbase : w.heap.size + 1 ≤ w9.heap.size := Nat.le_trans hbase Fw9.out.size; have hsrc2 := Src.newRow (P := Tryz.prog) (size := 5) (tx := 22) (ty := 30) w9 Tryz.underlying22 1 1 (cev y) rfl (by simp [Value.oneCell', cev]); simp only [cev] at hsrc2) | (refine wpList_append_k rfl _ _ 22 22 rfl (w.heap.size + 1) 30 i0 (.agg #[.int .i64 0, .int .i64 0, .int .i64 0, .int .i64 0, .int .i64 0]) 5 40 Tryz.underlying22 hi hz0 hz1 hz2 rfl (by decide) (Value.slice (some ⟨g9, 0, none⟩) (out.length + 1) c9) (out.length + 1) _ rfl (ownsRow_fr0 Rw9.out ((Fr0.refl none' w9).alloc _) (fun _ _ h => h)) (.slice (some ⟨(w9).heap.size, 0, none⟩) 1 1) 1 _ rfl hsrc2 (by unfold maxLen; omega) (by omega) (by simp; omega) ?_; intro v9 w10 hown hgrow hdr hob; obtain ⟨g10, c10, rfl⟩ := ownsRow_k_succ hown; have Lw10 := Lib.hid Rw9.out.lt; have Fw10 := Lib.hid (show Fr0 (fun i => (Value.slice (some ⟨g9, 0, none⟩) (out.length + 1) c9).ownBlock = some i) w9 w10 from ((Fr0.refl _ w9).alloc _).grown hgrow (fun i hi _ => hi)); have Rw10 := Lib.hid hown; clear hown hgrow hdr hob hsrc2))
     have hrow := Lib.hid (show (w9).ownsRow (w.heap.size + 1) 30 5 (.slice (some ⟨g9, 0, none⟩) (out.length + 1) c9) (out.length + 1) (flatEv (out ++ [x])) by simpa [flatEv, cev] using Rw9.out)
     have hbx := Lib.hid ((Fw9.out.block B (Array.getElem?_eq_some_iff.1 hbx.out).1 (fun h => by have := (Lw9.out B h).1; have := Hb.out; omega)).trans hbx.out)
     have hfr := Lib.hid (hfr.out.trans' Fw9.out (fun i hi h => by have := (Lw9.out i h).1; omega))
     have hrow := Lib.hid (show (w10).ownsRow (w.heap.size + 1) 30 5 (.slice (some ⟨g10, 0, none⟩) (out.length + 1 + 1) c10) (out.length + 1 + 1) (flatEv (out ++ [x] ++ [y])) by simpa [flatEv, cev] using Rw10.out)
     have hbx := Lib.hid ((Fw10.out.block B (Array.getElem?_eq_some_iff.1 hbx.out).1 (fun h => by have := (Lw10.out B h).1; have := Hb.out; omega)).trans hbx.out)
     have hfr := Lib.hid (hfr.out.trans' Fw10.out (fun i hi h => by have := (Lw10.out i h).1; omega))
     clear a0 a1 a2 a3 a4 x0 x1 x2 x3 x4
     go_roundw
     case rel => exact ⟨k + 1, _, _, by omega, by go_num, rfl, Hst, by simpa using hrow, hbx, hfr⟩
     case measure => simp [Go.RowKit.intOf]; omega
    | false =>
     have hst := Hsn.out
     rw [show wStep x (false, out) y = (false, out ++ [y]) by unfold wStep; rw [if_neg (fun h => of_decide_eq_false Hc.out h.2)]] at hst
     have Hst := Lib.hid hst
     clear hst
     obtain ⟨x0, x1, x2, x3, x4⟩ := HY.out.later hfr.out
     have hsrc := Src.newRow (P := Tryz.prog) (size := 5) (tx := 22) (ty := 30) w2 Tryz.underlying22 1 1 (cev y) rfl (by simp [Value.oneCell', cev])
     simp only [cev] at hsrc
     have hbase : w.heap.size + 1 ≤ (w2).heap.size := by have h1 := (Array.getElem?_eq_some_iff.1 hbx.out).1; have := Hb.out; omega
     go_wp2_with (at_builtin; refine wpList_append_k rfl _ _ 22 22 rfl (w.heap.size + 1) 30 i0 (.agg #[.int .i64 0, .int .i64 0, .int .i64 0, .int .i64 0, .int .i64 0]) 5 40 Tryz.underlying22 hi hz0 hz1 hz2 rfl (by decide) (Value.slice va out.length vc) (out.length) _ rfl (ownsRow_fr0 hrow.out ((Fr0.refl none' w2).alloc _) (fun _ _ h => h)) (.slice (some ⟨(w2).heap.size, 0, none⟩) 1 1) 1 _ rfl hsrc (by unfold maxLen; omega) (by omega) (by simp; omega) ?_; intro v9 w9 hown hgrow hdr hob; obtain ⟨g9, c9, rfl⟩ := ownsRow_k_succ hown; have Lw9 := Lib.hid hrow.out.lt; have Fw9 := Lib.hid (show Fr0 (fun i => (Value.slice va out.length vc).ownBlock = some i) w2 w9 from ((Fr0.refl _ w2).alloc _).grown hgrow (fun i hi _ => hi)); have Rw9 := Lib.hid hown; clear hown hgrow hdr hob hsrc)
     have hrow := Lib.hid (show (w9).ownsRow (w.heap.size + 1) 30 5 (.slice (some ⟨g9, 0, none⟩) (out.length + 1) c9) (out.length + 1) (flatEv (out ++ [y])) by simpa [flatEv, cev] using Rw9.out)
     have hbx := Lib.hid ((Fw9.out.block B (Array.getElem?_eq_some_iff.1 hbx.out).1 (fun h => by have := (Lw9.out B h).1; have := Hb.out; omega)).trans hbx.out)
     have hfr := Lib.hid (hfr.out.trans' Fw9.out (fun i hi h => by have := (Lw9.out i h).1; omega))
     clear x0 x1 x2 x3 x4
     go_roundw
     case rel => exact ⟨k + 1, _, _, by omega, by go_num, rfl, Hst, by simpa using hrow, hbx, hfr⟩
     case measure => simp [Go.RowKit.intOf]; omega
  ·have hkn : k = n := by omega
   subst hkn
   have hrun' := hrun.out
   rw [List.take_of_length_le (by rw [Hl.out]; exact Nat.le_refl _)] at hrun'
   have hwe : withE x E = if b then out else out ++ [x] := by unfold withE; rw [hrun']
   cases b with
   | true =>
    rw [if_pos rfl] at hwe
    have hfin := Lib.hid (show wr.ownsRow w.heap.size 30 5 (.slice va out.length vc) (withE x E).length (flatEv (withE x E)) by rw [hwe]; exact own_low hrow.out (by omega))
    clear hwe hrun'
    go_wp2_with fail
    go_ret
    exact ⟨_, rfl, hfin.out, hfr.out⟩
   | false =>
    rw [if_neg (by simp)] at hwe
    have hW := Lib.hid hwe
    clear hwe hrun'
    have hsrc := Src.newRow (P := Tryz.prog) (size := 5) (tx := 22) (ty := 30) wr Tryz.underlying22 1 1 (cev x) rfl (by simp [Value.oneCell', cev])
    simp only [cev] at hsrc
    have hbase : w.heap.size + 1 ≤ (wr).heap.size := by have h1 := (Array.getElem?_eq_some_iff.1 hbx.out).1; have := Hb.out; omega
    go_wp2_with (at_builtin; refine wpList_append_k rfl _ _ 22 22 rfl (w.heap.size + 1) 30 i0 (.agg #[.int .i64 0, .int .i64 0, .int .i64 0, .int .i64 0, .int .i64 0]) 5 40 Tryz.underlying22 hi hz0 hz1 hz2 rfl (by decide) (Value.slice va out.length vc) (out.length) _ rfl (ownsRow_fr0 hrow.out ((Fr0.refl none' wr).alloc _) (fun _ _ h => h)) (.slice (some ⟨(wr).heap.size, 0, none⟩) 1 1) 1 _ rfl hsrc (by unfold maxLen; omega) (by omega) (by simp; omega) ?_; intro v9 w9 hown hgrow hdr hob; obtain ⟨g9, c9, rfl⟩ := ownsRow_k_succ hown; have Lw9 := Lib.hid hrow.out.lt; have Fw9 := Lib.hid (show Fr0 (fun i => (Value.slice va out.length vc).ownBlock = some i) wr w9 from ((Fr0.refl _ wr).alloc _).grown hgrow (fun i hi _ => hi)); have Rw9 := Lib.hid hown; clear hown hgrow hdr hob hsrc)
    have hrow := Lib.hid (show (w9).ownsRow (w.heap.size + 1) 30 5 (.slice (some ⟨g9, 0, none⟩) (out.length + 1) c9) (out.length + 1) (flatEv (out ++ [x])) by simpa [flatEv, cev] using Rw9.out)
    have hbx := Lib.hid ((Fw9.out.block B (Array.getElem?_eq_some_iff.1 hbx.out).1 (fun h => by have := (Lw9.out B h).1; have := Hb.out; omega)).trans hbx.out)
    have hfr := Lib.hid (hfr.out.trans' Fw9.out (fun i hi h => by have := (Lw9.out i h).1; omega))
    go_ret
    refine ⟨_, rfl, ?_, hfr.out⟩
    rw [hW.out, List.length_append, List.length_singleton]
    exact own_low hrow.out (by omega)
/-
  The reference of layer 10: Take, Find.
-/

/-- A queue of the reference: its capacity, its events in a row that lies in the old one's block, or in a new one. -/
def RAt (w' : World) (a : Option Addr) (N : Nat) (c : Int) (E : List Ev) (v : Value) : Prop := ∃ a' cap, v = .agg #[.int .i64 c, .slice a' E.length cap] ∧ E.length ≤ cap ∧ EsIn w' a' E ∧ ∀ g o s, a' = some ⟨g, o, s⟩ → (∃ o' s', a = some ⟨g, o', s'⟩) ∨ (N ≤ g ∧ g < w'.heap.size)
theorem RAt.same {w w' : World} {a : Option Addr} {N cap : Nat} {c : Int} {E : List Ev} (h : EsIn w a E) (hf : Fr0 none' w w') (hc : E.length ≤ cap) : RAt w' a N c E (.agg #[.int .i64 c, .slice a E.length cap]) :=
 ⟨a, cap, rfl, hc, h.later hf, fun g o s e => .inl ⟨o, s, e⟩⟩
theorem RAt.own {w' : World} {a : Option Addr} {base N : Nat} {c : Int} {E : List Ev} {v : Value} (h : w'.ownsRow base 30 5 v E.length (flatEv E)) (hb : N ≤ base) : RAt w' a N c E (.agg #[.int .i64 c, v]) := by
 have hlt := h.lt
 have hcap : ∀ a' cap, v = .slice a' E.length cap → E.length ≤ cap := fun a' cap hv => by
  rcases h.2 with ⟨h0, h1⟩ | ⟨g, cap', cur, hv', _, _, hn, _⟩
  ·omega
  ·rw [hv] at hv'; injection hv' with _ _ h; omega
 have hown := h.2
 obtain ⟨a', cap, rfl, _, he⟩ := EsIn.of_own h
 refine ⟨a', cap, rfl, hcap a' cap rfl, he, fun g o s e => .inr ?_⟩
 rcases hown with ⟨h0, h1⟩ | ⟨g', cap', cur, hv', hg, _⟩
 ·injection h0 with h0 _ _
  rw [h0] at e; cases e
 ·injection hv' with h1 _ _
  rw [h1] at e
  injection e with e
  injection e with e1 _ _
  subst e1
  have := hlt g' (by rw [h1]; rfl)
  omega
theorem RAt.rest {w w' : World} {a : Option Addr} {N cap m : Nat} {c : Int} {E : List Ev} (h : EsIn w a E) (hl : E.length = m) (hf : Fr0 none' w w') (hc : m ≤ cap) (n : Nat) (hn : n ≤ m) : RAt w' a N c (E.drop n) (.agg #[.int .i64 c, .slice (dR cap n a) (m - n) (cap - n)]) := by
 subst hl
 refine ⟨dR cap n a, cap - n, by rw [List.length_drop], by rw [List.length_drop]; omega, (h.later hf).restR hc n, fun g o s e => .inl ?_⟩
 unfold dR at e
 split at e
 ·exact ⟨o, s, e⟩
 ·cases a with
  | none => cases e
  | some A =>
   rw [Option.map_some] at e
   injection e with e
   have hb : (A.add (n * 5)).block = A.block := by unfold Addr.add; split <;> rfl
   rw [e] at hb
   obtain ⟨g', o', s'⟩ := A
   simp only at hb
   subst hb
   exact ⟨o', s', rfl⟩
set_option maxHeartbeats 2000000 in
theorem rTake_nil {w : World} {a : Option Addr} {cap : Nat} (c : Int) :
  Calls Tryz.prog 87 #[.agg #[.int .i64 c, .slice a 0 cap]] w fun e w' => e = .returned (.tuple #[.agg #[.int .i64 c, .slice a 0 cap], evV ⟨⟨0, 0, 0⟩, 0, 0⟩, .int .i64 6]) ∧ Fr0 none' w w' := by
 obtain ⟨m, hm⟩ : ∃ m, 0 = m := ⟨_, rfl⟩
 unfold evV
 rw [hm]
 have d1 : (((m : Nat) : Int) == 0) = true := by rw [← hm]; rfl
 clear hm
 go_enter Tryz.func87, Tryz.ntmps87
 go_wp2_with fail
 exact bodyPost_ret (v := .tuple #[.agg #[.int .i64 c, .slice a m cap], .agg #[.int .i64 0, .int .i64 0, .int .i64 0, .int .i64 0, .int .i64 0], .int .i64 6]) (by simp [results, Tryz.results87, go_sem]) rfl ⟨rfl, (((Fr0.refl _ _).alloc _).alloc _).alloc _⟩
set_option maxHeartbeats 2000000 in
theorem rTake_some {w : World} {a : Option Addr} {m cap : Nat} (c : Int) (x : Ev) (E : List Ev) (h : EsIn w a (x :: E)) (hl : E.length + 1 = m) (hm : m ≤ 1000) (hc : m ≤ cap) :
  Calls Tryz.prog 87 #[.agg #[.int .i64 c, .slice a m cap]] w fun e w' => ∃ v, e = .returned (.tuple #[v, evV x, .int .i64 0]) ∧ RAt w' a w.heap.size c E v ∧ Fr0 none' w w' := by
 have H := Lib.hid h
 have Hl := Lib.hid hl
 have d1 : ((m : Int) == 0) = false := beq_eq_false_iff_ne.2 (by omega)
 clear h hl
 unfold evV
 go_enter Tryz.func87, Tryz.ntmps87
 go_wp2_with fail
 obtain ⟨SB, hSB⟩ : ∃ B, w.heap.size = B := ⟨_, rfl⟩
 obtain ⟨W1, hW1⟩ : ∃ W, w.alloc (.cells #[.int .i64 c, .slice a m cap] 128) = W := ⟨_, rfl⟩
 have HS := Lib.hid (show W1.heap[SB]? = some (.cells #[.int .i64 c, .slice a m cap] 128 (0, 0)) by rw [← hW1, ← hSB]; exact World.alloc_heap_new w _)
 have HF := Lib.hid (show Fr0 none' w W1 by rw [← hW1]; exact (Fr0.refl _ _).alloc _)
 rw [hW1]
 try rw [hSB]
 have HSB := Lib.hid hSB
 have HSz := Lib.hid (show W1.heap.size = SB + 1 by rw [← hW1, World.size_alloc, hSB])
 clear hW1 hSB
 have s0 := cells_in HS.out 0
 have s1 := cells_in HS.out 1
 simp at s0 s1
 go_wp2_with fail
 obtain ⟨W3, hW3⟩ : ∃ W, (W1.alloc (.cells #[.int .i64 0, .slice none 0 0] 128)).alloc (.cells #[.int .i64 0, .int .i64 0, .int .i64 0, .int .i64 0, .int .i64 0] 30) = W := ⟨_, rfl⟩
 have h3 : Fr0 none' W1 W3 := by rw [← hW3]; exact ((Fr0.refl _ _).alloc _).alloc _
 have HR1 := Lib.hid (show W3.heap[SB + 1]? = some (.cells #[.int .i64 0, .slice none 0 0] 128 (0, 0)) by
  rw [← hW3, ← HSz.out]
  exact ((((Fr0.refl none' (W1.alloc (.cells #[.int .i64 0, .slice none 0 0] 128))).alloc _).block W1.heap.size (by rw [World.size_alloc]; omega) id)).trans (World.alloc_heap_new W1 _))
 have HR2 := Lib.hid (show W3.heap[SB + 1 + 1]? = some (.cells #[.int .i64 0, .int .i64 0, .int .i64 0, .int .i64 0, .int .i64 0] 30 (0, 0)) by
  have h7 := World.alloc_heap_new (W1.alloc (.cells #[.int .i64 0, .slice none 0 0] 128)) (.cells #[.int .i64 0, .int .i64 0, .int .i64 0, .int .i64 0, .int .i64 0] 30)
  rw [World.size_alloc, HSz.out] at h7
  rw [← hW3]
  exact h7)
 have HS3 := Lib.hid ((h3.block SB (Array.getElem?_eq_some_iff.1 HS.out).1 id).trans HS.out)
 have HF3 := Lib.hid (HF.out.trans h3)
 rw [hW3]
 clear hW3 h3 s0 s1
 obtain ⟨g, o, rfl, hat⟩ := H.out 0 x rfl
 rw [Nat.zero_mul, Nat.add_zero] at hat
 have hgl : ∀ b, w.heap.size ≤ b → g ≠ b := fun b hb e => by
  have := World.block_lt_of_cell? _ _ hat.1
  simp only at this
  omega
 have hat3 := hat.later HF3.out
 have HZ := Lib.hid (fun (W' : World) (hf : Fr0 (fun k => k = SB + 1 ∨ k = SB + 1 + 1) W3 W') => (show W'.cell? ⟨SB, 0, none⟩ = some (.int .i64 c) ∧ W'.cell? ⟨SB, 1, none⟩ = some (.slice (some ⟨g, o, none⟩) m cap) ∧ EAt W' g o x from by
  have h7 := (hf.block SB (Array.getElem?_eq_some_iff.1 HS3.out).1 (fun h => by rcases h with h | h <;> omega)).trans HS3.out
  have s0 := cells_in h7 0
  have s1 := cells_in h7 1
  simp at s0 s1
  exact ⟨s0, s1, hat3.fr0 hf (fun h => by have h8 := HSB.out; rcases h with h | h <;> exact hgl _ (by omega) h)⟩))
 have hdR : (if cap = 1 then some (⟨g, o, none⟩ : Addr) else some ⟨g, o + 5, none⟩) = dR cap 1 (some ⟨g, o, none⟩) := rfl
 have hlm := Hl.out
 have m1 : (1 : Int) ≤ (m : Int) := by omega
 have m2 : (m : Int) ≤ (cap : Int) := by omega
 have m3 : (0 : Int) < (m : Int) := by omega
 clear hlm
 refine wp_region_held_drew (S := fun W' => Fr0 (fun k => k = SB + 1 ∨ k = SB + 1 + 1) W3 W') (by kernel_rfl) ((Fr0.refl _ W3).drew) (fun hHeld => ?_)
 refine tkn (i := 0) (v := .pointer (some ⟨SB, 0, none⟩)) (fun W' hSW => ?_) ?_
 ·obtain ⟨s0, s1, b0, b1, b2, b3, b4⟩ := HZ.out W' hSW
  first|go_simp;done|exact rfl|go_simp;rfl|go_simp;omega
 try simp only[pUt,pUn,sEt,sEz,sEs]
 refine tkn (i := 1) (v := .int .i64 c) (fun W' hSW => ?_) ?_
 ·obtain ⟨s0, s1, b0, b1, b2, b3, b4⟩ := HZ.out W' hSW
  first|go_simp;done|exact rfl|go_simp;rfl|go_simp;omega
 try simp only[pUt,pUn,sEt,sEz,sEs]
 refine tkn (i := 2) (v := .pointer (some ⟨SB, 1, none⟩)) (fun W' hSW => ?_) ?_
 ·obtain ⟨s0, s1, b0, b1, b2, b3, b4⟩ := HZ.out W' hSW
  first|go_simp;done|exact rfl|go_simp;rfl|go_simp;omega
 try simp only[pUt,pUn,sEt,sEz,sEs]
 refine tkn (i := 3) (v := .slice (some ⟨g, o, none⟩) m cap) (fun W' hSW => ?_) ?_
 ·obtain ⟨s0, s1, b0, b1, b2, b3, b4⟩ := HZ.out W' hSW
  first|go_simp;done|exact rfl|go_simp;rfl|go_simp;omega
 try simp only[pUt,pUn,sEt,sEz,sEs]
 refine tkn (i := 4) (v := .slice (dR cap 1 (some ⟨g, o, none⟩)) (m - 1) (cap - 1)) (fun W' hSW => ?_) ?_
 ·obtain ⟨s0, s1, b0, b1, b2, b3, b4⟩ := HZ.out W' hSW
  first|go_simp;done|exact rfl|go_simp;rfl|go_simp;omega
 try simp only[pUt,pUn,sEt,sEz,sEs]
 refine tkn (i := 5) (v := .agg #[.int .i64 c, .slice (dR cap 1 (some ⟨g, o, none⟩)) (m - 1) (cap - 1)]) (fun W' hSW => ?_) ?_
 ·obtain ⟨s0, s1, b0, b1, b2, b3, b4⟩ := HZ.out W' hSW
  first|go_simp;done|exact rfl|go_simp;rfl|go_simp;omega
 try simp only[pUt,pUn,sEt,sEz,sEs]
 refine tkn (i := 6) (v := .pointer (some ⟨SB, 1, none⟩)) (fun W' hSW => ?_) ?_
 ·obtain ⟨s0, s1, b0, b1, b2, b3, b4⟩ := HZ.out W' hSW
  first|go_simp;done|exact rfl|go_simp;rfl|go_simp;omega
 try simp only[pUt,pUn,sEt,sEz,sEs]
 refine tkn (i := 7) (v := .slice (some ⟨g, o, none⟩) m cap) (fun W' hSW => ?_) ?_
 ·obtain ⟨s0, s1, b0, b1, b2, b3, b4⟩ := HZ.out W' hSW
  first|go_simp;done|exact rfl|go_simp;rfl|go_simp;omega
 try simp only[pUt,pUn,sEt,sEz,sEs]
 refine tkn (i := 8) (v := .pointer (some ⟨g, o, none⟩)) (fun W' hSW => ?_) ?_
 ·obtain ⟨s0, s1, b0, b1, b2, b3, b4⟩ := HZ.out W' hSW
  first|go_simp;done|exact rfl|go_simp;rfl|go_simp;omega
 try simp only[pUt,pUn,sEt,sEz,sEs]
 refine tkn (i := 9) (v := .agg #[.int .i64 x.key.time, .int .i64 x.key.source, .int .i64 x.key.seq, .int .i64 x.to, .int .i64 x.value]) (fun W' hSW => ?_) ?_
 ·obtain ⟨s0, s1, b0, b1, b2, b3, b4⟩ := HZ.out W' hSW
  first|go_simp;done|exact rfl|go_simp;rfl|go_simp;omega
 try simp only[pUt,pUn,sEt,sEz,sEs]
 refine take_call (i := 10) rfl (by kernel_rfl) (by kernel_rfl) (fun K hK => ?_)
 have t0 := thaw_in HR1.out 0
 have t1 := thaw_in HR1.out 1
 have u0 := cells_in HR1.out 0
 have u1 := cells_in HR1.out 1
 simp at u0 u1
 go_simp
 obtain ⟨W5, hW5⟩ : ∃ W, (W3.setCell ⟨SB + 1, 0, none⟩ (.int .i64 c)).setCell ⟨SB + 1, 1, none⟩ (.slice (dR cap 1 (some ⟨g, o, none⟩)) (m - 1) (cap - 1)) = W := ⟨_, rfl⟩
 have f5 : Fr0 (fun k => k = SB + 1 ∨ k = SB + 1 + 1) W3 W5 := by rw [← hW5]; exact ((Fr0.refl (fun k => k = SB + 1 ∨ k = SB + 1 + 1) W3).setCell (fun _ => .inl rfl) _).setCell (fun _ => .inl rfl) _
 have HQ1 := Lib.hid (show W5.heap[SB + 1]? = some (.cells #[.int .i64 c, .slice (dR cap 1 (some ⟨g, o, none⟩)) (m - 1) (cap - 1)] 128 (0, 0)) by rw [← hW5]; exact heap_set_cell (heap_set_cell HR1.out _) _)
 have HQ2 := Lib.hid ((Fr0.block (show Fr0 (fun k => k = SB + 1) W3 W5 by rw [← hW5]; exact ((Fr0.refl (fun k => k = SB + 1) W3).setCell (fun _ => rfl) _).setCell (fun _ => rfl) _) (SB + 1 + 1) (Array.getElem?_eq_some_iff.1 HR2.out).1 (fun e => by omega)).trans HR2.out)
 rw [hW5]
 refine hK.out _ _ f5.drew (fun hS => ?_)
 clear hK K hW5 t0 t1 u0 u1
 try simp only[pUt,pUn,sEt,sEz,sEs]
 refine take_call (i := 11) rfl (by kernel_rfl) (by kernel_rfl) (fun K hK => ?_)
 have t0 := thaw_in HQ2.out 0
 have t1 := thaw_in HQ2.out 1
 have t2 := thaw_in HQ2.out 2
 have t3 := thaw_in HQ2.out 3
 have t4 := thaw_in HQ2.out 4
 have u0 := cells_in HQ2.out 0
 have u1 := cells_in HQ2.out 1
 have u2 := cells_in HQ2.out 2
 have u3 := cells_in HQ2.out 3
 have u4 := cells_in HQ2.out 4
 simp at u0 u1 u2 u3 u4
 go_simp
 obtain ⟨W6, hW6⟩ : ∃ W, ((((W5.setCell ⟨SB + 1 + 1, 0, none⟩ (.int .i64 (x).key.time)).setCell ⟨SB + 1 + 1, 1, none⟩ (.int .i64 (x).key.source)).setCell ⟨SB + 1 + 1, 2, none⟩ (.int .i64 (x).key.seq)).setCell ⟨SB + 1 + 1, 3, none⟩ (.int .i64 (x).to)).setCell ⟨SB + 1 + 1, 4, none⟩ (.int .i64 (x).value) = W := ⟨_, rfl⟩
 have f56 : Fr0 (fun k => k = SB + 1 + 1) W5 W6 := by rw [← hW6]; exact (((((Fr0.refl (fun k => k = SB + 1 + 1) W5).setCell (fun _ => rfl) _).setCell (fun _ => rfl) _).setCell (fun _ => rfl) _).setCell (fun _ => rfl) _).setCell (fun _ => rfl) _
 have f6 : Fr0 (fun k => k = SB + 1 ∨ k = SB + 1 + 1) W3 W6 := f5.trans (f56.mono (fun _ _ h => .inr h))
 have HQ1 := Lib.hid ((f56.block (SB + 1) (Array.getElem?_eq_some_iff.1 HQ1.out).1 (fun e => by omega)).trans HQ1.out)
 have HQ2 := Lib.hid (show W6.heap[SB + 1 + 1]? = some (.cells (cev (x)).toArray 30 (0, 0)) by rw [← hW6]; exact heap_set_cell (heap_set_cell (heap_set_cell (heap_set_cell (heap_set_cell HQ2.out _) _) _) _) _)
 rw [hW6]
 refine hK.out _ _ f6.drew (fun hS => ?_)
 clear hK K hW6 t0 t1 t2 t3 t4 u0 u1 u2 u3 u4
 try simp only[pUt,pUn,sEt,sEz,sEs]
 refine tkn (i := 12) (v := .int .i64 0) (fun W' hSW => ?_) ?_
 ·obtain ⟨s0, s1, b0, b1, b2, b3, b4⟩ := HZ.out W' hSW
  first|go_simp;done|exact rfl|go_simp;rfl|go_simp;omega
 try simp only[pUt,pUn,sEt,sEz,sEs]
 refine wpAnyH_done (by kernel_rfl) ?_ _
 clear hHeld
 have r0 := cells_in HQ1.out 0
 have r1 := cells_in HQ1.out 1
 simp at r0 r1
 have e0 := cells_in HQ2.out 0
 have e1 := cells_in HQ2.out 1
 have e2 := cells_in HQ2.out 2
 have e3 := cells_in HQ2.out 3
 have e4 := cells_in HQ2.out 4
 simp [cev] at e0 e1 e2 e3 e4
 have HFF := Lib.hid (show Fr0 none' w W6.drew from (HF3.out.trans' f6 (fun k hk h => by have := HSB.out; rcases h with h | h <;> omega)).drew)
 clear f5 f56 f6
 go_wp2_with fail
 refine bodyPost_ret (v := .tuple #[.agg #[.int .i64 c, .slice (dR cap 1 (some ⟨g, o, none⟩)) (m - 1) (cap - 1)], .agg #[.int .i64 x.key.time, .int .i64 x.key.source, .int .i64 x.key.seq, .int .i64 x.to, .int .i64 x.value], .int .i64 0]) (by simp [results, Tryz.results87, go_sem, r0, r1, e0, e1, e2, e3, e4]) rfl ⟨_, rfl, ?_, HFF.out⟩
 exact RAt.rest (n := 1) H.out Hl.out HFF.out hc (by have := Hl.out; omega)
/-
  The reference of layer 10: Put.
-/

/-- Where a queue of the reference lies behind a put: as before, or in a new row. -/
def PutAt (w' : World) (a : Option Addr) (N : Nat) (c : Int) (E E' : List Ev) (v : Value) : Prop := (E' = E ∧ RAt w' a N c E v) ∨ RAt w' none N c E' v
theorem PutAt.at {w' : World} {a : Option Addr} {N : Nat} {c : Int} {E E' : List Ev} {v : Value} (h : PutAt w' a N c E E' v) : RAt w' a N c E' v := by
 rcases h with ⟨rfl, h⟩ | ⟨a', cap, h1, h2, h3, h4⟩
 ·exact h
 ·exact ⟨a', cap, h1, h2, h3, fun g o s e => (h4 g o s e).elim (fun ⟨_, _, e⟩ => by cases e) .inr⟩
set_option maxHeartbeats 2000000 in
theorem rPut_at {w : World} {a : Option Addr} {m cap n : Nat} (E : List Ev) (h : EsIn w a E) (hl : E.length = m) (hm : m ≤ 1000) (hc : m ≤ cap) (hn : m ≤ n) (hn' : n ≤ 256) (x : Ev) :
  Calls Tryz.prog 86 #[.agg #[.int .i64 n, .slice a m cap], evV x] w fun e w' => ∃ v, e = .returned (.tuple #[v, .int .i64 (allV n E [x]).2]) ∧ PutAt w' a w.heap.size n E (allE n E [x]) v ∧ Fr0 none' w w' := by
 have H := Lib.hid h
 have Hl := Lib.hid hl
 have HR := Lib.hid (rRightE_any x)
 have HE := Lib.hid (fun (W : World) (hf : Fr0 none' w W) => rat_any E (h.later hf) hl (cap := cap) (by omega) x.key.source x.key.seq)
 have HW := Lib.hid (fun (W : World) (hf : Fr0 none' w W) => rwith_any E (h.later hf) hl (cap := cap) (by omega) x)
 have hsame := Lib.hid (fun (W : World) (hf : Fr0 none' w W) => (show RAt W a w.heap.size n E (.agg #[.int .i64 n, .slice a m cap]) by rw [← hl]; exact RAt.same h hf (by omega)))
 clear h hl
 unfold evV at HR HW ⊢
 obtain ⟨V, hV⟩ : ∃ V, (allV n E [x]).2 = V := ⟨_, rfl⟩
 obtain ⟨E', hE'⟩ : ∃ E', allE n E [x] = E' := ⟨_, rfl⟩
 rw [hV, hE']
 have HV := Lib.hid hV
 have HE' := Lib.hid hE'
 clear hV hE'
 go_enter Tryz.func86, Tryz.ntmps86
 go_wp2_with fail
 obtain ⟨SB, hSB⟩ : ∃ B, w.heap.size = B := ⟨_, rfl⟩
 obtain ⟨W1, hW1⟩ : ∃ W, w.alloc (.cells #[.int .i64 n, .slice a m cap] 128) = W := ⟨_, rfl⟩
 have hs1 : W1.heap[SB]? = some (.cells #[.int .i64 n, .slice a m cap] 128 (0, 0)) := by rw [← hW1, ← hSB]; exact World.alloc_heap_new w _
 have f1 : Fr0 none' w W1 := by rw [← hW1]; exact (Fr0.refl _ _).alloc _
 have z1 : W1.heap.size = SB + 1 := by rw [← hW1, World.size_alloc, hSB]
 rw [hW1]
 try rw [hSB]
 obtain ⟨W2, hW2⟩ : ∃ W, W1.alloc (.cells #[.int .i64 x.key.time, .int .i64 x.key.source, .int .i64 x.key.seq, .int .i64 x.to, .int .i64 x.value] 30) = W := ⟨_, rfl⟩
 have f2 : Fr0 none' W1 W2 := by rw [← hW2]; exact (Fr0.refl _ _).alloc _
 have hx2 : W2.heap[SB + 1]? = some (.cells (cev x).toArray 30 (0, 0)) := by rw [← hW2, ← z1]; exact World.alloc_heap_new W1 _
 have z2 : W2.heap.size = SB + 1 + 1 := by rw [← hW2, World.size_alloc, z1]
 rw [hW2]
 obtain ⟨W, hW⟩ : ∃ W, W2.alloc (.cells #[.int .i64 0, .slice none 0 0] 128) = W := ⟨_, rfl⟩
 have f3 : Fr0 none' W2 W := by rw [← hW]; exact (Fr0.refl _ _).alloc _
 have HZ := Lib.hid (show W.heap[SB + 1 + 1]? = some (.cells #[.int .i64 0, .slice none 0 0] 128 (0, 0)) by rw [← hW, ← z2]; exact World.alloc_heap_new W2 _)
 have HX := Lib.hid ((f3.block (SB + 1) (Array.getElem?_eq_some_iff.1 hx2).1 id).trans hx2)
 have HS := Lib.hid (((f2.trans f3).block SB (Array.getElem?_eq_some_iff.1 hs1).1 id).trans hs1)
 have HF := Lib.hid ((f1.trans f2).trans f3)
 have HSB := Lib.hid hSB
 rw [hW]
 clear hW1 hSB hs1 f1 hW2 f2 f3 hW z1 z2 hx2
 refine (HR.out _).mono ?_
 rintro e w2 ⟨rfl, hf⟩
 have HS := Lib.hid ((hf.block SB (Array.getElem?_eq_some_iff.1 HS.out).1 id).trans HS.out)
 have HX := Lib.hid ((hf.block (SB + 1) (Array.getElem?_eq_some_iff.1 HX.out).1 id).trans HX.out)
 have HZ := Lib.hid ((hf.block (SB + 1 + 1) (Array.getElem?_eq_some_iff.1 HZ.out).1 id).trans HZ.out)
 have HF := Lib.hid (HF.out.trans hf)
 clear hf
 have s0 := cells_in HS.out 0
 have s1 := cells_in HS.out 1
 simp at s0 s1
 have a0 := cells_in HX.out 0
 have a1 := cells_in HX.out 1
 have a2 := cells_in HX.out 2
 have a3 := cells_in HX.out 3
 have a4 := cells_in HX.out 4
 simp [cev] at a0 a1 a2 a3 a4
 by_cases hr : RightE x
 ·rw [decide_eq_true hr]
  obtain ⟨hv1, hv2, hv3⟩ := one_ok (n := n) (E := E) hr
  rw [HV.out] at hv1
  rw [HE'.out] at hv2
  have Hv1 := Lib.hid hv1
  have Hv2 := Lib.hid hv2
  have Hv3 := Lib.hid hv3
  clear hv1 hv2 hv3 hr
  go_wp2_with fail
  refine (HE.out _ HF.out).mono ?_
  rintro e w3 ⟨rfl, rfl⟩
  obtain ⟨i, hi⟩ : ∃ i, atE (x.key.source, x.key.seq) E = i := ⟨_, rfl⟩
  rw [hi]
  rw [show atE x.name E = i from hi] at Hv1 Hv2 Hv3
  clear hi
  by_cases h0 : 0 ≤ i
  ·have d1 : decide (i ≥ 0) = true := decide_eq_true h0
   have d2 : decide (0 ≤ i) = true := decide_eq_true h0
   have hv1 := Hv1.out
   have hv2 := Hv2.out
   rw [if_pos h0] at hv1 hv2
   have Hw1 := Lib.hid hv1
   have Hw2 := Lib.hid hv2
   clear h0 hv1 hv2
   have t0 := thaw_in HZ.out 0
   have t1 := thaw_in HZ.out 1
   have u0 := cells_in HZ.out 0
   have u1 := cells_in HZ.out 1
   simp at u0 u1
   go_wp2_with fail
   obtain ⟨W6, hW6⟩ : ∃ W, ((w2).setCell ⟨SB + 1 + 1, 0, none⟩ (.int .i64 n)).setCell ⟨SB + 1 + 1, 1, none⟩ (.slice a m cap) = W := ⟨_, rfl⟩
   have hg : SB + 1 + 1 < w.heap.size → none' (SB + 1 + 1) := fun e => by have := HSB.out; omega
   have f6 : Fr0 none' w W6 := by rw [← hW6]; exact (HF.out.setCell hg _).setCell hg _
   have hb6 : W6.heap[SB + 1 + 1]? = some (.cells #[.int .i64 n, .slice a m cap] 128 (0, 0)) := by rw [← hW6]; exact heap_set_cell (heap_set_cell HZ.out _) _
   rw [hW6]
   clear hW6 t0 t1 u0 u1
   have r0 := cells_in hb6 0
   have r1 := cells_in hb6 1
   simp at r0 r1
   refine bodyPost_ret (v := .tuple #[.agg #[.int .i64 n, .slice a m cap], .int .i64 101]) (by simp [results, Tryz.results86, go_sem, r0, r1]) rfl ⟨_, by rw [Hw1.out], ?_, f6⟩
   rw [Hw2.out]
   exact .inl ⟨rfl, hsame.out _ f6⟩
  ·have d1 : decide (i ≥ 0) = false := decide_eq_false h0
   have d2 : decide (0 ≤ i) = false := decide_eq_false h0
   have hv1 := Hv1.out
   have hv2 := Hv2.out
   have hv3 := Hv3.out (by omega)
   rw [if_neg h0] at hv1 hv2
   have Hv3 := Lib.hid hv3
   have Hlm := Hl.out
   by_cases hfull : n ≤ m
   ·have d3 : decide ((m : Int) ≥ (n : Int)) = true := decide_eq_true (by omega)
    have d4 : decide ((n : Int) ≤ (m : Int)) = true := decide_eq_true (by omega)
    have d5 : decide (n ≤ m) = true := decide_eq_true hfull
    rw [if_pos (by omega)] at hv1 hv2
    have Hw1 := Lib.hid hv1
    have Hw2 := Lib.hid hv2
    clear h0 hv1 hv2 hv3 Hlm hfull
    have t0 := thaw_in HZ.out 0
    have t1 := thaw_in HZ.out 1
    have u0 := cells_in HZ.out 0
    have u1 := cells_in HZ.out 1
    simp at u0 u1
    go_wp2_with fail
    obtain ⟨W6, hW6⟩ : ∃ W, ((w2).setCell ⟨SB + 1 + 1, 0, none⟩ (.int .i64 n)).setCell ⟨SB + 1 + 1, 1, none⟩ (.slice a m cap) = W := ⟨_, rfl⟩
    have hg : SB + 1 + 1 < w.heap.size → none' (SB + 1 + 1) := fun e => by have := HSB.out; omega
    have f6 : Fr0 none' w W6 := by rw [← hW6]; exact (HF.out.setCell hg _).setCell hg _
    have hb6 : W6.heap[SB + 1 + 1]? = some (.cells #[.int .i64 n, .slice a m cap] 128 (0, 0)) := by rw [← hW6]; exact heap_set_cell (heap_set_cell HZ.out _) _
    rw [hW6]
    clear hW6 t0 t1 u0 u1
    have r0 := cells_in hb6 0
    have r1 := cells_in hb6 1
    simp at r0 r1
    refine bodyPost_ret (v := .tuple #[.agg #[.int .i64 n, .slice a m cap], .int .i64 4]) (by simp [results, Tryz.results86, go_sem, r0, r1]) rfl ⟨_, by rw [Hw1.out], ?_, f6⟩
    rw [Hw2.out]
    exact .inl ⟨rfl, hsame.out _ f6⟩
   ·have d3 : decide ((m : Int) ≥ (n : Int)) = false := decide_eq_false (by omega)
    have d4 : decide ((n : Int) ≤ (m : Int)) = false := decide_eq_false (by omega)
    have d5 : decide (n ≤ m) = false := decide_eq_false hfull
    rw [if_neg (by omega)] at hv1 hv2
    have Hw1 := Lib.hid hv1
    have Hw2 := Lib.hid hv2
    clear h0 hv1 hv2 hv3 Hlm hfull
    go_wp2_with fail
    have Hwe := Lib.hid (withE_ins Hv3.out)
    have HY := Lib.hid (fun (W' : World) (hf : Fr0 (fun k => k = SB + 1 + 1) w2 W') => (show W'.cell? ⟨SB, 0, none⟩ = some (.int .i64 n) ∧ W'.cell? ⟨SB, 1, none⟩ = some (.slice a m cap) ∧ EAt W' (SB + 1) 0 x from by
     have h7 := (hf.block SB (Array.getElem?_eq_some_iff.1 HS.out).1 (fun h => by omega)).trans HS.out
     have h8 := (hf.block (SB + 1) (Array.getElem?_eq_some_iff.1 HX.out).1 (fun h => by omega)).trans HX.out
     have s0 := cells_in h7 0
     have s1 := cells_in h7 1
     have c0 := cells_in h8 0
     have c1 := cells_in h8 1
     have c2 := cells_in h8 2
     have c3 := cells_in h8 3
     have c4 := cells_in h8 4
     simp [cev] at c0 c1 c2 c3 c4
     simp at s0 s1
     exact ⟨s0, s1, c0, c1, c2, c3, c4⟩))
    clear s0 s1 a0 a1 a2 a3 a4
    refine wp_region_held_drew (S := fun W' => Fr0 (fun k => k = SB + 1 + 1) w2 W') (by kernel_rfl) ((Fr0.refl _ w2).drew) (fun hHeld => ?_)
    refine tkn (i := 0) (v := .pointer (some ⟨SB, 0, none⟩)) (fun W' hSW => ?_) ?_
    ·obtain ⟨s0, s1, b0, b1, b2, b3, b4⟩ := HY.out W' hSW
     first|go_simp;done|exact rfl|go_simp;rfl|go_simp;omega
    try simp only[pUt,pUn,sEt,sEz,sEs]
    refine tkn (i := 1) (v := .int .i64 n) (fun W' hSW => ?_) ?_
    ·obtain ⟨s0, s1, b0, b1, b2, b3, b4⟩ := HY.out W' hSW
     first|go_simp;done|exact rfl|go_simp;rfl|go_simp;omega
    try simp only[pUt,pUn,sEt,sEz,sEs]
    refine tkn (i := 2) (v := .pointer (some ⟨SB, 1, none⟩)) (fun W' hSW => ?_) ?_
    ·obtain ⟨s0, s1, b0, b1, b2, b3, b4⟩ := HY.out W' hSW
     first|go_simp;done|exact rfl|go_simp;rfl|go_simp;omega
    try simp only[pUt,pUn,sEt,sEz,sEs]
    refine tkn (i := 3) (v := .slice a m cap) (fun W' hSW => ?_) ?_
    ·obtain ⟨s0, s1, b0, b1, b2, b3, b4⟩ := HY.out W' hSW
     first|go_simp;done|exact rfl|go_simp;rfl|go_simp;omega
    try simp only[pUt,pUn,sEt,sEz,sEs]
    refine tkn (i := 4) (v := .agg #[.int .i64 x.key.time, .int .i64 x.key.source, .int .i64 x.key.seq, .int .i64 x.to, .int .i64 x.value]) (fun W' hSW => ?_) ?_
    ·obtain ⟨s0, s1, b0, b1, b2, b3, b4⟩ := HY.out W' hSW
     first|go_simp;done|exact rfl|go_simp;rfl|go_simp;omega
    try simp only[pUt,pUn,sEt,sEz,sEs]
    refine take_call (i := 5) rfl (by kernel_rfl) (by kernel_rfl) (fun K hK => ?_)
    go_simp
    refine (HW.out _ (HF.out.drew)).mono ?_
    rintro e w5 ⟨v, rfl, hrow, hf⟩
    obtain ⟨va, vc, rfl, _, _⟩ := EsIn.of_own hrow
    have hlt5 := hrow.lt
    have hf2 : Fr0 none' w2 w5 := ((Fr0.refl none' w2).drew).trans hf
    have HRow := Lib.hid hrow
    have hzl : SB + 1 + 1 < w2.heap.size := (Array.getElem?_eq_some_iff.1 HZ.out).1
    have Hzl := Lib.hid hzl
    clear hlt5 hzl
    clear hrow hf
    go_wp2_with fail
    refine hK.out _ _ (hf2.mono (fun _ _ h => h.elim)) (fun hS => ?_)
    clear hK K
    try simp only[pUt,pUn,sEt,sEz,sEs]
    refine tkn (i := 6) (v := .agg #[.int .i64 n, .slice va (withE x E).length vc]) (fun W' hSW => ?_) ?_
    ·obtain ⟨s0, s1, b0, b1, b2, b3, b4⟩ := HY.out W' hSW
     first|go_simp;done|exact rfl|go_simp;rfl|go_simp;omega
    try simp only[pUt,pUn,sEt,sEz,sEs]
    have HZ := Lib.hid ((hf2.block (SB + 1 + 1) (Array.getElem?_eq_some_iff.1 HZ.out).1 id).trans HZ.out)
    have HFw := HF
    have HF := Lib.hid (HF.out.trans hf2)
    have t0 := thaw_in HZ.out 0
    have t1 := thaw_in HZ.out 1
    have u0 := cells_in HZ.out 0
    have u1 := cells_in HZ.out 1
    simp at u0 u1
    refine take_call (i := 7) rfl (by kernel_rfl) (by kernel_rfl) (fun K hK => ?_)
    go_simp
    obtain ⟨W6, hW6⟩ : ∃ W, (w5.setCell ⟨SB + 1 + 1, 0, none⟩ (.int .i64 n)).setCell ⟨SB + 1 + 1, 1, none⟩ (.slice va (withE x E).length vc) = W := ⟨_, rfl⟩
    have hg : SB + 1 + 1 < w.heap.size → none' (SB + 1 + 1) := fun e => by have := HSB.out; omega
    have f6 : Fr0 none' w W6 := by rw [← hW6]; exact (HF.out.setCell hg _).setCell hg _
    have f56 : Fr0 (fun k => k = SB + 1 + 1) w5 W6 := by rw [← hW6]; exact ((Fr0.refl (fun k => k = SB + 1 + 1) w5).setCell (fun _ => rfl) _).setCell (fun _ => rfl) _
    have hb6 : W6.heap[SB + 1 + 1]? = some (.cells #[.int .i64 n, .slice va (withE x E).length vc] 128 (0, 0)) := by rw [← hW6]; exact heap_set_cell (heap_set_cell HZ.out _) _
    rw [hW6]
    refine hK.out _ _ ((hf2.mono (fun _ _ h => h.elim)).trans f56) (fun hS => ?_)
    clear hK K hW6 t0 t1 u0 u1
    try simp only[pUt,pUn,sEt,sEz,sEs]
    refine tkn (i := 8) (v := .int .i64 0) (fun W' hSW => ?_) ?_
    ·obtain ⟨s0, s1, b0, b1, b2, b3, b4⟩ := HY.out W' hSW
     first|go_simp;done|exact rfl|go_simp;rfl|go_simp;omega
    try simp only[pUt,pUn,sEt,sEz,sEs]
    refine wpAnyH_done (by kernel_rfl) ?_ _
    have r0 := cells_in hb6 0
    have r1 := cells_in hb6 1
    simp at r0 r1
    have F56 := Lib.hid f56
    have F6 := Lib.hid f6
    clear f56 f6 hHeld hS
    go_wp2_with fail
    refine bodyPost_ret (v := .tuple #[.agg #[.int .i64 n, .slice va (withE x E).length vc], .int .i64 0]) (by simp [results, Tryz.results86, go_sem, r0, r1]) rfl ⟨_, by rw [Hw1.out], ?_, F6.out⟩
    rw [Hw2.out, ← Hwe.out]
    exact .inr (RAt.own (ownsRow_fr0 HRow.out F56.out (fun g hg e => by have h7 := (HRow.out.lt g hg).1; have h8 := Hzl.out; have h9 : w2.drew.heap.size = w2.heap.size := rfl; omega)) (show w.heap.size ≤ w2.drew.heap.size from HFw.out.size))
 ·rw [decide_eq_false hr]
  obtain ⟨hv1, hv2⟩ := one_bad (n := n) (E := E) hr
  rw [HV.out] at hv1
  rw [HE'.out] at hv2
  have Hv1 := Lib.hid hv1
  have Hv2 := Lib.hid hv2
  clear hv1 hv2 hr
  have t0 := thaw_in HZ.out 0
  have t1 := thaw_in HZ.out 1
  have u0 := cells_in HZ.out 0
  have u1 := cells_in HZ.out 1
  simp at u0 u1
  go_wp2_with fail
  obtain ⟨W6, hW6⟩ : ∃ W, ((w2).setCell ⟨SB + 1 + 1, 0, none⟩ (.int .i64 n)).setCell ⟨SB + 1 + 1, 1, none⟩ (.slice a m cap) = W := ⟨_, rfl⟩
  have hg : SB + 1 + 1 < w.heap.size → none' (SB + 1 + 1) := fun e => by have := HSB.out; omega
  have f6 : Fr0 none' w W6 := by rw [← hW6]; exact (HF.out.setCell hg _).setCell hg _
  have hb6 : W6.heap[SB + 1 + 1]? = some (.cells #[.int .i64 n, .slice a m cap] 128 (0, 0)) := by rw [← hW6]; exact heap_set_cell (heap_set_cell HZ.out _) _
  rw [hW6]
  clear hW6 t0 t1 u0 u1
  have r0 := cells_in hb6 0
  have r1 := cells_in hb6 1
  simp at r0 r1
  refine bodyPost_ret (v := .tuple #[.agg #[.int .i64 n, .slice a m cap], .int .i64 100]) (by simp [results, Tryz.results86, go_sem, r0, r1]) rfl ⟨_, by rw [Hv1.out], ?_, f6⟩
  rw [Hv2.out]
  exact .inl ⟨rfl, hsame.out _ f6⟩
set_option maxHeartbeats 2000000 in
theorem rPut_any {w : World} {a : Option Addr} {m cap n : Nat} (E : List Ev) (h : EsIn w a E) (hl : E.length = m) (hm : m ≤ 1000) (hc : m ≤ cap) (hn : m ≤ n) (hn' : n ≤ 256) (x : Ev) :
  Calls Tryz.prog 86 #[.agg #[.int .i64 n, .slice a m cap], evV x] w fun e w' => ∃ v, e = .returned (.tuple #[v, .int .i64 (allV n E [x]).2]) ∧ RAt w' a w.heap.size n (allE n E [x]) v ∧ Fr0 none' w w' :=
 (rPut_at E h hl hm hc hn hn' x).mono fun _ _ ⟨v, he, h, hf⟩ => ⟨v, he, h.at, hf⟩
/-
  The reference of layer 10: PutAll.
-/

theorem RAt.base {w1 w2 : World} {a a' : Option Addr} {N N' : Nat} {c : Int} {E : List Ev} {v : Value} (h : RAt w2 a' N' c E v) (h0 : ∀ g o s, a' = some ⟨g, o, s⟩ → (∃ o' s', a = some ⟨g, o', s'⟩) ∨ (N ≤ g ∧ g < w1.heap.size)) (hN : N ≤ N') (hs : w1.heap.size ≤ w2.heap.size) : RAt w2 a N c E v := by
 obtain ⟨b, cap, h1, h2, h3, h4⟩ := h
 refine ⟨b, cap, h1, h2, h3, fun g o s e => ?_⟩
 rcases h4 g o s e with ⟨o', s', e'⟩ | h5
 ·rcases h0 g o' s' e' with h6 | h6
  ·exact .inl h6
  ·exact .inr (by omega)
 ·exact .inr (by omega)
set_option maxHeartbeats 2000000 in
theorem rPutAll_any {w : World} {a la : Option Addr} {m cap n k lc : Nat} (E l : List Ev) (h : EsIn w a E) (hl : E.length = m) (hm : m ≤ 1000) (hc : m ≤ cap) (hn : m ≤ n) (hn' : n ≤ 256) (hll : EsIn w la l) (hlk : l.length = k) (hk : k ≤ 1000) (hlc : k ≤ lc) (hal : ∀ g o s, a = some ⟨g, o, s⟩ → g < w.heap.size) (hoE : OnceE E) :
  Calls Tryz.prog 67 #[.agg #[.int .i64 n, .slice a m cap], .slice la k lc] w fun e w' => ∃ v, e = .returned (.tuple #[v, .int .i64 (allV n E l).1, .int .i64 (allV n E l).2]) ∧ RAt w' a w.heap.size n (allE n E l) v ∧ Fr0 none' w w' := by
 have H := Lib.hid h
 have Hl := Lib.hid hl
 have Hk := Lib.hid hlk
 have HLl := Lib.hid hll
 have hsame := Lib.hid (fun (W : World) (hf : Fr0 none' w W) => (show RAt W a w.heap.size n E (.agg #[.int .i64 n, .slice a m cap]) by rw [← hl]; exact RAt.same h hf (by omega)))
 have hsame2 := Lib.hid (fun (W : World) (hf : Fr0 none' w W) => (show RAt W a (w.heap.size + 2) n E (.agg #[.int .i64 n, .slice a m cap]) by rw [← hl]; exact RAt.same h hf (by omega)))
 have HOe := Lib.hid hoE
 have Hal := Lib.hid hal
 clear h hl hll hlk hal hoE
 obtain ⟨V, hV⟩ : ∃ V, allV n E l = V := ⟨_, rfl⟩
 obtain ⟨E', hE'⟩ : ∃ E', allE n E l = E' := ⟨_, rfl⟩
 rw [hV, hE']
 have HV := Lib.hid hV
 have HE' := Lib.hid hE'
 clear hV hE'
 go_enter Tryz.func67, Tryz.ntmps67
 go_wp2_with fail
 obtain ⟨SB, hSB⟩ : ∃ B, w.heap.size = B := ⟨_, rfl⟩
 obtain ⟨W1, hW1⟩ : ∃ W, w.alloc (.cells #[.int .i64 n, .slice a m cap] 128) = W := ⟨_, rfl⟩
 have hs1 : W1.heap[SB]? = some (.cells #[.int .i64 n, .slice a m cap] 128 (0, 0)) := by rw [← hW1, ← hSB]; exact World.alloc_heap_new w _
 have f1 : Fr0 none' w W1 := by rw [← hW1]; exact (Fr0.refl _ _).alloc _
 have z1 : W1.heap.size = SB + 1 := by rw [← hW1, World.size_alloc, hSB]
 rw [hW1]
 try rw [hSB]
 obtain ⟨W, hW⟩ : ∃ W, W1.alloc (.cells #[.int .i64 0, .slice none 0 0] 128) = W := ⟨_, rfl⟩
 have f3 : Fr0 none' W1 W := by rw [← hW]; exact (Fr0.refl _ _).alloc _
 have HZ := Lib.hid (show W.heap[SB + 1]? = some (.cells #[.int .i64 0, .slice none 0 0] 128 (0, 0)) by rw [← hW, ← z1]; exact World.alloc_heap_new W1 _)
 have HS := Lib.hid ((f3.block SB (Array.getElem?_eq_some_iff.1 hs1).1 id).trans hs1)
 have HF := Lib.hid (f1.trans f3)
 rw [hSB] at hsame2
 have HSB := Lib.hid hSB
 rw [hW]
 clear hW1 hSB hs1 f1 f3 hW z1
 go_loopw [7] (fun v7 wr => ∃ i : Nat, i ≤ k ∧ v7 = .int .i64 i ∧ Hid (∀ y ∈ l.take i, RightE y) ∧ Hid (wr.heap[SB]? = some (.cells #[.int .i64 n, .slice a m cap] 128 (0, 0))) ∧ Hid (wr.heap[SB + 1]? = some (.cells #[.int .i64 0, .slice none 0 0] 128 (0, 0))) ∧ Hid (Fr0 none' w wr)) (fun v7 _ => k - (Go.RowKit.intOf v7).toNat)
 case atStart => exact ⟨0, Nat.zero_le _, rfl, by unfold Hid; simp, HS, HZ, HF⟩
 case round =>
  obtain ⟨i, hi, rfl, HP, HS, HZ, HF⟩ := hrel
  by_cases hlt : i < k
  ·obtain ⟨x, hx⟩ : ∃ x, l[i]? = some x := ⟨_, List.getElem?_eq_getElem (by rw [Hk.out]; exact hlt)⟩
   obtain ⟨g2, o, rfl, hxc⟩ := HLl.out i x hx
   obtain ⟨x0, x1, x2, x3, x4⟩ := hxc.later HF.out
   have k1 : (0 : Int) ≤ (i : Int) := by omega
   have k2 : (i : Int) < (k : Int) := by omega
   have Hx := Lib.hid hx
   have HR := Lib.hid (rRightE_any x)
   unfold evV at HR
   clear hx hxc
   go_wp2_with fail
   refine (HR.out _).mono ?_
   rintro e w2 ⟨rfl, hf⟩
   clear x0 x1 x2 x3 x4
   have HS := Lib.hid ((hf.block SB (Array.getElem?_eq_some_iff.1 HS.out).1 id).trans HS.out)
   have HZ := Lib.hid ((hf.block (SB + 1) (Array.getElem?_eq_some_iff.1 HZ.out).1 id).trans HZ.out)
   have HF := Lib.hid (HF.out.trans hf)
   clear hf
   by_cases hr : RightE x
   ·rw [decide_eq_true hr]
    have HP1 := Lib.hid (show ∀ y ∈ l.take (i + 1), RightE y from fun y hy => by
     rw [List.take_add_one, Hx.out, List.mem_append] at hy
     rcases hy with hy | hy
     ·exact HP.out y hy
     ·simp at hy; subst hy; exact hr)
    clear hr
    go_wp2_with fail
    go_roundw
    case rel => exact ⟨i + 1, by omega, by go_num, HP1, HS, HZ, HF⟩
    case measure => simp [Go.RowKit.intOf]; omega
   ·rw [decide_eq_false hr]
    obtain ⟨ea, eb⟩ := allV_bad (n := n) (E := E) HP.out Hx.out hr
    have hv := HV.out
    have he := HE'.out
    rw [ea] at hv
    rw [eb] at he
    subst hv
    subst he
    clear hr ea eb
    have t0 := thaw_in HZ.out 0
    have t1 := thaw_in HZ.out 1
    have s0 := cells_in HS.out 0
    have s1 := cells_in HS.out 1
    have u0 := cells_in HZ.out 0
    have u1 := cells_in HZ.out 1
    simp at u0 u1 s0 s1
    go_wp2_with fail
    obtain ⟨W6, hW6⟩ : ∃ W, ((w2).setCell ⟨SB + 1, 0, none⟩ (.int .i64 n)).setCell ⟨SB + 1, 1, none⟩ (.slice a m cap) = W := ⟨_, rfl⟩
    have hg : SB + 1 < w.heap.size → none' (SB + 1) := fun e => by have := HSB.out; omega
    have f6 : Fr0 none' w W6 := by rw [← hW6]; exact (HF.out.setCell hg _).setCell hg _
    have hb6 : W6.heap[SB + 1]? = some (.cells #[.int .i64 n, .slice a m cap] 128 (0, 0)) := by rw [← hW6]; exact heap_set_cell (heap_set_cell HZ.out _) _
    have f7 : Fr0 (fun k => k = SB + 1) (w2) W6 := by rw [← hW6]; exact ((Fr0.refl (fun k => k = SB + 1) (w2)).setCell (fun _ => rfl) _).setCell (fun _ => rfl) _
    rw [hW6]
    clear hW6 t0 t1 u0 u1
    have r0 := cells_in hb6 0
    have r1 := cells_in hb6 1
    simp at r0 r1
    refine bodyPost_ret (v := .tuple #[.agg #[.int .i64 n, .slice a m cap], .int .i64 i, .int .i64 100]) (by simp [results, Tryz.results67, go_sem, r0, r1]) rfl ⟨_, by first | rfl | rw [rfl], ?_, f6⟩
    exact hsame.out _ f6
  ·have hall := HP.out
   rw [List.take_of_length_le (by rw [Hk.out]; omega)] at hall
   have HRa := Lib.hid hall
   clear hall
   go_wp2_with fail
   clear HP
   go_loopw [8, 9] (fun v8 _ wr => ∃ i : Nat, i ≤ k ∧ v8 = .int .i64 i ∧ Hid (∀ t, t < i → dupB E l t = false) ∧ Hid (wr.heap[SB]? = some (.cells #[.int .i64 n, .slice a m cap] 128 (0, 0))) ∧ Hid (wr.heap[SB + 1]? = some (.cells #[.int .i64 0, .slice none 0 0] 128 (0, 0))) ∧ Hid (Fr0 none' w wr)) (fun v8 _ _ => k - (Go.RowKit.intOf v8).toNat)
   case atStart => exact ⟨0, Nat.zero_le _, rfl, (fun t ht => by omega), HS, HZ, HF⟩
   case round =>
    clear hlt hi
    obtain ⟨i, hi, rfl, HP, HS, HZ, HF⟩ := hrel
    by_cases hlt : i < k
    ·obtain ⟨x, hx⟩ : ∃ x, l[i]? = some x := ⟨_, List.getElem?_eq_getElem (by rw [Hk.out]; exact hlt)⟩
     obtain ⟨g2, o, rfl, hxc⟩ := HLl.out i x hx
     obtain ⟨x0, x1, x2, x3, x4⟩ := hxc.later HF.out
     have k1 : (0 : Int) ≤ (i : Int) := by omega
     have k2 : (i : Int) < (k : Int) := by omega
     have k3 : (i : Int) ≤ (lc : Int) := by omega
     have Hx := Lib.hid hx
     clear hx hxc
     go_wp2_with fail
     obtain ⟨kb, hkb⟩ : ∃ b, wr.heap.size = b := ⟨_, rfl⟩
     obtain ⟨W5, hW5⟩ : ∃ W, wr.alloc (.cells #[.int .i64 x.key.time, .int .i64 x.key.source, .int .i64 x.key.seq] 28) = W := ⟨_, rfl⟩
     have hK5 : W5.heap[kb]? = some (.cells #[.int .i64 x.key.time, .int .i64 x.key.source, .int .i64 x.key.seq] 28 (0, 0)) := by rw [← hW5, ← hkb]; exact World.alloc_heap_new _ _
     have hf : Fr0 none' wr W5 := by rw [← hW5]; exact (Fr0.refl _ _).alloc _
     rw [hW5]
     try rw [hkb]
     clear hW5 hkb x0 x1 x2 x3 x4
     have HS := Lib.hid ((hf.block SB (Array.getElem?_eq_some_iff.1 HS.out).1 id).trans HS.out)
     have HZ := Lib.hid ((hf.block (SB + 1) (Array.getElem?_eq_some_iff.1 HZ.out).1 id).trans HZ.out)
     have HF := Lib.hid (HF.out.trans hf)
     clear hf
     have HY := Lib.hid (fun (W' : World) (hf : Fr0 none' W5 W') => (show W'.cell? ⟨SB, 1, none⟩ = some (.slice a m cap) ∧ W'.cell? ⟨kb, 0, none⟩ = some (.int .i64 x.key.time) ∧ W'.cell? ⟨kb, 1, none⟩ = some (.int .i64 x.key.source) ∧ W'.cell? ⟨kb, 2, none⟩ = some (.int .i64 x.key.seq) from by
      have h7 := (hf.block SB (Array.getElem?_eq_some_iff.1 HS.out).1 id).trans HS.out
      have h8 := (hf.block kb (Array.getElem?_eq_some_iff.1 hK5).1 id).trans hK5
      have s1 := cells_in h7 1
      have b0 := cells_in h8 0
      have b1 := cells_in h8 1
      have b2 := cells_in h8 2
      simp at s1 b0 b1 b2
      exact ⟨s1, b0, b1, b2⟩))
     have HE1 := Lib.hid (fun (W : World) (hf : Fr0 none' w W) => rat_any E (H.out.later hf) Hl.out (cap := cap) (by omega) x.key.source x.key.seq)
     have HE2 := Lib.hid (fun (W : World) (hf : Fr0 none' w W) => rat_any (l.take i) ((HLl.out.take i).later hf) (n := i) (by rw [List.length_take, Hk.out]; omega) (cap := lc) (by omega) x.key.source x.key.seq)
     clear hK5
     refine wp_region_held_drew (S := fun W' => Fr0 none' W5 W') (by kernel_rfl) ((Fr0.refl _ W5).drew) (fun hHeld => ?_)
     refine tkn (i := 0) (v := .pointer (some ⟨SB, 1, none⟩)) (fun W' hSW => ?_) ?_
     ·obtain ⟨s1, b0, b1, b2⟩ := HY.out W' hSW
      first|go_simp;done|exact rfl|go_simp;rfl|go_simp;omega
     try simp only[pUt,pUn,sEt,sEz,sEs]
     refine tkn (i := 1) (v := .slice a m cap) (fun W' hSW => ?_) ?_
     ·obtain ⟨s1, b0, b1, b2⟩ := HY.out W' hSW
      first|go_simp;done|exact rfl|go_simp;rfl|go_simp;omega
     try simp only[pUt,pUn,sEt,sEz,sEs]
     refine tkn (i := 2) (v := .pointer (some ⟨kb, 1, none⟩)) (fun W' hSW => ?_) ?_
     ·obtain ⟨s1, b0, b1, b2⟩ := HY.out W' hSW
      first|go_simp;done|exact rfl|go_simp;rfl|go_simp;omega
     try simp only[pUt,pUn,sEt,sEz,sEs]
     refine tkn (i := 3) (v := .int .i64 x.key.source) (fun W' hSW => ?_) ?_
     ·obtain ⟨s1, b0, b1, b2⟩ := HY.out W' hSW
      first|go_simp;done|exact rfl|go_simp;rfl|go_simp;omega
     try simp only[pUt,pUn,sEt,sEz,sEs]
     refine tkn (i := 4) (v := .pointer (some ⟨kb, 2, none⟩)) (fun W' hSW => ?_) ?_
     ·obtain ⟨s1, b0, b1, b2⟩ := HY.out W' hSW
      first|go_simp;done|exact rfl|go_simp;rfl|go_simp;omega
     try simp only[pUt,pUn,sEt,sEz,sEs]
     refine tkn (i := 5) (v := .int .i64 x.key.seq) (fun W' hSW => ?_) ?_
     ·obtain ⟨s1, b0, b1, b2⟩ := HY.out W' hSW
      first|go_simp;done|exact rfl|go_simp;rfl|go_simp;omega
     try simp only[pUt,pUn,sEt,sEz,sEs]
     refine take_call (i := 6) rfl (by kernel_rfl) (by kernel_rfl) (fun K hK => ?_)
     go_simp
     refine (HE1.out _ HF.out.drew).mono ?_
     rintro e w5 ⟨rfl, rfl⟩
     obtain ⟨i1, hi1⟩ : ∃ i1, atE (x.key.source, x.key.seq) E = i1 := ⟨_, rfl⟩
     rw [hi1]
     have Hi1 := Lib.hid (show atE x.name E = i1 from hi1)
     clear hi1
     go_wp2_with fail
     refine hK.out _ _ hHeld (fun hS => ?_)
     clear hK K hS
     try simp only[pUt,pUn,sEt,sEz,sEs]
     by_cases hi1 : 0 ≤ i1
     ·have d1 : decide (i1 ≥ 0) = true := decide_eq_true hi1
      have d2 : decide (0 ≤ i1) = true := decide_eq_true hi1
      refine tkn (i := 7) (v := .bool true) (fun W' hSW => ?_) ?_
      ·obtain ⟨s1, b0, b1, b2⟩ := HY.out W' hSW
       first|go_simp;done|exact rfl|go_simp;rfl|go_simp;omega
      try simp only[pUt,pUn,sEt,sEz,sEs]
      refine tkn (i := 8) (v := .bool true) (fun W' hSW => ?_) ?_
      ·obtain ⟨s1, b0, b1, b2⟩ := HY.out W' hSW
       first|go_simp;done|exact rfl|go_simp;rfl|go_simp;omega
      try simp only[pUt,pUn,sEt,sEz,sEs]
      refine tkf (i := 9) ?_
      try simp only[pUt,pUn,sEt,sEz,sEs]
      refine tkf (i := 10) ?_
      try simp only[pUt,pUn,sEt,sEz,sEs]
      refine tkf (i := 11) ?_
      try simp only[pUt,pUn,sEt,sEz,sEs]
      refine tkf (i := 12) ?_
      try simp only[pUt,pUn,sEt,sEz,sEs]
      refine tkf (i := 13) ?_
      try simp only[pUt,pUn,sEt,sEz,sEs]
      refine tkf (i := 14) ?_
      try simp only[pUt,pUn,sEt,sEz,sEs]
      refine tkf (i := 15) ?_
      try simp only[pUt,pUn,sEt,sEz,sEs]
      refine tkf (i := 16) ?_
      try simp only[pUt,pUn,sEt,sEz,sEs]
      refine tkf (i := 17) ?_
      try simp only[pUt,pUn,sEt,sEz,sEs]
      refine tkn (i := 18) (v := .bool true) (fun W' hSW => ?_) ?_
      ·obtain ⟨s1, b0, b1, b2⟩ := HY.out W' hSW
       first|go_simp;done|exact rfl|go_simp;rfl|go_simp;omega
      try simp only[pUt,pUn,sEt,sEz,sEs]
      refine wpAnyH_done (by kernel_rfl) ?_ _
      obtain ⟨w2, hw2⟩ : ∃ W, W5.drew = W := ⟨_, rfl⟩
      have hf : Fr0 none' W5 w2 := by rw [← hw2]; exact (Fr0.refl none' W5).drew
      rw [hw2]
      clear hw2 hHeld
      have HS := Lib.hid ((hf.block SB (Array.getElem?_eq_some_iff.1 HS.out).1 id).trans HS.out)
      have HZ := Lib.hid ((hf.block (SB + 1) (Array.getElem?_eq_some_iff.1 HZ.out).1 id).trans HZ.out)
      have HF := Lib.hid (HF.out.trans hf)
      clear hf
      obtain ⟨ea, eb⟩ := allV_dup (n := n) (E := E) HRa.out (by rw [Hk.out]; exact hlt) HP.out (show dupB E l i = true by rw [dup_at Hx.out]; simp [Hi1.out, hi1])
      have hv := HV.out
      have he := HE'.out
      rw [ea] at hv
      rw [eb] at he
      subst hv
      subst he
      clear ea eb
      have t0 := thaw_in HZ.out 0
      have t1 := thaw_in HZ.out 1
      have s0 := cells_in HS.out 0
      have s1 := cells_in HS.out 1
      have u0 := cells_in HZ.out 0
      have u1 := cells_in HZ.out 1
      simp at u0 u1 s0 s1
      go_wp2_with fail
      obtain ⟨W6, hW6⟩ : ∃ W, ((w2).setCell ⟨SB + 1, 0, none⟩ (.int .i64 n)).setCell ⟨SB + 1, 1, none⟩ (.slice a m cap) = W := ⟨_, rfl⟩
      have hg : SB + 1 < w.heap.size → none' (SB + 1) := fun e => by have := HSB.out; omega
      have f6 : Fr0 none' w W6 := by rw [← hW6]; exact (HF.out.setCell hg _).setCell hg _
      have hb6 : W6.heap[SB + 1]? = some (.cells #[.int .i64 n, .slice a m cap] 128 (0, 0)) := by rw [← hW6]; exact heap_set_cell (heap_set_cell HZ.out _) _
      have f7 : Fr0 (fun k => k = SB + 1) (w2) W6 := by rw [← hW6]; exact ((Fr0.refl (fun k => k = SB + 1) (w2)).setCell (fun _ => rfl) _).setCell (fun _ => rfl) _
      rw [hW6]
      clear hW6 t0 t1 u0 u1
      have r0 := cells_in hb6 0
      have r1 := cells_in hb6 1
      simp at r0 r1
      refine bodyPost_ret (v := .tuple #[.agg #[.int .i64 n, .slice a m cap], .int .i64 i, .int .i64 101]) (by simp [results, Tryz.results67, go_sem, r0, r1]) rfl ⟨_, by first | rfl | rw [rfl], ?_, f6⟩
      exact hsame.out _ f6
     ·have d1 : decide (i1 ≥ 0) = false := decide_eq_false hi1
      have d2 : decide (0 ≤ i1) = false := decide_eq_false hi1
      refine tkn (i := 7) (v := .bool false) (fun W' hSW => ?_) ?_
      ·obtain ⟨s1, b0, b1, b2⟩ := HY.out W' hSW
       first|go_simp;done|exact rfl|go_simp;rfl|go_simp;omega
      try simp only[pUt,pUn,sEt,sEz,sEs]
      refine tkn (i := 8) (v := .bool false) (fun W' hSW => ?_) ?_
      ·obtain ⟨s1, b0, b1, b2⟩ := HY.out W' hSW
       first|go_simp;done|exact rfl|go_simp;rfl|go_simp;omega
      try simp only[pUt,pUn,sEt,sEz,sEs]
      refine tkn (i := 9) (v := .slice (some ⟨g2, o, none⟩) k lc) (fun W' hSW => ?_) ?_
      ·obtain ⟨s1, b0, b1, b2⟩ := HY.out W' hSW
       first|go_simp;done|exact rfl|go_simp;rfl|go_simp;omega
      try simp only[pUt,pUn,sEt,sEz,sEs]
      refine tkn (i := 10) (v := .int .i64 i) (fun W' hSW => ?_) ?_
      ·obtain ⟨s1, b0, b1, b2⟩ := HY.out W' hSW
       first|go_simp;done|exact rfl|go_simp;rfl|go_simp;omega
      try simp only[pUt,pUn,sEt,sEz,sEs]
      refine tkn (i := 11) (v := .slice (some ⟨g2, o, none⟩) i lc) (fun W' hSW => ?_) ?_
      ·obtain ⟨s1, b0, b1, b2⟩ := HY.out W' hSW
       first|go_simp;done|exact rfl|go_simp;rfl|go_simp;omega
      try simp only[pUt,pUn,sEt,sEz,sEs]
      refine tkn (i := 12) (v := .pointer (some ⟨kb, 1, none⟩)) (fun W' hSW => ?_) ?_
      ·obtain ⟨s1, b0, b1, b2⟩ := HY.out W' hSW
       first|go_simp;done|exact rfl|go_simp;rfl|go_simp;omega
      try simp only[pUt,pUn,sEt,sEz,sEs]
      refine tkn (i := 13) (v := .int .i64 x.key.source) (fun W' hSW => ?_) ?_
      ·obtain ⟨s1, b0, b1, b2⟩ := HY.out W' hSW
       first|go_simp;done|exact rfl|go_simp;rfl|go_simp;omega
      try simp only[pUt,pUn,sEt,sEz,sEs]
      refine tkn (i := 14) (v := .pointer (some ⟨kb, 2, none⟩)) (fun W' hSW => ?_) ?_
      ·obtain ⟨s1, b0, b1, b2⟩ := HY.out W' hSW
       first|go_simp;done|exact rfl|go_simp;rfl|go_simp;omega
      try simp only[pUt,pUn,sEt,sEz,sEs]
      refine tkn (i := 15) (v := .int .i64 x.key.seq) (fun W' hSW => ?_) ?_
      ·obtain ⟨s1, b0, b1, b2⟩ := HY.out W' hSW
       first|go_simp;done|exact rfl|go_simp;rfl|go_simp;omega
      try simp only[pUt,pUn,sEt,sEz,sEs]
      refine take_call (i := 16) rfl (by kernel_rfl) (by kernel_rfl) (fun K hK => ?_)
      go_simp
      refine (HE2.out _ HF.out.drew).mono ?_
      rintro e w5 ⟨rfl, rfl⟩
      obtain ⟨i2, hi2⟩ : ∃ i2, atE (x.key.source, x.key.seq) (l.take i) = i2 := ⟨_, rfl⟩
      rw [hi2]
      have Hi2 := Lib.hid (show atE x.name (l.take i) = i2 from hi2)
      clear hi2
      go_wp2_with fail
      refine hK.out _ _ hHeld (fun hS => ?_)
      clear hK K hS
      try simp only[pUt,pUn,sEt,sEz,sEs]
      by_cases hi2 : 0 ≤ i2
      ·have d3 : decide (i2 ≥ 0) = true := decide_eq_true hi2
       have d4 : decide (0 ≤ i2) = true := decide_eq_true hi2
       refine tkn (i := 17) (v := .bool true) (fun W' hSW => ?_) ?_
       ·obtain ⟨s1, b0, b1, b2⟩ := HY.out W' hSW
        first|go_simp;done|exact rfl|go_simp;rfl|go_simp;omega
       try simp only[pUt,pUn,sEt,sEz,sEs]
       refine tkn (i := 18) (v := .bool true) (fun W' hSW => ?_) ?_
       ·obtain ⟨s1, b0, b1, b2⟩ := HY.out W' hSW
        first|go_simp;done|exact rfl|go_simp;rfl|go_simp;omega
       try simp only[pUt,pUn,sEt,sEz,sEs]
       refine wpAnyH_done (by kernel_rfl) ?_ _
       clear d1 d2 d3 d4
       obtain ⟨w2, hw2⟩ : ∃ W, W5.drew = W := ⟨_, rfl⟩
       have hf : Fr0 none' W5 w2 := by rw [← hw2]; exact (Fr0.refl none' W5).drew
       rw [hw2]
       clear hw2 hHeld
       have HS := Lib.hid ((hf.block SB (Array.getElem?_eq_some_iff.1 HS.out).1 id).trans HS.out)
       have HZ := Lib.hid ((hf.block (SB + 1) (Array.getElem?_eq_some_iff.1 HZ.out).1 id).trans HZ.out)
       have HF := Lib.hid (HF.out.trans hf)
       clear hf
       obtain ⟨ea, eb⟩ := allV_dup (n := n) (E := E) HRa.out (by rw [Hk.out]; exact hlt) HP.out (show dupB E l i = true by rw [dup_at Hx.out]; simp [Hi2.out, hi2])
       have hv := HV.out
       have he := HE'.out
       rw [ea] at hv
       rw [eb] at he
       subst hv
       subst he
       clear ea eb
       have t0 := thaw_in HZ.out 0
       have t1 := thaw_in HZ.out 1
       have s0 := cells_in HS.out 0
       have s1 := cells_in HS.out 1
       have u0 := cells_in HZ.out 0
       have u1 := cells_in HZ.out 1
       simp at u0 u1 s0 s1
       go_wp2_with fail
       obtain ⟨W6, hW6⟩ : ∃ W, ((w2).setCell ⟨SB + 1, 0, none⟩ (.int .i64 n)).setCell ⟨SB + 1, 1, none⟩ (.slice a m cap) = W := ⟨_, rfl⟩
       have hg : SB + 1 < w.heap.size → none' (SB + 1) := fun e => by have := HSB.out; omega
       have f6 : Fr0 none' w W6 := by rw [← hW6]; exact (HF.out.setCell hg _).setCell hg _
       have hb6 : W6.heap[SB + 1]? = some (.cells #[.int .i64 n, .slice a m cap] 128 (0, 0)) := by rw [← hW6]; exact heap_set_cell (heap_set_cell HZ.out _) _
       have f7 : Fr0 (fun k => k = SB + 1) (w2) W6 := by rw [← hW6]; exact ((Fr0.refl (fun k => k = SB + 1) (w2)).setCell (fun _ => rfl) _).setCell (fun _ => rfl) _
       rw [hW6]
       clear hW6 t0 t1 u0 u1
       have r0 := cells_in hb6 0
       have r1 := cells_in hb6 1
       simp at r0 r1
       refine bodyPost_ret (v := .tuple #[.agg #[.int .i64 n, .slice a m cap], .int .i64 i, .int .i64 101]) (by simp [results, Tryz.results67, go_sem, r0, r1]) rfl ⟨_, by first | rfl | rw [rfl], ?_, f6⟩
       exact hsame.out _ f6
      ·have d3 : decide (i2 ≥ 0) = false := decide_eq_false hi2
       have d4 : decide (0 ≤ i2) = false := decide_eq_false hi2
       refine tkn (i := 17) (v := .bool false) (fun W' hSW => ?_) ?_
       ·obtain ⟨s1, b0, b1, b2⟩ := HY.out W' hSW
        first|go_simp;done|exact rfl|go_simp;rfl|go_simp;omega
       try simp only[pUt,pUn,sEt,sEz,sEs]
       refine tkn (i := 18) (v := .bool false) (fun W' hSW => ?_) ?_
       ·obtain ⟨s1, b0, b1, b2⟩ := HY.out W' hSW
        first|go_simp;done|exact rfl|go_simp;rfl|go_simp;omega
       try simp only[pUt,pUn,sEt,sEz,sEs]
       refine wpAnyH_done (by kernel_rfl) ?_ _
       clear d1 d2 d3 d4
       obtain ⟨w2, hw2⟩ : ∃ W, W5.drew = W := ⟨_, rfl⟩
       have hf : Fr0 none' W5 w2 := by rw [← hw2]; exact (Fr0.refl none' W5).drew
       rw [hw2]
       clear hw2 hHeld
       have HS := Lib.hid ((hf.block SB (Array.getElem?_eq_some_iff.1 HS.out).1 id).trans HS.out)
       have HZ := Lib.hid ((hf.block (SB + 1) (Array.getElem?_eq_some_iff.1 HZ.out).1 id).trans HZ.out)
       have HF := Lib.hid (HF.out.trans hf)
       clear hf
       have HP1 := Lib.hid (show ∀ t, t < i + 1 → dupB E l t = false from fun t ht => by
        rcases Nat.lt_or_ge t i with h | h
        ·exact HP.out t h
        ·have : t = i := by omega
         subst this
         rw [dup_at Hx.out, Hi1.out, Hi2.out, decide_eq_false (by omega), decide_eq_false (by omega)]
         rfl)
       clear hi1 hi2
       go_wp2_with fail
       go_roundw
       case rel => exact ⟨i + 1, by omega, by go_num, HP1, HS, HZ, HF⟩
       case measure => simp [Go.RowKit.intOf]; omega
    ·have hdd : ∀ t, t < l.length → dupB E l t = false := fun t ht => HP.out t (by rw [Hk.out] at ht; omega)
     have HD := Lib.hid hdd
     have hlm := Hl.out
     have hlk := Hk.out
     have wsum : IntKind.i64.wrap ((m : Int) + (k : Int)) = ((m + k : Nat) : Int) := by rw [IntWalk.i64_in _ (by omega)]; omega
     by_cases hfull : n < m + k
     ·have d1 : decide (((m + k : Nat) : Int) > (n : Int)) = true := decide_eq_true (by omega)
      have d2 : decide ((n : Int) < ((m + k : Nat) : Int)) = true := decide_eq_true (by omega)
      have d3 : decide (n < m + k) = true := decide_eq_true hfull
      obtain ⟨ea, eb⟩ := allV_full (n := n) (E := E) (l := l) HRa.out HD.out (by omega)
      have hv := HV.out
      have he := HE'.out
      rw [ea] at hv
      rw [eb] at he
      subst hv
      subst he
      clear ea eb hdd hlm hlk
      have t0 := thaw_in HZ.out 0
      have t1 := thaw_in HZ.out 1
      have s0 := cells_in HS.out 0
      have s1 := cells_in HS.out 1
      have u0 := cells_in HZ.out 0
      have u1 := cells_in HZ.out 1
      simp at u0 u1 s0 s1
      go_wp2_with fail
      clear s0 s1 d1 d2 d3 wsum hfull
      obtain ⟨W6, hW6⟩ : ∃ W, ((wr).setCell ⟨SB + 1, 0, none⟩ (.int .i64 n)).setCell ⟨SB + 1, 1, none⟩ (.slice a m cap) = W := ⟨_, rfl⟩
      have hg : SB + 1 < w.heap.size → none' (SB + 1) := fun e => by have := HSB.out; omega
      have f6 : Fr0 none' w W6 := by rw [← hW6]; exact (HF.out.setCell hg _).setCell hg _
      have hb6 : W6.heap[SB + 1]? = some (.cells #[.int .i64 n, .slice a m cap] 128 (0, 0)) := by rw [← hW6]; exact heap_set_cell (heap_set_cell HZ.out _) _
      have f7 : Fr0 (fun k => k = SB + 1) (wr) W6 := by rw [← hW6]; exact ((Fr0.refl (fun k => k = SB + 1) (wr)).setCell (fun _ => rfl) _).setCell (fun _ => rfl) _
      rw [hW6]
      clear hW6 t0 t1 u0 u1
      have r0 := cells_in hb6 0
      have r1 := cells_in hb6 1
      simp at r0 r1
      refine bodyPost_ret (v := .tuple #[.agg #[.int .i64 n, .slice a m cap], .int .i64 (-1), .int .i64 4]) (by simp [results, Tryz.results67, go_sem, r0, r1]) rfl ⟨_, by first | rfl | rw [rfl], ?_, f6⟩
      exact hsame.out _ f6
     ·have d1 : decide (((m + k : Nat) : Int) > (n : Int)) = false := decide_eq_false (by omega)
      have d2 : decide ((n : Int) < ((m + k : Nat) : Int)) = false := decide_eq_false (by omega)
      have d3 : decide (n < m + k) = false := decide_eq_false hfull
      obtain ⟨ea, eb⟩ := allV_ok (n := n) (E := E) (l := l) HRa.out HD.out (by omega)
      have hv := HV.out
      have he := HE'.out
      rw [ea] at hv
      rw [eb] at he
      subst hv
      subst he
      have HO := Lib.hid (dup_once HOe.out HD.out)
      have hmk : m + k ≤ n := by omega
      have Hmk := Lib.hid hmk
      clear ea eb hdd hlm hlk hmk
      have t0 := thaw_in HZ.out 0
      have t1 := thaw_in HZ.out 1
      have s0 := cells_in HS.out 0
      have s1 := cells_in HS.out 1
      have u0 := cells_in HZ.out 0
      have u1 := cells_in HZ.out 1
      simp at u0 u1 s0 s1
      go_wp2_with fail
      clear s0 s1 u0 u1 t0 t1 d1 d2 d3 wsum hfull
      go_loopw [10] (fun v10 wr => ∃ j : Nat, j ≤ k ∧ v10 = .int .i64 j ∧ Hid (∃ a' cap', wr.heap[SB]? = some (.cells #[.int .i64 n, .slice a' (putsE (l.take j) E).length cap'] 128 (0, 0)) ∧ RAt wr a (SB + 2) n (putsE (l.take j) E) (.agg #[.int .i64 n, .slice a' (putsE (l.take j) E).length cap'])) ∧ Hid (wr.heap[SB + 1]? = some (.cells #[.int .i64 0, .slice none 0 0] 128 (0, 0))) ∧ Hid (Fr0 none' w wr)) (fun v10 _ => k - (Go.RowKit.intOf v10).toNat)
      case atStart => exact ⟨0, Nat.zero_le _, rfl, ⟨a, cap, by rw [List.take_zero, show putsE [] E = E from rfl, Hl.out]; exact HS.out, by rw [List.take_zero, show putsE [] E = E from rfl, Hl.out]; exact hsame2.out _ HF.out⟩, HZ, HF⟩
      case round =>
       clear hlt hi HP
       obtain ⟨j, hj, rfl, HA, HZ, HF⟩ := hrel
       obtain ⟨a', cap', hS, hA⟩ := HA.out
       obtain ⟨b', cb', hv, hcb, hAE, hAB⟩ := hA
       injection hv with hv
       simp at hv
       obtain ⟨rfl, rfl⟩ := hv
       have hjl : (putsE (l.take j) E).length = m + j := by rw [putsE_length, List.length_take, Hl.out, Hk.out]; omega
       rw [hjl] at hS hcb
       have HS := Lib.hid hS
       have HAE := Lib.hid hAE
       have HAB := Lib.hid hAB
       have Hjl := Lib.hid hjl
       have hmk := Hmk.out
       by_cases hlt : j < k
       ·obtain ⟨x, hx⟩ : ∃ x, l[j]? = some x := ⟨_, List.getElem?_eq_getElem (by rw [Hk.out]; exact hlt)⟩
        obtain ⟨g2, o, rfl, hxc⟩ := HLl.out j x hx
        have HX := Lib.hid (hxc.later HF.out)
        have HXx := Lib.hid (fun (W' : World) (hf : Fr0 (fun k => k = SB) wr W') => HX.out.fr0 hf (fun e => by
         have h7 := World.block_lt_of_cell? _ _ hxc.1
         simp only at h7
         have := HSB.out
         omega))
        have k1 : (0 : Int) ≤ (j : Int) := by omega
        have k2 : (j : Int) < (k : Int) := by omega
        have HPt := Lib.hid (fun (W : World) (hf : Fr0 none' wr W) => rPut_any (n := n) (putsE (l.take j) E) (HAE.out.later hf) Hjl.out (by omega) hcb (by omega) hn' x)
        obtain ⟨e1, e2⟩ := puts_step (n := n) HO.out HRa.out hx (by rw [Hl.out, Hk.out]; exact hmk)
        rw [e1, e2] at HPt
        unfold evV at HPt
        clear hx hxc hS hAE hAB hjl e1 e2
        go_wp2_with fail
        have s0 := cells_in HS.out 0
        have s1 := cells_in HS.out 1
        simp at s0 s1
        refine wp_region_held_drew (S := fun W' => Fr0 (fun k => k = SB) wr W') (by kernel_rfl) ((Fr0.refl _ wr).drew) (fun hHeld => ?_)
        refine tkn (i := 1) (v := .slice (some ⟨g2, o, none⟩) k lc) (fun W' hSW => ?_) ?_
        ·obtain ⟨b0, b1, b2, b3, b4⟩ := HXx.out W' hSW
         first|go_simp;done|exact rfl|go_simp;rfl|go_simp;omega
        try simp only[pUt,pUn,sEt,sEz,sEs]
        refine tkn (i := 2) (v := .int .i64 j) (fun W' hSW => ?_) ?_
        ·obtain ⟨b0, b1, b2, b3, b4⟩ := HXx.out W' hSW
         first|go_simp;done|exact rfl|go_simp;rfl|go_simp;omega
        try simp only[pUt,pUn,sEt,sEz,sEs]
        refine tkn (i := 3) (v := .pointer (some ⟨g2, o + j * 5, none⟩)) (fun W' hSW => ?_) ?_
        ·obtain ⟨b0, b1, b2, b3, b4⟩ := HXx.out W' hSW
         first|go_simp;done|exact rfl|go_simp;rfl|go_simp;omega
        try simp only[pUt,pUn,sEt,sEz,sEs]
        refine tkn (i := 4) (v := .agg #[.int .i64 x.key.time, .int .i64 x.key.source, .int .i64 x.key.seq, .int .i64 x.to, .int .i64 x.value]) (fun W' hSW => ?_) ?_
        ·obtain ⟨b0, b1, b2, b3, b4⟩ := HXx.out W' hSW
         first|go_simp;done|exact rfl|go_simp;rfl|go_simp;omega
        try simp only[pUt,pUn,sEt,sEz,sEs]
        refine take_call (i := 0) rfl (by kernel_rfl) (by kernel_rfl) (fun K hK => ?_)
        go_simp
        refine hK.out _ _ hHeld (fun hS => ?_)
        clear hK K hS s0 s1
        try simp only[pUt,pUn,sEt,sEz,sEs]
        refine take_call (i := 5) rfl (by kernel_rfl) (by kernel_rfl) (fun K hK => ?_)
        go_simp
        refine (HPt.out _ ((Fr0.refl none' wr).drew)).mono ?_
        rintro e w5 ⟨v, rfl, hA5, hf⟩
        obtain ⟨b5, cb5, rfl, hcb5, hAE5, hAB5⟩ := hA5
        have hf5 : Fr0 none' wr w5 := ((Fr0.refl none' wr).drew).trans hf
        have HA5 := Lib.hid (show RAt w5 a (SB + 2) n (putsE (l.take (j + 1)) E) (.agg #[.int .i64 n, .slice b5 (putsE (l.take (j + 1)) E).length cb5]) from RAt.base (w1 := wr) ⟨b5, cb5, rfl, hcb5, hAE5, hAB5⟩ HAB.out (by have := (Array.getElem?_eq_some_iff.1 HZ.out).1; have h9 : wr.drew.heap.size = wr.heap.size := rfl; omega) hf5.size)
        clear hcb5 hAE5 hAB5 hf HPt
        go_wp2_with fail
        refine hK.out _ _ (hf5.mono (fun _ _ h => h.elim)) (fun hS => ?_)
        clear hK K hHeld
        try simp only[pUt,pUn,sEt,sEz,sEs]
        obtain ⟨n5, hn5⟩ : ∃ n5, (putsE (l.take (j + 1)) E).length = n5 := ⟨_, rfl⟩
        rw [hn5] at HA5 ⊢
        have Hn5 := Lib.hid hn5
        clear hn5
        refine tkn (i := 6) (v := .tuple #[.agg #[.int .i64 n, .slice b5 n5 cb5], .int .i64 0]) (fun W' hSW => ?_) ?_
        ·obtain ⟨b0, b1, b2, b3, b4⟩ := HXx.out W' hSW
         first|go_simp;done|exact rfl|go_simp;rfl|go_simp;omega
        try simp only[pUt,pUn,sEt,sEz,sEs]
        refine tkn (i := 7) (v := .agg #[.int .i64 n, .slice b5 n5 cb5]) (fun W' hSW => ?_) ?_
        ·obtain ⟨b0, b1, b2, b3, b4⟩ := HXx.out W' hSW
         first|go_simp;done|exact rfl|go_simp;rfl|go_simp;omega
        try simp only[pUt,pUn,sEt,sEz,sEs]
        refine tkn (i := 8) (v := .int .i64 0) (fun W' hSW => ?_) ?_
        ·obtain ⟨b0, b1, b2, b3, b4⟩ := HXx.out W' hSW
         first|go_simp;done|exact rfl|go_simp;rfl|go_simp;omega
        try simp only[pUt,pUn,sEt,sEz,sEs]
        have HS5 := Lib.hid ((hf5.block SB (Array.getElem?_eq_some_iff.1 HS.out).1 id).trans HS.out)
        have HZ5 := Lib.hid ((hf5.block (SB + 1) (Array.getElem?_eq_some_iff.1 HZ.out).1 id).trans HZ.out)
        have HF5 := Lib.hid (HF.out.trans hf5)
        have t0 := thaw_in HS5.out 0
        have t1 := thaw_in HS5.out 1
        have u0 := cells_in HS5.out 0
        have u1 := cells_in HS5.out 1
        simp at u0 u1
        refine take_call (i := 9) rfl (by kernel_rfl) (by kernel_rfl) (fun K hK => ?_)
        go_simp
        obtain ⟨W6, hW6⟩ : ∃ W, (w5.setCell ⟨SB, 0, none⟩ (.int .i64 n)).setCell ⟨SB, 1, none⟩ (.slice b5 n5 cb5) = W := ⟨_, rfl⟩
        have f56 : Fr0 (fun k => k = SB) w5 W6 := by rw [← hW6]; exact ((Fr0.refl (fun k => k = SB) w5).setCell (fun _ => rfl) _).setCell (fun _ => rfl) _
        have hb6 : W6.heap[SB]? = some (.cells #[.int .i64 n, .slice b5 n5 cb5] 128 (0, 0)) := by rw [← hW6]; exact heap_set_cell (heap_set_cell HS5.out _) _
        rw [hW6]
        refine hK.out _ _ ((hf5.mono (fun _ _ h => h.elim)).trans f56) (fun hS => ?_)
        clear hK K hW6 t0 t1 u0 u1 hS
        try simp only[pUt,pUn,sEt,sEz,sEs]
        refine wpAnyH_done (by kernel_rfl) ?_ _
        have HZ6 := Lib.hid ((f56.block (SB + 1) (Array.getElem?_eq_some_iff.1 HZ5.out).1 (fun e => by omega)).trans HZ5.out)
        have HF6 := Lib.hid (HF5.out.trans' f56 (fun i hi e => by have := HSB.out; omega))
        have HB6 := Lib.hid hb6
        have HA6 := Lib.hid (show RAt W6 a (SB + 2) n (putsE (l.take (j + 1)) E) (.agg #[.int .i64 n, .slice b5 n5 cb5]) from by
         obtain ⟨b7, c7, h1, h2, h3, h4⟩ := HA5.out
         refine ⟨b7, c7, h1, h2, h3.fr0 f56 (fun g o s e he => ?_), fun g o s e => (h4 g o s e).imp id (fun h => ⟨h.1, Nat.lt_of_lt_of_le h.2 f56.size⟩)⟩
         rcases h4 g o s e with ⟨o', s', e'⟩ | h5
         ·have := Hal.out g o' s' e'
          have := HSB.out
          omega
         ·omega)
        clear hb6 f56 hf5
        go_wp2_with fail
        go_roundw
        case rel => exact ⟨j + 1, by omega, by go_num, ⟨b5, cb5, by rw [Hn5.out]; exact HB6.out, by rw [Hn5.out]; exact HA6.out⟩, HZ6, HF6⟩
        case measure => simp [Go.RowKit.intOf]; omega
       ·have hjk : l.take j = l := List.take_of_length_le (by rw [Hk.out]; omega)
        have hAE := HAE.out
        rw [hjk] at hAE
        have hjl := Hjl.out
        rw [hjk] at hjl
        have HAF := Lib.hid hAE
        have Hjf := Lib.hid hjl
        have hcb2 : m + j ≤ cap' := hcb
        clear hjk hAE hjl hmk
        have t0 := thaw_in HZ.out 0
        have t1 := thaw_in HZ.out 1
        have s0 := cells_in HS.out 0
        have s1 := cells_in HS.out 1
        have u0 := cells_in HZ.out 0
        have u1 := cells_in HZ.out 1
        simp at u0 u1 s0 s1
        go_wp2_with fail
        clear s0 s1
        obtain ⟨W6, hW6⟩ : ∃ W, ((wr).setCell ⟨SB + 1, 0, none⟩ (.int .i64 n)).setCell ⟨SB + 1, 1, none⟩ (.slice a' (m + j) cap') = W := ⟨_, rfl⟩
        have hg : SB + 1 < w.heap.size → none' (SB + 1) := fun e => by have := HSB.out; omega
        have f6 : Fr0 none' w W6 := by rw [← hW6]; exact (HF.out.setCell hg _).setCell hg _
        have hb6 : W6.heap[SB + 1]? = some (.cells #[.int .i64 n, .slice a' (m + j) cap'] 128 (0, 0)) := by rw [← hW6]; exact heap_set_cell (heap_set_cell HZ.out _) _
        have f7 : Fr0 (fun k => k = SB + 1) (wr) W6 := by rw [← hW6]; exact ((Fr0.refl (fun k => k = SB + 1) (wr)).setCell (fun _ => rfl) _).setCell (fun _ => rfl) _
        rw [hW6]
        clear hW6 t0 t1 u0 u1
        have r0 := cells_in hb6 0
        have r1 := cells_in hb6 1
        simp at r0 r1
        refine bodyPost_ret (v := .tuple #[.agg #[.int .i64 n, .slice a' (m + j) cap'], .int .i64 (-1), .int .i64 0]) (by simp [results, Tryz.results67, go_sem, r0, r1]) rfl ⟨_, by first | rfl | rw [rfl], ?_, f6⟩
        refine ⟨a', cap', by rw [Hjf.out], by rw [Hjf.out]; exact hcb2, HAF.out.fr0 f7 (fun g o s e he => ?_), fun g o s e => (HAB.out g o s e).imp id (fun h => ⟨by have := HSB.out; omega, Nat.lt_of_lt_of_le h.2 f7.size⟩)⟩
        rcases HAB.out g o s e with ⟨o', s', e'⟩ | h5
        ·have := Hal.out g o' s' e'
         have := HSB.out
         omega
        ·omega
/-
  The reference of layer 12: Odd, Right.
-/

set_option maxHeartbeats 2000000 in
theorem rOdd_any {w : World} {a : Option Addr} {m cap : Nat} (L : List Ca) (h : CasIn w a L) (hl : L.length = m) (hm : m ≤ 100000) :
  Calls Tryz.prog 61 #[.slice a m cap] w fun e w' => e = .returned (.int .i64 (oddC L)) ∧ Fr0 none' w w' := by
 have H := Lib.hid h
 have Hl := Lib.hid hl
 obtain ⟨R, hR⟩ : ∃ R, oddC L = R := ⟨_, rfl⟩
 rw [hR]
 have HR := Lib.hid hR
 clear h hl hR
 go_enter Tryz.func61, Tryz.ntmps61
 go_wp2_with fail
 go_loopw [3] (fun i wr => ∃ k : Nat, k ≤ m ∧ i = .int .i64 k ∧ Hid (∀ b ∈ L.take k, 1 ≤ b.kind ∧ b.kind ≤ 5) ∧ Hid (Fr0 none' w wr)) (fun i _ => m - (Go.RowKit.intOf i).toNat)
 case atStart => exact ⟨0, Nat.zero_le _, rfl, by unfold Hid; simp, Fr0.refl _ _⟩
 case round =>
  obtain ⟨k, hk, rfl, hpre, hfr⟩ := hrel
  by_cases hlt : k < m
  ·obtain ⟨x, hx⟩ : ∃ x, L[k]? = some x := ⟨_, List.getElem?_eq_getElem (by rw [Hl.out]; exact hlt)⟩
   obtain ⟨g, o, rfl, hxc⟩ := (H.out.later hfr.out) k x hx
   obtain ⟨x0, _, _, _, _, _, _⟩ := hxc
   have k1 : (0 : Int) ≤ (k : Int) := by omega
   have k2 : (k : Int) < (m : Int) := by omega
   have Hx := Lib.hid hx
   obtain ⟨kd, y, t⟩ := x
   simp only at x0
   clear hx
   by_cases hkd : 1 ≤ kd ∧ kd ≤ 5
   ·have hnext := Lib.hid (show ∀ b ∈ L.take (k + 1), 1 ≤ b.kind ∧ b.kind ≤ 5 from fun b hb => by
     rw [List.take_add_one, Hx.out, List.mem_append] at hb
     rcases hb with hb | hb
     ·exact hpre.out b hb
     ·simp at hb; subst hb; exact hkd)
    have d1 : decide (kd < 1) = false := decide_eq_false (by omega)
    have d2 : decide (kd > 5) = false := decide_eq_false (by omega)
    have d3 : decide (5 < kd) = false := decide_eq_false (by omega)
    clear hkd
    go_wp2_with fail
    go_roundw
    case rel => exact ⟨k + 1, by omega, by go_num, hnext, hfr⟩
    case measure => simp [Go.RowKit.intOf]; omega
   ·have hres := Lib.hid (show (k : Int) = R by rw [← HR.out]; exact (oddC_at hpre.out Hx.out hkd).symm)
    by_cases h1 : kd < 1
    ·have d1 : decide (kd < 1) = true := decide_eq_true h1
     clear hkd h1
     go_wp2_with fail
     go_ret
     exact ⟨by rw [← hres.out]; rfl, hfr.out⟩
    ·have d1 : decide (kd < 1) = false := decide_eq_false h1
     have d2 : decide (kd > 5) = true := decide_eq_true (by omega)
     have d3 : decide (5 < kd) = true := decide_eq_true (by omega)
     clear hkd h1
     go_wp2_with fail
     go_ret
     exact ⟨by rw [← hres.out]; rfl, hfr.out⟩
  ·have hres := Lib.hid (show (-1 : Int) = R by
    rw [← HR.out]
    refine (oddC_none (fun b hb => hpre.out b ?_)).symm
    rwa [List.take_of_length_le (by rw [Hl.out]; omega)])
   go_wp2_with fail
   go_ret
   exact ⟨by rw [← hres.out]; rfl, hfr.out⟩
/-- A list in order is a right calendar if it can be put whole into an empty queue. -/
theorem right_all {L : List Ev} {n : Nat} (ha : AscE L) (hn : n ≤ 256) : (allV n [] L).2 = 0 ↔ RightC L n := by
 constructor
 ·intro h
  have hc : (chkE [] L).2 = 0 := by
   unfold allV at h
   by_cases h0 : (chkE [] L).2 = 0
   ·exact h0
   ·rw [if_pos h0] at h; exact absurd h h0
  obtain ⟨h1, h2, _⟩ := chkE_ok hc
  have h3 := dup_once (E := []) (l := L) List.nodup_nil h2
  rw [List.append_nil] at h3
  have h4 : ¬ n - ([] : List Ev).length < L.length := fun hlt => by
   unfold allV at h
   rw [if_neg (by rw [hc]; simp), if_pos hlt] at h
   cases h
  rw [List.length_nil] at h4
  exact ⟨⟨by omega, by omega⟩, by omega, ha, h1, h3⟩
 ·rintro ⟨_, h1, _, h2, h3⟩
  have := (all_ok (n := n) (E := []) h2 (by rw [List.append_nil]; exact h3) (by rw [List.length_nil]; omega)).1
  rw [this]
set_option maxHeartbeats 2000000 in
theorem rRight12_any {w : World} {a : Option Addr} {n cap : Nat} {c : Int} (L : List Ev) (h : EsIn w a L) (hl : L.length = n) (hn : n ≤ 10000) (hcap : n ≤ cap) :
  Calls Tryz.prog 35 #[.slice a n cap, .int .i64 c] w fun e w' => EndR L c w e w' := by
 have HS := Lib.hid (rSorted_any (cap := cap) L h hl hn)
 by_cases c0 : c < 0
 ·have d1 : decide (c < 0) = true := decide_eq_true c0
  have hr : Hid (¬ RightC L c) := fun h => by have := h.1; omega
  clear h hl c0
  go_enter Tryz.func35, Tryz.ntmps35
  go_wp2_with fail
  go_ret
  exact EndR.of rfl ⟨fun h => (by cases h), fun h => absurd h hr.out⟩ (Fr0.refl _ _)
 have d1 : decide (c < 0) = false := decide_eq_false c0
 by_cases c1 : c > 256
 ·have d2 : decide (c > 256) = true := decide_eq_true c1
  have d3 : decide (256 < c) = true := decide_eq_true c1
  have hr : Hid (¬ RightC L c) := fun h => by have := h.1; omega
  clear h hl c0 c1
  go_enter Tryz.func35, Tryz.ntmps35
  go_wp2_with fail
  go_ret
  exact EndR.of rfl ⟨fun h => (by cases h), fun h => absurd h hr.out⟩ (Fr0.refl _ _)
 have d2 : decide (c > 256) = false := decide_eq_false c1
 have d3 : decide (256 < c) = false := decide_eq_false c1
 by_cases c2 : n > 256
 ·have d4 : decide ((n : Int) > 256) = true := decide_eq_true (by omega)
  have d5 : decide ((256 : Int) < (n : Int)) = true := decide_eq_true (by omega)
  have hr : Hid (¬ RightC L c) := fun h => by have := h.1; have := h.2.1; omega
  clear h hl c0 c1 c2
  go_enter Tryz.func35, Tryz.ntmps35
  go_wp2_with fail
  go_ret
  exact EndR.of rfl ⟨fun h => (by cases h), fun h => absurd h hr.out⟩ (Fr0.refl _ _)
 have d4 : decide ((n : Int) > 256) = false := decide_eq_false (by omega)
 have d5 : decide ((256 : Int) < (n : Int)) = false := decide_eq_false (by omega)
 obtain ⟨N, rfl⟩ : ∃ N : Nat, c = (N : Int) := ⟨c.toNat, by omega⟩
 by_cases ho : AscE L
 ·rw [show decide (AscE L) = true from decide_eq_true ho] at HS
  have HP := Lib.hid (fun (W : World) (hf : Fr0 none' w W) => rPutAll_any (w := W) (a := none) (la := a) (m := 0) (cap := 0) (n := N) (k := n) (lc := cap) [] L (fun i x hx => by simp at hx) rfl (by omega) (by omega) (by omega) (by omega) (h.later hf) hl (by omega) hcap (fun g o s e => by cases e) List.nodup_nil)
  have Hr := Lib.hid (right_all ho (n := N) (by omega))
  obtain ⟨T, hT⟩ : ∃ T, allV N [] L = T := ⟨_, rfl⟩
  rw [hT] at HP Hr
  obtain ⟨t1, t2⟩ := T
  simp only at Hr
  clear h hl c0 c1 c2 ho hT
  go_enter Tryz.func35, Tryz.ntmps35
  go_wp2_with fail
  refine HS.out.mono ?_
  rintro e w1 ⟨rfl, hf⟩
  have F := Lib.hid hf
  clear hf
  go_wp2_with fail
  refine (HP.out _ F.out).mono ?_
  rintro e w2 ⟨v, rfl, ⟨va, vc, rfl, _⟩, hf⟩
  have F := Lib.hid (F.out.trans hf)
  clear hf
  by_cases h0 : t2 = 0
  ·have hr := Lib.hid (Hr.out.1 h0)
   subst h0
   go_wp2_with fail
   go_ret
   exact EndR.of rfl ⟨fun _ => hr.out, fun _ => rfl⟩ (F.out.alloc _)
  ·have hr := Lib.hid (fun h => h0 (Hr.out.2 h))
   have e1 : (t2 == 0) = false := beq_eq_false_iff_ne.2 h0
   clear h0
   go_wp2_with fail
   go_ret
   exact EndR.of rfl ⟨fun h => (by cases h), fun h => absurd h hr.out⟩ (F.out.alloc _)
 ·rw [show decide (AscE L) = false from decide_eq_false ho] at HS
  have hr : Hid (¬ RightC L N) := fun h => ho h.2.2.1
  clear h hl c0 c1 c2 ho
  go_enter Tryz.func35, Tryz.ntmps35
  go_wp2_with fail
  refine HS.out.mono ?_
  rintro e w1 ⟨rfl, hf⟩
  have F := Lib.hid hf
  clear hf
  go_wp2_with fail
  go_ret
  exact EndR.of rfl ⟨fun h => (by cases h), fun h => absurd h hr.out⟩ F.out
/-
  The reference of layer 10: Cancel.
-/

set_option maxHeartbeats 2000000 in
theorem rCancel_none {w : World} {a : Option Addr} {m cap : Nat} (c : Int) (E : List Ev) (h : EsIn w a E) (hl : E.length = m) (hm : m ≤ 1000) (hc : m ≤ cap) (p : Int × Int) (hn : findE p E = none) :
  Calls Tryz.prog 89 #[.agg #[.int .i64 c, .slice a m cap], .int .i64 p.1, .int .i64 p.2] w fun e w' => e = .returned (.tuple #[.agg #[.int .i64 c, .slice a m cap], evV ⟨⟨0, 0, 0⟩, 0, 0⟩, .int .i64 6]) ∧ Fr0 none' w w' := by
 have hat : atE p E = -1 := by
  rcases at_find p E with ⟨h1, _⟩ | ⟨k, x, _, _, h2, _⟩
  ·exact h1
  ·rw [hn] at h2; cases h2
 have HE := Lib.hid (fun (W : World) (hf : Fr0 none' w W) => rat_any E (h.later hf) hl (cap := cap) (by omega) p.1 p.2)
 rw [show atE (p.1, p.2) E = -1 from hat] at HE
 clear h hl hat hn
 simp only [evV]
 go_enter Tryz.func89, Tryz.ntmps89
 go_wp2_with fail
 obtain ⟨SB, hSB⟩ : ∃ B, w.heap.size = B := ⟨_, rfl⟩
 obtain ⟨W1, hW1⟩ : ∃ W, w.alloc (.cells #[.int .i64 c, .slice a m cap] 128) = W := ⟨_, rfl⟩
 have HS := Lib.hid (show W1.heap[SB]? = some (.cells #[.int .i64 c, .slice a m cap] 128 (0, 0)) by rw [← hW1, ← hSB]; exact World.alloc_heap_new w _)
 have HF := Lib.hid (show Fr0 none' w W1 by rw [← hW1]; exact (Fr0.refl _ _).alloc _)
 rw [hW1]
 try rw [hSB]
 have HSB := Lib.hid hSB
 have HSz := Lib.hid (show W1.heap.size = SB + 1 by rw [← hW1, World.size_alloc, hSB])
 clear hW1 hSB
 have s0 := cells_in HS.out 0
 have s1 := cells_in HS.out 1
 simp at s0 s1
 go_wp2_with fail
 obtain ⟨W3, hW3⟩ : ∃ W, (W1.alloc (.cells #[.int .i64 0, .slice none 0 0] 128)).alloc (.cells #[.int .i64 0, .int .i64 0, .int .i64 0, .int .i64 0, .int .i64 0] 30) = W := ⟨_, rfl⟩
 have h3 : Fr0 none' W1 W3 := by rw [← hW3]; exact ((Fr0.refl _ _).alloc _).alloc _
 have HR1 := Lib.hid (show W3.heap[SB + 1]? = some (.cells #[.int .i64 0, .slice none 0 0] 128 (0, 0)) by
  rw [← hW3, ← HSz.out]
  exact ((((Fr0.refl none' (W1.alloc (.cells #[.int .i64 0, .slice none 0 0] 128))).alloc _).block W1.heap.size (by rw [World.size_alloc]; omega) id)).trans (World.alloc_heap_new W1 _))
 have HR2 := Lib.hid (show W3.heap[SB + 1 + 1]? = some (.cells #[.int .i64 0, .int .i64 0, .int .i64 0, .int .i64 0, .int .i64 0] 30 (0, 0)) by
  have h7 := World.alloc_heap_new (W1.alloc (.cells #[.int .i64 0, .slice none 0 0] 128)) (.cells #[.int .i64 0, .int .i64 0, .int .i64 0, .int .i64 0, .int .i64 0] 30)
  rw [World.size_alloc, HSz.out] at h7
  rw [← hW3]
  exact h7)
 have HS3 := Lib.hid ((h3.block SB (Array.getElem?_eq_some_iff.1 HS.out).1 id).trans HS.out)
 have HF3 := Lib.hid (HF.out.trans h3)
 rw [hW3]
 clear hW3 h3 s0 s1
 refine (HE.out _ HF3.out).mono ?_
 rintro e w4 ⟨rfl, rfl⟩
 have t0 := thaw_in HR1.out 0
 have t1 := thaw_in HR1.out 1
 have u0 := cells_in HR1.out 0
 have u1 := cells_in HR1.out 1
 have s0 := cells_in HS3.out 0
 have s1 := cells_in HS3.out 1
 have v0 := thaw_in HR2.out 0
 have v1 := thaw_in HR2.out 1
 have v2 := thaw_in HR2.out 2
 have v3 := thaw_in HR2.out 3
 have v4 := thaw_in HR2.out 4
 have e0 := cells_in HR2.out 0
 have e1 := cells_in HR2.out 1
 have e2 := cells_in HR2.out 2
 have e3 := cells_in HR2.out 3
 have e4 := cells_in HR2.out 4
 simp at u0 u1 s0 s1 e0 e1 e2 e3 e4
 go_wp2_with fail
 obtain ⟨W6, hW6⟩ : ∃ W, ((((((W3.setCell ⟨SB + 1, 0, none⟩ (.int .i64 c)).setCell ⟨SB + 1, 1, none⟩ (.slice a m cap)).setCell ⟨SB + 1 + 1, 0, none⟩ (.int .i64 0)).setCell ⟨SB + 1 + 1, 1, none⟩ (.int .i64 0)).setCell ⟨SB + 1 + 1, 2, none⟩ (.int .i64 0)).setCell ⟨SB + 1 + 1, 3, none⟩ (.int .i64 0)).setCell ⟨SB + 1 + 1, 4, none⟩ (.int .i64 0) = W := ⟨_, rfl⟩
 have hg : SB + 1 < w.heap.size → none' (SB + 1) := fun e => by have := HSB.out; omega
 have hg2 : SB + 1 + 1 < w.heap.size → none' (SB + 1 + 1) := fun e => by have := HSB.out; omega
 have f6 : Fr0 none' w W6 := by rw [← hW6]; exact ((((((HF3.out.setCell hg _).setCell hg _).setCell hg2 _).setCell hg2 _).setCell hg2 _).setCell hg2 _).setCell hg2 _
 obtain ⟨W5, hW5⟩ : ∃ W, (W3.setCell ⟨SB + 1, 0, none⟩ (.int .i64 c)).setCell ⟨SB + 1, 1, none⟩ (.slice a m cap) = W := ⟨_, rfl⟩
 have hb5 : W5.heap[SB + 1]? = some (.cells #[.int .i64 c, .slice a m cap] 128 (0, 0)) := by rw [← hW5]; exact heap_set_cell (heap_set_cell HR1.out _) _
 have hc5 : W5.heap[SB + 1 + 1]? = some (.cells #[.int .i64 0, .int .i64 0, .int .i64 0, .int .i64 0, .int .i64 0] 30 (0, 0)) := (Fr0.block (show Fr0 (fun k => k = SB + 1) W3 W5 by rw [← hW5]; exact ((Fr0.refl (fun k => k = SB + 1) W3).setCell (fun _ => rfl) _).setCell (fun _ => rfl) _) (SB + 1 + 1) (Array.getElem?_eq_some_iff.1 HR2.out).1 (fun e => by omega)).trans HR2.out
 rw [hW5] at hW6
 have hb6 : W6.heap[SB + 1]? = some (.cells #[.int .i64 c, .slice a m cap] 128 (0, 0)) := (Fr0.block (show Fr0 (fun k => k = SB + 1 + 1) W5 W6 by rw [← hW6]; exact (((((Fr0.refl (fun k => k = SB + 1 + 1) W5).setCell (fun _ => rfl) _).setCell (fun _ => rfl) _).setCell (fun _ => rfl) _).setCell (fun _ => rfl) _).setCell (fun _ => rfl) _) (SB + 1) (Array.getElem?_eq_some_iff.1 hb5).1 (fun e => by omega)).trans hb5
 have hc6 : W6.heap[SB + 1 + 1]? = some (.cells #[.int .i64 0, .int .i64 0, .int .i64 0, .int .i64 0, .int .i64 0] 30 (0, 0)) := by rw [← hW6]; exact heap_set_cell (heap_set_cell (heap_set_cell (heap_set_cell (heap_set_cell hc5 _) _) _) _) _
 rw [hW5, hW6]
 clear hW6 hW5 hb5 hc5 hg hg2 t0 t1 u0 u1 s0 s1 v0 v1 v2 v3 v4 e0 e1 e2 e3 e4
 have r0 := cells_in hb6 0
 have r1 := cells_in hb6 1
 have e0 := cells_in hc6 0
 have e1 := cells_in hc6 1
 have e2 := cells_in hc6 2
 have e3 := cells_in hc6 3
 have e4 := cells_in hc6 4
 simp at r0 r1 e0 e1 e2 e3 e4
 exact bodyPost_ret (v := .tuple #[.agg #[.int .i64 c, .slice a m cap], .agg #[.int .i64 0, .int .i64 0, .int .i64 0, .int .i64 0, .int .i64 0], .int .i64 6]) (by simp [results, Tryz.results89, go_sem, r0, r1, e0, e1, e2, e3, e4]) rfl ⟨rfl, f6⟩
set_option maxHeartbeats 2000000 in
theorem rCancel_some {w : World} {a : Option Addr} {m cap k : Nat} (c : Int) (E : List Ev) (h : EsIn w a E) (hl : E.length = m) (hm : m ≤ 1000) (hc : m ≤ cap) (p : Int × Int) (x : Ev) (hk : atE p E = k) (hx : E[k]? = some x) :
  Calls Tryz.prog 89 #[.agg #[.int .i64 c, .slice a m cap], .int .i64 p.1, .int .i64 p.2] w fun e w' => ∃ v, e = .returned (.tuple #[v, evV x, .int .i64 0]) ∧ RAt w' a w.heap.size c (E.take k ++ E.drop (k + 1)) v ∧ Fr0 none' w w' := by
 obtain ⟨i0, hi, hz0, hz1, hz2⟩ := info_parts info_event0
 have H := Lib.hid h
 have Hl := Lib.hid hl
 have Hx := Lib.hid hx
 have HE := Lib.hid (fun (W : World) (hf : Fr0 none' w W) => rat_any E (h.later hf) hl (cap := cap) (by omega) p.1 p.2)
 rw [show atE (p.1, p.2) E = k from hk] at HE
 have hkm : k < m := by have := (List.getElem?_eq_some_iff.1 hx).1; omega
 clear h hl hk hx
 simp only [evV]
 go_enter Tryz.func89, Tryz.ntmps89
 go_wp2_with fail
 obtain ⟨SB, hSB⟩ : ∃ B, w.heap.size = B := ⟨_, rfl⟩
 obtain ⟨W1, hW1⟩ : ∃ W, w.alloc (.cells #[.int .i64 c, .slice a m cap] 128) = W := ⟨_, rfl⟩
 have HS := Lib.hid (show W1.heap[SB]? = some (.cells #[.int .i64 c, .slice a m cap] 128 (0, 0)) by rw [← hW1, ← hSB]; exact World.alloc_heap_new w _)
 have HF := Lib.hid (show Fr0 none' w W1 by rw [← hW1]; exact (Fr0.refl _ _).alloc _)
 rw [hW1]
 try rw [hSB]
 have HSB := Lib.hid hSB
 have HSz := Lib.hid (show W1.heap.size = SB + 1 by rw [← hW1, World.size_alloc, hSB])
 clear hW1 hSB
 have s0 := cells_in HS.out 0
 have s1 := cells_in HS.out 1
 simp at s0 s1
 go_wp2_with fail
 obtain ⟨W3, hW3⟩ : ∃ W, (W1.alloc (.cells #[.int .i64 0, .slice none 0 0] 128)).alloc (.cells #[.int .i64 0, .int .i64 0, .int .i64 0, .int .i64 0, .int .i64 0] 30) = W := ⟨_, rfl⟩
 have h3 : Fr0 none' W1 W3 := by rw [← hW3]; exact ((Fr0.refl _ _).alloc _).alloc _
 have HR1 := Lib.hid (show W3.heap[SB + 1]? = some (.cells #[.int .i64 0, .slice none 0 0] 128 (0, 0)) by
  rw [← hW3, ← HSz.out]
  exact ((((Fr0.refl none' (W1.alloc (.cells #[.int .i64 0, .slice none 0 0] 128))).alloc _).block W1.heap.size (by rw [World.size_alloc]; omega) id)).trans (World.alloc_heap_new W1 _))
 have HR2 := Lib.hid (show W3.heap[SB + 1 + 1]? = some (.cells #[.int .i64 0, .int .i64 0, .int .i64 0, .int .i64 0, .int .i64 0] 30 (0, 0)) by
  have h7 := World.alloc_heap_new (W1.alloc (.cells #[.int .i64 0, .slice none 0 0] 128)) (.cells #[.int .i64 0, .int .i64 0, .int .i64 0, .int .i64 0, .int .i64 0] 30)
  rw [World.size_alloc, HSz.out] at h7
  rw [← hW3]
  exact h7)
 have HS3 := Lib.hid ((h3.block SB (Array.getElem?_eq_some_iff.1 HS.out).1 id).trans HS.out)
 have HF3 := Lib.hid (HF.out.trans h3)
 rw [hW3]
 clear hW3 h3 s0 s1
 refine (HE.out _ HF3.out).mono ?_
 rintro e w4 ⟨rfl, rfl⟩
 have d1 : decide ((k : Int) < 0) = false := decide_eq_false (by omega)
 go_wp2_with fail
 clear d1
 obtain ⟨g, o, rfl, hat⟩ := H.out k x Hx.out
 have hgl : ∀ b, w.heap.size ≤ b → g ≠ b := fun b hb e => by
  have := World.block_lt_of_cell? _ _ hat.1
  simp only at this
  omega
 have hat3 := hat.later HF3.out
 have HZ := Lib.hid (fun (W' : World) (hf : Fr0 (fun k => k = SB + 1 ∨ k = SB + 1 + 1) W3 W') => (show W'.cell? ⟨SB, 0, none⟩ = some (.int .i64 c) ∧ W'.cell? ⟨SB, 1, none⟩ = some (.slice (some ⟨g, o, none⟩) m cap) ∧ EAt W' g (o + k * 5) x from by
  have h7 := (hf.block SB (Array.getElem?_eq_some_iff.1 HS3.out).1 (fun h => by rcases h with h | h <;> omega)).trans HS3.out
  have s0 := cells_in h7 0
  have s1 := cells_in h7 1
  simp at s0 s1
  exact ⟨s0, s1, hat3.fr0 hf (fun h => by have h8 := HSB.out; rcases h with h | h <;> exact hgl _ (by omega) h)⟩))
 have hE3 : EsIn W3 (some ⟨g, o, none⟩) E := H.out.later HF3.out
 obtain ⟨q, hq⟩ : ∃ q, k + 1 = q := ⟨_, rfl⟩
 have wq : IntKind.i64.wrap ((k : Int) + 1) = (q : Int) := by rw [IntWalk.i64_in _ (by omega)]; omega
 have hdR : (if cap = q then some (⟨g, o, none⟩ : Addr) else some ⟨g, o + q * 5, none⟩) = dR cap q (some ⟨g, o, none⟩) := by
  unfold dR
  rw [Option.map_some, Addr.add_mid]
 have Hq := Lib.hid hq
 have m1 : (0 : Int) ≤ (k : Int) := by omega
 have m2 : (k : Int) ≤ (cap : Int) := by omega
 have m3 : (q : Int) ≤ (m : Int) := by omega
 have m4 : (0 : Int) ≤ (q : Int) := by omega
 have m5 : (m : Int) ≤ (cap : Int) := by omega
 have m6 : (k : Int) < (m : Int) := by omega
 have m7 : (k : Int) ≤ (m : Int) := by omega
 have HE3 := Lib.hid hE3
 have HR3 := Lib.hid (show SB + 1 + 1 < W3.heap.size from (Array.getElem?_eq_some_iff.1 HR2.out).1)
 clear hat hE3 hgl hat3 hq
 refine wp_region_held_drew (S := fun W' => Fr0 (fun k => k = SB + 1 ∨ k = SB + 1 + 1) W3 W') (by kernel_rfl) ((Fr0.refl _ W3).drew) (fun hHeld => ?_)
 refine tkn (i := 0) (v := .pointer (some ⟨SB, 0, none⟩)) (fun W' hSW => ?_) ?_
 ·obtain ⟨s0, s1, b0, b1, b2, b3, b4⟩ := HZ.out W' hSW
  first|go_simp;done|exact rfl|go_simp;rfl|go_simp;omega
 try simp only[pUt,pUn,sEt,sEz,sEs]
 refine tkn (i := 1) (v := .int .i64 c) (fun W' hSW => ?_) ?_
 ·obtain ⟨s0, s1, b0, b1, b2, b3, b4⟩ := HZ.out W' hSW
  first|go_simp;done|exact rfl|go_simp;rfl|go_simp;omega
 try simp only[pUt,pUn,sEt,sEz,sEs]
 refine tkn (i := 3) (v := .pointer (some ⟨SB, 1, none⟩)) (fun W' hSW => ?_) ?_
 ·obtain ⟨s0, s1, b0, b1, b2, b3, b4⟩ := HZ.out W' hSW
  first|go_simp;done|exact rfl|go_simp;rfl|go_simp;omega
 try simp only[pUt,pUn,sEt,sEz,sEs]
 refine tkn (i := 4) (v := .slice (some ⟨g, o, none⟩) m cap) (fun W' hSW => ?_) ?_
 ·obtain ⟨s0, s1, b0, b1, b2, b3, b4⟩ := HZ.out W' hSW
  first|go_simp;done|exact rfl|go_simp;rfl|go_simp;omega
 try simp only[pUt,pUn,sEt,sEz,sEs]
 refine tkn (i := 5) (v := .int .i64 k) (fun W' hSW => ?_) ?_
 ·obtain ⟨s0, s1, b0, b1, b2, b3, b4⟩ := HZ.out W' hSW
  first|go_simp;done|exact rfl|go_simp;rfl|go_simp;omega
 try simp only[pUt,pUn,sEt,sEz,sEs]
 refine tkn (i := 6) (v := .slice (some ⟨g, o, none⟩) k cap) (fun W' hSW => ?_) ?_
 ·obtain ⟨s0, s1, b0, b1, b2, b3, b4⟩ := HZ.out W' hSW
  first|go_simp;done|exact rfl|go_simp;rfl|go_simp;omega
 try simp only[pUt,pUn,sEt,sEz,sEs]
 refine tkn (i := 8) (v := .pointer (some ⟨SB, 1, none⟩)) (fun W' hSW => ?_) ?_
 ·obtain ⟨s0, s1, b0, b1, b2, b3, b4⟩ := HZ.out W' hSW
  first|go_simp;done|exact rfl|go_simp;rfl|go_simp;omega
 try simp only[pUt,pUn,sEt,sEz,sEs]
 refine tkn (i := 9) (v := .slice (some ⟨g, o, none⟩) m cap) (fun W' hSW => ?_) ?_
 ·obtain ⟨s0, s1, b0, b1, b2, b3, b4⟩ := HZ.out W' hSW
  first|go_simp;done|exact rfl|go_simp;rfl|go_simp;omega
 try simp only[pUt,pUn,sEt,sEz,sEs]
 refine tkn (i := 10) (v := .int .i64 k) (fun W' hSW => ?_) ?_
 ·obtain ⟨s0, s1, b0, b1, b2, b3, b4⟩ := HZ.out W' hSW
  first|go_simp;done|exact rfl|go_simp;rfl|go_simp;omega
 try simp only[pUt,pUn,sEt,sEz,sEs]
 refine tkn (i := 11) (v := .int .i64 q) (fun W' hSW => ?_) ?_
 ·obtain ⟨s0, s1, b0, b1, b2, b3, b4⟩ := HZ.out W' hSW
  first|go_simp;done|exact rfl|go_simp;rfl|go_simp;omega
 try simp only[pUt,pUn,sEt,sEz,sEs]
 refine tkn (i := 12) (v := .slice (dR cap q (some ⟨g, o, none⟩)) (m - q) (cap - q)) (fun W' hSW => ?_) ?_
 ·obtain ⟨s0, s1, b0, b1, b2, b3, b4⟩ := HZ.out W' hSW
  first|go_simp;done|exact rfl|go_simp;rfl|go_simp;omega
 try simp only[pUt,pUn,sEt,sEz,sEs]
 refine tkn (i := 15) (v := .pointer (some ⟨SB, 1, none⟩)) (fun W' hSW => ?_) ?_
 ·obtain ⟨s0, s1, b0, b1, b2, b3, b4⟩ := HZ.out W' hSW
  first|go_simp;done|exact rfl|go_simp;rfl|go_simp;omega
 try simp only[pUt,pUn,sEt,sEz,sEs]
 refine tkn (i := 16) (v := .slice (some ⟨g, o, none⟩) m cap) (fun W' hSW => ?_) ?_
 ·obtain ⟨s0, s1, b0, b1, b2, b3, b4⟩ := HZ.out W' hSW
  first|go_simp;done|exact rfl|go_simp;rfl|go_simp;omega
 try simp only[pUt,pUn,sEt,sEz,sEs]
 refine tkn (i := 17) (v := .int .i64 k) (fun W' hSW => ?_) ?_
 ·obtain ⟨s0, s1, b0, b1, b2, b3, b4⟩ := HZ.out W' hSW
  first|go_simp;done|exact rfl|go_simp;rfl|go_simp;omega
 try simp only[pUt,pUn,sEt,sEz,sEs]
 refine tkn (i := 18) (v := .pointer (some ⟨g, o + k * 5, none⟩)) (fun W' hSW => ?_) ?_
 ·obtain ⟨s0, s1, b0, b1, b2, b3, b4⟩ := HZ.out W' hSW
  first|go_simp;done|exact rfl|go_simp;rfl|go_simp;omega
 try simp only[pUt,pUn,sEt,sEz,sEs]
 refine tkn (i := 19) (v := .agg #[.int .i64 x.key.time, .int .i64 x.key.source, .int .i64 x.key.seq, .int .i64 x.to, .int .i64 x.value]) (fun W' hSW => ?_) ?_
 ·obtain ⟨s0, s1, b0, b1, b2, b3, b4⟩ := HZ.out W' hSW
  first|go_simp;done|exact rfl|go_simp;rfl|go_simp;omega
 try simp only[pUt,pUn,sEt,sEz,sEs]
 refine take_call (i := 2) rfl (by kernel_rfl) (by kernel_rfl) (fun K hK => ?_)
 go_simp
 obtain ⟨V1, hV1⟩ : ∃ W, W3.alloc (.cells #[] 30) = W := ⟨_, rfl⟩
 obtain ⟨gr, hgr⟩ : ∃ g, W3.heap.size = g := ⟨_, rfl⟩
 have fV : Fr0 none' W3 V1 := by rw [← hV1]; exact (Fr0.refl _ _).alloc _
 have hrow0 : V1.ownsRow W3.heap.size 30 5 (.slice (some ⟨gr, 0, none⟩) 0 0) 0 [] := by
  rw [← hV1, ← hgr]
  exact World.ownsRow_lit (base := W3.heap.size) (e := 30) (size := 5) W3 #[] 0 (Nat.le_refl _) (by unfold maxLen; omega) rfl
 rw [hV1]
 try rw [hgr]
 have Hgr := Lib.hid hgr
 refine hK.out _ _ ((fV.drew).mono (fun _ _ h => h.elim)) (fun hS => ?_)
 clear hK K hV1 hgr
 try simp only[pUt,pUn,sEt,sEz,sEs]
 refine take_call (i := 7) rfl (by kernel_rfl) (by kernel_rfl) (fun K hK => ?_)
 have hsrc := ((HE3.out.later fV.drew).take k).src (n := k) (by rw [List.length_take, Hl.out]; omega) cap Tryz.underlying22
 refine wp_append_k _ _ 22 22 rfl W3.heap.size 30 i0 (.agg #[.int .i64 0, .int .i64 0, .int .i64 0, .int .i64 0, .int .i64 0]) 5 40 Tryz.underlying22 hi hz0 hz1 hz2 rfl (by decide) (.slice (some ⟨gr, 0, none⟩) 0 0) 0 _ rfl (ownsRow_fr0 hrow0 ((Fr0.refl none' V1).drew) (fun _ _ h => h)) (.slice (some ⟨g, o, none⟩) k cap) k _ rfl hsrc (by unfold maxLen; omega) (by omega) fV.size ?_
 intro v9 V9 hown hgw hdr hob
 have f9 : Fr0 none' W3 V9 := (fV.drew).trans' ((Fr0.refl (fun i => (Value.slice (some ⟨gr, 0, none⟩) 0 0).ownBlock = some i) _).grown hgw (fun i hi _ => hi)) (fun i hi h => by have := (hrow0.lt i h).1; omega)
 have hown9 := hown
 rw [Nat.zero_add, List.nil_append] at hown9
 have Hown := Lib.hid hown9
 have F9 := Lib.hid f9
 refine hK.out _ _ (f9.mono (fun _ _ h => h.elim)) (fun hS => ?_)
 clear hK K hgw hdr hob hsrc hrow0 fV hown f9 hS
 try simp only[pUt,pUn,sEt,sEz,sEs]
 refine take_call (i := 13) rfl (by kernel_rfl) (by kernel_rfl) (fun K hK => ?_)
 have hq := Hq.out
 have hsrc := ((HE3.out.later F9.out).restR (cap := cap) (by rw [Hl.out]; exact hc) q).src (n := m - q) (by rw [List.length_drop, Hl.out]) (cap - q) Tryz.underlying22
 refine wp_append_k _ _ 22 22 rfl W3.heap.size 30 i0 (.agg #[.int .i64 0, .int .i64 0, .int .i64 0, .int .i64 0, .int .i64 0]) 5 40 Tryz.underlying22 hi hz0 hz1 hz2 rfl (by decide) v9 k _ rfl Hown.out (.slice (dR cap q (some ⟨g, o, none⟩)) (m - q) (cap - q)) (m - q) _ rfl hsrc (by unfold maxLen; omega) (by omega) F9.out.size ?_
 intro v10 V10 hown hgw hdr hob
 have f10 : Fr0 none' W3 V10 := F9.out.trans' ((Fr0.refl (fun i => v9.ownBlock = some i) _).grown hgw (fun i hi _ => hi)) (fun i hi h => by have := (Hown.out.lt i h).1; omega)
 rw [← flatEv_append] at hown
 have hlen : (E.take k ++ E.drop q).length = k + (m - q) := by rw [List.length_append, List.length_take, List.length_drop, Hl.out]; omega
 obtain ⟨va, vc, rfl, _, _⟩ := EsIn.of_own hown
 have Hown := Lib.hid hown
 have Hlen := Lib.hid hlen
 have F10 := Lib.hid f10
 refine hK.out _ _ (f10.mono (fun _ _ h => h.elim)) (fun hS => ?_)
 clear hK K hgw hdr hob hsrc hown f10 hS hq hlen hHeld
 try simp only[pUt,pUn,sEt,sEz,sEs]
 have hS : Fr0 (fun k => k = SB + 1 ∨ k = SB + 1 + 1) W3 V10 := F10.out.mono (fun _ _ h => h.elim)
 refine tkn (i := 14) (v := .agg #[.int .i64 c, .slice va (k + (m - q)) vc]) (fun W' hSW => ?_) ?_
 ·obtain ⟨s0, s1, b0, b1, b2, b3, b4⟩ := HZ.out W' hSW
  first|go_simp;done|exact rfl|go_simp;rfl|go_simp;omega
 try simp only[pUt,pUn,sEt,sEz,sEs]
 have HR1 := Lib.hid ((F10.out.block (SB + 1) (Array.getElem?_eq_some_iff.1 HR1.out).1 id).trans HR1.out)
 have HR2 := Lib.hid ((F10.out.block (SB + 1 + 1) (Array.getElem?_eq_some_iff.1 HR2.out).1 id).trans HR2.out)
 refine take_call (i := 20) rfl (by kernel_rfl) (by kernel_rfl) (fun K hK => ?_)
 have t0 := thaw_in HR1.out 0
 have t1 := thaw_in HR1.out 1
 have u0 := cells_in HR1.out 0
 have u1 := cells_in HR1.out 1
 simp at u0 u1
 go_simp
 obtain ⟨W5, hW5⟩ : ∃ W, (V10.setCell ⟨SB + 1, 0, none⟩ (.int .i64 c)).setCell ⟨SB + 1, 1, none⟩ (.slice va (k + (m - q)) vc) = W := ⟨_, rfl⟩
 have f5 : Fr0 (fun k => k = SB + 1) V10 W5 := by rw [← hW5]; exact ((Fr0.refl (fun k => k = SB + 1) V10).setCell (fun _ => rfl) _).setCell (fun _ => rfl) _
 have HQ1 := Lib.hid (show W5.heap[SB + 1]? = some (.cells #[.int .i64 c, .slice va (k + (m - q)) vc] 128 (0, 0)) by rw [← hW5]; exact heap_set_cell (heap_set_cell HR1.out _) _)
 have HQ2 := Lib.hid ((f5.block (SB + 1 + 1) (Array.getElem?_eq_some_iff.1 HR2.out).1 (fun e => by omega)).trans HR2.out)
 rw [hW5]
 refine hK.out _ _ (hS.trans (f5.mono (fun _ _ h => .inl h))) (fun hS => ?_)
 clear hK K hW5 t0 t1 u0 u1
 try simp only[pUt,pUn,sEt,sEz,sEs]
 refine take_call (i := 21) rfl (by kernel_rfl) (by kernel_rfl) (fun K hK => ?_)
 have t0 := thaw_in HQ2.out 0
 have t1 := thaw_in HQ2.out 1
 have t2 := thaw_in HQ2.out 2
 have t3 := thaw_in HQ2.out 3
 have t4 := thaw_in HQ2.out 4
 have u0 := cells_in HQ2.out 0
 have u1 := cells_in HQ2.out 1
 have u2 := cells_in HQ2.out 2
 have u3 := cells_in HQ2.out 3
 have u4 := cells_in HQ2.out 4
 simp at u0 u1 u2 u3 u4
 go_simp
 obtain ⟨W6, hW6⟩ : ∃ W, ((((W5.setCell ⟨SB + 1 + 1, 0, none⟩ (.int .i64 x.key.time)).setCell ⟨SB + 1 + 1, 1, none⟩ (.int .i64 x.key.source)).setCell ⟨SB + 1 + 1, 2, none⟩ (.int .i64 x.key.seq)).setCell ⟨SB + 1 + 1, 3, none⟩ (.int .i64 x.to)).setCell ⟨SB + 1 + 1, 4, none⟩ (.int .i64 x.value) = W := ⟨_, rfl⟩
 have f6 : Fr0 (fun k => k = SB + 1 + 1) W5 W6 := by rw [← hW6]; exact (((((Fr0.refl (fun k => k = SB + 1 + 1) W5).setCell (fun _ => rfl) _).setCell (fun _ => rfl) _).setCell (fun _ => rfl) _).setCell (fun _ => rfl) _).setCell (fun _ => rfl) _
 have HQ1 := Lib.hid ((f6.block (SB + 1) (Array.getElem?_eq_some_iff.1 HQ1.out).1 (fun e => by omega)).trans HQ1.out)
 have HQ2 := Lib.hid (show W6.heap[SB + 1 + 1]? = some (.cells (cev x).toArray 30 (0, 0)) by rw [← hW6]; exact heap_set_cell (heap_set_cell (heap_set_cell (heap_set_cell (heap_set_cell HQ2.out _) _) _) _) _)
 rw [hW6]
 refine hK.out _ _ (hS.trans (f6.mono (fun _ _ h => .inr h))) (fun hS => ?_)
 clear hK K hW6 t0 t1 t2 t3 t4 u0 u1 u2 u3 u4
 try simp only[pUt,pUn,sEt,sEz,sEs]
 refine tkn (i := 22) (v := .int .i64 0) (fun W' hSW => ?_) ?_
 ·obtain ⟨s0, s1, b0, b1, b2, b3, b4⟩ := HZ.out W' hSW
  first|go_simp;done|exact rfl|go_simp;rfl|go_simp;omega
 try simp only[pUt,pUn,sEt,sEz,sEs]
 refine wpAnyH_done (by kernel_rfl) ?_ _
 have r0 := cells_in HQ1.out 0
 have r1 := cells_in HQ1.out 1
 simp at r0 r1
 have e0 := cells_in HQ2.out 0
 have e1 := cells_in HQ2.out 1
 have e2 := cells_in HQ2.out 2
 have e3 := cells_in HQ2.out 3
 have e4 := cells_in HQ2.out 4
 simp [cev] at e0 e1 e2 e3 e4
 have f610 : Fr0 (fun k => k = SB + 1 ∨ k = SB + 1 + 1) V10 W6 := (f5.mono (fun _ _ h => .inl h)).trans (f6.mono (fun _ _ h => .inr h))
 have HRow := Lib.hid (ownsRow_fr0 Hown.out f610 (fun g hg h => by
  have h7 := (Hown.out.lt g hg).1
  have h8 := (Array.getElem?_eq_some_iff.1 HS3.out).1
  have h9 := HR3.out
  rcases h with h | h <;> omega))
 have HFF := Lib.hid (show Fr0 none' w W6 from HF3.out.trans' hS (fun k hk h => by have := HSB.out; rcases h with h | h <;> omega))
 clear f5 f6 f610 hS
 go_wp2_with fail
 refine bodyPost_ret (v := .tuple #[.agg #[.int .i64 c, .slice va (k + (m - q)) vc], .agg #[.int .i64 x.key.time, .int .i64 x.key.source, .int .i64 x.key.seq, .int .i64 x.to, .int .i64 x.value], .int .i64 0]) (by simp [results, Tryz.results89, go_sem, r0, r1, e0, e1, e2, e3, e4]) rfl ⟨_, rfl, ?_, HFF.out⟩
 have hq := Hq.out
 subst hq
 rw [← Hlen.out] at HRow ⊢
 exact RAt.own HRow.out HF3.out.size
/-
  The reference of layer 10: TakeBefore (no text of the queue).
-/

theorem bef_snoc {t : Int} {E : List Ev} {i : Nat} {x : Ev} (hx : E[i]? = some x) : befE t (E.take (i + 1)) = befE t (E.take i) ++ (if x.key.time < t then [x] else []) ∧ aftE t (E.take (i + 1)) = aftE t (E.take i) ++ (if x.key.time < t then [] else [x]) := by
 unfold befE aftE
 rw [List.take_add_one, hx, List.filter_append, List.filter_append]
 by_cases h : x.key.time < t
 ·simp [h]
 ·simp [h]
set_option maxHeartbeats 2000000 in
theorem rTakeBefore_any {w : World} {a : Option Addr} {m cap : Nat} (c : Int) (E : List Ev) (h : EsIn w a E) (hl : E.length = m) (hm : m ≤ 1000) (t : Int) :
  Calls Tryz.prog 88 #[.agg #[.int .i64 c, .slice a m cap], .int .i64 t] w fun e w' => ∃ v r, e = .returned (.tuple #[v, r]) ∧ RAt w' a w.heap.size c (aftE t E) v ∧ w'.ownsRow w.heap.size 30 5 r (befE t E).length (flatEv (befE t E)) ∧ Fr0 none' w w' := by
 obtain ⟨i0, hi, hz0, hz1, hz2⟩ := info_parts info_event0
 have H := Lib.hid h
 have Hl := Lib.hid hl
 clear h hl
 go_enter Tryz.func88, Tryz.ntmps88
 go_wp2_with fail
 obtain ⟨SB, hSB⟩ : ∃ B, w.heap.size = B := ⟨_, rfl⟩
 obtain ⟨W1, hW1⟩ : ∃ W, w.alloc (.cells #[.int .i64 c, .slice a m cap] 128) = W := ⟨_, rfl⟩
 have hs1 : W1.heap[SB]? = some (.cells #[.int .i64 c, .slice a m cap] 128 (0, 0)) := by rw [← hW1, ← hSB]; exact World.alloc_heap_new w _
 have f1 : Fr0 none' w W1 := by rw [← hW1]; exact (Fr0.refl _ _).alloc _
 have z1 : W1.heap.size = SB + 1 := by rw [← hW1, World.size_alloc, hSB]
 rw [hW1]
 try rw [hSB]
 obtain ⟨W, hW⟩ : ∃ W, W1.alloc (.cells #[.int .i64 0, .slice none 0 0] 128) = W := ⟨_, rfl⟩
 have f3 : Fr0 none' W1 W := by rw [← hW]; exact (Fr0.refl _ _).alloc _
 have HZ := Lib.hid (show W.heap[SB + 1]? = some (.cells #[.int .i64 0, .slice none 0 0] 128 (0, 0)) by rw [← hW, ← z1]; exact World.alloc_heap_new W1 _)
 have HS := Lib.hid ((f3.block SB (Array.getElem?_eq_some_iff.1 hs1).1 id).trans hs1)
 have HF := Lib.hid (f1.trans f3)
 have HSB := Lib.hid hSB
 rw [hW]
 clear hW1 hSB hs1 f1 f3 hW z1
 go_loopw [6, 7, 8] (fun v6 v7 v8 wr => ∃ i : Nat, i ≤ m ∧ v8 = .int .i64 i ∧ Hid (wr.ownsRow (SB + 2) 30 5 v6 (befE t (E.take i)).length (flatEv (befE t (E.take i)))) ∧ Hid (wr.ownsRow (SB + 2) 30 5 v7 (aftE t (E.take i)).length (flatEv (aftE t (E.take i)))) ∧ Hid (∀ g g', v6.ownBlock = some g → v7.ownBlock = some g' → g ≠ g') ∧ Hid (wr.heap[SB]? = some (.cells #[.int .i64 c, .slice a m cap] 128 (0, 0))) ∧ Hid (wr.heap[SB + 1]? = some (.cells #[.int .i64 0, .slice none 0 0] 128 (0, 0))) ∧ Hid (Fr0 none' w wr)) (fun _ _ v8 _ => m - (Go.RowKit.intOf v8).toNat)
 case atStart => exact ⟨0, Nat.zero_le _, rfl, World.ownsRow_nil _ _ _ _, World.ownsRow_nil _ _ _ _, (fun g g' hg => by cases hg), HS, HZ, HF⟩
 case round =>
  obtain ⟨i, hi', rfl, HE, HA, HD, HS, HZ, HF⟩ := hrel
  obtain ⟨ea, ec, rfl, _, _⟩ := EsIn.of_own HE.out
  obtain ⟨la, lc, rfl, _, _⟩ := EsIn.of_own HA.out
  obtain ⟨B, hB⟩ : ∃ B, befE t (E.take i) = B := ⟨_, rfl⟩
  obtain ⟨A, hA⟩ : ∃ A, aftE t (E.take i) = A := ⟨_, rfl⟩
  have hle : B.length ≤ m ∧ A.length ≤ m := by
   have h1 : B.length ≤ (E.take i).length := by rw [← hB]; exact List.length_filter_le _ _
   have h2 : A.length ≤ (E.take i).length := by rw [← hA]; exact List.length_filter_le _ _
   rw [List.length_take] at h1 h2
   omega
  rw [hB] at HE HD ⊢
  rw [hA] at HA HD ⊢
  have s0 := cells_in HS.out 0
  have s1 := cells_in HS.out 1
  simp at s0 s1
  by_cases hlt : i < m
  ·obtain ⟨x, hx⟩ : ∃ x, E[i]? = some x := ⟨_, List.getElem?_eq_getElem (by rw [Hl.out]; exact hlt)⟩
   obtain ⟨g2, o, rfl, hxc⟩ := H.out i x hx
   obtain ⟨x0, x1, x2, x3, x4⟩ := hxc.later HF.out
   obtain ⟨hsb, hsa⟩ := bef_snoc (t := t) hx
   rw [hB] at hsb
   rw [hA] at hsa
   have k1 : (0 : Int) ≤ (i : Int) := by omega
   have k2 : (i : Int) < (m : Int) := by omega
   by_cases ht : x.key.time < t
   ·have d1 : decide (x.key.time < t) = true := decide_eq_true ht
    rw [if_pos ht] at hsb hsa
    rw [List.append_nil] at hsa
    have Hsb := Lib.hid hsb
    have Hsa := Lib.hid hsa
    clear hx hxc hB hA hsb hsa ht
    have hsrc := Src.newRow (P := Tryz.prog) (size := 5) (tx := 22) (ty := 30) wr Tryz.underlying22 1 1 (cev x) rfl (by simp [Value.oneCell', cev])
    simp only [cev] at hsrc
    have hbase : SB + 2 ≤ wr.heap.size := by have h1 := (Array.getElem?_eq_some_iff.1 HZ.out).1; omega
    go_wp2_with (at_builtin; refine wpList_append_k rfl _ _ 22 22 rfl (SB + 2) 30 i0 (.agg #[.int .i64 0, .int .i64 0, .int .i64 0, .int .i64 0, .int .i64 0]) 5 40 Tryz.underlying22 hi hz0 hz1 hz2 rfl (by decide) (Value.slice ea B.length ec) (B.length) _ rfl (ownsRow_fr0 HE.out ((Fr0.refl none' wr).alloc _) (fun _ _ h => h)) (.slice (some ⟨(wr).heap.size, 0, none⟩) 1 1) 1 _ rfl hsrc (by unfold maxLen; omega) (by omega) (by simp; omega) ?_; intro v9 w9 hown hgrow hdr hob; obtain ⟨g9, c9, rfl⟩ := ownsRow_k_succ hown; have Lw9 := Lib.hid HE.out.lt; have Fw9 := Lib.hid (show Fr0 (fun i => (Value.slice ea B.length ec).ownBlock = some i) wr w9 from ((Fr0.refl _ wr).alloc _).grown hgrow (fun i hi _ => hi)); have Rw9 := Lib.hid hown; have Ow9 := Lib.hid hob; clear hown hgrow hdr hob hsrc)
    have HSn := Lib.hid ((Fw9.out.block SB (Array.getElem?_eq_some_iff.1 HS.out).1 (fun h => by have := (Lw9.out SB h).1; omega)).trans HS.out)
    have HZn := Lib.hid ((Fw9.out.block (SB + 1) (Array.getElem?_eq_some_iff.1 HZ.out).1 (fun h => by have := (Lw9.out (SB + 1) h).1; omega)).trans HZ.out)
    have HFn := Lib.hid (HF.out.trans' Fw9.out (fun i hi h => by have := (Lw9.out i h).1; have := HSB.out; omega))
    clear x0 x1 x2 x3 x4 s0 s1
    go_roundw
    case rel =>
     refine ⟨i + 1, by omega, by go_num, ?_, ?_, ?_, HSn, HZn, HFn⟩
     ·rw [Hsb.out, List.length_append, List.length_singleton]
      have := Rw9.out
      simpa [Lib.hid, Hid, flatEv, cev] using this
     ·rw [Hsa.out]
      exact ownsRow_fr0 HA.out Fw9.out (fun g hg h => HD.out g g h hg rfl)
     ·intro g g' hg hg'
      rcases Ow9.out with h | h
      ·rw [h] at hg
       exact HD.out g g' hg hg'
      ·rw [h] at hg
       injection hg with hg
       have := (HA.out.lt g' hg').2
       rw [World.size_alloc] at hg
       omega
    case measure => simp [Go.RowKit.intOf]; omega
   ·have d1 : decide (x.key.time < t) = false := decide_eq_false ht
    rw [if_neg ht] at hsb hsa
    rw [List.append_nil] at hsb
    have Hsb := Lib.hid hsb
    have Hsa := Lib.hid hsa
    clear hx hxc hB hA hsb hsa ht
    have hsrc := Src.newRow (P := Tryz.prog) (size := 5) (tx := 22) (ty := 30) wr Tryz.underlying22 1 1 (cev x) rfl (by simp [Value.oneCell', cev])
    simp only [cev] at hsrc
    have hbase : SB + 2 ≤ wr.heap.size := by have h1 := (Array.getElem?_eq_some_iff.1 HZ.out).1; omega
    go_wp2_with (at_builtin; refine wpList_append_k rfl _ _ 22 22 rfl (SB + 2) 30 i0 (.agg #[.int .i64 0, .int .i64 0, .int .i64 0, .int .i64 0, .int .i64 0]) 5 40 Tryz.underlying22 hi hz0 hz1 hz2 rfl (by decide) (Value.slice la A.length lc) (A.length) _ rfl (ownsRow_fr0 HA.out ((Fr0.refl none' wr).alloc _) (fun _ _ h => h)) (.slice (some ⟨(wr).heap.size, 0, none⟩) 1 1) 1 _ rfl hsrc (by unfold maxLen; omega) (by omega) (by simp; omega) ?_; intro v9 w9 hown hgrow hdr hob; obtain ⟨g9, c9, rfl⟩ := ownsRow_k_succ hown; have Lw9 := Lib.hid HA.out.lt; have Fw9 := Lib.hid (show Fr0 (fun i => (Value.slice la A.length lc).ownBlock = some i) wr w9 from ((Fr0.refl _ wr).alloc _).grown hgrow (fun i hi _ => hi)); have Rw9 := Lib.hid hown; have Ow9 := Lib.hid hob; clear hown hgrow hdr hob hsrc)
    have HSn := Lib.hid ((Fw9.out.block SB (Array.getElem?_eq_some_iff.1 HS.out).1 (fun h => by have := (Lw9.out SB h).1; omega)).trans HS.out)
    have HZn := Lib.hid ((Fw9.out.block (SB + 1) (Array.getElem?_eq_some_iff.1 HZ.out).1 (fun h => by have := (Lw9.out (SB + 1) h).1; omega)).trans HZ.out)
    have HFn := Lib.hid (HF.out.trans' Fw9.out (fun i hi h => by have := (Lw9.out i h).1; have := HSB.out; omega))
    clear x0 x1 x2 x3 x4 s0 s1
    go_roundw
    case rel =>
     refine ⟨i + 1, by omega, by go_num, ?_, ?_, ?_, HSn, HZn, HFn⟩
     ·rw [Hsb.out]
      exact ownsRow_fr0 HE.out Fw9.out (fun g hg h => HD.out g g hg h rfl)
     ·rw [Hsa.out, List.length_append, List.length_singleton]
      have := Rw9.out
      simpa [Lib.hid, Hid, flatEv, cev] using this
     ·intro g g' hg hg'
      rcases Ow9.out with h | h
      ·rw [h] at hg'
       exact HD.out g g' hg hg'
      ·rw [h] at hg'
       injection hg' with hg'
       have := (HE.out.lt g hg).2
       rw [World.size_alloc] at hg'
       omega
    case measure => simp [Go.RowKit.intOf]; omega
  ·have hEt : E.take i = E := List.take_of_length_le (by rw [Hl.out]; omega)
   rw [hEt] at hB hA
   have HB := Lib.hid hB
   have HAl := Lib.hid hA
   clear hEt hB hA
   have t0 := thaw_in HZ.out 0
   have t1 := thaw_in HZ.out 1
   have u0 := cells_in HZ.out 0
   have u1 := cells_in HZ.out 1
   simp at u0 u1
   go_wp2_with fail
   obtain ⟨W6, hW6⟩ : ∃ W, (wr.setCell ⟨SB + 1, 0, none⟩ (.int .i64 c)).setCell ⟨SB + 1, 1, none⟩ (.slice la A.length lc) = W := ⟨_, rfl⟩
   have f7 : Fr0 (fun k => k = SB + 1) wr W6 := by rw [← hW6]; exact ((Fr0.refl (fun k => k = SB + 1) wr).setCell (fun _ => rfl) _).setCell (fun _ => rfl) _
   have hb6 : W6.heap[SB + 1]? = some (.cells #[.int .i64 c, .slice la A.length lc] 128 (0, 0)) := by rw [← hW6]; exact heap_set_cell (heap_set_cell HZ.out _) _
   rw [hW6]
   clear hW6 t0 t1 u0 u1
   have r0 := cells_in hb6 0
   have r1 := cells_in hb6 1
   simp at r0 r1
   refine bodyPost_ret (v := .tuple #[.agg #[.int .i64 c, .slice la A.length lc], .slice ea B.length ec]) (by simp [results, Tryz.results88, go_sem, r0, r1]) rfl ⟨_, _, rfl, ?_, ?_, HF.out.trans' f7 (fun i hi e => by have := HSB.out; omega)⟩
   ·rw [HAl.out]
    exact RAt.own (ownsRow_fr0 HA.out f7 (fun g hg e => by have := (HA.out.lt g hg).1; omega)) (by have := HSB.out; omega)
   ·rw [HB.out]
    exact own_low (ownsRow_fr0 HE.out f7 (fun g hg e => by have := (HE.out.lt g hg).1; omega)) (by have := HSB.out; omega)
/-
  The reference of layer 12: act.
-/

/-- Where a row of the reference lies, if it has events: in an old one's block, which has some too, or in a new one. -/
def FromE (a b : Option Addr) (N M : Nat) (E F : List Ev) : Prop := ∀ g o s, b = some ⟨g, o, s⟩ → F ≠ [] → ((∃ o' s', a = some ⟨g, o', s'⟩) ∧ E ≠ []) ∨ (N ≤ g ∧ g < M)
theorem FromE.nil (a b : Option Addr) (N M : Nat) (E : List Ev) : FromE a b N M E [] := fun g o s e h => absurd rfl h
theorem FromE.self (a : Option Addr) (N M : Nat) (E : List Ev) : FromE a a N M E E := fun g o s e h => .inl ⟨⟨o, s, e⟩, h⟩
theorem FromE.mono {a b : Option Addr} {N N' M M' : Nat} {E F : List Ev} (h : FromE a b N M E F) (hN : N' ≤ N) (hM : M ≤ M') : FromE a b N' M' E F := fun g o s e h0 => (h g o s e h0).imp id (fun h => by omega)
theorem FromE.trans {a b c : Option Addr} {N N' M M' : Nat} {E F G : List Ev} (h : FromE a b N M E F) (h2 : FromE b c N' M' F G) (hN : N ≤ N') (hM : M ≤ M') : FromE a c N M' E G := fun g o s e h0 => by
 rcases h2 g o s e h0 with ⟨⟨o', s', e'⟩, h1⟩ | h3
 ·exact (h g o' s' e' h1).imp id (fun h => by omega)
 ·exact .inr (by omega)
theorem FromE.of {a b : Option Addr} {w' : World} {N N' : Nat} {E F : List Ev} (h : ∀ g o s, b = some ⟨g, o, s⟩ → (∃ o' s', a = some ⟨g, o', s'⟩) ∨ (N ≤ g ∧ g < w'.heap.size)) (hE : F ≠ [] → E ≠ []) (hN : N' ≤ N) : FromE a b N' w'.heap.size E F := fun g o s e h0 => (h g o s e).imp (fun h => ⟨h, hE h0⟩) (fun h => by omega)
theorem EsIn.off {S : Nat → Prop} {w w' : World} {a : Option Addr} {F : List Ev} (h : EsIn w a F) (hf : Fr0 S w w') (hS : ∀ g o s, a = some ⟨g, o, s⟩ → F ≠ [] → ¬ S g) : EsIn w' a F := by
 cases F with
 | nil => exact fun i x hx => by simp at hx
 | cons x r => exact h.fr0 hf (fun g o s e => hS g o s e (by simp))
theorem EsIn.ltC {w : World} {a : Option Addr} {L : List Ev} (h : EsIn w a L) (h0 : L ≠ []) : ∀ g o s, a = some ⟨g, o, s⟩ → g < w.heap.size := fun g o s e => by
 cases L with
 | nil => exact absurd rfl h0
 | cons x r =>
  obtain ⟨g', o', e', hc⟩ := h 0 x rfl
  rw [e] at e'
  injection e' with e'
  injection e' with e1 _
  rw [e1]
  exact World.block_lt_of_cell? _ _ hc.1
/-- What an act of the reference leaves. -/
def ActQ (w : World) (a : Option Addr) (n : Nat) (E E' : List Ev) (f : Int) (ys : List Ev) (e : Ending) (w' : World) : Prop :=
 ∃ va vc ya yc, e = .returned (.tuple #[.agg #[.int .i64 n, .slice va E'.length vc], .agg #[.int .i64 f, .slice ya ys.length yc]]) ∧ E'.length ≤ vc ∧ EsIn w' va E' ∧ EsIn w' ya ys ∧ FromE a va w.heap.size w'.heap.size E E' ∧ FromE a ya w.heap.size w'.heap.size E ys ∧ Fr0 none' w w'
def ActP (w : World) (a : Option Addr) (n : Nat) (E : List Ev) (x : Ca) : Ending → World → Prop := ActQ w a n E (doC n E x).1 (doC n E x).2.err (doC n E x).2.evs
theorem setN {S : Nat → Prop} {w V : World} (h : Fr0 S w V) {b o : Nat} {v : Value} (hb : S b) : Fr0 S w (V.setCell ⟨b, o, none⟩ v) := h.setCell (fun _ => hb) v
/-- The end of act. -/
theorem act_end {w w1 V : World} {a va ya : Option Addr} {n N vc yc : Nat} {E E' ys : List Ev} {f : Int} (hE : ∀ g o s, a = some ⟨g, o, s⟩ → E ≠ [] → g < N) (hN : w.heap.size = N) (hF : Fr0 none' w w1) (hV : Fr0 (fun k => N ≤ k ∧ k < N + 5) w1 V) (hvc : E'.length ≤ vc)
  (hv : EsIn w1 va E') (hy : EsIn w1 ya ys) (fv : FromE a va (N + 5) w1.heap.size E E') (fy : FromE a ya (N + 5) w1.heap.size E ys) : ActQ w a n E E' f ys (.returned (.tuple #[.agg #[.int .i64 n, .slice va E'.length vc], .agg #[.int .i64 f, .slice ya ys.length yc]])) V := by
 have key : ∀ b F, FromE a b (N + 5) w1.heap.size E F → ∀ g o s, b = some ⟨g, o, s⟩ → F ≠ [] → ¬ (N ≤ g ∧ g < N + 5) := fun b F h g o s e h0 hk => by
  rcases h g o s e h0 with ⟨⟨o', s', e'⟩, h1⟩ | h1
  ·have := hE g o' s' e' h1; omega
  ·omega
 have hs := hV.size
 exact ⟨va, vc, ya, yc, rfl, hvc, hv.off hV (key _ _ fv), hy.off hV (key _ _ fy), fv.mono (by omega) hs, fy.mono (by omega) hs, hF.trans' hV (fun k hk h => by omega)⟩
/-- The boxes of act. -/
structure ActB (W : World) (N n : Nat) (a : Option Addr) (m cap : Nat) (x : Ca) : Prop where
 b0 : W.heap[N]? = some (.cells #[.int .i64 n, .slice a m cap] 128 (0, 0))
 b1 : W.heap[N + 1]? = some (.cells #[.int .u8 x.kind, .int .i64 x.x.key.time, .int .i64 x.x.key.source, .int .i64 x.x.key.seq, .int .i64 x.x.to, .int .i64 x.x.value, .int .i64 x.time] 75 (0, 0))
 b2 : W.heap[N + 1 + 1]? = some (.cells #[.int .i64 0, .slice none 0 0] 128 (0, 0))
 b3 : W.heap[N + 1 + 1 + 1]? = some (.cells #[.int .i64 0, .slice none 0 0] 130 (0, 0))
 b4 : W.heap[N + 1 + 1 + 1 + 1]? = some (.cells #[.int .i64 0, .int .i64 0, .int .i64 0, .int .i64 0, .int .i64 0] 30 (0, 0))
theorem ActB.later {W W' : World} {N n : Nat} {a : Option Addr} {m cap : Nat} {x : Ca} (h : ActB W N n a m cap x) (hf : Fr0 none' W W') : ActB W' N n a m cap x :=
 ⟨(hf.block _ (Array.getElem?_eq_some_iff.1 h.b0).1 id).trans h.b0, (hf.block _ (Array.getElem?_eq_some_iff.1 h.b1).1 id).trans h.b1, (hf.block _ (Array.getElem?_eq_some_iff.1 h.b2).1 id).trans h.b2, (hf.block _ (Array.getElem?_eq_some_iff.1 h.b3).1 id).trans h.b3, (hf.block _ (Array.getElem?_eq_some_iff.1 h.b4).1 id).trans h.b4⟩
def wAct (w : World) (n : Nat) (a : Option Addr) (m cap : Nat) (x : Ca) : World :=
 ((((w.alloc (.cells #[.int .i64 n, .slice a m cap] 128)).alloc (.cells #[.int .u8 x.kind, .int .i64 x.x.key.time, .int .i64 x.x.key.source, .int .i64 x.x.key.seq, .int .i64 x.x.to, .int .i64 x.x.value, .int .i64 x.time] 75)).alloc (.cells #[.int .i64 0, .slice none 0 0] 128)).alloc (.cells #[.int .i64 0, .slice none 0 0] 130)).alloc (.cells #[.int .i64 0, .int .i64 0, .int .i64 0, .int .i64 0, .int .i64 0] 30)
theorem wAct_is (w : World) (n : Nat) (a : Option Addr) (m cap : Nat) (x : Ca) : ActB (wAct w n a m cap x) w.heap.size n a m cap x ∧ Fr0 none' w (wAct w n a m cap x) := by
 have key : ∀ (V : World) (o : Obj) (k : Nat), k < V.heap.size → (V.alloc o).heap[k]? = V.heap[k]? := fun V o k hk => ((Fr0.refl none' V).alloc o).block k hk id
 unfold wAct
 refine ⟨⟨?_, ?_, ?_, ?_, ?_⟩, (((((Fr0.refl _ _).alloc _).alloc _).alloc _).alloc _).alloc _⟩
 ·rw [key _ _ _ (by simp only [World.size_alloc]; omega), key _ _ _ (by simp only [World.size_alloc]; omega), key _ _ _ (by simp only [World.size_alloc]; omega), key _ _ _ (by simp only [World.size_alloc]; omega)]
  exact World.alloc_heap_new _ _
 ·rw [key _ _ _ (by simp only [World.size_alloc]; omega), key _ _ _ (by simp only [World.size_alloc]; omega), key _ _ _ (by simp only [World.size_alloc]; omega)]
  have h1 := World.alloc_heap_new (w.alloc (.cells #[.int .i64 n, .slice a m cap] 128)) (.cells #[.int .u8 x.kind, .int .i64 x.x.key.time, .int .i64 x.x.key.source, .int .i64 x.x.key.seq, .int .i64 x.x.to, .int .i64 x.x.value, .int .i64 x.time] 75)
  rwa [World.size_alloc] at h1
 ·rw [key _ _ _ (by simp only [World.size_alloc]; omega), key _ _ _ (by simp only [World.size_alloc]; omega)]
  have h1 := World.alloc_heap_new ((w.alloc (.cells #[.int .i64 n, .slice a m cap] 128)).alloc (.cells #[.int .u8 x.kind, .int .i64 x.x.key.time, .int .i64 x.x.key.source, .int .i64 x.x.key.seq, .int .i64 x.x.to, .int .i64 x.x.value, .int .i64 x.time] 75)) (.cells #[.int .i64 0, .slice none 0 0] 128)
  rwa [World.size_alloc, World.size_alloc] at h1
 ·rw [key _ _ _ (by simp only [World.size_alloc]; omega)]
  have h1 := World.alloc_heap_new (((w.alloc (.cells #[.int .i64 n, .slice a m cap] 128)).alloc (.cells #[.int .u8 x.kind, .int .i64 x.x.key.time, .int .i64 x.x.key.source, .int .i64 x.x.key.seq, .int .i64 x.x.to, .int .i64 x.x.value, .int .i64 x.time] 75)).alloc (.cells #[.int .i64 0, .slice none 0 0] 128)) (.cells #[.int .i64 0, .slice none 0 0] 130)
  rwa [World.size_alloc, World.size_alloc, World.size_alloc] at h1
 ·have h1 := World.alloc_heap_new ((((w.alloc (.cells #[.int .i64 n, .slice a m cap] 128)).alloc (.cells #[.int .u8 x.kind, .int .i64 x.x.key.time, .int .i64 x.x.key.source, .int .i64 x.x.key.seq, .int .i64 x.x.to, .int .i64 x.x.value, .int .i64 x.time] 75)).alloc (.cells #[.int .i64 0, .slice none 0 0] 128)).alloc (.cells #[.int .i64 0, .slice none 0 0] 130)) (.cells #[.int .i64 0, .int .i64 0, .int .i64 0, .int .i64 0, .int .i64 0] 30)
  rwa [World.size_alloc, World.size_alloc, World.size_alloc, World.size_alloc] at h1
set_option maxHeartbeats 2000000 in
theorem ract1_any {w : World} {a : Option Addr} {m cap n : Nat} (E : List Ev) (h : EsIn w a E) (hl : E.length = m) (hm : m ≤ 1000) (hc : m ≤ cap) (hn : m ≤ n) (hn' : n ≤ 256) (x : Ev) (t : Int) :
  Calls Tryz.prog 62 #[.agg #[.int .i64 n, .slice a m cap], actCV ⟨1, x, t⟩] w (ActQ w a n E (allE n E [x]) (allV n E [x]).2 []) := by
 unfold actCV
 simp only
 have HP := Lib.hid (fun (W : World) (hf : Fr0 none' w W) => rPut_at (w := W) E (h.later hf) hl hm hc hn hn' x)
 have HE := Lib.hid (fun g o s e h0 => h.ltC h0 g o s e)
 obtain ⟨E', hE'⟩ : ∃ E', allE n E [x] = E' := ⟨_, rfl⟩
 obtain ⟨f, hF⟩ : ∃ f, (allV n E [x]).2 = f := ⟨_, rfl⟩
 rw [hE', hF] at HP
 rw [hE', hF]
 clear hE' hF h
 go_enter Tryz.func62, Tryz.ntmps62
 obtain ⟨N, hN⟩ : ∃ N, w.heap.size = N := ⟨_, rfl⟩
 obtain ⟨W, hW⟩ : ∃ W, wAct w n a m cap ⟨1, x, t⟩ = W := ⟨_, rfl⟩
 have hx := wAct_is w n a m cap ⟨1, x, t⟩
 rw [hW] at hx
 unfold wAct at hW
 simp only at hW hx
 rw [hN] at hx
 have HB := Lib.hid hx.1
 have F := Lib.hid hx.2
 have HN := Lib.hid hN
 have HW := Lib.hid hW
 clear hx hN hW
 go_wp2_with fail
 rw [HW.out]
 try simp only [HN.out]
 clear HW
 refine (HP.out _ F.out).mono ?_
 rintro e w1 ⟨v, rfl, hA, hf⟩
 have hW5 := (Array.getElem?_eq_some_iff.1 HB.out.b4).1
 obtain ⟨va, vc, rfl, hvc, hv, hfr⟩ : ∃ va vc, v = .agg #[.int .i64 n, .slice va E'.length vc] ∧ E'.length ≤ vc ∧ EsIn w1 va E' ∧ FromE a va (N + 5) w1.heap.size E E' := by
  rcases hA with ⟨rfl, va, vc, h1, h2, h3, h4⟩ | ⟨va, vc, h1, h2, h3, h4⟩
  ·exact ⟨va, vc, h1, h2, h3, FromE.of h4 id (by omega)⟩
  ·exact ⟨va, vc, h1, h2, h3, fun g o s e h0 => (h4 g o s e).elim (fun ⟨_, _, e⟩ => by cases e) (fun h => .inr (by omega))⟩
 have HV := Lib.hid hv
 have HFr := Lib.hid hfr
 have HB := Lib.hid (HB.out.later hf)
 have F := Lib.hid (F.out.trans hf)
 clear hf
 clear hA hv hfr hW5
 have a0 := cells_in HB.out.b0 0
 have a1 := cells_in HB.out.b0 1
 have u0 := thaw_in HB.out.b0 0
 have u1 := thaw_in HB.out.b0 1
 have a2 := cells_in HB.out.b2 0
 have a3 := cells_in HB.out.b2 1
 have u2 := thaw_in HB.out.b2 0
 have u3 := thaw_in HB.out.b2 1
 have a4 := cells_in HB.out.b3 0
 have a5 := cells_in HB.out.b3 1
 have u4 := thaw_in HB.out.b3 0
 have u5 := thaw_in HB.out.b3 1
 simp at a0 a1 a2 a3 a4 a5
 go_wp2_with fail
 refine bodyPost_ret (v := .tuple #[.agg #[.int .i64 n, .slice va E'.length vc], .agg #[.int .i64 f, .slice none 0 0]]) (by simp [results, Tryz.results62, go_sem, a0, a1, a2, a3, a4, a5]) rfl ?_
 refine act_end (fun g o s e h0 => by have := HE.out g o s e h0; have := HN.out; omega) HN.out F.out ?_ hvc HV.out (fun i y hy => by simp at hy) HFr.out (FromE.nil _ _ _ _ _)
 refine setN (setN (setN (setN (setN (setN (Fr0.refl _ _) ?_) ?_) ?_) ?_) ?_) ?_ <;> exact ⟨by omega, by omega⟩
set_option maxHeartbeats 2000000 in
theorem ract3_any {w : World} {a : Option Addr} {m cap n : Nat} (E : List Ev) (h : EsIn w a E) (hl : E.length = m) (hm : m ≤ 1000) (x : Ev) (t : Int) :
  Calls Tryz.prog 62 #[.agg #[.int .i64 n, .slice a m cap], actCV ⟨3, x, t⟩] w (ActQ w a n E (aftE t E) 0 (befE t E)) := by
 unfold actCV
 simp only
 have HP := Lib.hid (fun (W : World) (hf : Fr0 none' w W) => rTakeBefore_any (w := W) (cap := cap) n E (h.later hf) hl hm t)
 have HE := Lib.hid (fun g o s e h0 => h.ltC h0 g o s e)
 have hne : aftE t E ≠ [] → E ≠ [] := fun h1 h2 => h1 (by rw [h2]; rfl)
 obtain ⟨E', hE'⟩ : ∃ E', aftE t E = E' := ⟨_, rfl⟩
 obtain ⟨ys, hF⟩ : ∃ f, befE t E = f := ⟨_, rfl⟩
 rw [hE', hF] at HP
 rw [hE'] at hne
 rw [hE', hF]
 clear hE' hF h
 go_enter Tryz.func62, Tryz.ntmps62
 obtain ⟨N, hN⟩ : ∃ N, w.heap.size = N := ⟨_, rfl⟩
 obtain ⟨W, hW⟩ : ∃ W, wAct w n a m cap ⟨3, x, t⟩ = W := ⟨_, rfl⟩
 have hx := wAct_is w n a m cap ⟨3, x, t⟩
 rw [hW] at hx
 unfold wAct at hW
 simp only at hW hx
 rw [hN] at hx
 have HB := Lib.hid hx.1
 have F := Lib.hid hx.2
 have HN := Lib.hid hN
 have HW := Lib.hid hW
 clear hx hN hW
 go_wp2_with fail
 rw [HW.out]
 try simp only [HN.out]
 clear HW
 refine (HP.out _ F.out).mono ?_
 rintro e w1 ⟨v, r, rfl, ⟨va, vc, rfl, hvc, hv, h4⟩, hr, hf⟩
 have hW5 := (Array.getElem?_eq_some_iff.1 HB.out.b4).1
 have HFr := Lib.hid (show FromE a va (N + 5) w1.heap.size E E' from FromE.of h4 hne (by omega))
 have HFy := Lib.hid (show ∀ g o s, r = .slice (some ⟨g, o, s⟩) 0 0 → True from fun _ _ _ _ => trivial)
 have HV := Lib.hid hv
 obtain ⟨ya, yc, rfl, _, hy⟩ := EsIn.of_own hr
 have HFy := Lib.hid (show FromE a ya (N + 5) w1.heap.size E ys from fun g o s e h0 => by
  rcases hr.2 with ⟨e1, h1⟩ | ⟨g', cp, cur, e1, _, _⟩
  ·exact absurd (List.eq_nil_of_length_eq_zero h1) h0
  ·injection e1 with e1 _ _
   rw [e] at e1
   injection e1 with e1
   injection e1 with e1 _ _
   subst e1
   have := hr.lt g (by rw [e]; first | rfl | simp [Value.ownBlock])
   exact .inr (by omega))
 have HY := Lib.hid hy
 have HB := Lib.hid (HB.out.later hf)
 have F := Lib.hid (F.out.trans hf)
 clear hf
 clear hv hr hy h4 hne
 have hsw := (Array.getElem?_eq_some_iff.1 HB.out.b4).1
 obtain ⟨sb, hsb⟩ : ∃ b, w1.heap.size = b := ⟨_, rfl⟩
 rw [hsb] at hsw
 obtain ⟨W2, hW2⟩ : ∃ W, w1.alloc (.cells #[.int .i64 n, .slice va E'.length vc] 128) = W := ⟨_, rfl⟩
 have hf : Fr0 none' w1 W2 := by rw [← hW2]; exact (Fr0.refl _ _).alloc _
 have b5 : W2.heap[sb]? = some (.cells #[.int .i64 n, .slice va E'.length vc] 128 (0, 0)) := by rw [← hW2, ← hsb]; exact World.alloc_heap_new _ _
 have HV := Lib.hid (HV.out.later hf)
 have HY := Lib.hid (HY.out.later hf)
 have HFr := Lib.hid (HFr.out.mono (Nat.le_refl _) hf.size)
 have HFy := Lib.hid (HFy.out.mono (Nat.le_refl _) hf.size)
 have HB := Lib.hid (HB.out.later hf)
 have F := Lib.hid (F.out.trans hf)
 clear hf
 have a0 := cells_in HB.out.b0 0
 have a1 := cells_in HB.out.b0 1
 have u0 := thaw_in HB.out.b0 0
 have u1 := thaw_in HB.out.b0 1
 have a2 := cells_in HB.out.b2 0
 have a3 := cells_in HB.out.b2 1
 have u2 := thaw_in HB.out.b2 0
 have u3 := thaw_in HB.out.b2 1
 have a4 := cells_in HB.out.b3 0
 have a5 := cells_in HB.out.b3 1
 have u4 := thaw_in HB.out.b3 0
 have u5 := thaw_in HB.out.b3 1
 simp at a0 a1 a2 a3 a4 a5
 have s0 := cells_in b5 0
 have s1 := cells_in b5 1
 simp at s0 s1
 clear hW5
 have hq1 : N + 1 + 1 ≠ sb := by omega
 have hq2 : N + 1 + 1 + 1 ≠ sb := by omega
 go_wp2_with fail
 refine bodyPost_ret (v := .tuple #[.agg #[.int .i64 n, .slice va E'.length vc], .agg #[.int .i64 0, .slice ya ys.length yc]]) (by simp [results, Tryz.results62, go_sem, a0, a1, a2, a3, a4, a5]) rfl ?_
 refine act_end (fun g o s e h0 => by have := HE.out g o s e h0; have := HN.out; omega) HN.out F.out ?_ hvc HV.out HY.out HFr.out HFy.out
 refine setN (setN (setN (setN (Fr0.refl _ _) ?_) ?_) ?_) ?_ <;> exact ⟨by omega, by omega⟩
set_option maxHeartbeats 2000000 in
theorem ract5_any {w : World} {a : Option Addr} {m cap n : Nat} (E : List Ev) (h : EsIn w a E) (hl : E.length = m) (x : Ev) (t : Int) :
  Calls Tryz.prog 62 #[.agg #[.int .i64 n, .slice a m cap], actCV ⟨5, x, t⟩] w (ActQ w a n E [] 0 E) := by
 unfold actCV
 simp only
 have HE := Lib.hid (fun g o s e h0 => h.ltC h0 g o s e)
 have HL := Lib.hid h
 have Hl := Lib.hid hl
 clear h hl
 go_enter Tryz.func62, Tryz.ntmps62
 obtain ⟨N, hN⟩ : ∃ N, w.heap.size = N := ⟨_, rfl⟩
 obtain ⟨W, hW⟩ : ∃ W, wAct w n a m cap ⟨5, x, t⟩ = W := ⟨_, rfl⟩
 have hx := wAct_is w n a m cap ⟨5, x, t⟩
 rw [hW] at hx
 unfold wAct at hW
 simp only at hW hx
 rw [hN] at hx
 have HB := Lib.hid hx.1
 have F := Lib.hid hx.2
 have HN := Lib.hid hN
 have HW := Lib.hid hW
 clear hx hN hW
 go_wp2_with fail
 rw [HW.out]
 try simp only [HN.out]
 clear HW
 have HZ := Lib.hid (show ∀ W', Fr0 (fun k => k = N + 1 + 1 ∨ k = N + 1 + 1 + 1) W W' → W'.cell? ⟨N, 0, none⟩ = some (.int .i64 n) ∧ W'.cell? ⟨N, 1, none⟩ = some (.slice a m cap) from fun W' hf => by
  have h0 := (hf.block N (Array.getElem?_eq_some_iff.1 HB.out.b0).1 (fun h => by omega)).trans HB.out.b0
  have s0 := cells_in h0 0
  have s1 := cells_in h0 1
  simp at s0 s1
  exact ⟨s0, s1⟩)
 refine wp_region_held_drew (S := fun W' => Fr0 (fun k => k = N + 1 + 1 ∨ k = N + 1 + 1 + 1) W W') (by kernel_rfl) ((Fr0.refl _ W).drew) (fun hHeld => ?_)
 refine tkn (i := 0) (v := .pointer (some ⟨N, 0, none⟩)) (fun W' hSW => ?_) ?_
 ·obtain ⟨t0, t1⟩ := HZ.out W' hSW
  first|go_simp;done|exact rfl|go_simp;rfl|go_simp;omega
 try simp only[pUt,pUn,sEt,sEz,sEs]
 refine tkn (i := 1) (v := .int .i64 n) (fun W' hSW => ?_) ?_
 ·obtain ⟨t0, t1⟩ := HZ.out W' hSW
  first|go_simp;done|exact rfl|go_simp;rfl|go_simp;omega
 try simp only[pUt,pUn,sEt,sEz,sEs]
 refine tkn (i := 2) (v := .agg #[.int .i64 n, .slice none 0 0]) (fun W' hSW => ?_) ?_
 ·obtain ⟨t0, t1⟩ := HZ.out W' hSW
  first|go_simp;done|exact rfl|go_simp;rfl|go_simp;omega
 try simp only[pUt,pUn,sEt,sEz,sEs]
 refine tkn (i := 3) (v := .pointer (some ⟨N, 1, none⟩)) (fun W' hSW => ?_) ?_
 ·obtain ⟨t0, t1⟩ := HZ.out W' hSW
  first|go_simp;done|exact rfl|go_simp;rfl|go_simp;omega
 try simp only[pUt,pUn,sEt,sEz,sEs]
 refine tkn (i := 4) (v := .slice a m cap) (fun W' hSW => ?_) ?_
 ·obtain ⟨t0, t1⟩ := HZ.out W' hSW
  first|go_simp;done|exact rfl|go_simp;rfl|go_simp;omega
 try simp only[pUt,pUn,sEt,sEz,sEs]
 refine tkn (i := 5) (v := .agg #[.int .i64 0, .slice a m cap]) (fun W' hSW => ?_) ?_
 ·obtain ⟨t0, t1⟩ := HZ.out W' hSW
  first|go_simp;done|exact rfl|go_simp;rfl|go_simp;omega
 try simp only[pUt,pUn,sEt,sEz,sEs]
 have HD := Lib.hid (HB.out.later (Fr0.refl none' W).drew)
 have t2 := thaw_in HD.out.b2 0
 have t3 := thaw_in HD.out.b2 1
 have t4 := thaw_in HD.out.b3 0
 have t5 := thaw_in HD.out.b3 1
 have a0 := cells_in HB.out.b0 0
 have a1 := cells_in HB.out.b0 1
 have u0 := thaw_in HB.out.b0 0
 have u1 := thaw_in HB.out.b0 1
 have a2 := cells_in HB.out.b2 0
 have a3 := cells_in HB.out.b2 1
 have u2 := thaw_in HB.out.b2 0
 have u3 := thaw_in HB.out.b2 1
 have a4 := cells_in HB.out.b3 0
 have a5 := cells_in HB.out.b3 1
 have u4 := thaw_in HB.out.b3 0
 have u5 := thaw_in HB.out.b3 1
 simp at a0 a1 a2 a3 a4 a5
 refine take_call (i := 6) rfl (by kernel_rfl) (by kernel_rfl) (fun K hK => ?_)
 go_simp
 refine hK.out _ _ (setN (setN hHeld (.inl rfl)) (.inl rfl)) (fun hS => ?_)
 clear hK K
 try simp only[pUt,pUn,sEt,sEz,sEs]
 refine take_call (i := 7) rfl (by kernel_rfl) (by kernel_rfl) (fun K hK => ?_)
 go_simp
 refine hK.out _ _ (setN (setN hS (.inr rfl)) (.inr rfl)) (fun hS => ?_)
 clear hK K
 try simp only[pUt,pUn,sEt,sEz,sEs]
 refine wpAnyH_done (by kernel_rfl) ?_ _
 go_wp2_with fail
 try simp only [Exit.inBlock, Exit.then]
 refine bodyPost_ret (v := .tuple #[.agg #[.int .i64 n, .slice none 0 0], .agg #[.int .i64 0, .slice a m cap]]) (by simp [results, Tryz.results62, go_sem, a0, a1, a2, a3, a4, a5]) rfl ?_
 obtain rfl := Hl.out
 refine act_end (E' := []) (fun g o s e h0 => by have := HE.out g o s e h0; have := HN.out; omega) HN.out F.out ?_ (Nat.zero_le _) (fun i y hy => by simp at hy) (HL.out.later F.out) (FromE.nil _ _ _ _ _) (FromE.self _ _ _ _)
 refine Fr0.drew ?_
 refine setN (setN (setN (setN (Fr0.refl _ _) ?_) ?_) ?_) ?_ <;> exact ⟨by omega, by omega⟩
/-- The state and the event are set. -/
def wSet (W : World) (N : Nat) (v0 v1 z0 z1 z2 z3 z4 : Value) : World :=
 ((((((W.setCell ⟨N, 0, none⟩ v0).setCell ⟨N, 1, none⟩ v1).setCell ⟨N + 1 + 1 + 1 + 1, 0, none⟩ z0).setCell ⟨N + 1 + 1 + 1 + 1, 1, none⟩ z1).setCell ⟨N + 1 + 1 + 1 + 1, 2, none⟩ z2).setCell ⟨N + 1 + 1 + 1 + 1, 3, none⟩ z3).setCell ⟨N + 1 + 1 + 1 + 1, 4, none⟩ z4
theorem wSet_is {W : World} {N n : Nat} {a : Option Addr} {m cap : Nat} {x : Ca} (h : ActB W N n a m cap x) (n' : Nat) (a' : Option Addr) (m' cap' : Nat) (z0 z1 z2 z3 z4 : Value) :
  (wSet W N (.int .i64 n') (.slice a' m' cap') z0 z1 z2 z3 z4).heap[N]? = some (.cells #[.int .i64 n', .slice a' m' cap'] 128 (0, 0)) ∧ (wSet W N (.int .i64 n') (.slice a' m' cap') z0 z1 z2 z3 z4).heap[N + 1 + 1]? = some (.cells #[.int .i64 0, .slice none 0 0] 128 (0, 0)) ∧
   (wSet W N (.int .i64 n') (.slice a' m' cap') z0 z1 z2 z3 z4).heap[N + 1 + 1 + 1]? = some (.cells #[.int .i64 0, .slice none 0 0] 130 (0, 0)) ∧ (wSet W N (.int .i64 n') (.slice a' m' cap') z0 z1 z2 z3 z4).heap[N + 1 + 1 + 1 + 1]? = some (.cells #[z0, z1, z2, z3, z4] 30 (0, 0)) ∧
   Fr0 (fun k => N ≤ k ∧ k < N + 5) W (wSet W N (.int .i64 n') (.slice a' m' cap') z0 z1 z2 z3 z4) ∧ Fr0 (fun k => k = N ∨ k = N + 1 + 1 + 1 + 1) W (wSet W N (.int .i64 n') (.slice a' m' cap') z0 z1 z2 z3 z4) := by
 have hf : Fr0 (fun k => k = N ∨ k = N + 1 + 1 + 1 + 1) W (wSet W N (.int .i64 n') (.slice a' m' cap') z0 z1 z2 z3 z4) := setN (setN (setN (setN (setN (setN (setN (Fr0.refl _ _) (.inl rfl)) (.inl rfl)) (.inr rfl)) (.inr rfl)) (.inr rfl)) (.inr rfl)) (.inr rfl)
 have h4 : Fr0 (fun k => k = N + 1 + 1 + 1 + 1) ((W.setCell ⟨N, 0, none⟩ (.int .i64 n')).setCell ⟨N, 1, none⟩ (.slice a' m' cap')) (wSet W N (.int .i64 n') (.slice a' m' cap') z0 z1 z2 z3 z4) := by
  unfold wSet
  exact (((((Fr0.refl (fun k => k = N + 1 + 1 + 1 + 1) _).setCell (fun _ => rfl) _).setCell (fun _ => rfl) _).setCell (fun _ => rfl) _).setCell (fun _ => rfl) _).setCell (fun _ => rfl) _
 have h0 : Fr0 (fun k => k = N) W ((W.setCell ⟨N, 0, none⟩ (.int .i64 n')).setCell ⟨N, 1, none⟩ (.slice a' m' cap')) := ((Fr0.refl (fun k => k = N) _).setCell (fun _ => rfl) _).setCell (fun _ => rfl) _
 have b0 : ((W.setCell ⟨N, 0, none⟩ (.int .i64 n')).setCell ⟨N, 1, none⟩ (.slice a' m' cap')).heap[N]? = some (.cells #[.int .i64 n', .slice a' m' cap'] 128 (0, 0)) := heap_set_cell (heap_set_cell h.b0 _) _
 have b4 := (h0.block (N + 1 + 1 + 1 + 1) (Array.getElem?_eq_some_iff.1 h.b4).1 (fun e => by have e : N + 1 + 1 + 1 + 1 = N := e; omega)).trans h.b4
 refine ⟨(h4.block N (Array.getElem?_eq_some_iff.1 b0).1 (fun e => by have e : N = N + 1 + 1 + 1 + 1 := e; omega)).trans b0, (hf.block _ (Array.getElem?_eq_some_iff.1 h.b2).1 (fun e => by omega)).trans h.b2, (hf.block _ (Array.getElem?_eq_some_iff.1 h.b3).1 (fun e => by omega)).trans h.b3, ?_, hf.mono (fun k _ hk => by omega), hf⟩
 have e := heap_set_cell (o := 4) (heap_set_cell (o := 3) (heap_set_cell (o := 2) (heap_set_cell (o := 1) (heap_set_cell (o := 0) b4 z0) z1) z2) z3) z4
 unfold wSet
 simpa using e
set_option maxHeartbeats 2000000 in
theorem ract4n_any {w : World} {a : Option Addr} {m cap n : Nat} (E : List Ev) (h : EsIn w a E) (hl : E.length = m) (hm : m ≤ 1000) (hc : m ≤ cap) (x : Ev) (t : Int) (hno : findE x.name E = none) :
  Calls Tryz.prog 62 #[.agg #[.int .i64 n, .slice a m cap], actCV ⟨4, x, t⟩] w (ActQ w a n E E 6 []) := by
 unfold actCV
 simp only
 have HP := Lib.hid (fun (W : World) (hf : Fr0 none' w W) => rCancel_none (w := W) n E (h.later hf) hl hm hc x.name hno)
 unfold evV at HP
 simp only [Ev.name] at HP
 have HE := Lib.hid (fun g o s e h0 => h.ltC h0 g o s e)
 have HL := Lib.hid h
 have Hl := Lib.hid hl
 clear h hl hno
 go_enter Tryz.func62, Tryz.ntmps62
 obtain ⟨N, hN⟩ : ∃ N, w.heap.size = N := ⟨_, rfl⟩
 obtain ⟨W, hW⟩ : ∃ W, wAct w n a m cap ⟨4, x, t⟩ = W := ⟨_, rfl⟩
 have hx := wAct_is w n a m cap ⟨4, x, t⟩
 rw [hW] at hx
 unfold wAct at hW
 simp only at hW hx
 rw [hN] at hx
 have HB := Lib.hid hx.1
 have F := Lib.hid hx.2
 have HN := Lib.hid hN
 have HW := Lib.hid hW
 clear hx hN hW
 go_wp2_with fail
 rw [HW.out]
 try simp only [HN.out]
 clear HW
 refine (HP.out _ F.out).mono ?_
 rintro e w1 ⟨rfl, hf⟩
 have HB := Lib.hid (HB.out.later hf)
 have F := Lib.hid (F.out.trans hf)
 clear hf
 have a0 := cells_in HB.out.b0 0
 have a1 := cells_in HB.out.b0 1
 have u0 := thaw_in HB.out.b0 0
 have u1 := thaw_in HB.out.b0 1
 have a2 := cells_in HB.out.b2 0
 have a3 := cells_in HB.out.b2 1
 have u2 := thaw_in HB.out.b2 0
 have u3 := thaw_in HB.out.b2 1
 have a4 := cells_in HB.out.b3 0
 have a5 := cells_in HB.out.b3 1
 have u4 := thaw_in HB.out.b3 0
 have u5 := thaw_in HB.out.b3 1
 simp at a0 a1 a2 a3 a4 a5
 have x0 := cells_in HB.out.b4 0
 have x1 := cells_in HB.out.b4 1
 have x2 := cells_in HB.out.b4 2
 have x3 := cells_in HB.out.b4 3
 have x4 := cells_in HB.out.b4 4
 have y0 := thaw_in HB.out.b4 0
 have y1 := thaw_in HB.out.b4 1
 have y2 := thaw_in HB.out.b4 2
 have y3 := thaw_in HB.out.b4 3
 have y4 := thaw_in HB.out.b4 4
 simp at x0 x1 x2 x3 x4
 obtain ⟨V, hV⟩ : ∃ V, wSet w1 N (.int .i64 n) (.slice a m cap) (.int .i64 0) (.int .i64 0) (.int .i64 0) (.int .i64 0) (.int .i64 0) = V := ⟨_, rfl⟩
 obtain ⟨c0, c2, c3, c4, fV5, fV⟩ := wSet_is HB.out n a m cap (.int .i64 0) (.int .i64 0) (.int .i64 0) (.int .i64 0) (.int .i64 0)
 rw [hV] at c0 c2 c3 c4 fV5 fV
 unfold wSet at hV
 have C0 := Lib.hid c0
 have C2 := Lib.hid c2
 have C3 := Lib.hid c3
 have C4 := Lib.hid c4
 have FV5 := Lib.hid fV5
 have d0 := cells_in c0 0
 have d1 := cells_in c0 1
 have d2 := cells_in c2 0
 have d3 := cells_in c2 1
 have d4 := cells_in c3 0
 have d5 := cells_in c3 1
 have e2 := thaw_in c2 0
 have e3 := thaw_in c2 1
 have e4 := thaw_in c3 0
 have e5 := thaw_in c3 1
 have g0 := cells_in c4 0
 have g1 := cells_in c4 1
 have g2 := cells_in c4 2
 have g3 := cells_in c4 3
 have g4 := cells_in c4 4
 simp at d0 d1 d2 d3 d4 d5 g0 g1 g2 g3 g4
 clear c0 c2 c3 c4 fV5 fV
 go_wp2_with fail
 refine bodyPost_ret (v := .tuple #[.agg #[.int .i64 n, .slice a m cap], .agg #[.int .i64 6, .slice none 0 0]]) (by simp [results, Tryz.results62, go_sem, d0, d1, d2, d3, d4, d5]) rfl ?_
 obtain rfl := Hl.out
 refine act_end (fun g o s e h0 => by have := HE.out g o s e h0; have := HN.out; omega) HN.out F.out (FV5.out.trans ?_) hc (HL.out.later F.out) (fun i y hy => by simp at hy) (FromE.self _ _ _ _) (FromE.nil _ _ _ _ _)
 refine setN (setN (setN (setN (Fr0.refl _ _) ?_) ?_) ?_) ?_ <;> exact ⟨by omega, by omega⟩
set_option maxHeartbeats 2000000 in
theorem ract2n_any {w : World} {a : Option Addr} {m cap n : Nat} (E : List Ev) (hE : E = []) (hm : m = 0) (x : Ev) (t : Int) :
  Calls Tryz.prog 62 #[.agg #[.int .i64 n, .slice a m cap], actCV ⟨2, x, t⟩] w (ActQ w a n E E 6 []) := by
 have hl : E.length = m := by rw [hE, hm]; rfl
 have h : EsIn w a E := by rw [hE]; exact fun i y hy => by simp at hy
 have hc : m ≤ cap := by omega
 unfold actCV
 simp only
 have HP := Lib.hid (fun (W : World) (_ : Fr0 none' w W) => rTake_nil (w := W) (a := a) (cap := cap) n)
 unfold evV at HP
 rw [← hm] at HP
 have HE := Lib.hid (fun g o s e h0 => h.ltC h0 g o s e)
 have HL := Lib.hid h
 have Hl := Lib.hid hl
 clear h hl hE hm
 go_enter Tryz.func62, Tryz.ntmps62
 obtain ⟨N, hN⟩ : ∃ N, w.heap.size = N := ⟨_, rfl⟩
 obtain ⟨W, hW⟩ : ∃ W, wAct w n a m cap ⟨2, x, t⟩ = W := ⟨_, rfl⟩
 have hx := wAct_is w n a m cap ⟨2, x, t⟩
 rw [hW] at hx
 unfold wAct at hW
 simp only at hW hx
 rw [hN] at hx
 have HB := Lib.hid hx.1
 have F := Lib.hid hx.2
 have HN := Lib.hid hN
 have HW := Lib.hid hW
 clear hx hN hW
 go_wp2_with fail
 rw [HW.out]
 try simp only [HN.out]
 clear HW
 refine (HP.out _ F.out).mono ?_
 rintro e w1 ⟨rfl, hf⟩
 have HB := Lib.hid (HB.out.later hf)
 have F := Lib.hid (F.out.trans hf)
 clear hf
 have a0 := cells_in HB.out.b0 0
 have a1 := cells_in HB.out.b0 1
 have u0 := thaw_in HB.out.b0 0
 have u1 := thaw_in HB.out.b0 1
 have a2 := cells_in HB.out.b2 0
 have a3 := cells_in HB.out.b2 1
 have u2 := thaw_in HB.out.b2 0
 have u3 := thaw_in HB.out.b2 1
 have a4 := cells_in HB.out.b3 0
 have a5 := cells_in HB.out.b3 1
 have u4 := thaw_in HB.out.b3 0
 have u5 := thaw_in HB.out.b3 1
 simp at a0 a1 a2 a3 a4 a5
 have x0 := cells_in HB.out.b4 0
 have x1 := cells_in HB.out.b4 1
 have x2 := cells_in HB.out.b4 2
 have x3 := cells_in HB.out.b4 3
 have x4 := cells_in HB.out.b4 4
 have y0 := thaw_in HB.out.b4 0
 have y1 := thaw_in HB.out.b4 1
 have y2 := thaw_in HB.out.b4 2
 have y3 := thaw_in HB.out.b4 3
 have y4 := thaw_in HB.out.b4 4
 simp at x0 x1 x2 x3 x4
 obtain ⟨V, hV⟩ : ∃ V, wSet w1 N (.int .i64 n) (.slice a m cap) (.int .i64 0) (.int .i64 0) (.int .i64 0) (.int .i64 0) (.int .i64 0) = V := ⟨_, rfl⟩
 obtain ⟨c0, c2, c3, c4, fV5, fV⟩ := wSet_is HB.out n a m cap (.int .i64 0) (.int .i64 0) (.int .i64 0) (.int .i64 0) (.int .i64 0)
 rw [hV] at c0 c2 c3 c4 fV5 fV
 unfold wSet at hV
 have C0 := Lib.hid c0
 have C2 := Lib.hid c2
 have C3 := Lib.hid c3
 have C4 := Lib.hid c4
 have FV5 := Lib.hid fV5
 have d0 := cells_in c0 0
 have d1 := cells_in c0 1
 have d2 := cells_in c2 0
 have d3 := cells_in c2 1
 have d4 := cells_in c3 0
 have d5 := cells_in c3 1
 have e2 := thaw_in c2 0
 have e3 := thaw_in c2 1
 have e4 := thaw_in c3 0
 have e5 := thaw_in c3 1
 have g0 := cells_in c4 0
 have g1 := cells_in c4 1
 have g2 := cells_in c4 2
 have g3 := cells_in c4 3
 have g4 := cells_in c4 4
 simp at d0 d1 d2 d3 d4 d5 g0 g1 g2 g3 g4
 clear c0 c2 c3 c4 fV5 fV
 go_wp2_with fail
 refine bodyPost_ret (v := .tuple #[.agg #[.int .i64 n, .slice a m cap], .agg #[.int .i64 6, .slice none 0 0]]) (by simp [results, Tryz.results62, go_sem, d0, d1, d2, d3, d4, d5]) rfl ?_
 obtain rfl := Hl.out
 refine act_end (fun g o s e h0 => by have := HE.out g o s e h0; have := HN.out; omega) HN.out F.out (FV5.out.trans ?_) hc (HL.out.later F.out) (fun i y hy => by simp at hy) (FromE.self _ _ _ _) (FromE.nil _ _ _ _ _)
 refine setN (setN (setN (setN (Fr0.refl _ _) ?_) ?_) ?_) ?_ <;> exact ⟨by omega, by omega⟩
set_option maxHeartbeats 2000000 in
theorem ract4_any {w : World} {a : Option Addr} {m cap n k : Nat} (E : List Ev) (h : EsIn w a E) (hl : E.length = m) (hm : m ≤ 1000) (hc : m ≤ cap) (x : Ev) (t : Int) (y : Ev) (hk : atE x.name E = k) (hy : E[k]? = some y) :
  Calls Tryz.prog 62 #[.agg #[.int .i64 n, .slice a m cap], actCV ⟨4, x, t⟩] w (ActQ w a n E (E.take k ++ E.drop (k + 1)) 0 [y]) := by
 unfold actCV
 simp only
 have HP := Lib.hid (fun (W : World) (hf : Fr0 none' w W) => rCancel_some (w := W) n E (h.later hf) hl hm hc x.name y hk hy)
 unfold evV at HP
 simp only [Ev.name] at HP
 have HE := Lib.hid (fun g o s e h0 => h.ltC h0 g o s e)
 have hne : E.take k ++ E.drop (k + 1) ≠ [] → E ≠ [] := fun _ h2 => by rw [h2] at hy; simp at hy
 obtain ⟨E', hE'⟩ : ∃ E', E.take k ++ E.drop (k + 1) = E' := ⟨_, rfl⟩
 rw [hE'] at HP hne
 rw [hE']
 clear h hl hk hy hE'
 go_enter Tryz.func62, Tryz.ntmps62
 obtain ⟨N, hN⟩ : ∃ N, w.heap.size = N := ⟨_, rfl⟩
 obtain ⟨W, hW⟩ : ∃ W, wAct w n a m cap ⟨4, x, t⟩ = W := ⟨_, rfl⟩
 have hx := wAct_is w n a m cap ⟨4, x, t⟩
 rw [hW] at hx
 unfold wAct at hW
 simp only at hW hx
 rw [hN] at hx
 have HB := Lib.hid hx.1
 have F := Lib.hid hx.2
 have HN := Lib.hid hN
 have HW := Lib.hid hW
 clear hx hN hW
 go_wp2_with fail
 rw [HW.out]
 try simp only [HN.out]
 clear HW
 refine (HP.out _ F.out).mono ?_
 rintro e w1 ⟨v, rfl, ⟨va, vc, rfl, hvc, hv, h4⟩, hf⟩
 have hW5 := (Array.getElem?_eq_some_iff.1 HB.out.b4).1
 have HFr := Lib.hid (show FromE a va (N + 5) w1.heap.size E E' from FromE.of h4 hne (by omega))
 have HV := Lib.hid hv
 have HB := Lib.hid (HB.out.later hf)
 have F := Lib.hid (F.out.trans hf)
 clear hf
 clear hv h4 hne hW5
 have a0 := cells_in HB.out.b0 0
 have a1 := cells_in HB.out.b0 1
 have u0 := thaw_in HB.out.b0 0
 have u1 := thaw_in HB.out.b0 1
 have a2 := cells_in HB.out.b2 0
 have a3 := cells_in HB.out.b2 1
 have u2 := thaw_in HB.out.b2 0
 have u3 := thaw_in HB.out.b2 1
 have a4 := cells_in HB.out.b3 0
 have a5 := cells_in HB.out.b3 1
 have u4 := thaw_in HB.out.b3 0
 have u5 := thaw_in HB.out.b3 1
 simp at a0 a1 a2 a3 a4 a5
 have x0 := cells_in HB.out.b4 0
 have x1 := cells_in HB.out.b4 1
 have x2 := cells_in HB.out.b4 2
 have x3 := cells_in HB.out.b4 3
 have x4 := cells_in HB.out.b4 4
 have y0 := thaw_in HB.out.b4 0
 have y1 := thaw_in HB.out.b4 1
 have y2 := thaw_in HB.out.b4 2
 have y3 := thaw_in HB.out.b4 3
 have y4 := thaw_in HB.out.b4 4
 simp at x0 x1 x2 x3 x4
 obtain ⟨V, hV⟩ : ∃ V, wSet w1 N (.int .i64 n) (.slice va E'.length vc) (.int .i64 y.key.time) (.int .i64 y.key.source) (.int .i64 y.key.seq) (.int .i64 y.to) (.int .i64 y.value) = V := ⟨_, rfl⟩
 obtain ⟨c0, c2, c3, c4, fV5, fV⟩ := wSet_is HB.out n va E'.length vc (.int .i64 y.key.time) (.int .i64 y.key.source) (.int .i64 y.key.seq) (.int .i64 y.to) (.int .i64 y.value)
 rw [hV] at c0 c2 c3 c4 fV5 fV
 unfold wSet at hV
 have C0 := Lib.hid c0
 have C2 := Lib.hid c2
 have C3 := Lib.hid c3
 have C4 := Lib.hid c4
 have FV5 := Lib.hid fV5
 have d0 := cells_in c0 0
 have d1 := cells_in c0 1
 have d2 := cells_in c2 0
 have d3 := cells_in c2 1
 have d4 := cells_in c3 0
 have d5 := cells_in c3 1
 have e2 := thaw_in c2 0
 have e3 := thaw_in c2 1
 have e4 := thaw_in c3 0
 have e5 := thaw_in c3 1
 have g0 := cells_in c4 0
 have g1 := cells_in c4 1
 have g2 := cells_in c4 2
 have g3 := cells_in c4 3
 have g4 := cells_in c4 4
 simp at d0 d1 d2 d3 d4 d5 g0 g1 g2 g3 g4
 clear c0 c2 c3 c4 fV5 fV
 have hsV := Lib.hid (Array.getElem?_eq_some_iff.1 C4.out).1
 go_wp2_with fail
 clear hV d0 d1 d2 d3 d4 d5 e2 e3 e4 e5 g0 g1 g2 g3 g4 a0 a1 a2 a3 a4 a5 u0 u1 u2 u3 u4 u5 x0 x1 x2 x3 x4 y0 y1 y2 y3 y4
 have HZ := Lib.hid (show ∀ W', Fr0 (fun k => k = N + 1 + 1 ∨ k = N + 1 + 1 + 1) V W' → W'.cell? ⟨N, 0, none⟩ = some (.int .i64 n) ∧ W'.cell? ⟨N, 1, none⟩ = some (.slice va E'.length vc) ∧ EAt W' (N + 1 + 1 + 1 + 1) 0 y from fun W' hf => by
  have h0 := (hf.block N (Array.getElem?_eq_some_iff.1 C0.out).1 (fun h => by omega)).trans C0.out
  have h4 := (hf.block (N + 1 + 1 + 1 + 1) (Array.getElem?_eq_some_iff.1 C4.out).1 (fun h => by omega)).trans C4.out
  have s0 := cells_in h0 0
  have s1 := cells_in h0 1
  simp at s0 s1
  exact ⟨s0, s1, by rw [cells_in h4]; rfl, by rw [cells_in h4]; rfl, by rw [cells_in h4]; rfl, by rw [cells_in h4]; rfl, by rw [cells_in h4]; rfl⟩)
 refine wp_region_held_drew (S := fun W' => Fr0 (fun k => k = N + 1 + 1 ∨ k = N + 1 + 1 + 1) V W') (by kernel_rfl) ((Fr0.refl _ V).drew) (fun hHeld => ?_)
 have D2 := Lib.hid (((Fr0.refl none' V).drew.block _ (Array.getElem?_eq_some_iff.1 C2.out).1 id).trans C2.out)
 have D3 := Lib.hid (((Fr0.refl none' V).drew.block _ (Array.getElem?_eq_some_iff.1 C3.out).1 id).trans C3.out)
 generalize V.drew = WD at hHeld D2 D3 ⊢
 refine tkn (i := 0) (v := .agg #[.int .i64 n, .slice va E'.length vc]) (fun W' hSW => ?_) ?_
 ·obtain ⟨t0, t1, t2, t3, t4, t5, t6⟩ := HZ.out W' hSW
  (try simp only [Nat.zero_add] at t2 t3 t4 t5 t6)
  first|go_simp;done|exact rfl|go_simp;rfl|go_simp;omega
 try simp only[pUt,pUn,sEt,sEz,sEs]
 refine tkn (i := 1) (v := .agg #[.int .i64 y.key.time, .int .i64 y.key.source, .int .i64 y.key.seq, .int .i64 y.to, .int .i64 y.value]) (fun W' hSW => ?_) ?_
 ·obtain ⟨t0, t1, t2, t3, t4, t5, t6⟩ := HZ.out W' hSW
  (try simp only [Nat.zero_add] at t2 t3 t4 t5 t6)
  first|go_simp;done|exact rfl|go_simp;rfl|go_simp;omega
 try simp only[pUt,pUn,sEt,sEz,sEs]
 refine wpAnyH_ready (rs := [2, 4]) (by kernel_rfl) (by simp) (AllReadyH.cons (op_at rfl) (fun K hK => ?_) (AllReadyH.cons (op_at rfl) (fun K hK => ?_) AllReadyH.nil))
 ·rw [if_pos (by kernel_rfl)]
  go_simp
  obtain ⟨rb, hrb⟩ : ∃ b, (WD).heap.size = b := ⟨_, rfl⟩
  obtain ⟨W3, hW3⟩ : ∃ W, (WD).alloc (.cells #[.int .i64 y.key.time, .int .i64 y.key.source, .int .i64 y.key.seq, .int .i64 y.to, .int .i64 y.value] 30) = W := ⟨_, rfl⟩
  have f3 : Fr0 none' (WD) W3 := by rw [← hW3]; exact (Fr0.refl _ _).alloc _
  have F3 := Lib.hid f3
  have B5 := Lib.hid (show W3.heap[rb]? = some (.cells #[.int .i64 y.key.time, .int .i64 y.key.source, .int .i64 y.key.seq, .int .i64 y.to, .int .i64 y.value] 30 (0, 0)) by rw [← hW3, ← hrb]; exact World.alloc_heap_new _ _)
  have Hrb := Lib.hid (show N + 5 ≤ rb by have := hHeld.size; have := hsV.out; omega)
  rw [hW3]
  try rw [hrb]
  clear hW3 hrb
  have D2 := Lib.hid ((f3.block _ (Array.getElem?_eq_some_iff.1 D2.out).1 id).trans D2.out)
  have D3 := Lib.hid ((f3.block _ (Array.getElem?_eq_some_iff.1 D3.out).1 id).trans D3.out)
  clear f3
  refine hK.out _ _ (hHeld.trans' F3.out (fun _ _ h => h.elim)) (fun hHeld => ?_)
  clear hK K
  try simp only[pUt,pUn,sEt,sEz,sEs]
  refine tk0 (i := 3) (v := .agg #[.int .i64 0, .slice (some ⟨rb, 0, none⟩) 1 1]) ?_
  try simp only[pUt,pUn,sEt,sEz,sEs]
  have c0 := cells_in D2.out 0
  have c1 := cells_in D2.out 1
  have q0 := thaw_in D2.out 0
  have q1 := thaw_in D2.out 1
  simp at c0 c1
  refine take_call (i := 4) rfl (by kernel_rfl) (by kernel_rfl) (fun K hK => ?_)
  go_simp
  obtain ⟨W4, hW4⟩ : ∃ W, ((W3).setCell ⟨N + 1 + 1, 0, none⟩ (.int .i64 n)).setCell ⟨N + 1 + 1, 1, none⟩ (.slice va E'.length vc) = W := ⟨_, rfl⟩
  have f4 : Fr0 (fun k => k = N + 1 + 1) (W3) W4 := by rw [← hW4]; exact ((Fr0.refl (fun k => k = N + 1 + 1) _).setCell (fun _ => rfl) _).setCell (fun _ => rfl) _
  have D2 := Lib.hid (show W4.heap[N + 1 + 1]? = some (.cells #[.int .i64 n, .slice va E'.length vc] _ (0, 0)) by rw [← hW4]; exact heap_set_cell (heap_set_cell D2.out _) _)
  rw [hW4]
  clear hW4 c0 c1 q0 q1
  have B5 := Lib.hid ((f4.block rb (Array.getElem?_eq_some_iff.1 B5.out).1 (fun e => by have e : rb = N + 1 + 1 := e; have := Hrb.out; omega)).trans B5.out)
  have D3 := Lib.hid ((f4.block _ (Array.getElem?_eq_some_iff.1 D3.out).1 (fun e => by have e : N + 1 + 1 + 1 = N + 1 + 1 := e; omega)).trans D3.out)
  refine hK.out _ _ (hHeld.trans (f4.mono (fun k _ h => .inl h))) (fun hHeld => ?_)
  clear hK K f4
  try simp only[pUt,pUn,sEt,sEz,sEs]
  have c0 := cells_in D3.out 0
  have c1 := cells_in D3.out 1
  have q0 := thaw_in D3.out 0
  have q1 := thaw_in D3.out 1
  simp at c0 c1
  refine take_call (i := 5) rfl (by kernel_rfl) (by kernel_rfl) (fun K hK => ?_)
  go_simp
  obtain ⟨W5, hW4⟩ : ∃ W, ((W4).setCell ⟨N + 1 + 1 + 1, 0, none⟩ (.int .i64 0)).setCell ⟨N + 1 + 1 + 1, 1, none⟩ (.slice (some ⟨rb, 0, none⟩) 1 1) = W := ⟨_, rfl⟩
  have f4 : Fr0 (fun k => k = N + 1 + 1 + 1) (W4) W5 := by rw [← hW4]; exact ((Fr0.refl (fun k => k = N + 1 + 1 + 1) _).setCell (fun _ => rfl) _).setCell (fun _ => rfl) _
  have D3 := Lib.hid (show W5.heap[N + 1 + 1 + 1]? = some (.cells #[.int .i64 0, .slice (some ⟨rb, 0, none⟩) 1 1] _ (0, 0)) by rw [← hW4]; exact heap_set_cell (heap_set_cell D3.out _) _)
  rw [hW4]
  clear hW4 c0 c1 q0 q1
  have B5 := Lib.hid ((f4.block rb (Array.getElem?_eq_some_iff.1 B5.out).1 (fun e => by have e : rb = N + 1 + 1 + 1 := e; have := Hrb.out; omega)).trans B5.out)
  have D2 := Lib.hid ((f4.block _ (Array.getElem?_eq_some_iff.1 D2.out).1 (fun e => by have e : N + 1 + 1 = N + 1 + 1 + 1 := e; omega)).trans D2.out)
  refine hK.out _ _ (hHeld.trans (f4.mono (fun k _ h => .inr h))) (fun hHeld => ?_)
  clear hK K f4
  try simp only[pUt,pUn,sEt,sEz,sEs]
  refine wpAnyH_done (by kernel_rfl) ?_ _
  go_wp2_with fail
  have p2 := cells_in D2.out 0
  have p3 := cells_in D2.out 1
  have p4 := cells_in D3.out 0
  have p5 := cells_in D3.out 1
  simp at p2 p3 p4 p5
  refine bodyPost_ret (v := .tuple #[.agg #[.int .i64 n, .slice va E'.length vc], .agg #[.int .i64 0, .slice (some ⟨rb, 0, none⟩) 1 1]]) (by simp [results, Tryz.results62, go_sem, p2, p3, p4, p5]) rfl ?_
  have hV5 : Fr0 (fun k => N ≤ k ∧ k < N + 5) w1 W5 := FV5.out.trans (hHeld.mono (fun k _ hk => by omega))
  have hF5 : Fr0 none' w W5 := F.out.trans' hV5 (fun k hk h => by have := HN.out; omega)
  have hs5 : rb < W5.heap.size := (Array.getElem?_eq_some_iff.1 B5.out).1
  have hV3 : EsIn W5 va E' := HV.out.off hV5 (fun g o s e h0 hk => by
   rcases HFr.out g o s e h0 with ⟨⟨o', s', e'⟩, h1⟩ | h1
   ·have := HE.out g o' s' e' h1; have := HN.out; omega
   ·omega)
  exact act_end (ys := [y]) (fun g o s e h0 => by have := HE.out g o s e h0; have := HN.out; omega) HN.out hF5 (Fr0.refl _ _) hvc hV3 (EsIn.of_cells (n := 1) B5.out (by simp [flatEv, cev])) (HFr.out.mono (Nat.le_refl _) hV5.size) (fun g o s e h0 => .inr (by injection e with e; injection e with e _ _; subst e; exact ⟨Hrb.out, hs5⟩))
 ·rw [if_pos (by kernel_rfl)]
  go_simp
  have c0 := cells_in D2.out 0
  have c1 := cells_in D2.out 1
  have q0 := thaw_in D2.out 0
  have q1 := thaw_in D2.out 1
  simp at c0 c1
  go_simp
  obtain ⟨W4, hW4⟩ : ∃ W, ((WD).setCell ⟨N + 1 + 1, 0, none⟩ (.int .i64 n)).setCell ⟨N + 1 + 1, 1, none⟩ (.slice va E'.length vc) = W := ⟨_, rfl⟩
  have f4 : Fr0 (fun k => k = N + 1 + 1) (WD) W4 := by rw [← hW4]; exact ((Fr0.refl (fun k => k = N + 1 + 1) _).setCell (fun _ => rfl) _).setCell (fun _ => rfl) _
  have D2 := Lib.hid (show W4.heap[N + 1 + 1]? = some (.cells #[.int .i64 n, .slice va E'.length vc] _ (0, 0)) by rw [← hW4]; exact heap_set_cell (heap_set_cell D2.out _) _)
  rw [hW4]
  clear hW4 c0 c1 q0 q1
  have D3 := Lib.hid ((f4.block _ (Array.getElem?_eq_some_iff.1 D3.out).1 (fun e => by have e : N + 1 + 1 + 1 = N + 1 + 1 := e; omega)).trans D3.out)
  refine hK.out _ _ (hHeld.trans (f4.mono (fun k _ h => .inl h))) (fun hHeld => ?_)
  clear hK K f4
  try simp only[pUt,pUn,sEt,sEz,sEs]
  refine take_call (i := 2) rfl (by kernel_rfl) (by kernel_rfl) (fun K hK => ?_)
  go_simp
  obtain ⟨rb, hrb⟩ : ∃ b, (W4).heap.size = b := ⟨_, rfl⟩
  obtain ⟨W3, hW3⟩ : ∃ W, (W4).alloc (.cells #[.int .i64 y.key.time, .int .i64 y.key.source, .int .i64 y.key.seq, .int .i64 y.to, .int .i64 y.value] 30) = W := ⟨_, rfl⟩
  have f3 : Fr0 none' (W4) W3 := by rw [← hW3]; exact (Fr0.refl _ _).alloc _
  have F3 := Lib.hid f3
  have B5 := Lib.hid (show W3.heap[rb]? = some (.cells #[.int .i64 y.key.time, .int .i64 y.key.source, .int .i64 y.key.seq, .int .i64 y.to, .int .i64 y.value] 30 (0, 0)) by rw [← hW3, ← hrb]; exact World.alloc_heap_new _ _)
  have Hrb := Lib.hid (show N + 5 ≤ rb by have := hHeld.size; have := hsV.out; omega)
  rw [hW3]
  try rw [hrb]
  clear hW3 hrb
  have D2 := Lib.hid ((f3.block _ (Array.getElem?_eq_some_iff.1 D2.out).1 id).trans D2.out)
  have D3 := Lib.hid ((f3.block _ (Array.getElem?_eq_some_iff.1 D3.out).1 id).trans D3.out)
  clear f3
  refine hK.out _ _ (hHeld.trans' F3.out (fun _ _ h => h.elim)) (fun hHeld => ?_)
  clear hK K
  try simp only[pUt,pUn,sEt,sEz,sEs]
  refine tk0 (i := 3) (v := .agg #[.int .i64 0, .slice (some ⟨rb, 0, none⟩) 1 1]) ?_
  try simp only[pUt,pUn,sEt,sEz,sEs]
  have c0 := cells_in D3.out 0
  have c1 := cells_in D3.out 1
  have q0 := thaw_in D3.out 0
  have q1 := thaw_in D3.out 1
  simp at c0 c1
  refine take_call (i := 5) rfl (by kernel_rfl) (by kernel_rfl) (fun K hK => ?_)
  go_simp
  obtain ⟨W5, hW4⟩ : ∃ W, ((W3).setCell ⟨N + 1 + 1 + 1, 0, none⟩ (.int .i64 0)).setCell ⟨N + 1 + 1 + 1, 1, none⟩ (.slice (some ⟨rb, 0, none⟩) 1 1) = W := ⟨_, rfl⟩
  have f4 : Fr0 (fun k => k = N + 1 + 1 + 1) (W3) W5 := by rw [← hW4]; exact ((Fr0.refl (fun k => k = N + 1 + 1 + 1) _).setCell (fun _ => rfl) _).setCell (fun _ => rfl) _
  have D3 := Lib.hid (show W5.heap[N + 1 + 1 + 1]? = some (.cells #[.int .i64 0, .slice (some ⟨rb, 0, none⟩) 1 1] _ (0, 0)) by rw [← hW4]; exact heap_set_cell (heap_set_cell D3.out _) _)
  rw [hW4]
  clear hW4 c0 c1 q0 q1
  have B5 := Lib.hid ((f4.block rb (Array.getElem?_eq_some_iff.1 B5.out).1 (fun e => by have e : rb = N + 1 + 1 + 1 := e; have := Hrb.out; omega)).trans B5.out)
  have D2 := Lib.hid ((f4.block _ (Array.getElem?_eq_some_iff.1 D2.out).1 (fun e => by have e : N + 1 + 1 = N + 1 + 1 + 1 := e; omega)).trans D2.out)
  refine hK.out _ _ (hHeld.trans (f4.mono (fun k _ h => .inr h))) (fun hHeld => ?_)
  clear hK K f4
  try simp only[pUt,pUn,sEt,sEz,sEs]
  refine wpAnyH_done (by kernel_rfl) ?_ _
  go_wp2_with fail
  have p2 := cells_in D2.out 0
  have p3 := cells_in D2.out 1
  have p4 := cells_in D3.out 0
  have p5 := cells_in D3.out 1
  simp at p2 p3 p4 p5
  refine bodyPost_ret (v := .tuple #[.agg #[.int .i64 n, .slice va E'.length vc], .agg #[.int .i64 0, .slice (some ⟨rb, 0, none⟩) 1 1]]) (by simp [results, Tryz.results62, go_sem, p2, p3, p4, p5]) rfl ?_
  have hV5 : Fr0 (fun k => N ≤ k ∧ k < N + 5) w1 W5 := FV5.out.trans (hHeld.mono (fun k _ hk => by omega))
  have hF5 : Fr0 none' w W5 := F.out.trans' hV5 (fun k hk h => by have := HN.out; omega)
  have hs5 : rb < W5.heap.size := (Array.getElem?_eq_some_iff.1 B5.out).1
  have hV3 : EsIn W5 va E' := HV.out.off hV5 (fun g o s e h0 hk => by
   rcases HFr.out g o s e h0 with ⟨⟨o', s', e'⟩, h1⟩ | h1
   ·have := HE.out g o' s' e' h1; have := HN.out; omega
   ·omega)
  exact act_end (ys := [y]) (fun g o s e h0 => by have := HE.out g o s e h0; have := HN.out; omega) HN.out hF5 (Fr0.refl _ _) hvc hV3 (EsIn.of_cells (n := 1) B5.out (by simp [flatEv, cev])) (HFr.out.mono (Nat.le_refl _) hV5.size) (fun g o s e h0 => .inr (by injection e with e; injection e with e _ _; subst e; exact ⟨Hrb.out, hs5⟩))
set_option maxHeartbeats 2000000 in
theorem ract2_any {w : World} {a : Option Addr} {m cap n : Nat} (y : Ev) (E' : List Ev) (h : EsIn w a (y :: E')) (hl : E'.length + 1 = m) (hm : m ≤ 1000) (hc : m ≤ cap) (x : Ev) (t : Int) :
  Calls Tryz.prog 62 #[.agg #[.int .i64 n, .slice a m cap], actCV ⟨2, x, t⟩] w (ActQ w a n (y :: E') E' 0 [y]) := by
 unfold actCV
 simp only
 have HP := Lib.hid (fun (W : World) (hf : Fr0 none' w W) => rTake_some (w := W) n y E' (h.later hf) hl hm hc)
 unfold evV at HP
 have HE := Lib.hid (fun g o s e h0 => h.ltC h0 g o s e)
 have hne : E' ≠ [] → y :: E' ≠ [] := fun _ h2 => by cases h2
 obtain ⟨E, hE⟩ : ∃ E, y :: E' = E := ⟨_, rfl⟩
 rw [hE] at HE hne
 rw [hE]
 clear h hl hE
 go_enter Tryz.func62, Tryz.ntmps62
 obtain ⟨N, hN⟩ : ∃ N, w.heap.size = N := ⟨_, rfl⟩
 obtain ⟨W, hW⟩ : ∃ W, wAct w n a m cap ⟨2, x, t⟩ = W := ⟨_, rfl⟩
 have hx := wAct_is w n a m cap ⟨2, x, t⟩
 rw [hW] at hx
 unfold wAct at hW
 simp only at hW hx
 rw [hN] at hx
 have HB := Lib.hid hx.1
 have F := Lib.hid hx.2
 have HN := Lib.hid hN
 have HW := Lib.hid hW
 clear hx hN hW
 go_wp2_with fail
 rw [HW.out]
 try simp only [HN.out]
 clear HW
 refine (HP.out _ F.out).mono ?_
 rintro e w1 ⟨v, rfl, ⟨va, vc, rfl, hvc, hv, h4⟩, hf⟩
 have hW5 := (Array.getElem?_eq_some_iff.1 HB.out.b4).1
 have HFr := Lib.hid (show FromE a va (N + 5) w1.heap.size E E' from FromE.of h4 hne (by omega))
 have HV := Lib.hid hv
 have HB := Lib.hid (HB.out.later hf)
 have F := Lib.hid (F.out.trans hf)
 clear hf
 clear hv h4 hne hW5
 have a0 := cells_in HB.out.b0 0
 have a1 := cells_in HB.out.b0 1
 have u0 := thaw_in HB.out.b0 0
 have u1 := thaw_in HB.out.b0 1
 have a2 := cells_in HB.out.b2 0
 have a3 := cells_in HB.out.b2 1
 have u2 := thaw_in HB.out.b2 0
 have u3 := thaw_in HB.out.b2 1
 have a4 := cells_in HB.out.b3 0
 have a5 := cells_in HB.out.b3 1
 have u4 := thaw_in HB.out.b3 0
 have u5 := thaw_in HB.out.b3 1
 simp at a0 a1 a2 a3 a4 a5
 have x0 := cells_in HB.out.b4 0
 have x1 := cells_in HB.out.b4 1
 have x2 := cells_in HB.out.b4 2
 have x3 := cells_in HB.out.b4 3
 have x4 := cells_in HB.out.b4 4
 have y0 := thaw_in HB.out.b4 0
 have y1 := thaw_in HB.out.b4 1
 have y2 := thaw_in HB.out.b4 2
 have y3 := thaw_in HB.out.b4 3
 have y4 := thaw_in HB.out.b4 4
 simp at x0 x1 x2 x3 x4
 obtain ⟨V, hV⟩ : ∃ V, wSet w1 N (.int .i64 n) (.slice va E'.length vc) (.int .i64 y.key.time) (.int .i64 y.key.source) (.int .i64 y.key.seq) (.int .i64 y.to) (.int .i64 y.value) = V := ⟨_, rfl⟩
 obtain ⟨c0, c2, c3, c4, fV5, fV⟩ := wSet_is HB.out n va E'.length vc (.int .i64 y.key.time) (.int .i64 y.key.source) (.int .i64 y.key.seq) (.int .i64 y.to) (.int .i64 y.value)
 rw [hV] at c0 c2 c3 c4 fV5 fV
 unfold wSet at hV
 have C0 := Lib.hid c0
 have C2 := Lib.hid c2
 have C3 := Lib.hid c3
 have C4 := Lib.hid c4
 have FV5 := Lib.hid fV5
 have d0 := cells_in c0 0
 have d1 := cells_in c0 1
 have d2 := cells_in c2 0
 have d3 := cells_in c2 1
 have d4 := cells_in c3 0
 have d5 := cells_in c3 1
 have e2 := thaw_in c2 0
 have e3 := thaw_in c2 1
 have e4 := thaw_in c3 0
 have e5 := thaw_in c3 1
 have g0 := cells_in c4 0
 have g1 := cells_in c4 1
 have g2 := cells_in c4 2
 have g3 := cells_in c4 3
 have g4 := cells_in c4 4
 simp at d0 d1 d2 d3 d4 d5 g0 g1 g2 g3 g4
 clear c0 c2 c3 c4 fV5 fV
 have hsV := Lib.hid (Array.getElem?_eq_some_iff.1 C4.out).1
 go_wp2_with fail
 clear hV d0 d1 d2 d3 d4 d5 e2 e3 e4 e5 g0 g1 g2 g3 g4 a0 a1 a2 a3 a4 a5 u0 u1 u2 u3 u4 u5 x0 x1 x2 x3 x4 y0 y1 y2 y3 y4
 have HZ := Lib.hid (show ∀ W', Fr0 (fun k => k = N + 1 + 1 ∨ k = N + 1 + 1 + 1) V W' → W'.cell? ⟨N, 0, none⟩ = some (.int .i64 n) ∧ W'.cell? ⟨N, 1, none⟩ = some (.slice va E'.length vc) ∧ EAt W' (N + 1 + 1 + 1 + 1) 0 y from fun W' hf => by
  have h0 := (hf.block N (Array.getElem?_eq_some_iff.1 C0.out).1 (fun h => by omega)).trans C0.out
  have h4 := (hf.block (N + 1 + 1 + 1 + 1) (Array.getElem?_eq_some_iff.1 C4.out).1 (fun h => by omega)).trans C4.out
  have s0 := cells_in h0 0
  have s1 := cells_in h0 1
  simp at s0 s1
  exact ⟨s0, s1, by rw [cells_in h4]; rfl, by rw [cells_in h4]; rfl, by rw [cells_in h4]; rfl, by rw [cells_in h4]; rfl, by rw [cells_in h4]; rfl⟩)
 refine wp_region_held_drew (S := fun W' => Fr0 (fun k => k = N + 1 + 1 ∨ k = N + 1 + 1 + 1) V W') (by kernel_rfl) ((Fr0.refl _ V).drew) (fun hHeld => ?_)
 have D2 := Lib.hid (((Fr0.refl none' V).drew.block _ (Array.getElem?_eq_some_iff.1 C2.out).1 id).trans C2.out)
 have D3 := Lib.hid (((Fr0.refl none' V).drew.block _ (Array.getElem?_eq_some_iff.1 C3.out).1 id).trans C3.out)
 generalize V.drew = WD at hHeld D2 D3 ⊢
 refine tkn (i := 0) (v := .agg #[.int .i64 n, .slice va E'.length vc]) (fun W' hSW => ?_) ?_
 ·obtain ⟨t0, t1, t2, t3, t4, t5, t6⟩ := HZ.out W' hSW
  (try simp only [Nat.zero_add] at t2 t3 t4 t5 t6)
  first|go_simp;done|exact rfl|go_simp;rfl|go_simp;omega
 try simp only[pUt,pUn,sEt,sEz,sEs]
 refine tkn (i := 1) (v := .agg #[.int .i64 y.key.time, .int .i64 y.key.source, .int .i64 y.key.seq, .int .i64 y.to, .int .i64 y.value]) (fun W' hSW => ?_) ?_
 ·obtain ⟨t0, t1, t2, t3, t4, t5, t6⟩ := HZ.out W' hSW
  (try simp only [Nat.zero_add] at t2 t3 t4 t5 t6)
  first|go_simp;done|exact rfl|go_simp;rfl|go_simp;omega
 try simp only[pUt,pUn,sEt,sEz,sEs]
 refine wpAnyH_ready (rs := [2, 4]) (by kernel_rfl) (by simp) (AllReadyH.cons (op_at rfl) (fun K hK => ?_) (AllReadyH.cons (op_at rfl) (fun K hK => ?_) AllReadyH.nil))
 ·rw [if_pos (by kernel_rfl)]
  go_simp
  obtain ⟨rb, hrb⟩ : ∃ b, (WD).heap.size = b := ⟨_, rfl⟩
  obtain ⟨W3, hW3⟩ : ∃ W, (WD).alloc (.cells #[.int .i64 y.key.time, .int .i64 y.key.source, .int .i64 y.key.seq, .int .i64 y.to, .int .i64 y.value] 30) = W := ⟨_, rfl⟩
  have f3 : Fr0 none' (WD) W3 := by rw [← hW3]; exact (Fr0.refl _ _).alloc _
  have F3 := Lib.hid f3
  have B5 := Lib.hid (show W3.heap[rb]? = some (.cells #[.int .i64 y.key.time, .int .i64 y.key.source, .int .i64 y.key.seq, .int .i64 y.to, .int .i64 y.value] 30 (0, 0)) by rw [← hW3, ← hrb]; exact World.alloc_heap_new _ _)
  have Hrb := Lib.hid (show N + 5 ≤ rb by have := hHeld.size; have := hsV.out; omega)
  rw [hW3]
  try rw [hrb]
  clear hW3 hrb
  have D2 := Lib.hid ((f3.block _ (Array.getElem?_eq_some_iff.1 D2.out).1 id).trans D2.out)
  have D3 := Lib.hid ((f3.block _ (Array.getElem?_eq_some_iff.1 D3.out).1 id).trans D3.out)
  clear f3
  refine hK.out _ _ (hHeld.trans' F3.out (fun _ _ h => h.elim)) (fun hHeld => ?_)
  clear hK K
  try simp only[pUt,pUn,sEt,sEz,sEs]
  refine tk0 (i := 3) (v := .agg #[.int .i64 0, .slice (some ⟨rb, 0, none⟩) 1 1]) ?_
  try simp only[pUt,pUn,sEt,sEz,sEs]
  have c0 := cells_in D2.out 0
  have c1 := cells_in D2.out 1
  have q0 := thaw_in D2.out 0
  have q1 := thaw_in D2.out 1
  simp at c0 c1
  refine take_call (i := 4) rfl (by kernel_rfl) (by kernel_rfl) (fun K hK => ?_)
  go_simp
  obtain ⟨W4, hW4⟩ : ∃ W, ((W3).setCell ⟨N + 1 + 1, 0, none⟩ (.int .i64 n)).setCell ⟨N + 1 + 1, 1, none⟩ (.slice va E'.length vc) = W := ⟨_, rfl⟩
  have f4 : Fr0 (fun k => k = N + 1 + 1) (W3) W4 := by rw [← hW4]; exact ((Fr0.refl (fun k => k = N + 1 + 1) _).setCell (fun _ => rfl) _).setCell (fun _ => rfl) _
  have D2 := Lib.hid (show W4.heap[N + 1 + 1]? = some (.cells #[.int .i64 n, .slice va E'.length vc] _ (0, 0)) by rw [← hW4]; exact heap_set_cell (heap_set_cell D2.out _) _)
  rw [hW4]
  clear hW4 c0 c1 q0 q1
  have B5 := Lib.hid ((f4.block rb (Array.getElem?_eq_some_iff.1 B5.out).1 (fun e => by have e : rb = N + 1 + 1 := e; have := Hrb.out; omega)).trans B5.out)
  have D3 := Lib.hid ((f4.block _ (Array.getElem?_eq_some_iff.1 D3.out).1 (fun e => by have e : N + 1 + 1 + 1 = N + 1 + 1 := e; omega)).trans D3.out)
  refine hK.out _ _ (hHeld.trans (f4.mono (fun k _ h => .inl h))) (fun hHeld => ?_)
  clear hK K f4
  try simp only[pUt,pUn,sEt,sEz,sEs]
  have c0 := cells_in D3.out 0
  have c1 := cells_in D3.out 1
  have q0 := thaw_in D3.out 0
  have q1 := thaw_in D3.out 1
  simp at c0 c1
  refine take_call (i := 5) rfl (by kernel_rfl) (by kernel_rfl) (fun K hK => ?_)
  go_simp
  obtain ⟨W5, hW4⟩ : ∃ W, ((W4).setCell ⟨N + 1 + 1 + 1, 0, none⟩ (.int .i64 0)).setCell ⟨N + 1 + 1 + 1, 1, none⟩ (.slice (some ⟨rb, 0, none⟩) 1 1) = W := ⟨_, rfl⟩
  have f4 : Fr0 (fun k => k = N + 1 + 1 + 1) (W4) W5 := by rw [← hW4]; exact ((Fr0.refl (fun k => k = N + 1 + 1 + 1) _).setCell (fun _ => rfl) _).setCell (fun _ => rfl) _
  have D3 := Lib.hid (show W5.heap[N + 1 + 1 + 1]? = some (.cells #[.int .i64 0, .slice (some ⟨rb, 0, none⟩) 1 1] _ (0, 0)) by rw [← hW4]; exact heap_set_cell (heap_set_cell D3.out _) _)
  rw [hW4]
  clear hW4 c0 c1 q0 q1
  have B5 := Lib.hid ((f4.block rb (Array.getElem?_eq_some_iff.1 B5.out).1 (fun e => by have e : rb = N + 1 + 1 + 1 := e; have := Hrb.out; omega)).trans B5.out)
  have D2 := Lib.hid ((f4.block _ (Array.getElem?_eq_some_iff.1 D2.out).1 (fun e => by have e : N + 1 + 1 = N + 1 + 1 + 1 := e; omega)).trans D2.out)
  refine hK.out _ _ (hHeld.trans (f4.mono (fun k _ h => .inr h))) (fun hHeld => ?_)
  clear hK K f4
  try simp only[pUt,pUn,sEt,sEz,sEs]
  refine wpAnyH_done (by kernel_rfl) ?_ _
  go_wp2_with fail
  have p2 := cells_in D2.out 0
  have p3 := cells_in D2.out 1
  have p4 := cells_in D3.out 0
  have p5 := cells_in D3.out 1
  simp at p2 p3 p4 p5
  refine bodyPost_ret (v := .tuple #[.agg #[.int .i64 n, .slice va E'.length vc], .agg #[.int .i64 0, .slice (some ⟨rb, 0, none⟩) 1 1]]) (by simp [results, Tryz.results62, go_sem, p2, p3, p4, p5]) rfl ?_
  have hV5 : Fr0 (fun k => N ≤ k ∧ k < N + 5) w1 W5 := FV5.out.trans (hHeld.mono (fun k _ hk => by omega))
  have hF5 : Fr0 none' w W5 := F.out.trans' hV5 (fun k hk h => by have := HN.out; omega)
  have hs5 : rb < W5.heap.size := (Array.getElem?_eq_some_iff.1 B5.out).1
  have hV3 : EsIn W5 va E' := HV.out.off hV5 (fun g o s e h0 hk => by
   rcases HFr.out g o s e h0 with ⟨⟨o', s', e'⟩, h1⟩ | h1
   ·have := HE.out g o' s' e' h1; have := HN.out; omega
   ·omega)
  exact act_end (ys := [y]) (fun g o s e h0 => by have := HE.out g o s e h0; have := HN.out; omega) HN.out hF5 (Fr0.refl _ _) hvc hV3 (EsIn.of_cells (n := 1) B5.out (by simp [flatEv, cev])) (HFr.out.mono (Nat.le_refl _) hV5.size) (fun g o s e h0 => .inr (by injection e with e; injection e with e _ _; subst e; exact ⟨Hrb.out, hs5⟩))
 ·rw [if_pos (by kernel_rfl)]
  go_simp
  have c0 := cells_in D2.out 0
  have c1 := cells_in D2.out 1
  have q0 := thaw_in D2.out 0
  have q1 := thaw_in D2.out 1
  simp at c0 c1
  go_simp
  obtain ⟨W4, hW4⟩ : ∃ W, ((WD).setCell ⟨N + 1 + 1, 0, none⟩ (.int .i64 n)).setCell ⟨N + 1 + 1, 1, none⟩ (.slice va E'.length vc) = W := ⟨_, rfl⟩
  have f4 : Fr0 (fun k => k = N + 1 + 1) (WD) W4 := by rw [← hW4]; exact ((Fr0.refl (fun k => k = N + 1 + 1) _).setCell (fun _ => rfl) _).setCell (fun _ => rfl) _
  have D2 := Lib.hid (show W4.heap[N + 1 + 1]? = some (.cells #[.int .i64 n, .slice va E'.length vc] _ (0, 0)) by rw [← hW4]; exact heap_set_cell (heap_set_cell D2.out _) _)
  rw [hW4]
  clear hW4 c0 c1 q0 q1
  have D3 := Lib.hid ((f4.block _ (Array.getElem?_eq_some_iff.1 D3.out).1 (fun e => by have e : N + 1 + 1 + 1 = N + 1 + 1 := e; omega)).trans D3.out)
  refine hK.out _ _ (hHeld.trans (f4.mono (fun k _ h => .inl h))) (fun hHeld => ?_)
  clear hK K f4
  try simp only[pUt,pUn,sEt,sEz,sEs]
  refine take_call (i := 2) rfl (by kernel_rfl) (by kernel_rfl) (fun K hK => ?_)
  go_simp
  obtain ⟨rb, hrb⟩ : ∃ b, (W4).heap.size = b := ⟨_, rfl⟩
  obtain ⟨W3, hW3⟩ : ∃ W, (W4).alloc (.cells #[.int .i64 y.key.time, .int .i64 y.key.source, .int .i64 y.key.seq, .int .i64 y.to, .int .i64 y.value] 30) = W := ⟨_, rfl⟩
  have f3 : Fr0 none' (W4) W3 := by rw [← hW3]; exact (Fr0.refl _ _).alloc _
  have F3 := Lib.hid f3
  have B5 := Lib.hid (show W3.heap[rb]? = some (.cells #[.int .i64 y.key.time, .int .i64 y.key.source, .int .i64 y.key.seq, .int .i64 y.to, .int .i64 y.value] 30 (0, 0)) by rw [← hW3, ← hrb]; exact World.alloc_heap_new _ _)
  have Hrb := Lib.hid (show N + 5 ≤ rb by have := hHeld.size; have := hsV.out; omega)
  rw [hW3]
  try rw [hrb]
  clear hW3 hrb
  have D2 := Lib.hid ((f3.block _ (Array.getElem?_eq_some_iff.1 D2.out).1 id).trans D2.out)
  have D3 := Lib.hid ((f3.block _ (Array.getElem?_eq_some_iff.1 D3.out).1 id).trans D3.out)
  clear f3
  refine hK.out _ _ (hHeld.trans' F3.out (fun _ _ h => h.elim)) (fun hHeld => ?_)
  clear hK K
  try simp only[pUt,pUn,sEt,sEz,sEs]
  refine tk0 (i := 3) (v := .agg #[.int .i64 0, .slice (some ⟨rb, 0, none⟩) 1 1]) ?_
  try simp only[pUt,pUn,sEt,sEz,sEs]
  have c0 := cells_in D3.out 0
  have c1 := cells_in D3.out 1
  have q0 := thaw_in D3.out 0
  have q1 := thaw_in D3.out 1
  simp at c0 c1
  refine take_call (i := 5) rfl (by kernel_rfl) (by kernel_rfl) (fun K hK => ?_)
  go_simp
  obtain ⟨W5, hW4⟩ : ∃ W, ((W3).setCell ⟨N + 1 + 1 + 1, 0, none⟩ (.int .i64 0)).setCell ⟨N + 1 + 1 + 1, 1, none⟩ (.slice (some ⟨rb, 0, none⟩) 1 1) = W := ⟨_, rfl⟩
  have f4 : Fr0 (fun k => k = N + 1 + 1 + 1) (W3) W5 := by rw [← hW4]; exact ((Fr0.refl (fun k => k = N + 1 + 1 + 1) _).setCell (fun _ => rfl) _).setCell (fun _ => rfl) _
  have D3 := Lib.hid (show W5.heap[N + 1 + 1 + 1]? = some (.cells #[.int .i64 0, .slice (some ⟨rb, 0, none⟩) 1 1] _ (0, 0)) by rw [← hW4]; exact heap_set_cell (heap_set_cell D3.out _) _)
  rw [hW4]
  clear hW4 c0 c1 q0 q1
  have B5 := Lib.hid ((f4.block rb (Array.getElem?_eq_some_iff.1 B5.out).1 (fun e => by have e : rb = N + 1 + 1 + 1 := e; have := Hrb.out; omega)).trans B5.out)
  have D2 := Lib.hid ((f4.block _ (Array.getElem?_eq_some_iff.1 D2.out).1 (fun e => by have e : N + 1 + 1 = N + 1 + 1 + 1 := e; omega)).trans D2.out)
  refine hK.out _ _ (hHeld.trans (f4.mono (fun k _ h => .inr h))) (fun hHeld => ?_)
  clear hK K f4
  try simp only[pUt,pUn,sEt,sEz,sEs]
  refine wpAnyH_done (by kernel_rfl) ?_ _
  go_wp2_with fail
  have p2 := cells_in D2.out 0
  have p3 := cells_in D2.out 1
  have p4 := cells_in D3.out 0
  have p5 := cells_in D3.out 1
  simp at p2 p3 p4 p5
  refine bodyPost_ret (v := .tuple #[.agg #[.int .i64 n, .slice va E'.length vc], .agg #[.int .i64 0, .slice (some ⟨rb, 0, none⟩) 1 1]]) (by simp [results, Tryz.results62, go_sem, p2, p3, p4, p5]) rfl ?_
  have hV5 : Fr0 (fun k => N ≤ k ∧ k < N + 5) w1 W5 := FV5.out.trans (hHeld.mono (fun k _ hk => by omega))
  have hF5 : Fr0 none' w W5 := F.out.trans' hV5 (fun k hk h => by have := HN.out; omega)
  have hs5 : rb < W5.heap.size := (Array.getElem?_eq_some_iff.1 B5.out).1
  have hV3 : EsIn W5 va E' := HV.out.off hV5 (fun g o s e h0 hk => by
   rcases HFr.out g o s e h0 with ⟨⟨o', s', e'⟩, h1⟩ | h1
   ·have := HE.out g o' s' e' h1; have := HN.out; omega
   ·omega)
  exact act_end (ys := [y]) (fun g o s e h0 => by have := HE.out g o s e h0; have := HN.out; omega) HN.out hF5 (Fr0.refl _ _) hvc hV3 (EsIn.of_cells (n := 1) B5.out (by simp [flatEv, cev])) (HFr.out.mono (Nat.le_refl _) hV5.size) (fun g o s e h0 => .inr (by injection e with e; injection e with e _ _; subst e; exact ⟨Hrb.out, hs5⟩))
end Go.Proofs.YtieeloealklkgaaGreat

/-
  slices.Equal at ints.
-/
namespace Go.Proofs.YtieeloealklkgaaGreat
open Go Go.RowKit
attribute [local go_sem ↓] Go.wp_at_zero Go.wp_at_succ

/-- Ints in memory. -/
def IsIn (w : World) (a : Option Addr) (L : List Int) : Prop := ∀ i x, L[i]? = some x → ∃ g o, a = some ⟨g, o, none⟩ ∧ w.cell? ⟨g, o + i, none⟩ = some (.int .i64 x)
theorem IsIn.fr0 {S : Nat → Prop} {w w' : World} {a : Option Addr} {L : List Int} (h : IsIn w a L) (hf : Fr0 S w w') (hS : ∀ g o s, a = some ⟨g, o, s⟩ → ¬ S g) : IsIn w' a L := fun i x hx => by
 obtain ⟨g, o, rfl, hc⟩ := h i x hx
 exact ⟨g, o, rfl, (hf.cell (p := ⟨g, o + i, none⟩) (World.block_lt_of_cell? _ _ hc) (hS g o none rfl)).trans hc⟩
theorem IsIn.later {w w' : World} {a : Option Addr} {L : List Int} (h : IsIn w a L) (hf : Fr0 none' w w') : IsIn w' a L := h.fr0 hf (fun _ _ _ _ h => h)
theorem IsIn.of_own {w : World} {base : Nat} {v : Value} {n : Nat} {L : List Int} (h : w.ownsRow base 3 1 v n (L.map (Value.int .i64))) : ∃ a cap, v = .slice a n cap ∧ L.length = n ∧ IsIn w a L := by
 have hl : L.length = n := by have := h.1; rw [List.length_map] at this; omega
 rcases h.2 with ⟨rfl, h0⟩ | ⟨g, cap, cur, rfl, hb, hg, hn', hcm, hs, ht⟩
 ·have : L = [] := List.eq_nil_of_length_eq_zero (by omega)
  subst this
  exact ⟨none, 0, by rw [h0], hl, fun i x h => by simp at h⟩
 ·refine ⟨_, cap, rfl, hl, fun i x hx => ⟨g, 0, rfl, ?_⟩⟩
  have hj : (L.map (Value.int .i64))[i]? = some (.int .i64 x) := by rw [List.getElem?_map, hx]; rfl
  rw [Nat.zero_add, cells_in hg, ← Array.getElem?_toList]
  rw [← ht, List.getElem?_take] at hj
  split at hj
  ·exact hj
  ·cases hj
set_option maxHeartbeats 2000000 in
theorem sameIs_any (a a' : Option Addr) (n n' cap cap' : Nat) (xs ys : List Int) (w : World) (hn : xs.length = n) (hn' : ys.length = n') (hm : n ≤ 1000000) (hm' : n' ≤ 1000000)
  (hc : IsIn w a xs) (hc' : IsIn w a' ys) :
  Calls Tryz.prog 34 #[.slice a n cap, .slice a' n' cap'] w fun e w' => e = .returned (.bool (decide (xs = ys))) ∧ Fr0 none' w w' := by
 obtain ⟨R, hR⟩ : ∃ R, decide (xs = ys) = R := ⟨_, rfl⟩
 rw [hR]
 have HR := Lib.hid hR
 have Hn := Lib.hid hn
 have Hn' := Lib.hid hn'
 have Hc := Lib.hid hc
 have Hc' := Lib.hid hc'
 clear hR hn hn' hc hc'
 by_cases hnn : n = n'
 ·subst hnn
  have d0 : ((n : Int) != (n : Int)) = false := by simp
  go_enter Tryz.func34, Tryz.ntmps34
  go_wp2
  clear d0
  go_loopw [13] (fun i wr => ∃ k : Nat, k ≤ n ∧ i = .int .i64 k ∧ Hid (xs.take k = ys.take k) ∧ Hid (Fr0 none' w wr)) (fun i _ => n - (Go.RowKit.intOf i).toNat)
  case atStart => exact ⟨0, Nat.zero_le _, rfl, rfl, Fr0.refl _ _⟩
  case round =>
   obtain ⟨k, hk, rfl, hpre, hb⟩ := hrel
   by_cases hlt : k < n
   ·have h1 : k < xs.length := by rw [Hn.out]; exact hlt
    have h2 : k < ys.length := by rw [Hn'.out]; exact hlt
    obtain ⟨x, hx⟩ : ∃ x, xs[k]? = some x := ⟨_, List.getElem?_eq_getElem h1⟩
    obtain ⟨y, hy⟩ : ∃ y, ys[k]? = some y := ⟨_, List.getElem?_eq_getElem h2⟩
    obtain ⟨g, o, rfl, hcx⟩ := Hc.out k x hx
    obtain ⟨g', o', rfl, hcy⟩ := Hc'.out k y hy
    have x0 := hb.out.later hcx
    have y0 := hb.out.later hcy
    have hx' := Lib.hid hx
    have hy' := Lib.hid hy
    have FW := hb
    clear hx hy h1 h2 hcx hcy
    have c1 : (0 : Int) ≤ (k : Int) := by omega
    have c2 : (k : Int) < (n : Int) := by omega
    by_cases hxy : x = y
    ·subst hxy
     have d1 : (x == x) = true := beq_self_eq_true x
     have d2 : (x != x) = false := by simp
     go_wp2
     go_quiet (fail)

     go_wp2
     refine ⟨⟨k + 1, by omega, by go_num, by unfold Hid; rw [List.take_add_one, List.take_add_one, hpre.out, hx'.out, hy'.out], by first | exact FW | exact ⟨FW.out.os, FW.out.tape, FW.out.output, FW.out.size, FW.out.block⟩⟩, ?_⟩
     simp [Go.RowKit.intOf]; omega
    ·have d1 : (x == y) = false := beq_eq_false_iff_ne.2 hxy
     have d2 : (x != y) = true := bne_iff_ne.2 hxy
     have hres : Hid (false = R) := by
      unfold Hid; rw [← HR.out]
      refine (decide_eq_false (fun h => hxy ?_)).symm
      have := hx'.out; rw [h, hy'.out] at this; exact (Option.some.inj this).symm
     clear hxy
     go_wp2
     go_quiet (fail)

     go_wp2
     go_ret
     exact ⟨ret_bool hres.out, by first | exact FW.out | exact ⟨FW.out.os, FW.out.tape, FW.out.output, FW.out.size, FW.out.block⟩⟩
   ·have hres : Hid (true = R) := by
     unfold Hid; rw [← HR.out]
     refine (decide_eq_true ?_).symm
     have := hpre.out
     rwa [List.take_of_length_le (by rw [Hn.out]; omega), List.take_of_length_le (by rw [Hn'.out]; omega)] at this
    go_wp2
    go_ret
    exact ⟨ret_bool hres.out, hb⟩
 ·have hres : Hid (false = R) := by
   unfold Hid; rw [← HR.out]
   refine (decide_eq_false (fun h => hnn ?_)).symm
   rw [← Hn.out, ← Hn'.out, h]
  have d0 : ((n : Int) != (n' : Int)) = true := by simp; omega
  clear hnn
  go_enter Tryz.func34, Tryz.ntmps34
  go_wp2
  go_ret
  exact ⟨ret_bool hres.out, Fr0.refl _ _⟩
end Go.Proofs.YtieeloealklkgaaGreat

/-
  The example of the chapter calendar.
-/
namespace Go.Proofs.YtieeloealklkgaaGreat
open Go Go.RowKit
attribute [local go_sem ↓] Go.wp_at_zero Go.wp_at_succ
attribute [local go_sem] Oper.semAt_some wide_fn wide_depth wide_fnR wide_depthR

set_option maxHeartbeats 1000000 in
theorem cat_any (a b c : Int) (w : World) : Calls Tryz.prog 9 #[.int .i64 a, .int .i64 b, .int .i64 c] w fun e w' => e = .returned (evV ⟨⟨a, b, c⟩, 1, 0⟩) ∧ Fr0 none' w w' := by
 unfold evV
 go_enter Tryz.func9, Tryz.ntmps9
 go_wp2_with fail
 obtain ⟨V, hV⟩ : ∃ V, (w.alloc (.cells #[.int .i64 a, .int .i64 b, .int .i64 c, .int .i64 1, .int .i64 0] 30)) = V := ⟨_, rfl⟩
 have hf : Fr0 none' w V := by rw [← hV]; exact (Fr0.refl _ _).alloc _
 have hb : V.heap[w.heap.size]? = some (.cells #[.int .i64 a, .int .i64 b, .int .i64 c, .int .i64 1, .int .i64 0] 30 (0, 0)) := by
  rw [← hV]
  exact World.alloc_heap_new w _
 rw [hV]
 have y0 := cells_in hb 0
 have y1 := cells_in hb 1
 have y2 := cells_in hb 2
 have y3 := cells_in hb 3
 have y4 := cells_in hb 4
 simp at y0 y1 y2 y3 y4
 exact bodyPost_ret (v := .agg #[.int .i64 a, .int .i64 b, .int .i64 c, .int .i64 1, .int .i64 0]) (by simp [results, Tryz.results9, go_sem, y0, y1, y2, y3, y4]) rfl ⟨rfl, hf⟩
theorem own_cap {w : World} {base : Nat} {e : TypeId} {size : Nat} {v : Value} {n : Nat} {xs : List Value} (h : w.ownsRow base e size v n xs) {a : Option Addr} {m c : Nat} (hv : v = .slice a m c) : n ≤ c := by
 rcases h.2 with ⟨rfl, h0⟩ | ⟨g, cap, cur, rfl, _, _, hn, _⟩
 ·injection hv with h1 h2 h3; omega
 ·injection hv with h1 h2 h3; omega
/-- Do at what it is known to do. -/
theorem Do_told {w : World} {a : Option Addr} {n cap : Nat} {c : Int} {L E : List Ev} {x : Ca} {T : Tl} {i f : Int} (hp : playC L c [x] = (E, [T], i, f)) (h : EsIn w a L) (hl : L.length = n) (hn : n ≤ 10000) (hcap : n ≤ cap) (hk : 0 ≤ x.kind ∧ x.kind < 256) :
  Calls Tryz.prog 17 #[.slice a n cap, .int .i64 c, actCV x] w fun e w' => ∃ va vc ya yc, e = .returned (.tuple #[.slice va E.length vc, .agg #[.int .i64 T.err, .slice ya T.evs.length yc], .int .i64 f]) ∧ E.length ≤ vc ∧ EsIn w' va E ∧ EsIn w' ya T.evs ∧ Fr0 none' w w' := by
 refine (Do_any (c := c) L x h hl hn hcap hk).mono ?_
 rintro e w' ⟨v, y, rfl, hv, hy, hyr, _, hf⟩
 unfold doT at hy
 rw [hp] at hv hy ⊢
 simp only [List.headD_cons] at hy
 subst hy
 obtain ⟨va, vc, rfl, _, h1⟩ := EsIn.of_own hv
 obtain ⟨ya, yc, hye, _, h2⟩ := EsIn.of_own hyr
 refine ⟨va, vc, ya, yc, ?_, own_cap hv rfl, h1, h2, hf⟩
 unfold Td.v at hye
 unfold Td.val Td.tl
 rw [hye]
/-- Play at what it is known to do. -/
theorem Play_told {w : World} {a aa : Option Addr} {n cap m ca : Nat} {c : Int} {L E : List Ev} {A : List Ca} {T : List Tl} {i f : Int} (hp : playC L c A = (E, T, i, f)) (h : EsIn w a L) (hl : L.length = n) (hn : n ≤ 10000) (hcap : n ≤ cap) (hA : CasIn w aa A) (hAl : A.length = m) (hm : m ≤ 100000) (hk : ∀ x ∈ A, 0 ≤ x.kind ∧ x.kind < 256) :
  Calls Tryz.prog 15 #[.slice a n cap, .int .i64 c, .slice aa m ca] w fun e w' => ∃ va vc ua uc ys, e = .returned (.tuple #[.slice va E.length vc, .slice ua T.length uc, .int .i64 i, .int .i64 f]) ∧ E.length ≤ vc ∧ EsIn w' va E ∧ TdsIn w' ua ys ∧ ys.map Td.tl = T ∧ (∀ y ∈ ys, EsIn w' y.sa y.evs ∧ y.sn = y.evs.length) ∧ Fr0 none' w w' := by
 refine (Play_any (c := c) L A h hl hn hcap hA hAl hm hk).mono ?_
 rintro e w' ⟨v, u, ys, rfl, hv, hu, hT, _, hf⟩
 rw [hp] at hv hu hT ⊢
 obtain ⟨va, vc, rfl, _, h1⟩ := EsIn.of_own hv
 obtain ⟨ua, uc, rfl, _, h2⟩ := TdsIn.of_own hu
 refine ⟨va, vc, ua, uc, ys, rfl, own_cap hv rfl, h1, h2, hT.tl, fun y hy => ?_, hf⟩
 obtain ⟨ya, yc, hye, _, h3⟩ := EsIn.of_own (hT.row y hy)
 unfold Td.v at hye
 injection hye with e1 e2 e3
 exact ⟨by rw [e1]; exact h3, e2⟩
theorem three_of {α β : Type} {f : α → β} {ys : List α} {a b c : β} (h : ys.map f = [a, b, c]) : ∃ x y z, ys = [x, y, z] := by
 have hl : ys.length = 3 := by rw [← List.length_map (f := f), h]; rfl
 cases ys with
 | nil => simp at hl
 | cons x r =>
  cases r with
  | nil => simp at hl
  | cons y r =>
   cases r with
   | nil => simp at hl
   | cons z r =>
    cases r with
    | nil => exact ⟨x, y, z, rfl⟩
    | cons _ _ => simp at hl
def caA : Ev := ⟨⟨5, 1, 0⟩, 1, 0⟩
def caB : Ev := ⟨⟨3, 2, 0⟩, 1, 0⟩
def caC : Ev := ⟨⟨9, 3, 3⟩, 1, 0⟩
def evZ : Ev := ⟨⟨0, 0, 0⟩, 0, 0⟩
theorem goodA : GoodE 2 [caA] := ⟨by decide, by unfold OnceE; decide, by intro x hx; simp at hx; subst hx; decide, by decide⟩
theorem goodBA : GoodE 2 [caB, caA] := ⟨by decide, by unfold OnceE; decide, by intro x hx; simp at hx; rcases hx with rfl | rfl <;> decide, by decide⟩
theorem awake_p1 : playC [caA] 2 [⟨1, caB, 0⟩] = ([caB, caA], [⟨0, []⟩], -1, 0) := by
 rw [show (2 : Int) = ((2 : Nat) : Int) from rfl, playC_ok goodA (by omega) (by intro a ha; simp at ha; subst ha; decide)]
 decide
theorem awake_p2 : playC [caB, caA] 2 [⟨1, caC, 0⟩] = ([caB, caA], [⟨4, []⟩], -1, 0) := by
 rw [show (2 : Int) = ((2 : Nat) : Int) from rfl, playC_ok goodBA (by omega) (by intro a ha; simp at ha; subst ha; decide)]
 decide
theorem awake_p3 : playC [caB, caA] 2 [⟨3, evZ, 5⟩, ⟨4, caA, 0⟩, ⟨2, evZ, 0⟩] = ([], [⟨0, [caB]⟩, ⟨0, [caA]⟩, ⟨6, []⟩], -1, 0) := by
 rw [show (2 : Int) = ((2 : Nat) : Int) from rfl, playC_ok goodBA (by omega) (by intro a ha; simp at ha; rcases ha with rfl | rfl | rfl <;> decide)]
 decide
theorem awake_c : countC [caB, caA] 3 5 = (1, 0) := by unfold countC; rw [if_pos (by decide)]; rfl
theorem awake_t : timesC [caB, caA] = [3, 5] := by decide
set_option maxHeartbeats 4000000 in
theorem cawake_any (w : World) : Calls Tryz.prog 8 #[] w fun e w' => e = .returned (.bool true) ∧ Fr0 none' w w' := by
 go_enter Tryz.func8, Tryz.ntmps8
 have F := Lib.hid (Fr0.refl none' w)
 go_wp2_with fail
 refine (cat_any 5 1 0 _).mono ?_
 rintro e wA ⟨rfl, hfA⟩
 have F := Lib.hid (F.out.trans hfA)
 clear hfA
 simp only [evV]
 go_wp2_with fail
 refine (cat_any 3 2 0 _).mono ?_
 rintro e wA ⟨rfl, hfA⟩
 have F := Lib.hid (F.out.trans hfA)
 clear hfA
 simp only [evV]
 go_wp2_with fail
 obtain ⟨ab, hab⟩ : ∃ b, wA.heap.size = b := ⟨_, rfl⟩
 obtain ⟨W1, hW1⟩ : ∃ W, ((wA.alloc (.cells #[.int .i64 5, .int .i64 1, .int .i64 0, .int .i64 1, .int .i64 0] 30)).alloc (.cells #[.int .i64 3, .int .i64 2, .int .i64 0, .int .i64 1, .int .i64 0] 30)).alloc (.cells #[.int .i64 5, .int .i64 1, .int .i64 0, .int .i64 1, .int .i64 0] 30) = W := ⟨_, rfl⟩
 have hA : W1.heap[ab]? = some (.cells #[.int .i64 5, .int .i64 1, .int .i64 0, .int .i64 1, .int .i64 0] 30 (0, 0)) := by
  rw [← hW1, ← hab]
  exact ((((Fr0.refl none' _).alloc _).alloc _).block _ (by rw [World.size_alloc]; omega) id).trans (World.alloc_heap_new wA _)
 have hB : W1.heap[ab + 1]? = some (.cells #[.int .i64 3, .int .i64 2, .int .i64 0, .int .i64 1, .int .i64 0] 30 (0, 0)) := by
  have h1 := World.alloc_heap_new (wA.alloc (.cells #[.int .i64 5, .int .i64 1, .int .i64 0, .int .i64 1, .int .i64 0] 30)) (.cells #[.int .i64 3, .int .i64 2, .int .i64 0, .int .i64 1, .int .i64 0] 30)
  rw [World.size_alloc, hab] at h1
  rw [← hW1]
  exact (((Fr0.refl none' _).alloc _).block _ (by rw [World.size_alloc, World.size_alloc, hab]; omega) id).trans h1
 have hl : EsIn W1 (some ⟨ab + 1 + 1, 0, none⟩) [caA] := by
  have h1 := World.alloc_heap_new ((wA.alloc (.cells #[.int .i64 5, .int .i64 1, .int .i64 0, .int .i64 1, .int .i64 0] 30)).alloc (.cells #[.int .i64 3, .int .i64 2, .int .i64 0, .int .i64 1, .int .i64 0] 30)) (.cells #[.int .i64 5, .int .i64 1, .int .i64 0, .int .i64 1, .int .i64 0] 30)
  rw [World.size_alloc, World.size_alloc, hab, hW1] at h1
  exact EsIn.of_cells (n := 1) h1 (by simp [flatEv, cev, caA])
 have HA := Lib.hid hA
 have HB := Lib.hid hB
 have F := Lib.hid (F.out.trans (show Fr0 none' wA W1 by rw [← hW1]; exact (((Fr0.refl _ _).alloc _).alloc _).alloc _))
 rw [hW1]
 try rw [hab]
 clear hA hB hW1 hab
 have HD := Do_told (n := 1) (cap := 1) awake_p1 hl rfl (by omega) (by omega) (by decide)
 simp only [actCV] at HD
 rw [show caB.key.time = 3 from rfl, show caB.key.source = 2 from rfl, show caB.key.seq = 0 from rfl, show caB.to = 1 from rfl, show caB.value = 0 from rfl] at HD
 refine HD.mono ?_
 clear hl HD
 rintro e w2 ⟨va, vc, ya, yc, rfl, hvc, hv, hy, hf⟩
 simp only [List.length_cons, List.length_nil, Nat.zero_add, Nat.reduceAdd] at hvc
 have HA := Lib.hid ((hf.block ab (Array.getElem?_eq_some_iff.1 HA.out).1 id).trans HA.out)
 have HB := Lib.hid ((hf.block (ab + 1) (Array.getElem?_eq_some_iff.1 HB.out).1 id).trans HB.out)
 have F := Lib.hid (F.out.trans hf)
 have HV := Lib.hid hv
 clear hv hy hf
 simp only [List.length_cons, List.length_nil, Nat.zero_add, Nat.reduceAdd]
 go_wp2_with fail
 obtain ⟨tb, htb⟩ : ∃ b, w2.heap.size = b := ⟨_, rfl⟩
 obtain ⟨W, hW⟩ : ∃ W, w2.alloc (.cells #[.int .i64 0, .slice ya 0 yc] 56) = W := ⟨_, rfl⟩
 have hf : Fr0 none' w2 W := by rw [← hW]; exact (Fr0.refl _ _).alloc _
 have hnew : W.heap[tb]? = some (.cells #[.int .i64 0, .slice ya 0 yc] 56 (0, 0)) := by rw [← hW, ← htb]; exact World.alloc_heap_new _ _
 rw [hW]
 try rw [htb]
 have HA := Lib.hid ((hf.block _ (Array.getElem?_eq_some_iff.1 HA.out).1 id).trans HA.out)
 have HB := Lib.hid ((hf.block _ (Array.getElem?_eq_some_iff.1 HB.out).1 id).trans HB.out)
 have HV := Lib.hid (HV.out.later hf)
 have F := Lib.hid (F.out.trans hf)
 try have HT := Lib.hid ((hf.block _ (Array.getElem?_eq_some_iff.1 HT.out).1 id).trans HT.out)
 try have HU := Lib.hid ((hf.block _ (Array.getElem?_eq_some_iff.1 HU.out).1 id).trans HU.out)
 try have HS := Lib.hid (HS.out.later hf)
 clear hf hW htb
 have HT := Lib.hid hnew
 clear hnew
 refine (cat_any 9 3 3 _).mono ?_
 rintro e wC ⟨rfl, hf⟩
 have HA := Lib.hid ((hf.block _ (Array.getElem?_eq_some_iff.1 HA.out).1 id).trans HA.out)
 have HB := Lib.hid ((hf.block _ (Array.getElem?_eq_some_iff.1 HB.out).1 id).trans HB.out)
 have HV := Lib.hid (HV.out.later hf)
 have F := Lib.hid (F.out.trans hf)
 try have HT := Lib.hid ((hf.block _ (Array.getElem?_eq_some_iff.1 HT.out).1 id).trans HT.out)
 try have HU := Lib.hid ((hf.block _ (Array.getElem?_eq_some_iff.1 HU.out).1 id).trans HU.out)
 try have HS := Lib.hid (HS.out.later hf)
 clear hf
 simp only [evV]
 go_wp2_with fail
 have HD := Do_told (n := 2) (cap := vc) awake_p2 HV.out rfl (by omega) hvc (by decide)
 simp only [actCV] at HD
 rw [show caC.key.time = 9 from rfl, show caC.key.source = 3 from rfl, show caC.key.seq = 3 from rfl, show caC.to = 1 from rfl, show caC.value = 0 from rfl] at HD
 refine HD.mono ?_
 clear HD
 rintro e w3 ⟨sa, sc, za, zc, rfl, hsc, hs, hz, hf⟩
 simp only [List.length_cons, List.length_nil, Nat.zero_add, Nat.reduceAdd] at hsc
 have HA := Lib.hid ((hf.block _ (Array.getElem?_eq_some_iff.1 HA.out).1 id).trans HA.out)
 have HB := Lib.hid ((hf.block _ (Array.getElem?_eq_some_iff.1 HB.out).1 id).trans HB.out)
 have HV := Lib.hid (HV.out.later hf)
 have F := Lib.hid (F.out.trans hf)
 try have HT := Lib.hid ((hf.block _ (Array.getElem?_eq_some_iff.1 HT.out).1 id).trans HT.out)
 try have HU := Lib.hid ((hf.block _ (Array.getElem?_eq_some_iff.1 HU.out).1 id).trans HU.out)
 try have HS := Lib.hid (HS.out.later hf)
 have HS := Lib.hid hs
 clear hs hz hf
 simp only [List.length_cons, List.length_nil, Nat.zero_add, Nat.reduceAdd]
 obtain ⟨ub, hub⟩ : ∃ b, w3.heap.size = b := ⟨_, rfl⟩
 obtain ⟨W, hW⟩ : ∃ W, w3.alloc (.cells #[.int .i64 4, .slice za 0 zc] 56) = W := ⟨_, rfl⟩
 have hf : Fr0 none' w3 W := by rw [← hW]; exact (Fr0.refl _ _).alloc _
 have hnew : W.heap[ub]? = some (.cells #[.int .i64 4, .slice za 0 zc] 56 (0, 0)) := by rw [← hW, ← hub]; exact World.alloc_heap_new _ _
 have HA := Lib.hid ((hf.block _ (Array.getElem?_eq_some_iff.1 HA.out).1 id).trans HA.out)
 have HB := Lib.hid ((hf.block _ (Array.getElem?_eq_some_iff.1 HB.out).1 id).trans HB.out)
 have HV := Lib.hid (HV.out.later hf)
 have F := Lib.hid (F.out.trans hf)
 try have HT := Lib.hid ((hf.block _ (Array.getElem?_eq_some_iff.1 HT.out).1 id).trans HT.out)
 try have HU := Lib.hid ((hf.block _ (Array.getElem?_eq_some_iff.1 HU.out).1 id).trans HU.out)
 try have HS := Lib.hid (HS.out.later hf)
 have HU := Lib.hid hnew
 clear hnew hf
 have a0 := cells_in HA.out 0
 have a1 := cells_in HA.out 1
 have a2 := cells_in HA.out 2
 have a3 := cells_in HA.out 3
 have a4 := cells_in HA.out 4
 simp at a0 a1 a2 a3 a4
 go_wp2_with fail
 clear a0 a1 a2 a3 a4
 try rw [hub]
 clear hW hub
 obtain ⟨lb, hlb⟩ : ∃ b, W.heap.size = b := ⟨_, rfl⟩
 obtain ⟨V, hV⟩ : ∃ V, W.alloc (.cells #[.int .u8 3, .int .i64 0, .int .i64 0, .int .i64 0, .int .i64 0, .int .i64 0, .int .i64 5, .int .u8 4, .int .i64 5, .int .i64 1, .int .i64 0, .int .i64 1, .int .i64 0, .int .i64 0, .int .u8 2, .int .i64 0, .int .i64 0, .int .i64 0, .int .i64 0, .int .i64 0, .int .i64 0] 33) = V := ⟨_, rfl⟩
 have hf : Fr0 none' W V := by rw [← hV]; exact (Fr0.refl _ _).alloc _
 have hnew : V.heap[lb]? = some (.cells #[.int .u8 3, .int .i64 0, .int .i64 0, .int .i64 0, .int .i64 0, .int .i64 0, .int .i64 5, .int .u8 4, .int .i64 5, .int .i64 1, .int .i64 0, .int .i64 1, .int .i64 0, .int .i64 0, .int .u8 2, .int .i64 0, .int .i64 0, .int .i64 0, .int .i64 0, .int .i64 0, .int .i64 0] 33 (0, 0)) := by rw [← hV, ← hlb]; exact World.alloc_heap_new _ _
 rw [hV]
 try rw [hlb]
 have HA := Lib.hid ((hf.block _ (Array.getElem?_eq_some_iff.1 HA.out).1 id).trans HA.out)
 have HB := Lib.hid ((hf.block _ (Array.getElem?_eq_some_iff.1 HB.out).1 id).trans HB.out)
 have HV := Lib.hid (HV.out.later hf)
 have F := Lib.hid (F.out.trans hf)
 try have HT := Lib.hid ((hf.block _ (Array.getElem?_eq_some_iff.1 HT.out).1 id).trans HT.out)
 try have HU := Lib.hid ((hf.block _ (Array.getElem?_eq_some_iff.1 HU.out).1 id).trans HU.out)
 try have HS := Lib.hid (HS.out.later hf)
 have hcas : CasIn V (some ⟨lb, 0, none⟩) [⟨3, evZ, 5⟩, ⟨4, caA, 0⟩, ⟨2, evZ, 0⟩] := fun i y hy => by
  match i with
  | 0 =>
   obtain rfl : _ = y := by simpa using hy
   exact ⟨_, _, rfl, cells_in hnew 0, cells_in hnew 1, cells_in hnew 2, cells_in hnew 3, cells_in hnew 4, cells_in hnew 5, cells_in hnew 6⟩
  | 1 =>
   obtain rfl : _ = y := by simpa using hy
   exact ⟨_, _, rfl, cells_in hnew 7, cells_in hnew 8, cells_in hnew 9, cells_in hnew 10, cells_in hnew 11, cells_in hnew 12, cells_in hnew 13⟩
  | 2 =>
   obtain rfl : _ = y := by simpa using hy
   exact ⟨_, _, rfl, cells_in hnew 14, cells_in hnew 15, cells_in hnew 16, cells_in hnew 17, cells_in hnew 18, cells_in hnew 19, cells_in hnew 20⟩
  | i + 3 => simp at hy
 have HP := Play_told (n := 2) (cap := vc) (m := 3) (ca := 3) awake_p3 HV.out rfl (by omega) hvc hcas rfl (by omega) (by intro x hx; simp at hx; rcases hx with rfl | rfl | rfl <;> decide)
 refine HP.mono ?_
 clear hnew hf hcas hV hlb HP
 rintro e w4 ⟨pa, pc, ua, uc, ys, rfl, _, hp, hu, hys, hyr, hf⟩
 have HA := Lib.hid ((hf.block _ (Array.getElem?_eq_some_iff.1 HA.out).1 id).trans HA.out)
 have HB := Lib.hid ((hf.block _ (Array.getElem?_eq_some_iff.1 HB.out).1 id).trans HB.out)
 have HV := Lib.hid (HV.out.later hf)
 have F := Lib.hid (F.out.trans hf)
 try have HT := Lib.hid ((hf.block _ (Array.getElem?_eq_some_iff.1 HT.out).1 id).trans HT.out)
 try have HU := Lib.hid ((hf.block _ (Array.getElem?_eq_some_iff.1 HU.out).1 id).trans HU.out)
 try have HS := Lib.hid (HS.out.later hf)
 obtain ⟨y0, y1, y2, rfl⟩ := three_of hys
 simp only [List.map_cons, List.map_nil, List.cons.injEq, and_true] at hys
 obtain ⟨t0, t1, t2⟩ := hys
 obtain ⟨m0, n0⟩ := hyr y0 (by simp)
 obtain ⟨m1, n1⟩ := hyr y1 (by simp)
 obtain ⟨m2, n2⟩ := hyr y2 (by simp)
 obtain ⟨e0, a0, k0, c0, v0⟩ := y0
 obtain ⟨e1, a1, k1, c1, v1⟩ := y1
 obtain ⟨e2, a2, k2, c2, v2⟩ := y2
 simp only [Td.tl, Tl.mk.injEq] at t0 t1 t2
 obtain ⟨rfl, rfl⟩ := t0
 obtain ⟨rfl, rfl⟩ := t1
 obtain ⟨rfl, rfl⟩ := t2
 simp only [List.length_cons, List.length_nil, Nat.zero_add] at n0 n1 n2
 subst n0 n1 n2
 simp only at m0 m1 m2
 have HM0 := Lib.hid m0
 have HM1 := Lib.hid m1
 have HTD := Lib.hid hu
 clear hf hyr hp m0 m1 m2 hu
 simp only [List.length_cons, List.length_nil, Nat.zero_add, Nat.reduceAdd]
 go_wp2_with fail
 refine (Count_any (n := 2) (cap := vc) (f := 3) (t := 5) [caB, caA] HV.out rfl (by omega)).mono ?_
 rw [awake_c]
 rintro e w5 ⟨rfl, hf⟩
 have HA := Lib.hid ((hf.block _ (Array.getElem?_eq_some_iff.1 HA.out).1 id).trans HA.out)
 have HB := Lib.hid ((hf.block _ (Array.getElem?_eq_some_iff.1 HB.out).1 id).trans HB.out)
 have HV := Lib.hid (HV.out.later hf)
 have F := Lib.hid (F.out.trans hf)
 try have HT := Lib.hid ((hf.block _ (Array.getElem?_eq_some_iff.1 HT.out).1 id).trans HT.out)
 try have HU := Lib.hid ((hf.block _ (Array.getElem?_eq_some_iff.1 HU.out).1 id).trans HU.out)
 try have HS := Lib.hid (HS.out.later hf)
 have HM0 := Lib.hid (HM0.out.later hf)
 have HM1 := Lib.hid (HM1.out.later hf)
 have HTD := Lib.hid (HTD.out.later hf)
 clear hf
 go_wp2_with fail
 refine (Times_any (n := 2) (cap := vc) [caB, caA] HV.out rfl (by omega)).mono ?_
 rw [if_pos (by decide), if_pos (by decide), if_pos (by decide), awake_t]
 rintro e w6 ⟨v, rfl, ht, hf⟩
 have HA := Lib.hid ((hf.block _ (Array.getElem?_eq_some_iff.1 HA.out).1 id).trans HA.out)
 have HB := Lib.hid ((hf.block _ (Array.getElem?_eq_some_iff.1 HB.out).1 id).trans HB.out)
 have HV := Lib.hid (HV.out.later hf)
 have F := Lib.hid (F.out.trans hf)
 try have HT := Lib.hid ((hf.block _ (Array.getElem?_eq_some_iff.1 HT.out).1 id).trans HT.out)
 try have HU := Lib.hid ((hf.block _ (Array.getElem?_eq_some_iff.1 HU.out).1 id).trans HU.out)
 try have HS := Lib.hid (HS.out.later hf)
 have HM0 := Lib.hid (HM0.out.later hf)
 have HM1 := Lib.hid (HM1.out.later hf)
 have HTD := Lib.hid (HTD.out.later hf)
 have HTI := Lib.hid ht
 clear hf ht
 go_wp2_with fail
 obtain ⟨g, o, rfl, d0⟩ := HTD.out 0 _ rfl
 obtain ⟨_, _, hg1, d1⟩ := HTD.out 1 _ rfl
 injection hg1 with hg1
 injection hg1 with hg1 ho1
 subst hg1 ho1
 obtain ⟨_, _, hg2, d2⟩ := HTD.out 2 _ rfl
 injection hg2 with hg2
 injection hg2 with hg2 ho2
 subst hg2 ho2
 obtain ⟨_, d0⟩ := d0
 obtain ⟨_, d1⟩ := d1
 obtain ⟨d2, _⟩ := d2
 simp only [Nat.zero_mul, Nat.add_zero, Nat.one_mul, Nat.reduceMul] at d0 d1 d2
 have z0 := cells_in HA.out 0
 have z1 := cells_in HA.out 1
 have z2 := cells_in HA.out 2
 have z3 := cells_in HA.out 3
 have z4 := cells_in HA.out 4
 have y0 := cells_in HB.out 0
 have y1 := cells_in HB.out 1
 have y2 := cells_in HB.out 2
 have y3 := cells_in HB.out 3
 have y4 := cells_in HB.out 4
 have t0 := cells_in HT.out 0
 have u0 := cells_in HU.out 0
 simp at z0 z1 z2 z3 z4 y0 y1 y2 y3 y4 t0 u0
 have HZ := Lib.hid (fun (W' : World) (hf : Fr0 none' w6 W') => And.intro (hf.later z0) <| And.intro (hf.later z1) <| And.intro (hf.later z2) <| And.intro (hf.later z3) <| And.intro (hf.later z4) <| And.intro (hf.later y0) <| And.intro (hf.later y1) <| And.intro (hf.later y2) <| And.intro (hf.later y3) <| And.intro (hf.later y4) <| And.intro (hf.later t0) <| And.intro (hf.later u0) <| And.intro (hf.later d0) <| And.intro (hf.later d1) (hf.later d2))
 clear z0 z1 z2 z3 z4 y0 y1 y2 y3 y4 t0 u0 d0 d1 d2
 obtain ⟨ti, tc, rfl, _, hti⟩ := IsIn.of_own HTI.out
 have HTX := Lib.hid hti
 clear hti
 refine wp_region_held_drew (S := fun W' => Fr0 none' w6 W') (by kernel_rfl) ((Fr0.refl none' w6).drew) (fun hHeld => ?_)
 generalize w6.drew = WD at hHeld ⊢
 refine tk0 (i := 0) (v := .int .i64 0) ?_
 try simp only[pUt,pUn,sEt,sEz,sEs]
 refine tk0 (i := 1) (v := .int .i64 0) ?_
 try simp only[pUt,pUn,sEt,sEz,sEs]
 refine tk0 (i := 2) (v := .int .i64 0) ?_
 try simp only[pUt,pUn,sEt,sEz,sEs]
 refine tk0 (i := 3) (v := .int .i64 0) ?_
 try simp only[pUt,pUn,sEt,sEz,sEs]
 refine tk0 (i := 4) (v := .int .i64 0) ?_
 try simp only[pUt,pUn,sEt,sEz,sEs]
 refine tk0 (i := 5) (v := .int .i64 0) ?_
 try simp only[pUt,pUn,sEt,sEz,sEs]
 refine tk0 (i := 6) (v := .int .i64 0) ?_
 try simp only[pUt,pUn,sEt,sEz,sEs]
 refine tk0 (i := 7) (v := .int .i64 0) ?_
 try simp only[pUt,pUn,sEt,sEz,sEs]
 refine tk0 (i := 8) (v := .int .i64 0) ?_
 try simp only[pUt,pUn,sEt,sEz,sEs]
 refine tk0 (i := 9) (v := .bool true) ?_
 try simp only[pUt,pUn,sEt,sEz,sEs]
 refine tk0 (i := 10) (v := .bool true) ?_
 try simp only[pUt,pUn,sEt,sEz,sEs]
 refine tk0 (i := 11) (v := .slice va 2 vc) ?_
 try simp only[pUt,pUn,sEt,sEz,sEs]
 refine tkn (i := 12) (v := .agg #[.int .i64 3, .int .i64 2, .int .i64 0, .int .i64 1, .int .i64 0]) (fun W' hSW => ?_) ?_
 ·obtain ⟨z0, z1, z2, z3, z4, y0, y1, y2, y3, y4, t0, u0, d0, d1, d2⟩ := HZ.out W' hSW
  first|go_simp;done|exact rfl|go_simp;rfl|go_simp;omega
 try simp only[pUt,pUn,sEt,sEz,sEs]
 refine tkn (i := 13) (v := .agg #[.int .i64 5, .int .i64 1, .int .i64 0, .int .i64 1, .int .i64 0]) (fun W' hSW => ?_) ?_
 ·obtain ⟨z0, z1, z2, z3, z4, y0, y1, y2, y3, y4, t0, u0, d0, d1, d2⟩ := HZ.out W' hSW
  first|go_simp;done|exact rfl|go_simp;rfl|go_simp;omega
 try simp only[pUt,pUn,sEt,sEz,sEs]
 refine take_call (i := 14) rfl (by kernel_rfl) (by kernel_rfl) (fun K hK => ?_)
 go_simp
 obtain ⟨nb, hnb⟩ : ∃ b, WD.heap.size = b := ⟨_, rfl⟩
 obtain ⟨W2, hW2⟩ : ∃ W2, WD.alloc (.cells #[.int .i64 3, .int .i64 2, .int .i64 0, .int .i64 1, .int .i64 0, .int .i64 5, .int .i64 1, .int .i64 0, .int .i64 1, .int .i64 0] 30) = W2 := ⟨_, rfl⟩
 have hn2 : W2.heap[nb]? = some (.cells #[.int .i64 3, .int .i64 2, .int .i64 0, .int .i64 1, .int .i64 0, .int .i64 5, .int .i64 1, .int .i64 0, .int .i64 1, .int .i64 0] 30 (0, 0)) := by rw [← hW2, ← hnb]; exact World.alloc_heap_new _ _
 have F2 := Lib.hid (hHeld.trans (show Fr0 none' WD W2 by rw [← hW2]; exact (Fr0.refl _ _).alloc _))
 rw [hW2]
 try rw [hnb]
 clear hW2 hnb
 refine hK.out _ _ F2.out (fun hHeld => ?_)
 clear hK K
 try simp only[pUt,pUn,sEt,sEz,sEs]
 refine take_call (i := 15) rfl (by kernel_rfl) (by kernel_rfl) (fun K hK => ?_)
 go_simp
 have HSM := Same_any va (some ⟨nb, 0, none⟩) 2 2 vc 2 [caB, caA] [caB, caA] W2 rfl rfl (by omega) (by omega) (HV.out.later hHeld) (EsIn.of_cells (n := 2) hn2 (by simp [flatEv, cev, caA, caB]))
 rw [show decide (([caB, caA] : List Ev) = [caB, caA]) = true by decide] at HSM
 refine HSM.mono ?_
 clear HSM
 rintro e WD ⟨rfl, hfA⟩
 have FA := Lib.hid (hHeld.trans hfA)
 clear hfA
 go_wp2_with fail
 refine hK.out _ _ FA.out (fun hHeld => ?_)
 clear hK K
 try simp only[pUt,pUn,sEt,sEz,sEs]
 refine tk0 (i := 16) (v := .bool true) ?_
 try simp only[pUt,pUn,sEt,sEz,sEs]
 refine tk0 (i := 17) (v := .bool true) ?_
 try simp only[pUt,pUn,sEt,sEz,sEs]
 refine tkn (i := 18) (v := .pointer (some ⟨tb, 0, none⟩)) (fun W' hSW => ?_) ?_
 ·obtain ⟨z0, z1, z2, z3, z4, y0, y1, y2, y3, y4, t0, u0, d0, d1, d2⟩ := HZ.out W' hSW
  first|go_simp;done|exact rfl|go_simp;rfl|go_simp;omega
 try simp only[pUt,pUn,sEt,sEz,sEs]
 refine tkn (i := 19) (v := .int .i64 0) (fun W' hSW => ?_) ?_
 ·obtain ⟨z0, z1, z2, z3, z4, y0, y1, y2, y3, y4, t0, u0, d0, d1, d2⟩ := HZ.out W' hSW
  first|go_simp;done|exact rfl|go_simp;rfl|go_simp;omega
 try simp only[pUt,pUn,sEt,sEz,sEs]
 refine tk0 (i := 20) (v := .bool true) ?_
 try simp only[pUt,pUn,sEt,sEz,sEs]
 refine tk0 (i := 21) (v := .bool true) ?_
 try simp only[pUt,pUn,sEt,sEz,sEs]
 refine tk0 (i := 22) (v := .bool true) ?_
 try simp only[pUt,pUn,sEt,sEz,sEs]
 refine tkn (i := 23) (v := .pointer (some ⟨ub, 0, none⟩)) (fun W' hSW => ?_) ?_
 ·obtain ⟨z0, z1, z2, z3, z4, y0, y1, y2, y3, y4, t0, u0, d0, d1, d2⟩ := HZ.out W' hSW
  first|go_simp;done|exact rfl|go_simp;rfl|go_simp;omega
 try simp only[pUt,pUn,sEt,sEz,sEs]
 refine tkn (i := 24) (v := .int .i64 4) (fun W' hSW => ?_) ?_
 ·obtain ⟨z0, z1, z2, z3, z4, y0, y1, y2, y3, y4, t0, u0, d0, d1, d2⟩ := HZ.out W' hSW
  first|go_simp;done|exact rfl|go_simp;rfl|go_simp;omega
 try simp only[pUt,pUn,sEt,sEz,sEs]
 refine tk0 (i := 25) (v := .bool true) ?_
 try simp only[pUt,pUn,sEt,sEz,sEs]
 refine tk0 (i := 26) (v := .bool true) ?_
 try simp only[pUt,pUn,sEt,sEz,sEs]
 refine tk0 (i := 27) (v := .bool true) ?_
 try simp only[pUt,pUn,sEt,sEz,sEs]
 refine tk0 (i := 28) (v := .slice sa 2 sc) ?_
 try simp only[pUt,pUn,sEt,sEz,sEs]
 refine tk0 (i := 29) (v := .slice va 2 vc) ?_
 try simp only[pUt,pUn,sEt,sEz,sEs]
 refine take_call (i := 30) rfl (by kernel_rfl) (by kernel_rfl) (fun K hK => ?_)
 go_simp
 have HSM := Same_any sa va 2 2 sc vc [caB, caA] [caB, caA] WD rfl rfl (by omega) (by omega) (HS.out.later hHeld) (HV.out.later hHeld)
 rw [show decide (([caB, caA] : List Ev) = [caB, caA]) = true by decide] at HSM
 refine HSM.mono ?_
 clear HSM
 rintro e WD ⟨rfl, hfA⟩
 have FA := Lib.hid (hHeld.trans hfA)
 clear hfA
 go_wp2_with fail
 refine hK.out _ _ FA.out (fun hHeld => ?_)
 clear hK K
 try simp only[pUt,pUn,sEt,sEz,sEs]
 refine tk0 (i := 31) (v := .bool true) ?_
 try simp only[pUt,pUn,sEt,sEz,sEs]
 refine tk0 (i := 32) (v := .bool true) ?_
 try simp only[pUt,pUn,sEt,sEz,sEs]
 refine tk0 (i := 33) (v := .slice pa 0 pc) ?_
 try simp only[pUt,pUn,sEt,sEz,sEs]
 refine tk0 (i := 34) (v := .int .i64 0) ?_
 try simp only[pUt,pUn,sEt,sEz,sEs]
 refine tk0 (i := 35) (v := .bool true) ?_
 try simp only[pUt,pUn,sEt,sEz,sEs]
 refine tk0 (i := 36) (v := .bool true) ?_
 try simp only[pUt,pUn,sEt,sEz,sEs]
 refine tk0 (i := 37) (v := .bool true) ?_
 try simp only[pUt,pUn,sEt,sEz,sEs]
 refine tk0 (i := 38) (v := .int .i64 (-1)) ?_
 try simp only[pUt,pUn,sEt,sEz,sEs]
 refine tk0 (i := 39) (v := .bool true) ?_
 try simp only[pUt,pUn,sEt,sEz,sEs]
 refine tk0 (i := 40) (v := .bool true) ?_
 try simp only[pUt,pUn,sEt,sEz,sEs]
 refine tk0 (i := 41) (v := .bool true) ?_
 try simp only[pUt,pUn,sEt,sEz,sEs]
 refine tk0 (i := 42) (v := .slice (some ⟨g, o, none⟩) 3 uc) ?_
 try simp only[pUt,pUn,sEt,sEz,sEs]
 refine tk0 (i := 43) (v := .int .i64 3) ?_
 try simp only[pUt,pUn,sEt,sEz,sEs]
 refine tk0 (i := 44) (v := .bool true) ?_
 try simp only[pUt,pUn,sEt,sEz,sEs]
 refine tk0 (i := 45) (v := .bool true) ?_
 try simp only[pUt,pUn,sEt,sEz,sEs]
 refine tk0 (i := 46) (v := .bool true) ?_
 try simp only[pUt,pUn,sEt,sEz,sEs]
 refine tk0 (i := 47) (v := .slice (some ⟨g, o, none⟩) 3 uc) ?_
 try simp only[pUt,pUn,sEt,sEz,sEs]
 refine tk0 (i := 48) (v := .pointer (some ⟨g, o, none⟩)) ?_
 try simp only[pUt,pUn,sEt,sEz,sEs]
 refine tk0 (i := 49) (v := .pointer (some ⟨g, o + 1, none⟩)) ?_
 try simp only[pUt,pUn,sEt,sEz,sEs]
 refine tkn (i := 50) (v := .slice a0 1 c0) (fun W' hSW => ?_) ?_
 ·obtain ⟨z0, z1, z2, z3, z4, y0, y1, y2, y3, y4, t0, u0, d0, d1, d2⟩ := HZ.out W' hSW
  first|go_simp;done|exact rfl|go_simp;rfl|go_simp;omega
 try simp only[pUt,pUn,sEt,sEz,sEs]
 refine tkn (i := 51) (v := .agg #[.int .i64 3, .int .i64 2, .int .i64 0, .int .i64 1, .int .i64 0]) (fun W' hSW => ?_) ?_
 ·obtain ⟨z0, z1, z2, z3, z4, y0, y1, y2, y3, y4, t0, u0, d0, d1, d2⟩ := HZ.out W' hSW
  first|go_simp;done|exact rfl|go_simp;rfl|go_simp;omega
 try simp only[pUt,pUn,sEt,sEz,sEs]
 refine take_call (i := 52) rfl (by kernel_rfl) (by kernel_rfl) (fun K hK => ?_)
 go_simp
 obtain ⟨nb, hnb⟩ : ∃ b, WD.heap.size = b := ⟨_, rfl⟩
 obtain ⟨W2, hW2⟩ : ∃ W2, WD.alloc (.cells #[.int .i64 3, .int .i64 2, .int .i64 0, .int .i64 1, .int .i64 0] 30) = W2 := ⟨_, rfl⟩
 have hn2 : W2.heap[nb]? = some (.cells #[.int .i64 3, .int .i64 2, .int .i64 0, .int .i64 1, .int .i64 0] 30 (0, 0)) := by rw [← hW2, ← hnb]; exact World.alloc_heap_new _ _
 have F2 := Lib.hid (hHeld.trans (show Fr0 none' WD W2 by rw [← hW2]; exact (Fr0.refl _ _).alloc _))
 rw [hW2]
 try rw [hnb]
 clear hW2 hnb
 refine hK.out _ _ F2.out (fun hHeld => ?_)
 clear hK K
 try simp only[pUt,pUn,sEt,sEz,sEs]
 refine take_call (i := 53) rfl (by kernel_rfl) (by kernel_rfl) (fun K hK => ?_)
 go_simp
 have HSM := Same_any a0 (some ⟨nb, 0, none⟩) 1 1 c0 1 [caB] [caB] W2 rfl rfl (by omega) (by omega) (HM0.out.later hHeld) (EsIn.of_cells (n := 1) hn2 (by simp [flatEv, cev, caB]))
 rw [show decide (([caB] : List Ev) = [caB]) = true by decide] at HSM
 refine HSM.mono ?_
 clear HSM
 rintro e WD ⟨rfl, hfA⟩
 have FA := Lib.hid (hHeld.trans hfA)
 clear hfA
 go_wp2_with fail
 refine hK.out _ _ FA.out (fun hHeld => ?_)
 clear hK K
 try simp only[pUt,pUn,sEt,sEz,sEs]
 refine tk0 (i := 54) (v := .bool true) ?_
 try simp only[pUt,pUn,sEt,sEz,sEs]
 refine tk0 (i := 55) (v := .bool true) ?_
 try simp only[pUt,pUn,sEt,sEz,sEs]
 refine tk0 (i := 56) (v := .slice (some ⟨g, o, none⟩) 3 uc) ?_
 try simp only[pUt,pUn,sEt,sEz,sEs]
 refine tk0 (i := 57) (v := .pointer (some ⟨g, o + 2, none⟩)) ?_
 try simp only[pUt,pUn,sEt,sEz,sEs]
 refine tk0 (i := 58) (v := .pointer (some ⟨g, o + 2 + 1, none⟩)) ?_
 try simp only[pUt,pUn,sEt,sEz,sEs]
 refine tkn (i := 59) (v := .slice a1 1 c1) (fun W' hSW => ?_) ?_
 ·obtain ⟨z0, z1, z2, z3, z4, y0, y1, y2, y3, y4, t0, u0, d0, d1, d2⟩ := HZ.out W' hSW
  first|go_simp;done|exact rfl|go_simp;rfl|go_simp;omega
 try simp only[pUt,pUn,sEt,sEz,sEs]
 refine tkn (i := 60) (v := .agg #[.int .i64 5, .int .i64 1, .int .i64 0, .int .i64 1, .int .i64 0]) (fun W' hSW => ?_) ?_
 ·obtain ⟨z0, z1, z2, z3, z4, y0, y1, y2, y3, y4, t0, u0, d0, d1, d2⟩ := HZ.out W' hSW
  first|go_simp;done|exact rfl|go_simp;rfl|go_simp;omega
 try simp only[pUt,pUn,sEt,sEz,sEs]
 refine take_call (i := 61) rfl (by kernel_rfl) (by kernel_rfl) (fun K hK => ?_)
 go_simp
 obtain ⟨nb, hnb⟩ : ∃ b, WD.heap.size = b := ⟨_, rfl⟩
 obtain ⟨W2, hW2⟩ : ∃ W2, WD.alloc (.cells #[.int .i64 5, .int .i64 1, .int .i64 0, .int .i64 1, .int .i64 0] 30) = W2 := ⟨_, rfl⟩
 have hn2 : W2.heap[nb]? = some (.cells #[.int .i64 5, .int .i64 1, .int .i64 0, .int .i64 1, .int .i64 0] 30 (0, 0)) := by rw [← hW2, ← hnb]; exact World.alloc_heap_new _ _
 have F2 := Lib.hid (hHeld.trans (show Fr0 none' WD W2 by rw [← hW2]; exact (Fr0.refl _ _).alloc _))
 rw [hW2]
 try rw [hnb]
 clear hW2 hnb
 refine hK.out _ _ F2.out (fun hHeld => ?_)
 clear hK K
 try simp only[pUt,pUn,sEt,sEz,sEs]
 refine take_call (i := 62) rfl (by kernel_rfl) (by kernel_rfl) (fun K hK => ?_)
 go_simp
 have HSM := Same_any a1 (some ⟨nb, 0, none⟩) 1 1 c1 1 [caA] [caA] W2 rfl rfl (by omega) (by omega) (HM1.out.later hHeld) (EsIn.of_cells (n := 1) hn2 (by simp [flatEv, cev, caA]))
 rw [show decide (([caA] : List Ev) = [caA]) = true by decide] at HSM
 refine HSM.mono ?_
 clear HSM
 rintro e WD ⟨rfl, hfA⟩
 have FA := Lib.hid (hHeld.trans hfA)
 clear hfA
 go_wp2_with fail
 refine hK.out _ _ FA.out (fun hHeld => ?_)
 clear hK K
 try simp only[pUt,pUn,sEt,sEz,sEs]
 refine tk0 (i := 63) (v := .bool true) ?_
 try simp only[pUt,pUn,sEt,sEz,sEs]
 refine tk0 (i := 64) (v := .bool true) ?_
 try simp only[pUt,pUn,sEt,sEz,sEs]
 refine tk0 (i := 65) (v := .slice (some ⟨g, o, none⟩) 3 uc) ?_
 try simp only[pUt,pUn,sEt,sEz,sEs]
 refine tk0 (i := 66) (v := .pointer (some ⟨g, o + 4, none⟩)) ?_
 try simp only[pUt,pUn,sEt,sEz,sEs]
 refine tk0 (i := 67) (v := .pointer (some ⟨g, o + 4, none⟩)) ?_
 try simp only[pUt,pUn,sEt,sEz,sEs]
 refine tkn (i := 68) (v := .int .i64 6) (fun W' hSW => ?_) ?_
 ·obtain ⟨z0, z1, z2, z3, z4, y0, y1, y2, y3, y4, t0, u0, d0, d1, d2⟩ := HZ.out W' hSW
  first|go_simp;done|exact rfl|go_simp;rfl|go_simp;omega
 try simp only[pUt,pUn,sEt,sEz,sEs]
 refine tk0 (i := 69) (v := .bool true) ?_
 try simp only[pUt,pUn,sEt,sEz,sEs]
 refine tk0 (i := 70) (v := .bool true) ?_
 try simp only[pUt,pUn,sEt,sEz,sEs]
 refine tk0 (i := 71) (v := .bool true) ?_
 try simp only[pUt,pUn,sEt,sEz,sEs]
 refine tk0 (i := 72) (v := .int .i64 1) ?_
 try simp only[pUt,pUn,sEt,sEz,sEs]
 refine tk0 (i := 73) (v := .bool true) ?_
 try simp only[pUt,pUn,sEt,sEz,sEs]
 refine tk0 (i := 74) (v := .bool true) ?_
 try simp only[pUt,pUn,sEt,sEz,sEs]
 refine tk0 (i := 75) (v := .bool true) ?_
 try simp only[pUt,pUn,sEt,sEz,sEs]
 refine tk0 (i := 76) (v := .slice ti 2 tc) ?_
 try simp only[pUt,pUn,sEt,sEz,sEs]
 refine take_call (i := 77) rfl (by kernel_rfl) (by kernel_rfl) (fun K hK => ?_)
 go_simp
 obtain ⟨nb, hnb⟩ : ∃ b, WD.heap.size = b := ⟨_, rfl⟩
 obtain ⟨W2, hW2⟩ : ∃ W2, WD.alloc (.cells #[.int .i64 3, .int .i64 5] 3) = W2 := ⟨_, rfl⟩
 have hn2 : W2.heap[nb]? = some (.cells #[.int .i64 3, .int .i64 5] 3 (0, 0)) := by rw [← hW2, ← hnb]; exact World.alloc_heap_new _ _
 have F2 := Lib.hid (hHeld.trans (show Fr0 none' WD W2 by rw [← hW2]; exact (Fr0.refl _ _).alloc _))
 rw [hW2]
 try rw [hnb]
 clear hW2 hnb
 refine hK.out _ _ F2.out (fun hHeld => ?_)
 clear hK K
 try simp only[pUt,pUn,sEt,sEz,sEs]
 have hii : IsIn W2 (some ⟨nb, 0, none⟩) [3, 5] := fun i x hx => by
  match i with
  | 0 =>
   obtain rfl : _ = x := by simpa using hx
   exact ⟨_, _, rfl, cells_in hn2 0⟩
  | 1 =>
   obtain rfl : _ = x := by simpa using hx
   exact ⟨_, _, rfl, cells_in hn2 1⟩
  | i + 2 => simp at hx
 refine take_call (i := 78) rfl (by kernel_rfl) (by kernel_rfl) (fun K hK => ?_)
 go_simp
 have HSM := sameIs_any ti (some ⟨nb, 0, none⟩) 2 2 tc 2 [3, 5] [3, 5] W2 rfl rfl (by omega) (by omega) (HTX.out.later hHeld) hii
 rw [show decide (([3, 5] : List Int) = [3, 5]) = true by decide] at HSM
 refine HSM.mono ?_
 clear HSM
 rintro e WD ⟨rfl, hfA⟩
 have FA := Lib.hid (hHeld.trans hfA)
 clear hfA
 go_wp2_with fail
 refine hK.out _ _ FA.out (fun hHeld => ?_)
 clear hK K
 try simp only[pUt,pUn,sEt,sEz,sEs]
 refine tk0 (i := 79) (v := .bool true) ?_
 try simp only[pUt,pUn,sEt,sEz,sEs]
 refine tk0 (i := 80) (v := .bool true) ?_
 try simp only[pUt,pUn,sEt,sEz,sEs]
 refine wpAnyH_done (by kernel_rfl) ?_ _
 have FE := Lib.hid (F.out.trans hHeld)
 clear hHeld
 go_wp2_with fail
 go_ret
 exact ⟨rfl, FE.out⟩
/-
  Acts of small numbers.
-/

/-
  Acts.
-/

def flatCa (L : List Ca) : List Value := L.flatMap fun a => [.int .u8 a.kind, .int .i64 a.x.key.time, .int .i64 a.x.key.source, .int .i64 a.x.key.seq, .int .i64 a.x.to, .int .i64 a.x.value, .int .i64 a.time]
theorem flatCa_snoc (L : List Ca) (a : Ca) : flatCa (L ++ [a]) = flatCa L ++ [.int .u8 a.kind, .int .i64 a.x.key.time, .int .i64 a.x.key.source, .int .i64 a.x.key.seq, .int .i64 a.x.to, .int .i64 a.x.value, .int .i64 a.time] := by simp [flatCa]
theorem info_act0 : (Tryz.prog.info? 33).map (fun i => (i.zero, i.size, i.bytes)) = some (some (.agg #[.int .u8 0, .int .i64 0, .int .i64 0, .int .i64 0, .int .i64 0, .int .i64 0, .int .i64 0]), 7, 56) := by kernel_rfl
/-
  alike: what acts told, compared.
-/

theorem tl_eq (x y : Td) : decide (x.tl = y.tl) = ((x.err == y.err) && decide (x.evs = y.evs)) := by
 unfold Td.tl
 rw [Bool.eq_iff_iff]
 simp
/-- What was told, its events in memory. -/
def TdEv (w : World) (xs : List Td) : Prop := ∀ x ∈ xs, EsIn w x.sa x.evs ∧ x.evs.length = x.sn ∧ x.sn ≤ 10000
theorem TdEv.later {w w' : World} {xs : List Td} (h : TdEv w xs) (hf : Fr0 none' w w') : TdEv w' xs := fun x hx => ⟨(h x hx).1.later hf, (h x hx).2⟩
end Go.Proofs.YtieeloealklkgaaGreat

/-
  A row of acts, read.
-/
namespace Go.Proofs.YtieeloealklkgaaGreat
open Go Go.RowKit

def caL (a : Ca) : List Value := [.int .u8 a.kind, .int .i64 a.x.key.time, .int .i64 a.x.key.source, .int .i64 a.x.key.seq, .int .i64 a.x.to, .int .i64 a.x.value, .int .i64 a.time]
theorem caL_len : ∀ a : Ca, (caL a).length = 7 := fun _ => rfl
theorem flatCa_length (L : List Ca) : (flatCa L).length = L.length * 7 := by
 induction L with
 | nil => rfl
 | cons x r ih =>
  have e : flatCa (x :: r) = caL x ++ flatCa r := rfl
  rw [e, List.length_append, ih, caL_len, List.length_cons]; omega
theorem CasIn.of_flat {w : World} {g o : Nat} {L : List Ca} (h : ∀ j u, (flatCa L)[j]? = some u → w.cell? ⟨g, o + j, none⟩ = some u) : CasIn w (some ⟨g, o, none⟩) L := fun i x hx => by
 refine ⟨g, o, rfl, ?_, ?_, ?_, ?_, ?_, ?_, ?_⟩
 ·exact h (i * 7) _ (flat_some caL_len hx (j := 0) (by omega) rfl)
 ·rw [Nat.add_assoc]; exact h (i * 7 + 1) _ (flat_some caL_len hx (j := 1) (by omega) rfl)
 ·rw [Nat.add_assoc]; exact h (i * 7 + 2) _ (flat_some caL_len hx (j := 2) (by omega) rfl)
 ·rw [Nat.add_assoc]; exact h (i * 7 + 3) _ (flat_some caL_len hx (j := 3) (by omega) rfl)
 ·rw [Nat.add_assoc]; exact h (i * 7 + 4) _ (flat_some caL_len hx (j := 4) (by omega) rfl)
 ·rw [Nat.add_assoc]; exact h (i * 7 + 5) _ (flat_some caL_len hx (j := 5) (by omega) rfl)
 ·rw [Nat.add_assoc]; exact h (i * 7 + 6) _ (flat_some caL_len hx (j := 6) (by omega) rfl)
theorem CasIn.of_own {w : World} {base : Nat} {v : Value} {n : Nat} {L : List Ca} (h : w.ownsRow base 33 7 v n (flatCa L)) : ∃ a cap, v = .slice a n cap ∧ L.length = n ∧ n ≤ cap ∧ CasIn w a L := by
 have hl : L.length = n := by have := h.1; rw [flatCa_length] at this; omega
 rcases h.2 with ⟨rfl, h0⟩ | ⟨g, cap, cur, rfl, hb, hg, hn', hcm, hs, ht⟩
 ·have : L = [] := List.eq_nil_of_length_eq_zero (by omega)
  subst this
  exact ⟨none, 0, by rw [h0], hl, by omega, fun i x h => by simp at h⟩
 ·exact ⟨_, cap, rfl, hl, hn', CasIn.of_flat (fun j u hj => by
   rw [Nat.zero_add, cells_in hg, ← Array.getElem?_toList]
   rw [← ht, List.getElem?_take] at hj
   split at hj
   ·exact hj
   ·cases hj)⟩
theorem CasIn.take {w : World} {a : Option Addr} {L : List Ca} (h : CasIn w a L) (i : Nat) : CasIn w a (L.take i) := fun j x hx => by
 rw [List.getElem?_take] at hx
 split at hx
 ·exact h j x hx
 ·cases hx
end Go.Proofs.YtieeloealklkgaaGreat
