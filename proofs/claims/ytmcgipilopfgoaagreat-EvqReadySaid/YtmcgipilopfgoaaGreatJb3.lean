/-
  The queue of events: what each function of the package does, and what the laws make of it.
-/
import Derived.Test.YtmcgipilopfgoaaGreatJb2
import Derived.Test.YtmcgipilopfgoaaGreatShelf
import Derived.Lib.OwnBridge
import Derived.Test.YtmcgipilopfgoaaGreatJa1
set_option linter.unusedSimpArgs false
set_option linter.unusedVariables false

/-
  The queue: TakeBefore, Clear.
-/
namespace Go.Proofs.YtmcgipilopfgoaaGreat
open Go Go.RowKit Go.ChangeMaps
attribute [local go_sem ↓] Go.wp_at_zero Go.wp_at_succ
attribute [local go_sem] Oper.semAt_some wide_fn wide_depth wide_fnR wide_depthR
variable {w w' : World} {qb n T : Nat} {E : List Ev} {ft : Nat → Prop}

set_option maxRecDepth 100000 in
set_option maxHeartbeats 2000000 in
theorem QIs.clear (h : QIs w qb n T E ft) (hT : T < 4294967296) :
    Calls Tryz.prog 30 #[.pointer (some ⟨qb, 0, none⟩)] w fun e w' => e = .returned (.tuple #[.int .i64 (E.length : Nat), .int .i64 0]) ∧ QIs w' qb n T [] (qgrow ft w w') ∧ Fr0 ft w w' := by
  have H := Lib.hid h
  obtain ⟨m, hm⟩ : ∃ m, E.length = m := ⟨_, rfl⟩
  have HL := Lib.hid h.len
  rw [hm] at HL ⊢
  have Hm := Lib.hid hm
  have hm' : m ≤ 256 := by have := h.le; omega
  clear h hm
  go_enter Tryz.func30, Tryz.ntmps30
  go_wp2_with fail
  refine H.out.isnt.mono ?_
  rintro e w1 ⟨rfl, rfl⟩
  go_wp2_with fail
  refine HL.out.mono ?_
  rintro e w1 ⟨rfl, rfl⟩
  go_wp2_with fail
  go_loopw [10] (fun i wr => ∃ k : Nat, k ≤ m ∧ i = .int .i64 k ∧ Hid (QIs wr qb n T (E.drop k) (qgrow ft w wr)) ∧ Hid (Fr0 ft w wr)) (fun i _ => m - (Go.RowKit.intOf i).toNat)
  case atStart => exact ⟨0, Nat.zero_le _, rfl, qgrow_refl H.out, Fr0.refl _ _⟩
  case round =>
    obtain ⟨k, hk, rfl, hq, hfr⟩ := hrel
    by_cases hlt : k < m
    · have k1 : (0 : Int) ≤ (k : Int) := by omega
      have k2 : (k : Int) < (m : Int) := by omega
      go_wp2_with fail
      refine (hq.out.take hT).mono ?_
      rintro e w5 ⟨rfl, hq5, hf5⟩
      rw [List.tail_drop] at hq5
      have hq5 := Lib.hid (hq5.then hfr.out.size hf5.size H.out.lt)
      have hf5 := Lib.hid (fr_grow hfr.out hf5)
      go_wp2_with fail
      go_roundw
      case rel => exact ⟨k + 1, by omega, by go_num, hq5, hf5⟩
      case measure => simp [Go.RowKit.intOf]; omega
    · have hkm : k = m := by omega
      subst hkm
      rw [List.drop_of_length_le (by rw [Hm.out]; exact Nat.le_refl _)] at hq
      go_wp2
      go_ret2
      exact ⟨rfl, hq.out, hfr.out⟩
theorem bef_cut {t : Int} {E : List Ev} {k : Nat} (h : AscE E) (h1 : ∀ y ∈ E.take k, y.key.time < t) (h2 : ∀ y, E[k]? = some y → ¬ y.key.time < t) : befE t E = E.take k ∧ aftE t E = E.drop k := by
  have hb1 : befE t (E.take k) = E.take k := List.filter_eq_self.2 (fun y hy => by simpa using h1 y hy)
  have ha1 : aftE t (E.take k) = [] := List.filter_eq_nil_iff.2 (fun y hy => by simpa using h1 y hy)
  have hd : befE t (E.drop k) = [] ∧ aftE t (E.drop k) = E.drop k := by
    cases hE : E.drop k with
    | nil => exact ⟨rfl, rfl⟩
    | cons y r =>
      refine befE_stop ?_ (h2 y ?_)
      · rw [← hE]; exact asc_sub h (List.drop_sublist _ _)
      · have : (E.drop k)[0]? = some y := by rw [hE]; rfl
        rwa [List.getElem?_drop, Nat.add_zero] at this
  have e1 : befE t E = befE t (E.take k) ++ befE t (E.drop k) := by
    unfold befE
    rw [← List.filter_append, List.take_append_drop]
  have e2 : aftE t E = aftE t (E.take k) ++ aftE t (E.drop k) := by
    unfold aftE
    rw [← List.filter_append, List.take_append_drop]
  rw [e1, e2, hb1, ha1, hd.1, hd.2, List.append_nil, List.nil_append]
  exact ⟨rfl, rfl⟩
/-- What TakeBefore leaves. -/
def BefPost (w : World) (qb n T : Nat) (E : List Ev) (ft : Nat → Prop) (t : Int) (e : Ending) (w' : World) : Prop :=
  ∃ v ft', e = .returned v ∧ w'.ownsRow w.heap.size 28 5 v (befE t E).length (flatEv (befE t E)) ∧ QIs w' qb n T (aftE t E) ft' ∧ (∀ k, ft' k → ft k ∨ w.heap.size ≤ k) ∧ (∀ g, v.ownBlock = some g → ¬ ft' g) ∧ Fr0 ft w w'
set_option maxRecDepth 100000 in
set_option maxHeartbeats 2000000 in
theorem QIs.takeBefore (h : QIs w qb n T E ft) (t : Int) (hT : T < 4294967296) :
    Calls Tryz.prog 24 #[.pointer (some ⟨qb, 0, none⟩), .int .i64 t] w (BefPost w qb n T E ft t) := by
  have H := Lib.hid h
  have HLe := Lib.hid h.least
  have HE := Lib.hid h.le
  clear h
  obtain ⟨i0, hi, hz0, hz1, hz2⟩ := info_parts info_event0
  go_enter Tryz.func24, Tryz.ntmps24
  go_wp2_with fail
  refine HLe.out.mono ?_
  rintro e w1 ⟨rfl, hf1⟩
  obtain ⟨x0, hx0⟩ : ∃ x0, lstE E = x0 := ⟨_, rfl⟩
  obtain ⟨b0, hb0⟩ : ∃ b0, (!E.isEmpty) = b0 := ⟨_, rfl⟩
  rw [hx0, hb0]
  simp only [evV]
  have Hx0 := Lib.hid hx0
  have Hb0 := Lib.hid hb0
  clear hx0 hb0
  go_wp2_with fail
  obtain ⟨q0, hq0⟩ : ∃ q0, w1.heap.size = q0 := ⟨_, rfl⟩
  obtain ⟨W2, hW2⟩ : ∃ W, w1.alloc (.cells #[.int .i64 x0.key.time, .int .i64 x0.key.source, .int .i64 x0.key.seq, .int .i64 x0.to, .int .i64 x0.value] 28) = W := ⟨_, rfl⟩
  have hb2 := Lib.hid (show W2.heap[q0]? = some (.cells #[.int .i64 x0.key.time, .int .i64 x0.key.source, .int .i64 x0.key.seq, .int .i64 x0.to, .int .i64 x0.value] 28 (0, 0)) by rw [← hW2, ← hq0]; exact World.alloc_heap_new w1 _)
  have F2 := Lib.hid (show Fr0 none' w W2 by rw [← hW2]; exact hf1.alloc _)
  have Hq0 := Lib.hid (show w.heap.size ≤ q0 by rw [← hq0]; exact hf1.size)
  rw [hW2]
  try rw [hq0]
  clear hW2 hq0 hf1
  go_loopw [5, 6, 7] (fun v p b wr => ∃ (k q : Nat) (x : Ev) (fk : Nat → Prop) (bo : Bool), p = .pointer (some ⟨q, 0, none⟩) ∧ b = .bool bo ∧ k ≤ E.length ∧ Hid (lstE (E.drop k) = x ∧ (!(E.drop k).isEmpty) = bo) ∧
    Hid (wr.heap[q]? = some (.cells #[.int .i64 x.key.time, .int .i64 x.key.source, .int .i64 x.key.seq, .int .i64 x.to, .int .i64 x.value] 28 (0, 0))) ∧ Hid (wr.ownsRow w.heap.size 28 5 v k (flatEv (E.take k))) ∧ Hid (∀ y ∈ E.take k, y.key.time < t) ∧
    Hid (QIs wr qb n T (E.drop k) fk) ∧ Hid ((∀ k, fk k → ft k ∨ w.heap.size ≤ k) ∧ ¬ fk q ∧ w.heap.size ≤ q ∧ ∀ g, v.ownBlock = some g → ¬ fk g ∧ g ≠ q) ∧ Hid (Fr0 ft w wr)) (fun v _ _ _ => E.length - (match v with | .slice _ j _ => j | _ => 0))
  case atStart =>
    exact ⟨0, q0, x0, ft, b0, rfl, rfl, Nat.zero_le _, ⟨Hx0.out, Hb0.out⟩, hb2, World.ownsRow_nil _ _ _ _, by unfold Hid; simp, H.out.later F2.out, ⟨fun _ h => .inl h, fun h => by have := H.out.lt _ h; have := Hq0.out; omega, Hq0.out, fun g hg => by cases hg⟩, F2.out.mono (fun _ _ h => h.elim)⟩
  case round =>
    obtain ⟨k, q, x, fk, bo, rfl, rfl, hk, hx, hbq, hrow, hpre, hq, hdis, hfr⟩ := hrel
    obtain ⟨va, vc, rfl, _, _⟩ := EsIn.of_own hrow.out
    by_cases hlt : k < E.length
    · obtain ⟨y, hy⟩ : ∃ y, E[k]? = some y := ⟨_, List.getElem?_eq_getElem hlt⟩
      have hdr : E.drop k = y :: E.drop (k + 1) := by
        rw [List.drop_eq_getElem_cons hlt]
        congr 1
        rw [List.getElem?_eq_getElem hlt] at hy
        exact Option.some.inj hy
      have hxy : y = x := by have := hx.out.1; rw [hdr] at this; exact this
      have hbo : true = bo := by have := hx.out.2; rw [hdr] at this; exact this
      subst hxy
      subst hbo
      have Hy := Lib.hid hy
      have Hdr := Lib.hid hdr
      clear hy hdr hx
      have x0 := cells_in hbq.out 0
      simp at x0
      by_cases ht : y.key.time < t
      · have d1 : decide (y.key.time < t) = true := decide_eq_true ht
        have Ht := Lib.hid ht
        clear ht
        go_wp2_with fail
        refine (hq.out.take hT).mono ?_
        rintro e w5 ⟨rfl, hq5, hf5⟩
        have hb5 := Lib.hid ((hf5.block q (Array.getElem?_eq_some_iff.1 hbq.out).1 hdis.out.2.1).trans hbq.out)
        have hr5 := Lib.hid (ownsRow_fr0 hrow.out hf5 (fun g hg => (hdis.out.2.2.2 g hg).1))
        have hq5 := Lib.hid hq5
        have F5 := Lib.hid hf5
        have Fw5 := Lib.hid (hfr.out.trans' hf5 (fun i hi hs => (hdis.out.1 i hs).elim id (fun h => by omega)))
        clear x0 d1 hf5
        have x0 := cells_in hb5.out 0
        have x1 := cells_in hb5.out 1
        have x2 := cells_in hb5.out 2
        have x3 := cells_in hb5.out 3
        have x4 := cells_in hb5.out 4
        simp at x0 x1 x2 x3 x4
        have hsrc := Src.newRow (P := Tryz.prog) (size := 5) (tx := 30) (ty := 28) w5 Tryz.underlying30 1 1 (cev y) rfl (by simp [Value.oneCell', cev])
        simp only [cev] at hsrc
        have hbase : w.heap.size ≤ w5.heap.size := Fw5.out.size
        have hkn : k ≤ 256 := by have := HE.out; omega
        go_wp2_with (at_builtin; refine wpList_append_k rfl _ _ 30 30 rfl w.heap.size 28 i0 (.agg #[.int .i64 0, .int .i64 0, .int .i64 0, .int .i64 0, .int .i64 0]) 5 40 Tryz.underlying30 hi hz0 hz1 hz2 rfl (by decide) (.slice va k vc) k _ rfl (ownsRow_fr0 hr5.out ((Fr0.refl none' w5).alloc _) (fun _ _ h => h)) (.slice (some ⟨w5.heap.size, 0, none⟩) 1 1) 1 _ rfl hsrc (by unfold maxLen; omega) (by omega) (by simp; omega) ?_; intro v6 w6 hown hgrow hdr hob; have Hown := Lib.hid hown; have Hgr := Lib.hid hgrow; have Hob := Lib.hid hob; have hfg : Fr0 (fun i => (Value.slice va k vc).ownBlock = some i) w5 w6 := ((Fr0.refl _ w5).alloc _).grown hgrow (fun i hi _ => hi); have hb6 := (hfg.block q (Array.getElem?_eq_some_iff.1 hb5.out).1 (fun e => (hdis.out.2.2.2 q e).2 rfl)).trans hb5.out; have F6 := Lib.hid hfg; have Hb6 := Lib.hid hb6; clear hown hgrow hdr hob x0 x1 x2 x3 x4 hfg hsrc; have x0 := cells_in hb6 0; have x1 := cells_in hb6 1; have x2 := cells_in hb6 2; have x3 := cells_in hb6 3; have x4 := cells_in hb6 4; simp at x0 x1 x2 x3 x4; clear hb6)
        clear x0 x1 x2 x3 x4
        obtain ⟨q6, hq6⟩ : ∃ q6, w6.heap.size = q6 := ⟨_, rfl⟩
        obtain ⟨W7, hW7⟩ : ∃ W, w6.alloc (.cells #[.int .i64 y.key.time, .int .i64 y.key.source, .int .i64 y.key.seq, .int .i64 y.to, .int .i64 y.value] 28) = W := ⟨_, rfl⟩
        have hb7 := Lib.hid (show W7.heap[q6]? = some (.cells #[.int .i64 y.key.time, .int .i64 y.key.source, .int .i64 y.key.seq, .int .i64 y.to, .int .i64 y.value] 28 (0, 0)) by rw [← hW7, ← hq6]; exact World.alloc_heap_new w6 _)
        have F7 := Lib.hid (show Fr0 none' w6 W7 by rw [← hW7]; exact (Fr0.refl _ _).alloc _)
        rw [hW7]
        try rw [hq6]
        have Hq6 := Lib.hid hq6
        clear hW7 hq6
        have hq57 : ∀ g, (Value.slice va k vc).ownBlock = some g → ¬ qgrow fk wr w5 g := fun g hg hh => by
          have h1 := hrow.out.lt g hg
          rcases hh with hh | hh
          · exact (hdis.out.2.2.2 g hg).1 hh
          · omega
        have HQ7 := Lib.hid ((hq5.out.fr0 F6.out (fun j hj hs => hq57 j hs hj)).later F7.out)
        refine HQ7.out.least.mono ?_
        rintro e w8 ⟨rfl, hf8⟩
        rw [List.tail_drop] at HQ7 ⊢
        obtain ⟨z, hz⟩ : ∃ z, lstE (E.drop (k + 1)) = z := ⟨_, rfl⟩
        obtain ⟨b2, hb2⟩ : ∃ b2, (!(E.drop (k + 1)).isEmpty) = b2 := ⟨_, rfl⟩
        rw [hz, hb2]
        have HZ := Lib.hid (show lstE (E.drop (k + 1)) = z ∧ (!(E.drop (k + 1)).isEmpty) = b2 from ⟨hz, hb2⟩)
        have hb8 := Lib.hid ((hf8.block q6 (Array.getElem?_eq_some_iff.1 hb7.out).1 id).trans hb7.out)
        have F68 := Lib.hid (F7.out.trans hf8)
        have HQ8 := Lib.hid (HQ7.out.later hf8)
        have Hq57 := Lib.hid hq57
        clear hz hb2 hf8 hq57
        simp only [evV]
        have y0 := cells_in hb8.out 0
        have y1 := cells_in hb8.out 1
        have y2 := cells_in hb8.out 2
        have y3 := cells_in hb8.out 3
        have y4 := cells_in hb8.out 4
        simp at y0 y1 y2 y3 y4
        have t0 := thaw_in hb8.out 0
        have t1 := thaw_in hb8.out 1
        have t2 := thaw_in hb8.out 2
        have t3 := thaw_in hb8.out 3
        have t4 := thaw_in hb8.out 4
        go_wp2_with fail
        obtain ⟨W9, hW9⟩ : ∃ W, (((((w8.setCell ⟨q6, 0, none⟩ (.int .i64 z.key.time)).setCell ⟨q6, 1, none⟩ (.int .i64 z.key.source)).setCell ⟨q6, 2, none⟩ (.int .i64 z.key.seq)).setCell ⟨q6, 3, none⟩ (.int .i64 z.to)).setCell ⟨q6, 4, none⟩ (.int .i64 z.value)) = W := ⟨_, rfl⟩
        try rw [hW9]
        have e9 := Lib.hid (show W9.heap[q6]? = some (.cells #[.int .i64 z.key.time, .int .i64 z.key.source, .int .i64 z.key.seq, .int .i64 z.to, .int .i64 z.value] 28 (0, 0)) by rw [← hW9]; exact ev_set5 hb8.out _ _ _ _ _)
        have f89 : Fr0 (fun j => j = q6) w8 W9 := by rw [← hW9]; exact (((((Fr0.refl (fun j => j = q6) w8).setCell (fun _ => rfl) _).setCell (fun _ => rfl) _).setCell (fun _ => rfl) _).setCell (fun _ => rfl) _).setCell (fun _ => rfl) _
        have hs5 : wr.heap.size ≤ w5.heap.size := F5.out.size
        have hs6 : w5.heap.size ≤ q6 := by rw [← Hq6.out]; exact F6.out.size
        have hsr : w.heap.size ≤ wr.heap.size := hfr.out.size
        have hfk : ∀ j, qgrow fk wr w5 j → j < w5.heap.size := fun j hj => qgrow_lt hs5 hq.out.lt hj
        have hv6 : ∀ g, v6.ownBlock = some g → ¬ qgrow fk wr w5 g ∧ g ≠ q6 := fun g hg => by
          have hl6 := (Hown.out.lt g hg).2
          refine ⟨fun hh => ?_, by rw [← Hq6.out]; omega⟩
          rcases Hob.out with hob | hob
          · exact Hq57.out g (by rw [← hob]; exact hg) hh
          · rw [hg] at hob
            injection hob with hob
            have := hfk g hh
            rw [World.size_alloc] at hob
            omega
        have hrow9 : W9.ownsRow w.heap.size 28 5 v6 (k + 1) (flatEv (E.take (k + 1))) := by
          have h1 := Hown.out
          rw [show [Value.int IntKind.i64 y.key.time, Value.int IntKind.i64 y.key.source, Value.int IntKind.i64 y.key.seq, Value.int IntKind.i64 y.to, Value.int IntKind.i64 y.value] = cev y from rfl, ← flatEv_snoc, show E.take k ++ [y] = E.take (k + 1) by rw [List.take_add_one, Hy.out]; rfl] at h1
          exact ownsRow_fr0 (ownsRow_fr0 h1 F68.out (fun _ _ h => h)) f89 (fun g hg => (hv6 g hg).2)
        have hQ9 : QIs W9 qb n T (E.drop (k + 1)) (qgrow fk wr w5) := HQ8.out.fr0 f89 (fun j hj e => by have := hfk j hj; omega)
        have hfr9 : Fr0 ft w W9 := by
          have g1 := Fw5.out.trans' F6.out (fun j hj hs => absurd (hr5.out.lt j hs).1 (Nat.not_le.2 hj))
          exact (g1.trans' F68.out (fun _ _ h => h.elim)).trans' f89 (fun j hj e => by omega)
        have hpre9 : ∀ u ∈ E.take (k + 1), u.key.time < t := fun u hu => by
          rw [List.take_add_one, Hy.out, List.mem_append] at hu
          rcases hu with hu | hu
          · exact hpre.out u hu
          · simp at hu; subst hu; exact Ht.out
        have hkl : k + 1 ≤ E.length := (List.getElem?_eq_some_iff.1 Hy.out).1
        obtain ⟨v6a, v6c, rfl, _, _⟩ := EsIn.of_own hrow9
        have R1 := Lib.hid hrow9
        have R2 := Lib.hid hQ9
        have R3 := Lib.hid hfr9
        have R4 := Lib.hid hpre9
        have R5 := Lib.hid (show (∀ j, qgrow fk wr w5 j → ft j ∨ w.heap.size ≤ j) ∧ ¬ qgrow fk wr w5 q6 ∧ w.heap.size ≤ q6 ∧ ∀ g, (Value.slice v6a (k + 1) v6c).ownBlock = some g → ¬ qgrow fk wr w5 g ∧ g ≠ q6 from ⟨fun j hj => by
          rcases hj with hj | hj
          · exact hdis.out.1 j hj
          · exact .inr (by omega), fun hh => by have := hfk q6 hh; omega, by omega, hv6⟩)
        clear hrow9 hQ9 hfr9 hpre9 hv6 f89 hW9 y0 y1 y2 y3 y4 t0 t1 t2 t3 t4 hfk
        go_roundw
        case rel => exact ⟨k + 1, q6, z, qgrow fk wr w5, b2, rfl, rfl, hkl, HZ, e9, R1, R4, R2, R5, R3⟩
        case measure => simp; omega
      · have d1 : decide (y.key.time < t) = false := decide_eq_false ht
        obtain ⟨e1, e2⟩ := bef_cut H.out.good.1 (t := t) (k := k) hpre.out (fun u hu => by rw [Hy.out] at hu; cases hu; exact ht)
        have hl : (E.take k).length = k := by rw [List.length_take]; omega
        have R := Lib.hid (show BefPost w qb n T E ft t (.returned (.slice va k vc)) wr from ⟨_, fk, rfl, by rw [e1, hl]; exact hrow.out, by rw [e2]; exact hq.out, hdis.out.1, fun g hg => (hdis.out.2.2.2 g hg).1, hfr.out⟩)
        clear ht e1 e2 hl
        go_wp2_with fail
        go_ret
        exact R.out
    · have hnone : E[k]? = none := List.getElem?_eq_none (by omega)
      have hdr : E.drop k = [] := List.drop_eq_nil_of_le (by omega)
      have hbo : false = bo := by have := hx.out.2; rw [hdr] at this; exact this
      subst hbo
      obtain ⟨e1, e2⟩ := bef_cut H.out.good.1 (t := t) (k := k) hpre.out (fun u hu => by rw [hnone] at hu; cases hu)
      have hl : (E.take k).length = k := by rw [List.length_take]; omega
      have R := Lib.hid (show BefPost w qb n T E ft t (.returned (.slice va k vc)) wr from ⟨_, fk, rfl, by rw [e1, hl]; exact hrow.out, by rw [e2]; exact hq.out, hdis.out.1, fun g hg => (hdis.out.2.2.2 g hg).1, hfr.out⟩)
      clear e1 e2 hl hnone hdr hx
      go_wp2_with fail
      go_ret
      exact R.out
end Go.Proofs.YtmcgipilopfgoaaGreat

/-
  The queue: Copy.
-/
namespace Go.Proofs.YtmcgipilopfgoaaGreat
open Go Go.RowKit Go.ChangeMaps
attribute [local go_sem ↓] Go.wp_at_zero Go.wp_at_succ
attribute [local go_sem] Oper.semAt_some wide_fn wide_depth wide_fnR wide_depthR
variable {w w' : World} {qb n T : Nat} {E : List Ev} {ft : Nat → Prop}

theorem QIs.ordered (h : QIs w qb n T E ft) (cb : Nat) (hbx : Box w cb (.pointer (some ⟨qb, 0, none⟩))) :
    ∃ rd : Nat → Prop, IterX0 Tryz.prog 69 #[.pointer (some ⟨cb, 0, none⟩)] (fun x : Ev => #[evV x]) E none' rd w ∧ ∀ k, rd k → k = cb ∨ ft k := by
  obtain ⟨sb, pb, hb, ba, eb, mb, hv, X, F, P, first, V, h1, rfl, h3, h4⟩ := h
  exact ⟨_, ordered_iter h1 cb hbx, fun k hk => hk.imp id (h3 k)⟩
theorem QIs.evs (h : QIs w qb n T E ft) : ∃ eb, w.cell? ⟨qb, 2, none⟩ = some (.slice (some ⟨eb, 0, none⟩) n n) ∧ ft qb := by
  obtain ⟨sb, pb, hb, ba, eb, mb, hv, X, F, P, first, V, h1, rfl, h3, h4⟩ := h
  exact ⟨eb, h1.c2, h3 _ (.inl rfl)⟩
theorem take_puts {E : List Ev} (h : AscE E) (ho : OnceE E) (k : Nat) : putsE (E.take k) [] = E.take k := asc_puts (asc_sub h (List.take_sublist _ _)) (once_sub ho (List.take_sublist _ _))
set_option maxRecDepth 100000 in
set_option maxHeartbeats 2000000 in
theorem QCopy_in (h : QIs w qb n T E ft) : CallsIn Fence.wide 0 Tryz.prog 31 #[.pointer (some ⟨qb, 0, none⟩)] w fun e w' => ∃ cb ft', e = .returned (.tuple #[.pointer (some ⟨cb, 0, none⟩), .int .i64 0]) ∧ QIs w' cb n E.length E ft' ∧ (∀ k, ft' k → w.heap.size ≤ k) ∧ Fr0 none' w w' := by
  have H := Lib.hid h
  have HG := Lib.hid h.good
  have HE := Lib.hid h.le
  clear h
  refine callsIn_of_wp_marks Tryz.func31 rfl trivial ?_ rfl
  simp only [Tryz.ntmps31, List.size_toArray, List.length_cons, List.length_nil, Nat.reduceAdd, Nat.reduceSub, Array.replicate_succ, Array.replicate_zero, List.push_toArray, List.append_toArray, List.nil_append, List.cons_append]
  gi_wp2_with fail
  refine (callsIn_wide.2 H.out.isnt).mono ?_
  rintro e w1 ⟨rfl, rfl⟩
  obtain ⟨eb, c2, hfq⟩ := H.out.evs
  gi_wp2_with fail
  clear c2
  refine (callsIn_wide.2 (QNew_is n HE.out.2 _)).mono ?_
  rintro e w2 ⟨qc, ftc, rfl, hq2, f2, hge⟩
  have HQ2 := Lib.hid hq2
  have F2 := Lib.hid f2
  have Hge := Lib.hid hge
  clear hq2 f2 hge
  gi_wp2_with fail
  obtain ⟨N0, hN0⟩ : ∃ N0, w2.heap.size = N0 := ⟨_, rfl⟩
  obtain ⟨W3, hW3⟩ : ∃ W, w2.alloc (.cells #[.pointer (some ⟨qc, 0, none⟩)] 35) = W := ⟨_, rfl⟩
  have Bc3 := Lib.hid (show Box W3 N0 (.pointer (some ⟨qc, 0, none⟩)) by rw [← hW3, ← hN0]; exact Box.new _ _ _)
  have F23 := Lib.hid (show Fr0 none' w2 W3 by rw [← hW3]; exact (Fr0.refl _ _).alloc _)
  have Hs3 := Lib.hid (show W3.heap.size = N0 + 1 by rw [← hW3, World.size_alloc, hN0])
  rw [hW3]
  try rw [hN0]
  have HN0 := Lib.hid hN0
  clear hW3 hN0
  refine (callsIn_wide.2 (ordered_any qb W3)).mono ?_
  rintro e w4 ⟨rfl, hw4⟩
  rw [Hs3.out]
  obtain ⟨W4, hW4⟩ : ∃ W, W3.alloc (.cells #[.pointer (some ⟨qb, 0, none⟩)] 35) = W := ⟨_, rfl⟩
  rw [hW4] at hw4
  subst hw4
  have F34 := Lib.hid (show Fr0 none' W3 w4 by rw [← hW4]; exact (Fr0.refl _ _).alloc _)
  have Bq4 := Lib.hid (show Box w4 (N0 + 1) (.pointer (some ⟨qb, 0, none⟩)) by rw [← hW4, ← Hs3.out]; exact Box.new _ _ _)
  have Hs4 := Lib.hid (show w4.heap.size = N0 + 2 by rw [← hW4, World.size_alloc, Hs3.out])
  have F4 := Lib.hid (show Fr0 none' w w4 from (F2.out.trans F23.out).trans F34.out)
  have H4 := Lib.hid (H.out.later F4.out)
  have HQ4 := Lib.hid (HQ2.out.later (F23.out.trans F34.out))
  have Bc4 := Lib.hid (Bc3.out.fr0 F34.out id)
  clear hW4
  obtain ⟨rd, it, hrd⟩ := H4.out.ordered (N0 + 1) Bq4.out
  have Hrd := Lib.hid hrd
  clear hrd
  gi_wp2_with fail
  have hN2 : w.heap.size ≤ N0 := by have := F2.out.size; have := HN0.out; omega
  have HN2 := Lib.hid hN2
  have hlf := H.out.lt
  refine wpIn_iterS0 (σ := Nat → Prop) (gf := 69) (lb := #[.pointer (some ⟨N0 + 1, 0, none⟩)]) rfl (by intro args w; rfl) it (Keep.refl _ _) (fun _ => rfl) (fun k hk => hk.elim) (fun k hk => by
      rw [Hs4.out]
      rcases Hrd.out k hk with rfl | h
      · omega
      · have := hlf k h; omega)
    (fun i s W => QIs W qc n i (E.take i) s ∧ Box W N0 (.pointer (some ⟨qc, 0, none⟩)) ∧ (∀ k, s k → w.heap.size ≤ k ∧ k ≠ N0 ∧ k ≠ N0 + 1) ∧ Fr0 none' w W) (fun s k => s k ∨ k = N0) (fun _ _ => False) ?hInv ?hlt (fun _ _ _ h _ => h.elim) ftc ?h0 ?hf0
    (fun x W a' => ∃ B, a' = { tmps := #[.pointer (some ⟨qb, 0, none⟩), undef, .pointer none, .int .i64 0, .pointer (some ⟨N0, 0, none⟩), .int .i64 0, .pointer (some ⟨B, 0, none⟩), .pointer (some ⟨qb, 0, none⟩), .bool false, .tuple #[.pointer (some ⟨qc, 0, none⟩), .int .i64 0], .pointer (some ⟨qb, 0, none⟩), .pointer (some ⟨qb, 0, none⟩), .pointer (some ⟨qb, 2, none⟩), .slice (some ⟨eb, 0, none⟩) n n, .int .i64 n, .tuple #[.pointer (some ⟨qc, 0, none⟩), .int .i64 0], .pointer (some ⟨qc, 0, none⟩), .int .i64 0, .int .i64 0, .bool false, undef, .pointer (some ⟨qb, 0, none⟩), .func (.func 69) #[] #[.pointer (some ⟨N0 + 1, 0, none⟩)], evV x, undef, undef, undef, undef], defers := [] } ∧ N0 + 3 < B ∧ W.heap[B]? = some (.cells (cev x).toArray 28 (0, 0)))
    ?assign ?keep ?body ?done (fun _ _ _ _ h _ => h.elim)
  case hInv =>
    rintro i s W1 W2 ⟨h1, h2, h3, h4⟩ hf
    rw [Hs4.out] at hf
    refine ⟨h1.fr0 hf (fun k hk hs => hs.2 (.inl hk)), h2.fr0 hf (fun hs => hs.2 (.inr rfl)), h3, h4.trans' hf (fun k hk hs => ?_)⟩
    rcases hs.1 with h | h
    · exact h
    · have := HN2.out; omega
  case hlt =>
    rintro i s W k ⟨h1, h2, h3, h4⟩ (hk | rfl)
    · exact h1.lt k hk
    · exact h2.lt
  case h0 =>
    refine ⟨HQ4.out, Bc4.out, fun k hk => ⟨Hge.out k hk, ?_⟩, F4.out⟩
    have := HQ2.out.lt k hk
    have := HN0.out
    omega
  case hf0 =>
    rintro k hk
    refine ⟨id, fun hr => ?_⟩
    have h1 : k ≠ N0 + 1 ∧ w.heap.size ≤ k := by
      rcases hk with hk | rfl
      · have := HQ2.out.lt k hk
        have := HN0.out
        exact ⟨by omega, Hge.out k hk⟩
      · exact ⟨by omega, HN2.out⟩
    rcases Hrd.out k hr with h | h
    · exact h1.1 h
    · have := hlf k h; omega
  case assign =>
    intro l x W K hlt hK
    rw [Hs4.out] at hlt
    simp only [evV]
    gi_wp2
    exact hK _ _ ⟨W.heap.size, by simp [evV], by omega, World.alloc_heap_new W _⟩ ((Fr0.refl _ _).alloc _)
  case keep =>
    rintro x W4 W5 a' ⟨B, rfl, hB, hc⟩ hf
    exact ⟨B, rfl, hB, (hf.block B (Array.getElem?_eq_some_iff.1 hc).1 (by rw [Hs4.out]; omega)).trans hc⟩
  case body =>
    rintro l i x s W a' hxi ⟨h1, h2, h3, h4⟩ hfoot hsz ⟨B, rfl, hB, hcB⟩
    have hlt : i < E.length := (List.getElem?_eq_some_iff.1 hxi).1
    have b0 := cells_in hcB 0
    have b1 := cells_in hcB 1
    have b2 := cells_in hcB 2
    have b3 := cells_in hcB 3
    have b4 := cells_in hcB 4
    simp [cev] at b0 b1 b2 b3 b4
    have cN := h2.cell
    have hsn : E.take (i + 1) = insE x (E.take i) := by
      rw [← take_puts HG.out.1 HG.out.2.1 (i + 1), List.take_add_one, hxi]
      show putsE (E.take i ++ [x]) [] = _
      rw [putsE_snoc, take_puts HG.out.1 HG.out.2.1 i]
    have hnm : ∀ y ∈ E.take i, y.name ≠ x.name := fun y hy e => by
      have h5 : OnceE (E.take (i + 1)) := once_sub HG.out.2.1 (List.take_sublist _ _)
      rw [List.take_add_one, hxi] at h5
      have h6 := OnceE.perm h5 List.perm_append_comm
      exact (once_cons.1 h6).1 y hy e
    have hre := HG.out.2.2 x (List.mem_of_getElem? hxi)
    have HPt := Lib.hid (h1.put hre hnm (by have := HE.out; omega) (by rw [List.length_take]; have := HE.out; omega))
    have Hsn := Lib.hid hsn
    have H1 := Lib.hid h1
    have H2 := Lib.hid h2
    have H3 := Lib.hid h3
    have H4' := Lib.hid h4
    have Hsz := Lib.hid hsz
    unfold evV at HPt
    clear hxi hfoot hsz hcB h1 h2 h3 h4 hsn hnm hre
    simp only [evV]
    gi_wp2_with fail
    refine (callsIn_wide.2 HPt.out).mono ?_
    rintro e w5 ⟨rfl, hq5, hf5⟩
    gi_wp2_with fail
    refine ⟨qgrow s W w5, ⟨by rw [Hsn.out]; exact hq5, ?_, fun k hk => ?_, ?_⟩, hf5.mono (fun _ _ hk => .inl hk), fun k hk => ?_⟩
    · exact H2.out.fr0 hf5 (fun h => (H3.out N0 h).2.1 rfl)
    · rcases hk with hk | hk
      · exact H3.out k hk
      · have g1 := H4'.out.size
        have g2 := Hsz.out
        rw [Hs4.out] at g2
        exact ⟨by omega, by omega, by omega⟩
    · exact H4'.out.trans' hf5 (fun k hk h => absurd (H3.out k h).1 (Nat.not_le.2 hk))
    · rcases hk with (hk | hk) | hk
      · exact .inl (.inl hk)
      · exact .inr hk.1
      · exact .inl (.inr hk)
  case done =>
    rintro D s W hDe ⟨h1, h2, h3, h4⟩ hDf hK
    rw [Hs4.out] at hDe
    subst hDe
    have hc := h2.cell
    rw [List.take_length] at h1
    have hW : N0 + 2 < W.heap.size := (Array.getElem?_eq_some_iff.1 hK).1
    have hfp : Fr0 (fun k => k = N0 + 2) W (W.putObj (N0 + 2) (.deferred none)) := Fr0.putNew _ _ rfl
    have hfin := Lib.hid (show QIs (W.putObj (N0 + 2) (.deferred none)) qc n E.length E s ∧ (∀ k, s k → w.heap.size ≤ k) ∧ Fr0 none' w (W.putObj (N0 + 2) (.deferred none)) from ⟨h1.fr0 hfp (fun k hk e => hDf k (.inl hk) (by rw [e])), fun k hk => (h3 k hk).1, h4.trans' hfp (fun k hk e => by have := HN2.out; omega)⟩)
    have HK := Lib.hid hK
    clear h1 h2 h3 h4 hDf hK hfp it
    gi_wp2
    refine ⟨by simp, .inl ⟨_, _, rfl, run_takeDeferred HK.out, ?_⟩⟩
    refine ⟨_, results_tmp2 rfl _ _ _, qc, s, rfl, hfin.out⟩
/-- Copy, on a queue. -/
theorem QIs.copy (h : QIs w qb n T E ft) : Calls Tryz.prog 31 #[.pointer (some ⟨qb, 0, none⟩)] w fun e w' => ∃ cb ft', e = .returned (.tuple #[.pointer (some ⟨cb, 0, none⟩), .int .i64 0]) ∧ QIs w' cb n E.length E ft' ∧ (∀ k, ft' k → w.heap.size ≤ k) ∧ Fr0 none' w w' := callsIn_wide.1 (QCopy_in h)
end Go.Proofs.YtmcgipilopfgoaaGreat

/-
  The laws' helpers: filled.
-/
namespace Go.Proofs.YtmcgipilopfgoaaGreat
open Go Go.RowKit Go.ChangeMaps
attribute [local go_sem ↓] Go.wp_at_zero Go.wp_at_succ
attribute [local go_sem] Oper.semAt_some wide_fn wide_depth wide_fnR wide_depthR

theorem dup_of_once {E l : List Ev} (h : OnceE (l ++ E)) (i : Nat) : dupB E l i = false := by
  unfold dupB
  split
  · next x hx =>
    obtain ⟨hi, he⟩ := List.getElem?_eq_some_iff.1 hx
    have hl : l = l.take i ++ x :: l.drop (i + 1) := by
      rw [← he, ← List.drop_eq_getElem_cons hi, List.take_append_drop]
    have hp : OnceE (x :: (l.take i ++ l.drop (i + 1) ++ E)) := by
      refine h.perm ?_
      conv => lhs; rw [hl]
      rw [List.append_assoc, List.append_assoc, List.cons_append]
      exact List.perm_middle
    have h1 := (once_cons.1 hp).1
    rw [List.any_eq_false]
    intro y hy
    have := h1 y (by
      rcases List.mem_append.1 hy with hy | hy
      · exact List.mem_append_right _ hy
      · exact List.mem_append_left _ (List.mem_append_left _ hy))
    simpa using this
  · rfl
theorem chk_of_ok {E l : List Ev} (hr : ∀ x ∈ l, RightE x) (ho : OnceE (l ++ E)) : chkE E l = (-1, 0) := by
  unfold chkE
  have h1 : idxI (fun x => !decide (RightE x)) l = -1 := by
    rcases idxI_cases (fun x => !decide (RightE x)) l with ⟨hi, hall⟩ | ⟨k, hi, hk, x, hx, hf, _⟩
    · exact hi
    · have := hr x (List.mem_of_getElem? hx)
      simp [this] at hf
  have h2 : dupI E l = -1 := dupI_none (fun i _ => dup_of_once ho i)
  rw [h1, h2, if_neg (by omega), if_neg (by omega)]
theorem all_ok {n : Nat} {E l : List Ev} (hr : ∀ x ∈ l, RightE x) (ho : OnceE (l ++ E)) (hroom : E.length + l.length ≤ n) : allV n E l = (-1, 0) ∧ allE n E l = putsE l E := by
  have h : allV n E l = (-1, 0) := by
    unfold allV
    rw [chk_of_ok hr ho, if_neg (by simp), if_neg (by omega)]
  refine ⟨h, ?_⟩
  unfold allE
  rw [h, if_pos rfl]
theorem puts_once_take {l : List Ev} (h : OnceE l) {k : Nat} {x : Ev} (hx : l[k]? = some x) : OnceE ([x] ++ putsE (l.take k) []) := by
  have h1 : OnceE (l.take (k + 1)) := once_sub h (List.take_sublist _ _)
  rw [List.take_add_one, hx] at h1
  refine h1.perm ?_
  simp only [Option.toList_some]
  refine List.perm_append_comm.trans ?_
  refine List.Perm.append_left _ ?_
  have := putsE_perm (l.take k) []
  rw [List.append_nil] at this
  exact this.symm
/-- What a filled queue and its list are. -/
def Filled (w w' : World) (qb c T : Nat) (S : List Ev) (ft : Nat → Prop) (r : Value) : Prop :=
  QIs w' qb c T S ft ∧ w'.ownsRow w.heap.size 28 5 r S.length (flatEv S) ∧ (∀ k, ft k → w.heap.size ≤ k) ∧ (∀ g, r.ownBlock = some g → ¬ ft g) ∧ Fr0 none' w w'
set_option maxRecDepth 100000 in
set_option maxHeartbeats 2000000 in
theorem filled_any {w : World} {a : Option Addr} {n cap c : Nat} (l : List Ev) (h : EsIn w a l) (hl : l.length = n) (hnc : n ≤ c) (hc : c ≤ 256) (hr : ∀ x ∈ l, RightE x) (ho : OnceE l) :
    Calls Tryz.prog 11 #[.int .i64 c, .slice a n cap] w fun e w' => ∃ qb ft r, e = .returned (.tuple #[.pointer (some ⟨qb, 0, none⟩), r]) ∧ Filled w w' qb c n (putsE l []) ft r := by
  have H := Lib.hid h
  have Hl := Lib.hid hl
  have Hr := Lib.hid hr
  have Ho := Lib.hid ho
  have HN := Lib.hid (QNew_is c hc w)
  have hlen : (putsE l []).length = n := by rw [putsE_length, hl]; rfl
  have Hlen := Lib.hid hlen
  clear h hl hr ho hlen
  go_enter Tryz.func11, Tryz.ntmps11
  go_wp2_with fail
  refine HN.out.mono ?_
  rintro e w1 ⟨qb, ft, rfl, hq1, f1, hge⟩
  have HQ1 := Lib.hid hq1
  have F1 := Lib.hid f1
  have Hge := Lib.hid hge
  clear hq1 f1 hge
  go_wp2_with fail
  go_loopw [9, 23] (fun _ i wr => ∃ k : Nat, k ≤ n ∧ i = .int .i64 k ∧ Hid (QIs wr qb c k (putsE (l.take k) []) (qgrow ft w1 wr)) ∧ Hid (Fr0 ft w1 wr)) (fun _ i _ => n - (Go.RowKit.intOf i).toNat)
  case atStart => exact ⟨0, Nat.zero_le _, rfl, qgrow_refl HQ1.out, Fr0.refl _ _⟩
  case round =>
    obtain ⟨k, hk, rfl, hq, hfr⟩ := hrel
    have Fw := Lib.hid (F1.out.trans' hfr.out (fun i hi hs => by have := Hge.out i hs; omega))
    by_cases hlt : k < n
    · obtain ⟨x, hx⟩ : ∃ x, l[k]? = some x := ⟨_, List.getElem?_eq_getElem (by rw [Hl.out]; exact hlt)⟩
      obtain ⟨g2, o, rfl, hxc⟩ := H.out k x hx
      obtain ⟨x0, x1, x2, x3, x4⟩ := hxc.later Fw.out
      have hsn : l.take (k + 1) = l.take k ++ [x] := by rw [List.take_add_one, hx]; rfl
      obtain ⟨e1, e2⟩ := all_ok (n := c) (E := putsE (l.take k) []) (l := [x]) (fun y hy => by rw [List.mem_singleton.1 hy]; exact Hr.out x (List.mem_of_getElem? hx)) (puts_once_take Ho.out hx) (by rw [putsE_length, List.length_take, List.length_singleton, List.length_nil, Hl.out]; omega)
      have e3 : putsE [x] (putsE (l.take k) []) = putsE (l.take (k + 1)) [] := by rw [hsn, putsE_append]
      rw [e3] at e2
      have E1 := Lib.hid e1
      have E2 := Lib.hid e2
      have k1 : (0 : Int) ≤ (k : Int) := by omega
      have k2 : (k : Int) < (n : Int) := by omega
      clear hx hxc hsn e1 e2 e3
      go_wp2_with fail
      obtain ⟨W3, hW3⟩ : ∃ W, wr.alloc (.cells #[.int .i64 x.key.time, .int .i64 x.key.source, .int .i64 x.key.seq, .int .i64 x.to, .int .i64 x.value] 28) = W := ⟨_, rfl⟩
      have F3 := Lib.hid (show Fr0 none' wr W3 by rw [← hW3]; exact (Fr0.refl _ _).alloc _)
      rw [hW3]
      have HP := (hq.out.later F3.out).put1 x (by omega)
      rw [E1.out, E2.out] at HP
      simp only [evV] at HP
      clear x0 x1 x2 x3 x4 hW3
      refine HP.mono ?_
      rintro e w4 ⟨rfl, hq4, hf4⟩
      have HQ4 := Lib.hid ((hq4.after F3.out.size hf4.size hq.out.lt).then hfr.out.size (Nat.le_trans F3.out.size hf4.size) HQ1.out.lt)
      have F4 := Lib.hid (fr_grow hfr.out ((F3.out.mono (fun _ _ h => h.elim)).trans hf4))
      clear hq4 hf4 HP
      go_wp2_with fail
      go_roundw
      case rel => exact ⟨k + 1, by omega, by go_num, HQ4.out, F4.out⟩
      case measure => simp [Go.RowKit.intOf]; omega
    · have hkn : k = n := by omega
      subst hkn
      rw [List.take_of_length_le (by rw [Hl.out]; exact Nat.le_refl _)] at hq
      have HI := inOrder_any (n := k) (cap := cap) l (H.out.later Fw.out) Hl.out (by omega)
      go_wp2_with fail
      refine HI.mono ?_
      rintro e w5 ⟨r, rfl, hr5, hf5⟩
      have hr5 := Lib.hid hr5
      have F5 := Lib.hid hf5
      clear hf5 HI
      go_wp2_with fail
      go_ret2
      refine ⟨qb, _, r, rfl, hq.out.later F5.out, ?_, fun j hj => ?_, fun g hg hh => ?_, Fw.out.trans F5.out⟩
      · rw [Hlen.out]
        exact own_up hr5.out Fw.out.size
      · rcases hj with h | h
        · exact Hge.out j h
        · have := F1.out.size; omega
      · have h1 := (hr5.out.lt g hg).1
        have h2 := hq.out.lt g hh
        omega
end Go.Proofs.YtmcgipilopfgoaaGreat

/-
  A queue within a law: what stays around it. The example of the chapter.
-/
namespace Go.Proofs.YtmcgipilopfgoaaGreat
open Go Go.RowKit Go.ChangeMaps
attribute [local go_sem ↓] Go.wp_at_zero Go.wp_at_succ
attribute [local go_sem] Oper.semAt_some wide_fn wide_depth wide_fnR wide_depthR

/-- A queue within a law: its foot is new, and nothing old has changed. -/
def St (w W : World) (qb c T : Nat) (E : List Ev) (ft : Nat → Prop) : Prop := QIs W qb c T E ft ∧ Fr0 none' w W ∧ ∀ k, ft k → w.heap.size ≤ k
theorem St.later {w W W' : World} {qb c T : Nat} {E : List Ev} {ft : Nat → Prop} (h : St w W qb c T E ft) (hf : Fr0 none' W W') : St w W' qb c T E ft := ⟨h.1.later hf, h.2.1.trans hf, h.2.2⟩
theorem St.step {w W W' : World} {qb c T T' : Nat} {E E' : List Ev} {ft : Nat → Prop} (h : St w W qb c T E ft) (hq : QIs W' qb c T' E' (qgrow ft W W')) (hf : Fr0 ft W W') : St w W' qb c T' E' (qgrow ft W W') :=
  ⟨hq, h.2.1.trans' hf (fun i hi hs => by have := h.2.2 i hs; omega), fun k hk => hk.elim (h.2.2 k) (fun g => Nat.le_trans h.2.1.size g.1)⟩
theorem St.step2 {w W W' : World} {qb c T T' : Nat} {E E' : List Ev} {ft ft' : Nat → Prop} (h : St w W qb c T E ft) (hq : QIs W' qb c T' E' ft') (hs : ∀ k, ft' k → ft k ∨ W.heap.size ≤ k) (hf : Fr0 ft W W') : St w W' qb c T' E' ft' :=
  ⟨hq, h.2.1.trans' hf (fun i hi hs => by have := h.2.2 i hs; omega), fun k hk => (hs k hk).elim (h.2.2 k) (fun g => Nat.le_trans h.2.1.size g)⟩
theorem St.other {w W W' : World} {qb c T : Nat} {E : List Ev} {ft gt : Nat → Prop} (h : St w W qb c T E ft) (h2 : ∀ k, gt k → w.heap.size ≤ k) (hd : ∀ k, ft k → ¬ gt k) (hf : Fr0 gt W W') : St w W' qb c T E ft :=
  ⟨h.1.fr0 hf hd, h.2.1.trans' hf (fun i hi hs => by have := h2 i hs; omega), h.2.2⟩
theorem St.apart {w W : World} {qb c T : Nat} {E : List Ev} {ft gt gt' : Nat → Prop} (h : St w W qb c T E ft) (hd : ∀ k, ft k → ¬ gt k) (hs : ∀ k, gt' k → gt k ∨ W.heap.size ≤ k) : ∀ k, ft k → ¬ gt' k := fun k hk hg => (hs k hg).elim (hd k hk) (fun e => by have := h.1.lt k hk; omega)
theorem qgrow_or {ft : Nat → Prop} {W W' : World} : ∀ k, qgrow ft W W' k → ft k ∨ W.heap.size ≤ k := fun _ hk => hk.imp id (fun g => g.1)
/-- A block that a queue does not touch. -/
def KeptB (W : World) (b : Nat) (xs : List Value) (t : TypeId) (ft : Nat → Prop) : Prop := W.heap[b]? = some (.cells xs.toArray t (0, 0)) ∧ ¬ ft b
theorem KeptB.lt {W : World} {b : Nat} {xs : List Value} {t : TypeId} {ft : Nat → Prop} (h : KeptB W b xs t ft) : b < W.heap.size := (Array.getElem?_eq_some_iff.1 h.1).1
theorem KeptB.later {W W' : World} {b : Nat} {xs : List Value} {t : TypeId} {ft : Nat → Prop} (h : KeptB W b xs t ft) (hf : Fr0 none' W W') : KeptB W' b xs t ft := ⟨(hf.block b h.lt id).trans h.1, h.2⟩
theorem KeptB.step {W W' : World} {b : Nat} {xs : List Value} {t : TypeId} {ft : Nat → Prop} (h : KeptB W b xs t ft) (hf : Fr0 ft W W') : KeptB W' b xs t (qgrow ft W W') := ⟨(hf.block b h.lt h.2).trans h.1, fun hk => hk.elim h.2 (fun g => by have := h.lt; omega)⟩
theorem KeptB.step2 {W W' : World} {b : Nat} {xs : List Value} {t : TypeId} {ft ft' : Nat → Prop} (h : KeptB W b xs t ft) (hs : ∀ k, ft' k → ft k ∨ W.heap.size ≤ k) (hf : Fr0 ft W W') : KeptB W' b xs t ft' := ⟨(hf.block b h.lt h.2).trans h.1, fun hk => (hs b hk).elim h.2 (fun g => by have := h.lt; omega)⟩
/-- A row that a queue does not touch. -/
def KeptR (W : World) (base : Nat) (v : Value) (S : List Ev) (ft : Nat → Prop) : Prop := W.ownsRow base 28 5 v S.length (flatEv S) ∧ ∀ g, v.ownBlock = some g → ¬ ft g
theorem KeptR.later {W W' : World} {base : Nat} {v : Value} {S : List Ev} {ft : Nat → Prop} (h : KeptR W base v S ft) (hf : Fr0 none' W W') : KeptR W' base v S ft := ⟨ownsRow_fr0 h.1 hf (fun _ _ h => h), h.2⟩
theorem KeptR.step {W W' : World} {base : Nat} {v : Value} {S : List Ev} {ft : Nat → Prop} (h : KeptR W base v S ft) (hf : Fr0 ft W W') : KeptR W' base v S (qgrow ft W W') := ⟨ownsRow_fr0 h.1 hf h.2, fun g hg hk => hk.elim (h.2 g hg) (fun e => by have := (h.1.lt g hg).2; omega)⟩
theorem KeptR.step2 {W W' : World} {base : Nat} {v : Value} {S : List Ev} {ft ft' : Nat → Prop} (h : KeptR W base v S ft) (hs : ∀ k, ft' k → ft k ∨ W.heap.size ≤ k) (hf : Fr0 ft W W') : KeptR W' base v S ft' := ⟨ownsRow_fr0 h.1 hf h.2, fun g hg hk => (hs g hk).elim (h.2 g hg) (fun e => by have := (h.1.lt g hg).2; omega)⟩
theorem KeptR.right {W W' : World} {base : Nat} {v : Value} {S : List Ev} {ft gt gt' : Nat → Prop} (h : KeptR W base v S (fun k => ft k ∨ gt k)) (hs : ∀ k, gt' k → gt k ∨ W.heap.size ≤ k) (hf : Fr0 gt W W') : KeptR W' base v S (fun k => ft k ∨ gt' k) :=
  h.step2 (fun k hk => hk.elim (fun h => .inl (.inl h)) (fun h => (hs k h).elim (fun g => .inl (.inr g)) .inr)) (hf.mono (fun _ _ h => .inr h))
theorem KeptR.left {W W' : World} {base : Nat} {v : Value} {S : List Ev} {ft ft' gt : Nat → Prop} (h : KeptR W base v S (fun k => ft k ∨ gt k)) (hs : ∀ k, ft' k → ft k ∨ W.heap.size ≤ k) (hf : Fr0 ft W W') : KeptR W' base v S (fun k => ft' k ∨ gt k) :=
  h.step2 (fun k hk => hk.elim (fun h => (hs k h).elim (fun g => .inl (.inl g)) .inr) (fun h => .inl (.inr h))) (hf.mono (fun _ _ h => .inl h))
theorem KeptR.slice {W : World} {base : Nat} {v : Value} {S : List Ev} {ft : Nat → Prop} (h : KeptR W base v S ft) : ∃ va vc, v = .slice va S.length vc ∧ EsIn W va S := by
  obtain ⟨va, vc, h1, _, h3⟩ := EsIn.of_own h.1
  exact ⟨va, vc, h1, h3⟩
def evA : Ev := ⟨⟨5, 1, 0⟩, 1, 0⟩
def evB : Ev := ⟨⟨3, 2, 0⟩, 1, 0⟩
def evC : Ev := ⟨⟨9, 1, 0⟩, 1, 0⟩
def evD : Ev := ⟨⟨4, 1, 1⟩, 1, 0⟩
def evF : Ev := ⟨⟨4, 1, 2⟩, 1, 0⟩
theorem awake_t1 : allV 2 [] [evA] = (-1, 0) ∧ allE 2 [] [evA] = [evA] := by decide
theorem awake_t2 : allV 2 [evA] [evB] = (-1, 0) ∧ allE 2 [evA] [evB] = [evB, evA] := by decide
theorem awake_t3 : (allV 2 [evB, evA] [evC]).2 = 101 ∧ allE 2 [evB, evA] [evC] = [evB, evA] := by decide
theorem awake_t4 : (allV 2 [evB, evA] [evD]).2 = 4 ∧ allE 2 [evB, evA] [evD] = [evB, evA] := by decide
theorem awake_t5 : allV 2 [evA] [evD, evD] = (1, 101) ∧ allE 2 [evA] [evD, evD] = [evA] := by decide
theorem awake_t6 : allV 2 [evA] [evD, evF] = (-1, 4) ∧ allE 2 [evA] [evD, evF] = [evA] := by decide
set_option maxRecDepth 100000 in
set_option maxHeartbeats 4000000 in
theorem awake_any (w : World) : Calls Tryz.prog 7 #[] w fun e w' => e = .returned (.bool true) ∧ Fr0 none' w w' := by
  have HN := Lib.hid (QNew_is 2 (by omega) w)
  go_enter Tryz.func7, Tryz.ntmps7
  go_wp2_with fail
  refine HN.out.mono ?_
  rintro e w1 ⟨qb, ft, rfl, hq1, f1, hge⟩
  have H := Lib.hid (show St w w1 qb 2 0 [] ft from ⟨hq1, f1, hge⟩)
  clear hq1 f1 hge HN
  go_wp2_with fail
  refine (at_any 5 1 0 _).mono ?_
  rintro e wA ⟨rfl, hfA⟩
  have H := Lib.hid (H.out.later hfA)
  clear hfA
  simp only [evV]
  go_wp2_with fail
  have HP := H.out.1.put1 evA (by omega)
  rw [awake_t1.1, awake_t1.2] at HP
  refine HP.mono ?_
  rintro e wB ⟨rfl, hq, hf⟩
  have H := Lib.hid (H.out.step hq hf)
  clear hq hf HP
  go_wp2_with fail
  refine (at_any 3 2 0 _).mono ?_
  rintro e wA ⟨rfl, hfA⟩
  have H := Lib.hid (H.out.later hfA)
  clear hfA
  simp only [evV]
  go_wp2_with fail
  have HP := H.out.1.put1 evB (by omega)
  rw [awake_t2.1, awake_t2.2] at HP
  refine HP.mono ?_
  rintro e wB ⟨rfl, hq, hf⟩
  have H := Lib.hid (H.out.step hq hf)
  clear hq hf HP
  go_wp2_with fail
  refine (at_any 9 1 0 _).mono ?_
  rintro e wA ⟨rfl, hfA⟩
  have H := Lib.hid (H.out.later hfA)
  clear hfA
  simp only [evV]
  go_wp2_with fail
  have HP := H.out.1.put1 evC (by omega)
  rw [awake_t3.1, awake_t3.2] at HP
  refine HP.mono ?_
  rintro e wB ⟨rfl, hq, hf⟩
  have H := Lib.hid (H.out.step hq hf)
  clear hq hf HP
  go_wp2_with fail
  refine (at_any 4 1 1 _).mono ?_
  rintro e wA ⟨rfl, hfA⟩
  have H := Lib.hid (H.out.later hfA)
  clear hfA
  simp only [evV]
  go_wp2_with fail
  have HP := H.out.1.put1 evD (by omega)
  rw [awake_t4.1, awake_t4.2] at HP
  refine HP.mono ?_
  rintro e wB ⟨rfl, hq, hf⟩
  have H := Lib.hid (H.out.step hq hf)
  clear hq hf HP
  go_wp2_with fail
  refine (show Calls Tryz.prog 23 _ _ (fun e w' => e = .returned (.tuple #[evV evB, .bool true]) ∧ Fr0 none' wB w') from H.out.1.least).mono ?_
  rintro e wC ⟨rfl, hfC⟩
  have H := Lib.hid (H.out.later hfC)
  clear hfC
  simp only [evV, evB]
  go_wp2_with fail
  obtain ⟨xb, hxb⟩ : ∃ xb, wC.heap.size = xb := ⟨_, rfl⟩
  obtain ⟨W, hW⟩ : ∃ W, wC.alloc (.cells #[.int .i64 3, .int .i64 2, .int .i64 0, .int .i64 1, .int .i64 0] 28) = W := ⟨_, rfl⟩
  have FW : Fr0 none' wC W := by rw [← hW]; exact (Fr0.refl _ _).alloc _
  have HX := Lib.hid (show KeptB W xb (cev evB) 28 _ from ⟨by rw [← hW, ← hxb]; exact World.alloc_heap_new wC _, fun hk => by have := H.out.1.lt xb hk; omega⟩)
  have H := Lib.hid (H.out.later FW)
  rw [hW]
  try rw [hxb]
  clear hW hxb FW
  refine (H.out.1.takeBefore 5 (by omega)).mono ?_
  rintro e wD ⟨l, ft', rfl, hr, hq, hs, hd, hf⟩
  rw [show befE 5 [evB, evA] = [evB] by decide] at hr
  rw [show aftE 5 [evB, evA] = [evA] by decide] at hq
  have HX := Lib.hid (HX.out.step2 hs hf)
  have H := Lib.hid (H.out.step2 hq hs hf)
  have HR := Lib.hid (show KeptR wD _ l [evB] ft' from ⟨hr, hd⟩)
  clear hr hq hs hd hf
  go_wp2_with fail
  refine (show Calls Tryz.prog 25 _ _ (fun e w' => e = .returned (.int .i64 1) ∧ Fr0 none' wD w') from H.out.1.room).mono ?_
  rintro e wE ⟨rfl, hf⟩
  have H := Lib.hid (H.out.later hf)
  have HX := Lib.hid (HX.out.later hf)
  have HR := Lib.hid (HR.out.later hf)
  clear hf
  go_wp2_with fail
  refine (at_any 4 1 1 _).mono ?_
  rintro e wF ⟨rfl, hf⟩
  have H := Lib.hid (H.out.later hf)
  have HX := Lib.hid (HX.out.later hf)
  have HR := Lib.hid (HR.out.later hf)
  clear hf
  simp only [evV]
  go_wp2_with fail
  refine (at_any 4 1 1 _).mono ?_
  rintro e wF ⟨rfl, hf⟩
  have H := Lib.hid (H.out.later hf)
  have HX := Lib.hid (HX.out.later hf)
  have HR := Lib.hid (HR.out.later hf)
  clear hf
  simp only [evV]
  go_wp2_with fail
  obtain ⟨qx, hqx⟩ : ∃ qx, wF.heap.size = qx := ⟨_, rfl⟩
  obtain ⟨W, hW⟩ : ∃ W, wF.alloc (.cells #[.int .i64 4, .int .i64 1, .int .i64 1, .int .i64 1, .int .i64 0, .int .i64 4, .int .i64 1, .int .i64 1, .int .i64 1, .int .i64 0] 28) = W := ⟨_, rfl⟩
  rw [hW]
  try rw [hqx]
  have FW : Fr0 none' wF W := by rw [← hW]; exact (Fr0.refl _ _).alloc _
  have hl : EsIn W (some ⟨qx, 0, none⟩) [evD, evD] := by rw [← hW, ← hqx]; exact EsIn.of_cells (n := 2) (World.alloc_heap_new _ _) (by simp [flatEv, cev, evD, evD])
  have hlt := H.out.1.lt
  have H := Lib.hid (H.out.later FW)
  have HX := Lib.hid (HX.out.later FW)
  have HR := Lib.hid (HR.out.later FW)
  clear hW FW
  have HP := H.out.1.putAll (m := 2) (cap := 2) [evD, evD] hl rfl (by omega) (by omega) (fun g o s e hk => by
    injection e with e
    injection e with e
    have := hlt g hk
    omega)
  rw [awake_t5.1, awake_t5.2] at HP
  refine HP.mono ?_
  rintro e wH ⟨rfl, hq, hf⟩
  have HX := Lib.hid (HX.out.step hf)
  have HR := Lib.hid (HR.out.step hf)
  have H := Lib.hid (H.out.step hq hf)
  clear hq hf HP hl hlt hqx
  go_wp2_with fail
  refine (at_any 4 1 1 _).mono ?_
  rintro e wF ⟨rfl, hf⟩
  have H := Lib.hid (H.out.later hf)
  have HX := Lib.hid (HX.out.later hf)
  have HR := Lib.hid (HR.out.later hf)
  clear hf
  simp only [evV]
  go_wp2_with fail
  refine (at_any 4 1 2 _).mono ?_
  rintro e wF ⟨rfl, hf⟩
  have H := Lib.hid (H.out.later hf)
  have HX := Lib.hid (HX.out.later hf)
  have HR := Lib.hid (HR.out.later hf)
  clear hf
  simp only [evV]
  go_wp2_with fail
  obtain ⟨qx, hqx⟩ : ∃ qx, wF.heap.size = qx := ⟨_, rfl⟩
  obtain ⟨W, hW⟩ : ∃ W, wF.alloc (.cells #[.int .i64 4, .int .i64 1, .int .i64 1, .int .i64 1, .int .i64 0, .int .i64 4, .int .i64 1, .int .i64 2, .int .i64 1, .int .i64 0] 28) = W := ⟨_, rfl⟩
  rw [hW]
  try rw [hqx]
  have FW : Fr0 none' wF W := by rw [← hW]; exact (Fr0.refl _ _).alloc _
  have hl : EsIn W (some ⟨qx, 0, none⟩) [evD, evF] := by rw [← hW, ← hqx]; exact EsIn.of_cells (n := 2) (World.alloc_heap_new _ _) (by simp [flatEv, cev, evD, evF])
  have hlt := H.out.1.lt
  have H := Lib.hid (H.out.later FW)
  have HX := Lib.hid (HX.out.later FW)
  have HR := Lib.hid (HR.out.later FW)
  clear hW FW
  have HP := H.out.1.putAll (m := 2) (cap := 2) [evD, evF] hl rfl (by omega) (by omega) (fun g o s e hk => by
    injection e with e
    injection e with e
    have := hlt g hk
    omega)
  rw [awake_t6.1, awake_t6.2] at HP
  refine HP.mono ?_
  rintro e wH ⟨rfl, hq, hf⟩
  have HX := Lib.hid (HX.out.step hf)
  have HR := Lib.hid (HR.out.step hf)
  have H := Lib.hid (H.out.step hq hf)
  clear hq hf HP hl hlt hqx
  go_wp2_with fail
  have HC := H.out.1.cancel (nm := (1, 0)) ⟨by decide, by decide⟩ ⟨by decide, by decide⟩ (by omega)
  rw [show findE (1, 0) [evA] = some evA by decide, show delE (1, 0) [evA] = [] by decide] at HC
  simp only [Option.getD_some, Option.isSome_some, if_true, evV, evA] at HC
  refine HC.mono ?_
  rintro e wK ⟨rfl, hq, hf⟩
  have HX := Lib.hid (HX.out.step hf)
  have HR := Lib.hid (HR.out.step hf)
  have H := Lib.hid (H.out.step hq hf)
  clear hq hf HC
  go_wp2_with fail
  obtain ⟨yb, hyb⟩ : ∃ yb, wK.heap.size = yb := ⟨_, rfl⟩
  obtain ⟨W, hW⟩ : ∃ W, wK.alloc (.cells #[.int .i64 5, .int .i64 1, .int .i64 0, .int .i64 1, .int .i64 0] 28) = W := ⟨_, rfl⟩
  have FW : Fr0 none' wK W := by rw [← hW]; exact (Fr0.refl _ _).alloc _
  have HY := Lib.hid (show KeptB W yb (cev evA) 28 _ from ⟨by rw [← hW, ← hyb]; exact World.alloc_heap_new wK _, fun hk => by have := H.out.1.lt yb hk; omega⟩)
  have H := Lib.hid (H.out.later FW)
  have HX := Lib.hid (HX.out.later FW)
  have HR := Lib.hid (HR.out.later FW)
  rw [hW]
  try rw [hyb]
  clear hW hyb FW
  have HT := H.out.1.take (by omega)
  rw [if_pos rfl] at HT
  refine HT.mono ?_
  rintro e wL ⟨rfl, hq, hf⟩
  have HX := Lib.hid (HX.out.step hf)
  have HY := Lib.hid (HY.out.step hf)
  have HR := Lib.hid (HR.out.step hf)
  have FL := Lib.hid (H.out.step hq hf).2.1
  clear hq hf HT
  simp only [lstE, zeroEv, evV]
  have x0 := cells_in HX.out.1 0
  have x1 := cells_in HX.out.1 1
  have x2 := cells_in HX.out.1 2
  have x3 := cells_in HX.out.1 3
  have x4 := cells_in HX.out.1 4
  simp [cev, evB] at x0 x1 x2 x3 x4
  go_wp2_with fail
  obtain ⟨V0, hV0⟩ : ∃ V, wL.alloc (.cells #[.int .i64 0, .int .i64 0, .int .i64 0, .int .i64 0, .int .i64 0] 28) = V := ⟨_, rfl⟩
  have FV : Fr0 none' wL V0 := by rw [← hV0]; exact (Fr0.refl _ _).alloc _
  rw [hV0]
  have HX := Lib.hid (HX.out.later FV)
  have HY := Lib.hid (HY.out.later FV)
  have HR := Lib.hid (HR.out.later FV)
  have FV := Lib.hid (FL.out.trans FV)
  clear hV0 x0 x1 x2 x3 x4
  have hX := Lib.hid (fun (W' : World) (hf : Fr0 none' V0 W') => (HX.out.later hf).1)
  have hY := Lib.hid (fun (W' : World) (hf : Fr0 none' V0 W') => (HY.out.later hf).1)
  simp only [cev, evA, evB] at hX hY
  obtain ⟨va, vc, rfl, hva⟩ := HR.out.slice
  have Hva := Lib.hid hva
  clear hva
  refine wp_region_held_drew (S := fun W' => Fr0 none' V0 W') (by kernel_rfl) ((Fr0.refl none' V0).drew) (fun hHeld => ?_)
  refine take_on (i := 0) (v := .int .i64 0) rfl (by kernel_rfl) (by kernel_rfl) (by kernel_rfl) (fun _ _ _ h => h) (by kernel_rfl) (fun W' hSW => ?_) (by assumption) ?_
  · first | (go_simp; done) | exact rfl | (go_simp; rfl) | (go_simp; omega)
  try simp only [Act.put, List.setIfInBounds_toArray, List.set_cons_zero, List.set_cons_succ]
  refine take_on (i := 1) (v := .int .i64 0) rfl (by kernel_rfl) (by kernel_rfl) (by kernel_rfl) (fun _ _ _ h => h) (by kernel_rfl) (fun W' hSW => ?_) (by assumption) ?_
  · first | (go_simp; done) | exact rfl | (go_simp; rfl) | (go_simp; omega)
  try simp only [Act.put, List.setIfInBounds_toArray, List.set_cons_zero, List.set_cons_succ]
  refine take_on (i := 2) (v := .int .i64 0) rfl (by kernel_rfl) (by kernel_rfl) (by kernel_rfl) (fun _ _ _ h => h) (by kernel_rfl) (fun W' hSW => ?_) (by assumption) ?_
  · first | (go_simp; done) | exact rfl | (go_simp; rfl) | (go_simp; omega)
  try simp only [Act.put, List.setIfInBounds_toArray, List.set_cons_zero, List.set_cons_succ]
  refine take_on (i := 3) (v := .int .i64 0) rfl (by kernel_rfl) (by kernel_rfl) (by kernel_rfl) (fun _ _ _ h => h) (by kernel_rfl) (fun W' hSW => ?_) (by assumption) ?_
  · first | (go_simp; done) | exact rfl | (go_simp; rfl) | (go_simp; omega)
  try simp only [Act.put, List.setIfInBounds_toArray, List.set_cons_zero, List.set_cons_succ]
  refine take_on (i := 4) (v := .int .i64 0) rfl (by kernel_rfl) (by kernel_rfl) (by kernel_rfl) (fun _ _ _ h => h) (by kernel_rfl) (fun W' hSW => ?_) (by assumption) ?_
  · first | (go_simp; done) | exact rfl | (go_simp; rfl) | (go_simp; omega)
  try simp only [Act.put, List.setIfInBounds_toArray, List.set_cons_zero, List.set_cons_succ]
  refine take_on (i := 5) (v := .bool true) rfl (by kernel_rfl) (by kernel_rfl) (by kernel_rfl) (fun _ _ _ h => h) (by kernel_rfl) (fun W' hSW => ?_) (by assumption) ?_
  · first | (go_simp; done) | exact rfl | (go_simp; rfl) | (go_simp; omega)
  try simp only [Act.put, List.setIfInBounds_toArray, List.set_cons_zero, List.set_cons_succ]
  refine take_on (i := 6) (v := .bool true) rfl (by kernel_rfl) (by kernel_rfl) (by kernel_rfl) (fun _ _ _ h => h) (by kernel_rfl) (fun W' hSW => ?_) (by assumption) ?_
  · first | (go_simp; done) | exact rfl | (go_simp; rfl) | (go_simp; omega)
  try simp only [Act.put, List.setIfInBounds_toArray, List.set_cons_zero, List.set_cons_succ]
  refine take_on (i := 7) (v := .int .i64 101) rfl (by kernel_rfl) (by kernel_rfl) (by kernel_rfl) (fun _ _ _ h => h) (by kernel_rfl) (fun W' hSW => ?_) (by assumption) ?_
  · first | (go_simp; done) | exact rfl | (go_simp; rfl) | (go_simp; omega)
  try simp only [Act.put, List.setIfInBounds_toArray, List.set_cons_zero, List.set_cons_succ]
  refine take_on (i := 8) (v := .bool true) rfl (by kernel_rfl) (by kernel_rfl) (by kernel_rfl) (fun _ _ _ h => h) (by kernel_rfl) (fun W' hSW => ?_) (by assumption) ?_
  · first | (go_simp; done) | exact rfl | (go_simp; rfl) | (go_simp; omega)
  try simp only [Act.put, List.setIfInBounds_toArray, List.set_cons_zero, List.set_cons_succ]
  refine take_on (i := 9) (v := .bool true) rfl (by kernel_rfl) (by kernel_rfl) (by kernel_rfl) (fun _ _ _ h => h) (by kernel_rfl) (fun W' hSW => ?_) (by assumption) ?_
  · first | (go_simp; done) | exact rfl | (go_simp; rfl) | (go_simp; omega)
  try simp only [Act.put, List.setIfInBounds_toArray, List.set_cons_zero, List.set_cons_succ]
  refine take_on (i := 10) (v := .bool true) rfl (by kernel_rfl) (by kernel_rfl) (by kernel_rfl) (fun _ _ _ h => h) (by kernel_rfl) (fun W' hSW => ?_) (by assumption) ?_
  · first | (go_simp; done) | exact rfl | (go_simp; rfl) | (go_simp; omega)
  try simp only [Act.put, List.setIfInBounds_toArray, List.set_cons_zero, List.set_cons_succ]
  refine take_on (i := 11) (v := .int .i64 4) rfl (by kernel_rfl) (by kernel_rfl) (by kernel_rfl) (fun _ _ _ h => h) (by kernel_rfl) (fun W' hSW => ?_) (by assumption) ?_
  · first | (go_simp; done) | exact rfl | (go_simp; rfl) | (go_simp; omega)
  try simp only [Act.put, List.setIfInBounds_toArray, List.set_cons_zero, List.set_cons_succ]
  refine take_on (i := 12) (v := .bool true) rfl (by kernel_rfl) (by kernel_rfl) (by kernel_rfl) (fun _ _ _ h => h) (by kernel_rfl) (fun W' hSW => ?_) (by assumption) ?_
  · first | (go_simp; done) | exact rfl | (go_simp; rfl) | (go_simp; omega)
  try simp only [Act.put, List.setIfInBounds_toArray, List.set_cons_zero, List.set_cons_succ]
  refine take_on (i := 13) (v := .bool true) rfl (by kernel_rfl) (by kernel_rfl) (by kernel_rfl) (fun _ _ _ h => h) (by kernel_rfl) (fun W' hSW => ?_) (by assumption) ?_
  · first | (go_simp; done) | exact rfl | (go_simp; rfl) | (go_simp; omega)
  try simp only [Act.put, List.setIfInBounds_toArray, List.set_cons_zero, List.set_cons_succ]
  refine take_on (i := 14) (v := .bool true) rfl (by kernel_rfl) (by kernel_rfl) (by kernel_rfl) (fun _ _ _ h => h) (by kernel_rfl) (fun W' hSW => ?_) (by assumption) ?_
  · first | (go_simp; done) | exact rfl | (go_simp; rfl) | (go_simp; omega)
  try simp only [Act.put, List.setIfInBounds_toArray, List.set_cons_zero, List.set_cons_succ]
  refine take_on (i := 15) (v := evV evB) rfl (by kernel_rfl) (by kernel_rfl) (by kernel_rfl) (fun _ _ _ h => h) (by kernel_rfl) (fun W' hSW => ?_) (by assumption) ?_
  · have hb := hX.out W' hSW
    have x0 := cells_in hb 0
    have x1 := cells_in hb 1
    have x2 := cells_in hb 2
    have x3 := cells_in hb 3
    have x4 := cells_in hb 4
    simp at x0 x1 x2 x3 x4
    clear hb
    first | (go_simp; done) | exact rfl | (go_simp; rfl) | (go_simp; omega)
  try simp only [Act.put, List.setIfInBounds_toArray, List.set_cons_zero, List.set_cons_succ]
  refine take_call (i := 16) rfl (by kernel_rfl) (by kernel_rfl) (fun K hK => ?_)
  go_simp
  refine (at_any 3 2 0 _).mono ?_
  rintro e wA ⟨rfl, hfA⟩
  have FA := Lib.hid (hHeld.trans hfA)
  clear hfA
  simp only [evV]
  go_wp2_with fail
  refine hK.out _ _ FA.out (fun hHeld => ?_)
  clear hK K
  try simp only [Act.put, List.setIfInBounds_toArray, List.set_cons_zero, List.set_cons_succ]
  refine take_on (i := 17) (v := .bool true) rfl (by kernel_rfl) (by kernel_rfl) (by kernel_rfl) (fun _ _ _ h => h) (by kernel_rfl) (fun W' hSW => ?_) (by assumption) ?_
  · first | (go_simp; done) | exact rfl | (go_simp; rfl) | (go_simp; omega)
  try simp only [Act.put, List.setIfInBounds_toArray, List.set_cons_zero, List.set_cons_succ]
  refine take_on (i := 18) (v := .bool true) rfl (by kernel_rfl) (by kernel_rfl) (by kernel_rfl) (fun _ _ _ h => h) (by kernel_rfl) (fun W' hSW => ?_) (by assumption) ?_
  · first | (go_simp; done) | exact rfl | (go_simp; rfl) | (go_simp; omega)
  try simp only [Act.put, List.setIfInBounds_toArray, List.set_cons_zero, List.set_cons_succ]
  refine take_on (i := 19) (v := .bool true) rfl (by kernel_rfl) (by kernel_rfl) (by kernel_rfl) (fun _ _ _ h => h) (by kernel_rfl) (fun W' hSW => ?_) (by assumption) ?_
  · first | (go_simp; done) | exact rfl | (go_simp; rfl) | (go_simp; omega)
  try simp only [Act.put, List.setIfInBounds_toArray, List.set_cons_zero, List.set_cons_succ]
  refine take_on (i := 20) (v := .bool true) rfl (by kernel_rfl) (by kernel_rfl) (by kernel_rfl) (fun _ _ _ h => h) (by kernel_rfl) (fun W' hSW => ?_) (by assumption) ?_
  · first | (go_simp; done) | exact rfl | (go_simp; rfl) | (go_simp; omega)
  try simp only [Act.put, List.setIfInBounds_toArray, List.set_cons_zero, List.set_cons_succ]
  refine take_on (i := 21) (v := .bool true) rfl (by kernel_rfl) (by kernel_rfl) (by kernel_rfl) (fun _ _ _ h => h) (by kernel_rfl) (fun W' hSW => ?_) (by assumption) ?_
  · first | (go_simp; done) | exact rfl | (go_simp; rfl) | (go_simp; omega)
  try simp only [Act.put, List.setIfInBounds_toArray, List.set_cons_zero, List.set_cons_succ]
  refine take_on (i := 22) (v := .bool true) rfl (by kernel_rfl) (by kernel_rfl) (by kernel_rfl) (fun _ _ _ h => h) (by kernel_rfl) (fun W' hSW => ?_) (by assumption) ?_
  · first | (go_simp; done) | exact rfl | (go_simp; rfl) | (go_simp; omega)
  try simp only [Act.put, List.setIfInBounds_toArray, List.set_cons_zero, List.set_cons_succ]
  refine take_on (i := 23) (v := .slice va 1 vc) rfl (by kernel_rfl) (by kernel_rfl) (by kernel_rfl) (fun _ _ _ h => h) (by kernel_rfl) (fun W' hSW => ?_) (by assumption) ?_
  · first | (go_simp; done) | exact rfl | (go_simp; rfl) | (go_simp; omega)
  try simp only [Act.put, List.setIfInBounds_toArray, List.set_cons_zero, List.set_cons_succ]
  refine take_call (i := 24) rfl (by kernel_rfl) (by kernel_rfl) (fun K hK => ?_)
  go_simp
  refine (at_any 3 2 0 _).mono ?_
  rintro e wA ⟨rfl, hfA⟩
  have FA := Lib.hid (hHeld.trans hfA)
  clear hfA
  simp only [evV]
  go_wp2_with fail
  refine hK.out _ _ FA.out (fun hHeld => ?_)
  clear hK K
  try simp only [Act.put, List.setIfInBounds_toArray, List.set_cons_zero, List.set_cons_succ]
  refine take_call (i := 25) rfl (by kernel_rfl) (by kernel_rfl) (fun K hK => ?_)
  go_simp
  obtain ⟨W2, hW2⟩ : ∃ W2, (wA.alloc (.cells #[.int .i64 3, .int .i64 2, .int .i64 0, .int .i64 1, .int .i64 0] 28)) = W2 := ⟨_, rfl⟩
  have hl2 := Lib.hid (show EsIn W2 (some ⟨wA.heap.size, 0, none⟩) [evB] by rw [← hW2]; exact EsIn.of_cells (n := 1) (World.alloc_heap_new _ _) (by simp [flatEv, cev, evB]))
  have F2 := Lib.hid (hHeld.trans (show Fr0 none' wA W2 by rw [← hW2]; exact (Fr0.refl _ _).alloc _))
  have hl1 := Lib.hid (Hva.out.later F2.out)
  rw [hW2]
  clear hW2
  refine hK.out _ _ F2.out (fun hHeld => ?_)
  clear hK K
  try simp only [Act.put, List.setIfInBounds_toArray, List.set_cons_zero, List.set_cons_succ]
  refine take_call (i := 26) rfl (by kernel_rfl) (by kernel_rfl) (fun K hK => ?_)
  go_simp
  have HS := sameEs_any va (some ⟨wA.heap.size, 0, none⟩) 1 1 vc 1 [evB] [evB] W2 rfl rfl (by omega) (by omega) hl1.out hl2.out
  rw [show decide (([evB] : List Ev) = [evB]) = true by decide] at HS
  refine HS.mono ?_
  rintro e wA ⟨rfl, hfA⟩
  have FA := Lib.hid (hHeld.trans hfA)
  clear hfA HS hl1 hl2
  go_wp2_with fail
  refine hK.out _ _ FA.out (fun hHeld => ?_)
  clear hK K
  try simp only [Act.put, List.setIfInBounds_toArray, List.set_cons_zero, List.set_cons_succ]
  refine take_on (i := 27) (v := .bool true) rfl (by kernel_rfl) (by kernel_rfl) (by kernel_rfl) (fun _ _ _ h => h) (by kernel_rfl) (fun W' hSW => ?_) (by assumption) ?_
  · first | (go_simp; done) | exact rfl | (go_simp; rfl) | (go_simp; omega)
  try simp only [Act.put, List.setIfInBounds_toArray, List.set_cons_zero, List.set_cons_succ]
  refine take_on (i := 28) (v := .bool true) rfl (by kernel_rfl) (by kernel_rfl) (by kernel_rfl) (fun _ _ _ h => h) (by kernel_rfl) (fun W' hSW => ?_) (by assumption) ?_
  · first | (go_simp; done) | exact rfl | (go_simp; rfl) | (go_simp; omega)
  try simp only [Act.put, List.setIfInBounds_toArray, List.set_cons_zero, List.set_cons_succ]
  refine take_on (i := 29) (v := .int .i64 1) rfl (by kernel_rfl) (by kernel_rfl) (by kernel_rfl) (fun _ _ _ h => h) (by kernel_rfl) (fun W' hSW => ?_) (by assumption) ?_
  · first | (go_simp; done) | exact rfl | (go_simp; rfl) | (go_simp; omega)
  try simp only [Act.put, List.setIfInBounds_toArray, List.set_cons_zero, List.set_cons_succ]
  refine take_on (i := 30) (v := .bool true) rfl (by kernel_rfl) (by kernel_rfl) (by kernel_rfl) (fun _ _ _ h => h) (by kernel_rfl) (fun W' hSW => ?_) (by assumption) ?_
  · first | (go_simp; done) | exact rfl | (go_simp; rfl) | (go_simp; omega)
  try simp only [Act.put, List.setIfInBounds_toArray, List.set_cons_zero, List.set_cons_succ]
  refine take_on (i := 31) (v := .bool true) rfl (by kernel_rfl) (by kernel_rfl) (by kernel_rfl) (fun _ _ _ h => h) (by kernel_rfl) (fun W' hSW => ?_) (by assumption) ?_
  · first | (go_simp; done) | exact rfl | (go_simp; rfl) | (go_simp; omega)
  try simp only [Act.put, List.setIfInBounds_toArray, List.set_cons_zero, List.set_cons_succ]
  refine take_on (i := 32) (v := .bool true) rfl (by kernel_rfl) (by kernel_rfl) (by kernel_rfl) (fun _ _ _ h => h) (by kernel_rfl) (fun W' hSW => ?_) (by assumption) ?_
  · first | (go_simp; done) | exact rfl | (go_simp; rfl) | (go_simp; omega)
  try simp only [Act.put, List.setIfInBounds_toArray, List.set_cons_zero, List.set_cons_succ]
  refine take_on (i := 33) (v := .int .i64 1) rfl (by kernel_rfl) (by kernel_rfl) (by kernel_rfl) (fun _ _ _ h => h) (by kernel_rfl) (fun W' hSW => ?_) (by assumption) ?_
  · first | (go_simp; done) | exact rfl | (go_simp; rfl) | (go_simp; omega)
  try simp only [Act.put, List.setIfInBounds_toArray, List.set_cons_zero, List.set_cons_succ]
  refine take_on (i := 34) (v := .bool true) rfl (by kernel_rfl) (by kernel_rfl) (by kernel_rfl) (fun _ _ _ h => h) (by kernel_rfl) (fun W' hSW => ?_) (by assumption) ?_
  · first | (go_simp; done) | exact rfl | (go_simp; rfl) | (go_simp; omega)
  try simp only [Act.put, List.setIfInBounds_toArray, List.set_cons_zero, List.set_cons_succ]
  refine take_on (i := 35) (v := .bool true) rfl (by kernel_rfl) (by kernel_rfl) (by kernel_rfl) (fun _ _ _ h => h) (by kernel_rfl) (fun W' hSW => ?_) (by assumption) ?_
  · first | (go_simp; done) | exact rfl | (go_simp; rfl) | (go_simp; omega)
  try simp only [Act.put, List.setIfInBounds_toArray, List.set_cons_zero, List.set_cons_succ]
  refine take_on (i := 36) (v := .bool true) rfl (by kernel_rfl) (by kernel_rfl) (by kernel_rfl) (fun _ _ _ h => h) (by kernel_rfl) (fun W' hSW => ?_) (by assumption) ?_
  · first | (go_simp; done) | exact rfl | (go_simp; rfl) | (go_simp; omega)
  try simp only [Act.put, List.setIfInBounds_toArray, List.set_cons_zero, List.set_cons_succ]
  refine take_on (i := 37) (v := .int .i64 101) rfl (by kernel_rfl) (by kernel_rfl) (by kernel_rfl) (fun _ _ _ h => h) (by kernel_rfl) (fun W' hSW => ?_) (by assumption) ?_
  · first | (go_simp; done) | exact rfl | (go_simp; rfl) | (go_simp; omega)
  try simp only [Act.put, List.setIfInBounds_toArray, List.set_cons_zero, List.set_cons_succ]
  refine take_on (i := 38) (v := .bool true) rfl (by kernel_rfl) (by kernel_rfl) (by kernel_rfl) (fun _ _ _ h => h) (by kernel_rfl) (fun W' hSW => ?_) (by assumption) ?_
  · first | (go_simp; done) | exact rfl | (go_simp; rfl) | (go_simp; omega)
  try simp only [Act.put, List.setIfInBounds_toArray, List.set_cons_zero, List.set_cons_succ]
  refine take_on (i := 39) (v := .bool true) rfl (by kernel_rfl) (by kernel_rfl) (by kernel_rfl) (fun _ _ _ h => h) (by kernel_rfl) (fun W' hSW => ?_) (by assumption) ?_
  · first | (go_simp; done) | exact rfl | (go_simp; rfl) | (go_simp; omega)
  try simp only [Act.put, List.setIfInBounds_toArray, List.set_cons_zero, List.set_cons_succ]
  refine take_on (i := 40) (v := .bool true) rfl (by kernel_rfl) (by kernel_rfl) (by kernel_rfl) (fun _ _ _ h => h) (by kernel_rfl) (fun W' hSW => ?_) (by assumption) ?_
  · first | (go_simp; done) | exact rfl | (go_simp; rfl) | (go_simp; omega)
  try simp only [Act.put, List.setIfInBounds_toArray, List.set_cons_zero, List.set_cons_succ]
  refine take_on (i := 41) (v := .int .i64 (-1)) rfl (by kernel_rfl) (by kernel_rfl) (by kernel_rfl) (fun _ _ _ h => h) (by kernel_rfl) (fun W' hSW => ?_) (by assumption) ?_
  · first | (go_simp; done) | exact rfl | (go_simp; rfl) | (go_simp; omega)
  try simp only [Act.put, List.setIfInBounds_toArray, List.set_cons_zero, List.set_cons_succ]
  refine take_on (i := 42) (v := .bool true) rfl (by kernel_rfl) (by kernel_rfl) (by kernel_rfl) (fun _ _ _ h => h) (by kernel_rfl) (fun W' hSW => ?_) (by assumption) ?_
  · first | (go_simp; done) | exact rfl | (go_simp; rfl) | (go_simp; omega)
  try simp only [Act.put, List.setIfInBounds_toArray, List.set_cons_zero, List.set_cons_succ]
  refine take_on (i := 43) (v := .bool true) rfl (by kernel_rfl) (by kernel_rfl) (by kernel_rfl) (fun _ _ _ h => h) (by kernel_rfl) (fun W' hSW => ?_) (by assumption) ?_
  · first | (go_simp; done) | exact rfl | (go_simp; rfl) | (go_simp; omega)
  try simp only [Act.put, List.setIfInBounds_toArray, List.set_cons_zero, List.set_cons_succ]
  refine take_on (i := 44) (v := .bool true) rfl (by kernel_rfl) (by kernel_rfl) (by kernel_rfl) (fun _ _ _ h => h) (by kernel_rfl) (fun W' hSW => ?_) (by assumption) ?_
  · first | (go_simp; done) | exact rfl | (go_simp; rfl) | (go_simp; omega)
  try simp only [Act.put, List.setIfInBounds_toArray, List.set_cons_zero, List.set_cons_succ]
  refine take_on (i := 45) (v := .int .i64 4) rfl (by kernel_rfl) (by kernel_rfl) (by kernel_rfl) (fun _ _ _ h => h) (by kernel_rfl) (fun W' hSW => ?_) (by assumption) ?_
  · first | (go_simp; done) | exact rfl | (go_simp; rfl) | (go_simp; omega)
  try simp only [Act.put, List.setIfInBounds_toArray, List.set_cons_zero, List.set_cons_succ]
  refine take_on (i := 46) (v := .bool true) rfl (by kernel_rfl) (by kernel_rfl) (by kernel_rfl) (fun _ _ _ h => h) (by kernel_rfl) (fun W' hSW => ?_) (by assumption) ?_
  · first | (go_simp; done) | exact rfl | (go_simp; rfl) | (go_simp; omega)
  try simp only [Act.put, List.setIfInBounds_toArray, List.set_cons_zero, List.set_cons_succ]
  refine take_on (i := 47) (v := .bool true) rfl (by kernel_rfl) (by kernel_rfl) (by kernel_rfl) (fun _ _ _ h => h) (by kernel_rfl) (fun W' hSW => ?_) (by assumption) ?_
  · first | (go_simp; done) | exact rfl | (go_simp; rfl) | (go_simp; omega)
  try simp only [Act.put, List.setIfInBounds_toArray, List.set_cons_zero, List.set_cons_succ]
  refine take_on (i := 48) (v := .bool true) rfl (by kernel_rfl) (by kernel_rfl) (by kernel_rfl) (fun _ _ _ h => h) (by kernel_rfl) (fun W' hSW => ?_) (by assumption) ?_
  · first | (go_simp; done) | exact rfl | (go_simp; rfl) | (go_simp; omega)
  try simp only [Act.put, List.setIfInBounds_toArray, List.set_cons_zero, List.set_cons_succ]
  refine take_on (i := 49) (v := evV evA) rfl (by kernel_rfl) (by kernel_rfl) (by kernel_rfl) (fun _ _ _ h => h) (by kernel_rfl) (fun W' hSW => ?_) (by assumption) ?_
  · have hb := hY.out W' hSW
    have x0 := cells_in hb 0
    have x1 := cells_in hb 1
    have x2 := cells_in hb 2
    have x3 := cells_in hb 3
    have x4 := cells_in hb 4
    simp at x0 x1 x2 x3 x4
    clear hb
    first | (go_simp; done) | exact rfl | (go_simp; rfl) | (go_simp; omega)
  try simp only [Act.put, List.setIfInBounds_toArray, List.set_cons_zero, List.set_cons_succ]
  refine take_call (i := 50) rfl (by kernel_rfl) (by kernel_rfl) (fun K hK => ?_)
  go_simp
  refine (at_any 5 1 0 _).mono ?_
  rintro e wA ⟨rfl, hfA⟩
  have FA := Lib.hid (hHeld.trans hfA)
  clear hfA
  simp only [evV]
  go_wp2_with fail
  refine hK.out _ _ FA.out (fun hHeld => ?_)
  clear hK K
  try simp only [Act.put, List.setIfInBounds_toArray, List.set_cons_zero, List.set_cons_succ]
  refine take_on (i := 51) (v := .bool true) rfl (by kernel_rfl) (by kernel_rfl) (by kernel_rfl) (fun _ _ _ h => h) (by kernel_rfl) (fun W' hSW => ?_) (by assumption) ?_
  · first | (go_simp; done) | exact rfl | (go_simp; rfl) | (go_simp; omega)
  try simp only [Act.put, List.setIfInBounds_toArray, List.set_cons_zero, List.set_cons_succ]
  refine take_on (i := 52) (v := .bool true) rfl (by kernel_rfl) (by kernel_rfl) (by kernel_rfl) (fun _ _ _ h => h) (by kernel_rfl) (fun W' hSW => ?_) (by assumption) ?_
  · first | (go_simp; done) | exact rfl | (go_simp; rfl) | (go_simp; omega)
  try simp only [Act.put, List.setIfInBounds_toArray, List.set_cons_zero, List.set_cons_succ]
  refine take_on (i := 53) (v := .bool true) rfl (by kernel_rfl) (by kernel_rfl) (by kernel_rfl) (fun _ _ _ h => h) (by kernel_rfl) (fun W' hSW => ?_) (by assumption) ?_
  · first | (go_simp; done) | exact rfl | (go_simp; rfl) | (go_simp; omega)
  try simp only [Act.put, List.setIfInBounds_toArray, List.set_cons_zero, List.set_cons_succ]
  refine take_on (i := 54) (v := .int .i64 6) rfl (by kernel_rfl) (by kernel_rfl) (by kernel_rfl) (fun _ _ _ h => h) (by kernel_rfl) (fun W' hSW => ?_) (by assumption) ?_
  · first | (go_simp; done) | exact rfl | (go_simp; rfl) | (go_simp; omega)
  try simp only [Act.put, List.setIfInBounds_toArray, List.set_cons_zero, List.set_cons_succ]
  refine take_on (i := 55) (v := .bool true) rfl (by kernel_rfl) (by kernel_rfl) (by kernel_rfl) (fun _ _ _ h => h) (by kernel_rfl) (fun W' hSW => ?_) (by assumption) ?_
  · first | (go_simp; done) | exact rfl | (go_simp; rfl) | (go_simp; omega)
  try simp only [Act.put, List.setIfInBounds_toArray, List.set_cons_zero, List.set_cons_succ]
  refine take_on (i := 56) (v := .bool true) rfl (by kernel_rfl) (by kernel_rfl) (by kernel_rfl) (fun _ _ _ h => h) (by kernel_rfl) (fun W' hSW => ?_) (by assumption) ?_
  · first | (go_simp; done) | exact rfl | (go_simp; rfl) | (go_simp; omega)
  try simp only [Act.put, List.setIfInBounds_toArray, List.set_cons_zero, List.set_cons_succ]
  refine take_on (i := 57) (v := .bool true) rfl (by kernel_rfl) (by kernel_rfl) (by kernel_rfl) (fun _ _ _ h => h) (by kernel_rfl) (fun W' hSW => ?_) (by assumption) ?_
  · first | (go_simp; done) | exact rfl | (go_simp; rfl) | (go_simp; omega)
  try simp only [Act.put, List.setIfInBounds_toArray, List.set_cons_zero, List.set_cons_succ]
  refine wpAnyH_done (by kernel_rfl) ?_ _
  have hfin := FV.out.trans hHeld
  go_wp2
  go_ret
  exact ⟨rfl, hfin⟩
end Go.Proofs.YtmcgipilopfgoaaGreat

/-
  The reference of layer 10: Ready.
-/
namespace Go.Proofs.YtmcgipilopfgoaaGreat
open Go Go.RowKit
attribute [local go_sem ↓] Go.wp_at_zero Go.wp_at_succ
attribute [local go_sem] Oper.semAt_some wide_fn wide_depth wide_fnR wide_depthR

/-- Whether a process has an event before a time. -/
def hasE (t : Int) (E : List Ev) (p : Nat) : Bool := E.any (fun x => x.to == (p : Int) && decide (x.key.time < t))
/-- The processes below a number that have one. -/
def rdyE (t : Int) (E : List Ev) (k : Nat) : List Nat := (List.range' 1 (k - 1)).filter (hasE t E)
def natV' (p : Nat) : Value := .int .i64 (p : Int)
theorem rdy_snoc (t : Int) (E : List Ev) {k : Nat} (hk : 1 ≤ k) : rdyE t E (k + 1) = rdyE t E k ++ if hasE t E k then [k] else [] := by
  unfold rdyE
  have : k + 1 - 1 = (k - 1) + 1 := by omega
  rw [this, List.range'_1_concat, List.filter_append, show 1 + (k - 1) = k by omega]
  congr 1
  by_cases h : hasE t E k = true
  · simp [h]
  · simp [h]
theorem rdy_len (t : Int) (E : List Ev) (k : Nat) : (rdyE t E k).length ≤ k - 1 := by
  unfold rdyE
  refine Nat.le_trans (List.length_filter_le _ _) ?_
  simp
theorem has_true {t : Int} {E : List Ev} {p i : Nat} {x : Ev} (hx : E[i]? = some x) (h1 : x.to = (p : Int)) (h2 : x.key.time < t) : hasE t E p = true := by
  unfold hasE
  rw [List.any_eq_true]
  exact ⟨x, List.mem_of_getElem? hx, by simp [h1, h2]⟩
theorem has_false {t : Int} {E : List Ev} {p : Nat} (h : ∀ y ∈ E, ¬ (y.to = (p : Int) ∧ y.key.time < t)) : hasE t E p = false := by
  unfold hasE
  rw [List.any_eq_false]
  intro y hy e
  have := h y hy
  simp at e
  exact this e
set_option maxRecDepth 100000 in
set_option maxHeartbeats 2000000 in
theorem rReady_any {w : World} {a : Option Addr} {m cap : Nat} (c : Int) (E : List Ev) (h : EsIn w a E) (hl : E.length = m) (hm : m ≤ 1000) (t : Int) :
    Calls Tryz.prog 54 #[.agg #[.int .i64 c, .slice a m cap], .int .i64 t] w fun e w' => ∃ r, e = .returned r ∧ w'.ownsRow w.heap.size 3 1 r (rdyE t E 17).length ((rdyE t E 17).map natV') ∧ Fr0 none' w w' := by
  obtain ⟨i0, hi, hz0, hz1, hz2⟩ := info_parts info_int
  have H := Lib.hid h
  have Hl := Lib.hid hl
  clear h hl
  obtain ⟨R, hR⟩ : ∃ R, rdyE t E 17 = R := ⟨_, rfl⟩
  rw [hR]
  have HR := Lib.hid hR
  clear hR
  go_enter Tryz.func54, Tryz.ntmps54
  go_wp2_with fail
  obtain ⟨SB, hSB⟩ : ∃ B, w.heap.size = B := ⟨_, rfl⟩
  obtain ⟨W, hW⟩ : ∃ W, w.alloc (.cells #[.int .i64 c, .slice a m cap] 50) = W := ⟨_, rfl⟩
  have HS := Lib.hid (show W.heap[SB]? = some (.cells #[.int .i64 c, .slice a m cap] 50 (0, 0)) by rw [← hW, ← hSB]; exact World.alloc_heap_new w _)
  have HF := Lib.hid (show Fr0 none' w W by rw [← hW]; exact (Fr0.refl _ _).alloc _)
  have HSB := Lib.hid hSB
  rw [hW]
  try rw [hSB]
  clear hW hSB
  go_loopw [5, 6, 7] (fun v5 v6 _ wr => ∃ k : Nat, 1 ≤ k ∧ k ≤ 17 ∧ v6 = .int .i64 k ∧ Hid (wr.ownsRow (SB + 1) 3 1 v5 (rdyE t E k).length ((rdyE t E k).map natV')) ∧ Hid (wr.heap[SB]? = some (.cells #[.int .i64 c, .slice a m cap] 50 (0, 0))) ∧ Hid (Fr0 none' w wr)) (fun _ v6 _ _ => 17 - (Go.RowKit.intOf v6).toNat)
  case atStart => exact ⟨1, Nat.le_refl _, by omega, rfl, World.ownsRow_nil _ _ _ _, HS, HF⟩
  case round =>
    obtain ⟨k, hk1, hk, rfl, HE, HS, HF⟩ := hrel
    obtain ⟨O, hO⟩ : ∃ O, rdyE t E k = O := ⟨_, rfl⟩
    have hlo : O.length ≤ 16 := by have := rdy_len t E k; rw [hO] at this; omega
    rw [hO] at HE
    obtain ⟨oa, oc, rfl⟩ : ∃ oa oc, u5 = .slice oa O.length oc := by
      rcases HE.out.2 with ⟨h0, h1⟩ | ⟨g, cap, cur, hv, _⟩
      · exact ⟨none, 0, by rw [h0, h1]⟩
      · exact ⟨_, _, hv⟩
    by_cases hlt : k ≤ 16
    · have q1 : (k : Int) ≤ 16 := by omega
      have hsn := rdy_snoc t E hk1
      rw [hO] at hsn
      have Hsn := Lib.hid hsn
      clear hsn hO
      go_wp2_with fail
      have w0 : World := wr
      obtain ⟨W0, hW0⟩ : ∃ W0, wr = W0 := ⟨_, rfl⟩
      go_loopw [5, 7] (fun v5 v7 wi => ∃ i : Nat, i ≤ m ∧ v7 = .int .i64 i ∧ v5 = .slice oa O.length oc ∧ Hid (∀ y ∈ E.take i, ¬ (y.to = (k : Int) ∧ y.key.time < t)) ∧ Hid (wi.ownsRow (SB + 1) 3 1 (.slice oa O.length oc) O.length (O.map natV')) ∧ Hid (wi.heap[SB]? = some (.cells #[.int .i64 c, .slice a m cap] 50 (0, 0))) ∧ Hid (Fr0 none' w wi)) (fun _ v7 _ => m - (Go.RowKit.intOf v7).toNat)
      case atStart => exact ⟨0, Nat.zero_le _, rfl, rfl, by unfold Hid; simp, HE, HS, HF⟩
      case round =>
        clear hW0 W0 w0 HE HS HF
        obtain ⟨i, hi', rfl, rfl, HN, HE, HS, HF⟩ := hrel
        have s0 := cells_in HS.out 0
        have s1 := cells_in HS.out 1
        simp at s0 s1
        by_cases hil : i < m
        · obtain ⟨x, hx⟩ : ∃ x, E[i]? = some x := ⟨_, List.getElem?_eq_getElem (by rw [Hl.out]; exact hil)⟩
          obtain ⟨g2, o, rfl, hxc⟩ := H.out i x hx
          obtain ⟨x0, x1, x2, x3, x4⟩ := hxc.later HF.out
          have k1 : (0 : Int) ≤ (i : Int) := by omega
          have k2 : (i : Int) < (m : Int) := by omega
          have Hx := Lib.hid hx
          clear hx hxc
          by_cases hy : x.to = (k : Int) ∧ x.key.time < t
          · have hs := Hsn.out
            rw [has_true Hx.out hy.1 hy.2, if_pos rfl] at hs
            have Hs := Lib.hid hs
            have d1 : (x.to == (k : Int)) = true := by simpa using hy.1
            have d2 : decide (x.key.time < t) = true := decide_eq_true hy.2
            have hsrc := Src.newRow (P := Tryz.prog) (size := 1) (tx := 33) (ty := 3) wr Tryz.underlying33 1 1 [.int .i64 (k : Int)] rfl (by simp [Value.oneCell'])
            have hbase : SB + 1 ≤ wr.heap.size := (Array.getElem?_eq_some_iff.1 HS.out).1
            clear hs hy
            go_wp2_with (at_builtin; refine wpList_append_k rfl _ _ 33 33 rfl (SB + 1) 3 i0 (.int .i64 0) 1 8 Tryz.underlying33 hi hz0 hz1 hz2 rfl (by decide) (Value.slice oa O.length oc) O.length _ rfl (ownsRow_fr0 HE.out ((Fr0.refl none' wr).alloc _) (fun _ _ h => h)) (.slice (some ⟨wr.heap.size, 0, none⟩) 1 1) 1 _ rfl hsrc (by unfold maxLen; omega) (by omega) (by simp; omega) ?_; intro v9 w9 hown hgrow hdr hob; obtain ⟨g9, c9, rfl⟩ := ownsRow_k_succ hown; have Lw9 := Lib.hid HE.out.lt; have Fw9 := Lib.hid (show Fr0 (fun i => (Value.slice oa O.length oc).ownBlock = some i) wr w9 from ((Fr0.refl _ wr).alloc _).grown hgrow (fun i hi _ => hi)); have Rw9 := Lib.hid hown; clear hown hgrow hdr hob hsrc)
            have HSn := Lib.hid ((Fw9.out.block SB (Array.getElem?_eq_some_iff.1 HS.out).1 (fun h => by have := (Lw9.out SB h).1; omega)).trans HS.out)
            have HFn := Lib.hid (HF.out.trans' Fw9.out (fun i hi h => by have := (Lw9.out i h).1; have := HSB.out; omega))
            clear x0 x1 x2 x3 x4 s0 s1 d1 d2
            go_roundw
            case rel =>
              refine ⟨k + 1, by omega, by omega, by go_num, ?_, HSn, HFn⟩
              rw [Hs.out, List.length_append, List.length_singleton]
              have := Rw9.out
              simpa [Lib.hid, Hid, natV'] using this
            case measure => simp [Go.RowKit.intOf]; omega
          · have HN1 := Lib.hid (show ∀ y ∈ E.take (i + 1), ¬ (y.to = (k : Int) ∧ y.key.time < t) from fun y hy' => by
              rw [List.take_add_one, Hx.out, List.mem_append] at hy'
              rcases hy' with hy' | hy'
              · exact HN.out y hy'
              · simp at hy'; subst hy'; exact hy)
            by_cases h1 : x.to = (k : Int)
            · have d1 : (x.to == (k : Int)) = true := by simpa using h1
              have d2 : decide (x.key.time < t) = false := decide_eq_false (fun h => hy ⟨h1, h⟩)
              clear hy h1
              go_wp2_with fail
              go_roundw
              case rel => exact ⟨i + 1, by omega, by go_num, rfl, HN1, HE, HS, HF⟩
              case measure => simp [Go.RowKit.intOf]; omega
            · have d1 : (x.to == (k : Int)) = false := by simpa using h1
              clear hy h1
              go_wp2_with fail
              go_roundw
              case rel => exact ⟨i + 1, by omega, by go_num, rfl, HN1, HE, HS, HF⟩
              case measure => simp [Go.RowKit.intOf]; omega
        · have hs := Hsn.out
          have hn := HN.out
          rw [List.take_of_length_le (by rw [Hl.out]; omega)] at hn
          rw [has_false hn, if_neg (by simp), List.append_nil] at hs
          have Hs := Lib.hid hs
          clear hs hn
          go_wp2_with fail
          go_roundw
          case rel => exact ⟨k + 1, by omega, by omega, by go_num, by rw [Hs.out]; exact HE, HS, HF⟩
          case measure => simp [Go.RowKit.intOf]; omega
    · have hk17 : k = 17 := by omega
      have hfin : R = O := by rw [← HR.out, ← hO, hk17]
      have Hfin := Lib.hid hfin
      have q1 : ¬ (k : Int) ≤ 16 := by omega
      clear hfin hO hk17
      go_wp2_with fail
      go_ret
      refine ⟨.slice oa O.length oc, rfl, ?_, HF.out⟩
      rw [Hfin.out]
      exact own_low HE.out (show w.heap.size ≤ SB + 1 by have := HSB.out; omega)
end Go.Proofs.YtmcgipilopfgoaaGreat

/-
  slices.Sort and slices.Compact at a row of ints; which processes are ready.
-/
namespace Go.Proofs.YtmcgipilopfgoaaGreat
open Go Go.RowKit Go.Sort

theorem fr_growR {w : World} {os : Array Obj} : Fr0 none' w (grow w os) := ⟨rfl, rfl, rfl, by simp [grow], fun k hk _ => heap_grow_old w os hk⟩
theorem fr_putR {enc : Int → Value} {w : World} {g q : Nat} {d : Array Int} : Fr0 (fun k => k = g) w (putRow enc (Sort.ahead w q) g 0 d) := by
  refine ⟨rfl, rfl, rfl, by simp [putRow, mapBlock, Sort.ahead], fun k hk hs => ?_⟩
  simp [putRow, mapBlock, Sort.ahead, Array.getElem?_modify, show g ≠ k from fun e => hs e.symm]
def sortI (L : List Int) : List Int := L.mergeSort fun x y => decide (x ≤ y)
theorem sortI_perm (L : List Int) : (sortI L).Perm L := List.mergeSort_perm _ _
theorem sortI_sorted (L : List Int) : (sortI L).Pairwise (· ≤ ·) := by
  have := List.pairwise_mergeSort (le := fun x y : Int => decide (x ≤ y)) (fun a b c h1 h2 => decide_eq_true (Int.le_trans (of_decide_eq_true h1) (of_decide_eq_true h2))) (fun a b => by
    rcases Int.le_total a b with h | h
    · simp [h]
    · simp [h]) L
  exact this.imp (fun h => of_decide_eq_true h)
theorem sortI_len (L : List Int) : (sortI L).length = L.length := (sortI_perm L).length_eq
theorem sort_row {w : World} {base g cap n : Nat} (L : List Int) (h : w.ownsRow base 3 1 (.slice (some ⟨g, 0, none⟩) n cap) n (L.map (Value.int .i64))) (hn : n ≤ 1000000) :
    Calls Tryz.prog 39 #[.slice (some ⟨g, 0, none⟩) n cap] w fun e w' => e = .returned (.tuple #[]) ∧ w'.ownsRow base 3 1 (.slice (some ⟨g, 0, none⟩) n cap) n ((sortI L).map (Value.int .i64)) ∧ Fr0 (fun k => k = g) w w' := by
  obtain ⟨g', cap', hv, _, hlt, _, _, hl, hH⟩ := Lib.holds_of_ownsRow h (by intro e; cases e)
  injection hv with h1 _ h3
  injection h1 with h1
  injection h1 with h1
  subst h1
  subst h3
  have hc := Tryz.slices_Sort_int g 0 cap L w hH hlt (by omega)
  rw [hl] at hc
  refine hc.mono ?_
  rintro e w' ⟨rfl, q, os, rfl⟩
  have hp := Lib.ownsRow_putRow (q := q) (ys := sortI L) h (by rw [sortI_len, hl]) (Nat.le_refl n)
  rw [List.take_of_length_le (by rw [sortI_len, hl]; exact Nat.le_refl _)] at hp
  exact ⟨rfl, ownsRow_fr0 hp fr_growR (fun _ _ h => h), fr_putR.trans (fr_growR.mono (fun _ _ h => h.elim))⟩
theorem compact_row {w : World} {base g cap n : Nat} (L : List Int) (h : w.ownsRow base 3 1 (.slice (some ⟨g, 0, none⟩) n cap) n (L.map (Value.int .i64))) (hn : n ≤ 1000000) :
    Calls Tryz.prog 40 #[.slice (some ⟨g, 0, none⟩) n cap] w fun e w' => e = .returned (.slice (some ⟨g, 0, none⟩) (Lib.compact L).length cap) ∧ w'.ownsRow base 3 1 (.slice (some ⟨g, 0, none⟩) (Lib.compact L).length cap) (Lib.compact L).length ((Lib.compact L).map (Value.int .i64)) ∧ Fr0 (fun k => k = g) w w' := by
  obtain ⟨g', cap', hv, _, hlt, hcap, _, hl, hH⟩ := Lib.holds_of_ownsRow h (by intro e; cases e)
  injection hv with h1 _ h3
  injection h1 with h1
  injection h1 with h1
  subst h1
  subst h3
  have hc := Tryz.slices_Compact_int g 0 cap L w hH (by omega) (by omega)
  rw [hl] at hc
  refine hc.mono ?_
  rintro e w' ⟨rfl, q, rfl⟩
  have hle : (Lib.compact L).length ≤ n := by
    unfold Lib.compact Lib.compactUpTo
    rw [List.length_map]
    refine Nat.le_trans (List.length_filter_le _ _) ?_
    rw [List.length_range, hl]
    exact Nat.le_refl _
  have hp := Lib.ownsRow_putRow (q := q) (ys := Lib.compact L ++ List.replicate (n - (Lib.compact L).length) 0) h (by rw [List.length_append, List.length_replicate]; omega) hle
  rw [List.take_left' rfl] at hp
  exact ⟨rfl, hp, fr_putR⟩
/-- Of a list in order each element once. -/
theorem comp_upto {d : Array Int} (hs : ∀ i j, i ≤ j → j < d.size → d[i]! ≤ d[j]!) : ∀ m, m ≤ d.size → (Lib.compactUpTo d m).Pairwise (· < ·) ∧ ∀ x, x ∈ Lib.compactUpTo d m ↔ ∃ j, j < m ∧ d[j]! = x
  | 0, _ => by
    refine ⟨by simp [Lib.compactUpTo], fun x => ?_⟩
    simp [Lib.compactUpTo]
  | m + 1, hm => by
    obtain ⟨ih1, ih2⟩ := comp_upto hs m (by omega)
    rw [Lib.compactUpTo_succ]
    by_cases hk : Lib.keeps d m = true
    · rw [if_pos hk]
      have hk' : m = 0 ∨ d[m]! ≠ d[m - 1]! := by simpa [Lib.keeps] using hk
      refine ⟨List.pairwise_append.2 ⟨ih1, List.pairwise_singleton _ _, fun a ha b hb => ?_⟩, fun x => ?_⟩
      · rw [List.mem_singleton.1 hb]
        obtain ⟨j, hj, rfl⟩ := (ih2 a).1 ha
        have h1 := hs j (m - 1) (by omega) (by omega)
        have h2 := hs (m - 1) m (by omega) (by omega)
        rcases hk' with h3 | h3
        · omega
        · omega
      · rw [List.mem_append, List.mem_singleton, ih2]
        constructor
        · rintro (⟨j, hj, rfl⟩ | rfl)
          · exact ⟨j, by omega, rfl⟩
          · exact ⟨m, by omega, rfl⟩
        · rintro ⟨j, hj, rfl⟩
          rcases Nat.lt_or_ge j m with h | h
          · exact .inl ⟨j, h, rfl⟩
          · obtain rfl : j = m := by omega
            exact .inr rfl
    · rw [if_neg hk, List.append_nil]
      have hk' : ¬ (m = 0 ∨ d[m]! ≠ d[m - 1]!) := by simpa [Lib.keeps] using hk
      refine ⟨ih1, fun x => ?_⟩
      rw [ih2]
      constructor
      · rintro ⟨j, hj, rfl⟩
        exact ⟨j, by omega, rfl⟩
      · rintro ⟨j, hj, rfl⟩
        rcases Nat.lt_or_ge j m with h | h
        · exact ⟨j, h, rfl⟩
        · obtain rfl : j = m := by omega
          refine ⟨j - 1, by omega, ?_⟩
          by_cases e : d[j]! = d[j - 1]!
          · exact e.symm
          · exact absurd (.inr e) hk'
theorem comp_sorted {L : List Int} (hs : L.Pairwise (· ≤ ·)) : (Lib.compact L).Pairwise (· < ·) ∧ ∀ x, x ∈ Lib.compact L ↔ x ∈ L := by
  have hget : ∀ i, i < L.length → ∃ h : i < L.length, L.toArray[i]! = L[i] := fun i hi => ⟨hi, by simp [getElem!_pos, hi]⟩
  have hs' : ∀ i j, i ≤ j → j < L.toArray.size → L.toArray[i]! ≤ L.toArray[j]! := fun i j hij hj => by
    have hj' : j < L.length := by simpa using hj
    obtain ⟨h1, e1⟩ := hget i (by omega)
    obtain ⟨h2, e2⟩ := hget j hj'
    rw [e1, e2]
    rcases Nat.lt_or_ge i j with h | h
    · exact List.pairwise_iff_getElem.1 hs i j h1 h2 h
    · obtain rfl : i = j := by omega
      exact Int.le_refl _
  obtain ⟨h1, h2⟩ := comp_upto hs' L.length (by simp)
  refine ⟨h1, fun x => ?_⟩
  unfold Lib.compact
  rw [h2]
  constructor
  · rintro ⟨j, hj, rfl⟩
    obtain ⟨h, e⟩ := hget j hj
    rw [e]
    exact List.getElem_mem h
  · intro hx
    obtain ⟨j, hj, rfl⟩ := List.mem_iff_getElem.1 hx
    obtain ⟨h, e⟩ := hget j hj
    exact ⟨j, hj, e⟩
/-- The processes with an event before a time, as they come. -/
def toE (t : Int) (E : List Ev) : List Int := (befE t E).map (·.to)
theorem mem_toE {t x : Int} {E : List Ev} : x ∈ toE t E ↔ ∃ y ∈ E, y.key.time < t ∧ y.to = x := by
  unfold toE befE
  rw [List.mem_map]
  constructor
  · rintro ⟨y, hy, rfl⟩
    obtain ⟨h1, h2⟩ := List.mem_filter.1 hy
    exact ⟨y, h1, of_decide_eq_true h2, rfl⟩
  · rintro ⟨y, h1, h2, rfl⟩
    exact ⟨y, List.mem_filter.2 ⟨h1, decide_eq_true h2⟩, rfl⟩
theorem ready_eq {t : Int} {E : List Ev} (hr : ∀ x ∈ E, RightE x) : (Lib.compact (sortI (toE t E))).map (Value.int .i64) = (rdyE t E 17).map natV' := by
  obtain ⟨h1, h2⟩ := comp_sorted (sortI_sorted (toE t E))
  have h3 : (rdyE t E 17).Pairwise (· < ·) := by
    unfold rdyE
    exact List.Pairwise.filter _ (List.pairwise_lt_range' ..)
  have h4 : ((rdyE t E 17).map (fun p : Nat => (p : Int))).Pairwise (· < ·) := List.Pairwise.map _ (fun a b h => by omega) h3
  have nd : ∀ {l : List Int}, l.Pairwise (· < ·) → l.Nodup := fun h => h.imp (fun h e => by omega)
  have hp : (Lib.compact (sortI (toE t E))).Perm ((rdyE t E 17).map (fun p : Nat => (p : Int))) := (List.perm_ext_iff_of_nodup (nd h1) (nd h4)).2 (fun x => by
    rw [h2, (sortI_perm _).mem_iff, mem_toE, List.mem_map]
    constructor
    · rintro ⟨y, hy, ht, rfl⟩
      have hry := (hr y hy).2
      refine ⟨y.to.toNat, ?_, by omega⟩
      unfold rdyE
      rw [List.mem_filter]
      refine ⟨by rw [List.mem_range'_1]; omega, ?_⟩
      unfold hasE
      rw [List.any_eq_true]
      exact ⟨y, hy, by simp [ht]; omega⟩
    · rintro ⟨p, hp, rfl⟩
      unfold rdyE at hp
      obtain ⟨_, hp⟩ := List.mem_filter.1 hp
      unfold hasE at hp
      obtain ⟨y, hy, hyp⟩ := List.any_eq_true.1 hp
      simp at hyp
      exact ⟨y, hy, hyp.2, hyp.1⟩)
  have he : Lib.compact (sortI (toE t E)) = (rdyE t E 17).map (fun p : Nat => (p : Int)) := List.Perm.eq_of_pairwise (le := fun a b : Int => a < b) (fun a b _ _ h1 h2 => by omega) h1 h4 hp
  rw [he, List.map_map]
  rfl
theorem ready_len {t : Int} {E : List Ev} (hr : ∀ x ∈ E, RightE x) : (Lib.compact (sortI (toE t E))).length = (rdyE t E 17).length := by
  have := congrArg List.length (ready_eq (t := t) hr)
  simpa using this
end Go.Proofs.YtmcgipilopfgoaaGreat

/-
  The queue: From.
-/
namespace Go.Proofs.YtmcgipilopfgoaaGreat
open Go Go.RowKit Go.ChangeMaps
attribute [local go_sem ↓] Go.wp_at_zero Go.wp_at_succ
attribute [local go_sem] Oper.semAt_some wide_fn wide_depth wide_fnR wide_depthR
variable {w w' : World} {qb n T : Nat} {E : List Ev} {ft : Nat → Prop}

/-- The events from a key on. -/
def geE (k : Key3) (E : List Ev) : List Ev := E.filter (fun y => decide (0 ≤ cmpK y.key k))
theorem ge_full {k : Key3} {E : List Ev} {i most : Nat} (h : (geE k (E.take i)).length = most) : (geE k E).take most = geE k (E.take i) := by
  have h1 : geE k E = geE k (E.take i) ++ geE k (E.drop i) := by
    unfold geE
    rw [← List.filter_append, List.take_append_drop]
  rw [h1, ← h, List.take_left]
theorem ge_snoc {k : Key3} {E : List Ev} {i : Nat} {x : Ev} (hx : E[i]? = some x) : geE k (E.take (i + 1)) = geE k (E.take i) ++ if 0 ≤ cmpK x.key k then [x] else [] := by
  unfold geE
  rw [List.take_add_one, hx, List.filter_append]
  congr 1
  by_cases h : 0 ≤ cmpK x.key k
  · rw [if_pos h]; simp [h]
  · rw [if_neg h]; simp [h]
set_option maxRecDepth 100000 in
set_option maxHeartbeats 2000000 in
theorem QFrom_in (h : QIs w qb n T E ft) (k : Key3) (most : Nat) (hm : most ≤ 1000) : CallsIn Fence.wide 0 Tryz.prog 34 #[.pointer (some ⟨qb, 0, none⟩), .agg #[.int .i64 k.time, .int .i64 k.source, .int .i64 k.seq], .int .i64 most] w fun e w' => ∃ v, e = .returned v ∧ w'.ownsRow w.heap.size 28 5 v ((geE k E).take most).length (flatEv ((geE k E).take most)) ∧ Fr0 none' w w' := by
  obtain ⟨i0, hi, hz0, hz1, hz2⟩ := info_parts info_event0
  have H := Lib.hid h
  have HG := Lib.hid h.good
  have HE := Lib.hid h.le
  clear h
  refine callsIn_of_wp_marks Tryz.func34 rfl trivial ?_ rfl
  simp only [Tryz.ntmps34, List.size_toArray, List.length_cons, List.length_nil, Nat.reduceAdd, Nat.reduceSub, Array.replicate_succ, Array.replicate_zero, List.push_toArray, List.append_toArray, List.nil_append, List.cons_append]
  gi_wp2_with fail
  apply wpIn_scope_straight
  gi_wp2_with fail
  apply wpIn_label
  gi_wp2_with fail
  obtain ⟨N0, hN0⟩ : ∃ N0, w.heap.size = N0 := ⟨_, rfl⟩
  obtain ⟨W3, hW3⟩ : ∃ W, ((w.alloc (.cells #[.int .i64 k.time, .int .i64 k.source, .int .i64 k.seq] 26)).alloc (.cells #[.int .i64 most] 3)).alloc (.cells #[.slice none 0 0] 30) = W := ⟨_, rfl⟩
  have hs1 : (w.alloc (.cells #[.int .i64 k.time, .int .i64 k.source, .int .i64 k.seq] 26)).heap.size = N0 + 1 := by rw [World.size_alloc, hN0]
  have hs2 : ((w.alloc (.cells #[.int .i64 k.time, .int .i64 k.source, .int .i64 k.seq] 26)).alloc (.cells #[.int .i64 most] 3)).heap.size = N0 + 1 + 1 := by rw [World.size_alloc, hs1]
  have Hs3 := Lib.hid (show W3.heap.size = N0 + 3 by rw [← hW3, World.size_alloc, hs2])
  have F3 := Lib.hid (show Fr0 none' w W3 by rw [← hW3]; exact (((Fr0.refl _ _).alloc _).alloc _).alloc _)
  have HK3 := Lib.hid (show W3.heap[N0]? = some (.cells #[.int .i64 k.time, .int .i64 k.source, .int .i64 k.seq] 26 (0, 0)) by
    rw [← hW3, ← hN0]
    exact ((((Fr0.refl none' (w.alloc (.cells #[.int .i64 k.time, .int .i64 k.source, .int .i64 k.seq] 26))).alloc _).alloc _).block w.heap.size (by rw [World.size_alloc]; omega) id).trans (World.alloc_heap_new w _))
  have HM3 := Lib.hid (show Box W3 (N0 + 1) (.int .i64 most) by
    rw [← hW3]
    have h1 := Box.new (w.alloc (.cells #[.int .i64 k.time, .int .i64 k.source, .int .i64 k.seq] 26)) (.int .i64 most) 3
    rw [hs1] at h1
    exact h1.alloc _)
  have HO3 := Lib.hid (show Box W3 (N0 + 1 + 1) (.slice none 0 0) by
    rw [← hW3, ← hs2]
    exact Box.new _ _ _)
  rw [hW3]
  try rw [hN0]
  have HN0 := Lib.hid hN0
  clear hW3 hN0 hs1 hs2
  refine (callsIn_wide.2 (ordered_any qb W3)).mono ?_
  rintro e w4 ⟨rfl, hw4⟩
  rw [Hs3.out]
  obtain ⟨W4, hW4⟩ : ∃ W, W3.alloc (.cells #[.pointer (some ⟨qb, 0, none⟩)] 35) = W := ⟨_, rfl⟩
  rw [hW4] at hw4
  subst hw4
  have F34 := Lib.hid (show Fr0 none' W3 w4 by rw [← hW4]; exact (Fr0.refl _ _).alloc _)
  have Bq4 := Lib.hid (show Box w4 (N0 + 3) (.pointer (some ⟨qb, 0, none⟩)) by rw [← hW4, ← Hs3.out]; exact Box.new _ _ _)
  have Hs4 := Lib.hid (show w4.heap.size = N0 + 4 by rw [← hW4, World.size_alloc, Hs3.out])
  have F4 := Lib.hid (show Fr0 none' w w4 from F3.out.trans F34.out)
  have H4 := Lib.hid (H.out.later F4.out)
  have HK4 := Lib.hid ((F34.out.block N0 (Array.getElem?_eq_some_iff.1 HK3.out).1 id).trans HK3.out)
  have HM4 := Lib.hid (HM3.out.fr0 F34.out id)
  have HO4 := Lib.hid (HO3.out.fr0 F34.out id)
  clear hW4
  obtain ⟨rd, it, hrd⟩ := H4.out.ordered (N0 + 3) Bq4.out
  have Hrd := Lib.hid hrd
  clear hrd
  have hlf := H.out.lt
  gi_wp2_with fail
  refine wpIn_iterS0 (σ := Option Nat) (gf := 69) (lb := #[.pointer (some ⟨N0 + 3, 0, none⟩)]) rfl (by intro args w; rfl) it (Keep.refl _ _) (fun _ => rfl) (fun k hk => hk.elim) (fun k hk => by
      rw [Hs4.out]
      rcases Hrd.out k hk with rfl | h
      · omega
      · have := hlf k h
        have := HN0.out
        omega)
    (fun i s W => ∃ v, v.ownBlock = s ∧ Box W (N0 + 1 + 1) v ∧ W.ownsRow (N0 + 6) 28 5 v (geE k (E.take i)).length (flatEv (geE k (E.take i))) ∧ (geE k (E.take i)).length ≤ most ∧ W.heap[N0]? = some (.cells #[.int .i64 k.time, .int .i64 k.source, .int .i64 k.seq] 26 (0, 0)) ∧ Box W (N0 + 1) (.int .i64 most) ∧ Fr0 none' w W)
    (fun s j => j = N0 + 1 + 1 ∨ s = some j)
    (fun c W => c = .exit 0 ∧ ∃ v, Box W (N0 + 1 + 1) v ∧ W.ownsRow (N0 + 6) 28 5 v ((geE k E).take most).length (flatEv ((geE k E).take most)) ∧ Fr0 none' w W) ?hInv ?hlt ?hIx none ?h0 ?hf0
    (fun (x : Ev) W a' => ∃ B, a' = { tmps := #[.pointer (some ⟨qb, 0, none⟩), .agg #[.int .i64 k.time, .int .i64 k.source, .int .i64 k.seq], .int .i64 most, undef, .pointer (some ⟨N0, 0, none⟩), .pointer (some ⟨N0 + 1, 0, none⟩), .slice none 0 0, .pointer (some ⟨N0 + 1 + 1, 0, none⟩), .pointer (some ⟨B, 0, none⟩), undef, undef, .pointer (some ⟨qb, 0, none⟩), .func (.func 69) #[] #[.pointer (some ⟨N0 + 3, 0, none⟩)], .agg #[.int .i64 x.key.time, .int .i64 x.key.source, .int .i64 x.key.seq, .int .i64 x.to, .int .i64 x.value], undef, undef, undef, undef, undef, undef, undef, undef, undef, undef, undef, undef, undef, undef, undef, undef, undef, undef], defers := [] } ∧ N0 + 5 < B ∧ W.heap[B]? = some (.cells (cev x).toArray 28 (0, 0)))
    ?assign ?keep ?body ?done ?stop
  case hInv =>
    rintro i s W1 W2 ⟨v, rfl, h2, h3, h4, h5, h6, h7⟩ hf
    rw [Hs4.out] at hf
    refine ⟨v, rfl, h2.fr0 hf (fun hs => hs.2 (.inl rfl)), ownsRow_fr0 h3 hf (fun g hg hs => hs.2 (.inr hg)), h4, (hf.block N0 (Array.getElem?_eq_some_iff.1 h5).1 (fun hs => ?_)).trans h5, h6.fr0 hf (fun hs => ?_), h7.trans' hf (fun j hj hs => ?_)⟩
    · rcases hs.1 with h | h
      · exact h
      · omega
    · rcases hs.1 with h | h
      · exact h
      · omega
    · rcases hs.1 with h | h
      · exact h
      · have := HN0.out; omega
  case hlt =>
    rintro i s W j ⟨v, rfl, h2, h3, h4, h5, h6, h7⟩ (rfl | hk)
    · exact h2.lt
    · exact (h3.lt j hk).2
  case hIx =>
    rintro c W1 W2 ⟨h0, v, h1, h2, h3⟩ hf
    rw [Hs4.out] at hf
    have hge : ∀ j, (none' j ∨ j = N0 + 4 ∨ j = N0 + 4 + 1) → j = N0 + 4 ∨ j = N0 + 5 := fun j h => by
      rcases h with h | h | h
      · exact h.elim
      · exact .inl h
      · exact .inr h
    exact ⟨h0, v, h1.fr0 hf (fun h => by have := hge _ h; omega), ownsRow_fr0 h2 hf (fun g hg h => by have := hge _ h; have := (h2.lt g hg).1; omega), h3.trans' hf (fun j hj h => by have := hge _ h; have := HN0.out; omega)⟩
  case h0 => exact ⟨.slice none 0 0, rfl, HO4.out, World.ownsRow_nil _ _ _ _, Nat.zero_le _, HK4.out, HM4.out, F4.out⟩
  case hf0 =>
    rintro j (rfl | hk)
    · refine ⟨id, fun hr => ?_⟩
      rcases Hrd.out _ hr with h | h
      · omega
      · have := hlf _ h
        have := HN0.out
        omega
    · cases hk
  case assign =>
    intro l x W K hlt hK
    rw [Hs4.out] at hlt
    simp only [evV]
    gi_wp2
    exact hK _ _ ⟨W.heap.size, rfl, by omega, World.alloc_heap_new W _⟩ ((Fr0.refl _ _).alloc _)
  case keep =>
    rintro x W4 W5 a' ⟨B, rfl, hB, hc⟩ hf
    exact ⟨B, rfl, hB, (hf.block B (Array.getElem?_eq_some_iff.1 hc).1 (by rw [Hs4.out]; omega)).trans hc⟩
  case body =>
    rintro l i x s W a' hxi ⟨v, rfl, h2, h3, h4, h5, h6, h7⟩ hfoot hsz ⟨B, rfl, hB, hcB⟩
    have hlt : i < E.length := (List.getElem?_eq_some_iff.1 hxi).1
    have b0 := cells_in hcB 0
    have b1 := cells_in hcB 1
    have b2 := cells_in hcB 2
    have b3 := cells_in hcB 3
    have b4 := cells_in hcB 4
    simp [cev] at b0 b1 b2 b3 b4
    have k0 := cells_in h5 0
    have k1 := cells_in h5 1
    have k2 := cells_in h5 2
    simp at k0 k1 k2
    have cO := h2.cell
    have cM := h6.cell
    obtain ⟨va, vc, rfl, _, _⟩ := EsIn.of_own h3
    obtain ⟨G, hG⟩ : ∃ G, geE k (E.take i) = G := ⟨_, rfl⟩
    rw [hG] at h3 h4 cO h2 ⊢
    obtain ⟨gl, hgl⟩ : ∃ gl, G.length = gl := ⟨_, rfl⟩
    rw [hgl] at h3 h4 cO h2 ⊢
    by_cases hfull : most ≤ gl
    · have d1 : decide ((gl : Int) ≥ (most : Int)) = true := decide_eq_true (by omega)
      have d2 : decide ((most : Int) ≤ (gl : Int)) = true := decide_eq_true (by omega)
      have d3 : decide (most ≤ gl) = true := decide_eq_true hfull
      gi_wp2_with fail
      have hge : gl = most := by omega
      have hrow := h3
      refine ⟨Fr0.refl _ _, rfl, _, h2, ?_, h7⟩
      have hff := ge_full (k := k) (E := E) (i := i) (most := most) (by rw [hG, hgl]; exact hge)
      rw [← List.length_take, hff, hG, hgl]
      exact h3
    · have d1 : decide ((gl : Int) ≥ (most : Int)) = false := decide_eq_false (by omega)
      have d2 : decide ((most : Int) ≤ (gl : Int)) = false := decide_eq_false (by omega)
      have d3 : decide (most ≤ gl) = false := decide_eq_false hfull
      gi_wp2_with fail
      have hsn := ge_snoc (k := k) (E := E) (i := i) (x := x) hxi
      rw [hG] at hsn
      have HC := Compare_any x.key k W
      simp only [keyV] at HC
      obtain ⟨c, hc⟩ : ∃ c, cmpK x.key k = c := ⟨_, rfl⟩
      rw [hc] at HC hsn
      have Hsn := Lib.hid hsn
      have H3 := Lib.hid h3
      have H7 := Lib.hid h7
      have H5 := Lib.hid h5
      have H6 := Lib.hid h6
      have H2 := Lib.hid h2
      have Hgl := Lib.hid hgl
      have Hsz := Lib.hid hsz
      clear hc hsn h3 h7 h5 h6 h2 hG hgl k0 k1 k2 hxi hsz
      refine (callsIn_wide.2 HC).mono ?_
      rintro e w5 ⟨rfl, hf0⟩
      have hf5 : Fr0 none' W w5 := hf0.to0
      obtain ⟨fv, hfv⟩ : ∃ fv, fieldK x.key k = fv := ⟨_, rfl⟩
      rw [hfv]
      have hcB5 := (hf5.block B (Array.getElem?_eq_some_iff.1 hcB).1 id).trans hcB
      have h25 := H2.out.fr0 hf5 id
      have HRow := Lib.hid (ownsRow_fr0 H3.out hf5 (fun _ _ h => h))
      have h55 := Lib.hid ((hf5.block N0 (Array.getElem?_eq_some_iff.1 H5.out).1 id).trans H5.out)
      have h65 := Lib.hid (H6.out.fr0 hf5 id)
      have h75 := Lib.hid (H7.out.trans hf5)
      have F5 := Lib.hid hf5
      clear hf0 hfv HC b0 b1 b2 b3 b4 cO cM
      have b0 := cells_in hcB5 0
      have b1 := cells_in hcB5 1
      have b2 := cells_in hcB5 2
      have b3 := cells_in hcB5 3
      have b4 := cells_in hcB5 4
      simp [cev] at b0 b1 b2 b3 b4
      have cO := h25.cell
      have cF := h25.frozen
      have H25 := Lib.hid h25
      clear hcB hcB5 hf5 h25
      by_cases hc0 : 0 ≤ c
      · have dd : decide (c ≥ 0) = true := decide_eq_true hc0
        have dd2 : decide (0 ≤ c) = true := decide_eq_true hc0
        have hsn := Hsn.out
        rw [if_pos hc0] at hsn
        have Hsn := Lib.hid hsn
        have hsrc := Src.newRow (P := Tryz.prog) (size := 5) (tx := 30) (ty := 28) w5 Tryz.underlying30 1 1 (cev x) rfl (by simp [Value.oneCell', cev])
        simp only [cev] at hsrc
        have hbase : N0 + 6 ≤ w5.heap.size := by have := Hsz.out; rw [Hs4.out] at this; have := F5.out.size; omega
        have hgl5 : gl ≤ 1000 := by omega
        clear hsn hc0
        gi_wp2_with (gi_at_builtin; refine wpListIn_append_k rfl _ _ 30 30 rfl (N0 + 6) 28 i0 (.agg #[.int .i64 0, .int .i64 0, .int .i64 0, .int .i64 0, .int .i64 0]) 5 40 Tryz.underlying30 hi hz0 hz1 hz2 rfl (by decide) (.slice va gl vc) gl _ rfl (ownsRow_fr0 HRow.out ((Fr0.refl none' w5).alloc _) (fun _ _ h => h)) (.slice (some ⟨w5.heap.size, 0, none⟩) 1 1) 1 _ rfl hsrc (by unfold maxLen; omega) (by omega) (by simp; omega) ?_; intro v' w6 hown' hgrow hdr hob; obtain ⟨g', cap', rfl⟩ := ownsRow_k_succ hown'; have hfg := ((Fr0.refl (fun k => (Value.slice va gl vc).ownBlock = some k) w5).alloc _).grown hgrow (fun k hk _ => hk); have hb1 := H25.out.fr0 hfg (fun h => by have := (HRow.out.lt _ h).1; omega); have hc1 := hb1.cell; have hf1 := hb1.frozen)
        have hb2 := hb1.set (.slice (some ⟨g', 0, none⟩) (gl + 1) cap')
        have hf2 := (hfg.mono (S' := fun k => k = N0 + 1 + 1 ∨ (Value.slice va gl vc).ownBlock = some k) (fun k _ h => .inr h)).setCell (b := N0 + 1 + 1) (o := 0) (fun _ => .inl rfl) (.slice (some ⟨g', 0, none⟩) (gl + 1) cap')
        refine ⟨_, ⟨(.slice (some ⟨g', 0, none⟩) (gl + 1) cap'), rfl, hb2, ?_, ?_, ?_, ?_, ?_⟩, (F5.out.mono (fun _ _ h => h.elim)).trans hf2, ?_⟩
        · have h3 := ownsRow_setCell_below hown' (a := ⟨N0 + 1 + 1, 0, none⟩) (by simp) (.slice (some ⟨g', 0, none⟩) (gl + 1) cap')
          have h4 : flatEv (G ++ [x]) = flatEv G ++ [.int .i64 x.key.time, .int .i64 x.key.source, .int .i64 x.key.seq, .int .i64 x.to, .int .i64 x.value] := by rw [flatEv_append, flatEv_single]; rfl
          rw [Hsn.out, List.length_append, List.length_singleton, Hgl.out, h4]
          exact h3
        · rw [Hsn.out, List.length_append, List.length_singleton, Hgl.out]
          omega
        · refine (hf2.block N0 (Array.getElem?_eq_some_iff.1 h55.out).1 (fun hs => ?_)).trans h55.out
          rcases hs with h | h
          · omega
          · have := (HRow.out.lt _ h).1; omega
        · refine h65.out.fr0 hf2 (fun hs => ?_)
          rcases hs with h | h
          · omega
          · have := (HRow.out.lt _ h).1; omega
        · refine h75.out.trans' hf2 (fun j hj hs => ?_)
          rcases hs with h | h
          · have := HN0.out; omega
          · have := (HRow.out.lt _ h).1; have := HN0.out; omega
        · rintro j (rfl | hj)
          · exact .inl (.inl rfl)
          · rcases hob with h | h
            · rw [h] at hj
              exact .inl (.inr hj)
            · rw [h] at hj
              injection hj with hj
              rw [World.size_alloc] at hj
              have := F5.out.size
              exact .inr (by omega)
      · have dd : decide (c ≥ 0) = false := decide_eq_false hc0
        have dd2 : decide (0 ≤ c) = false := decide_eq_false hc0
        have hsn := Hsn.out
        rw [if_neg hc0, List.append_nil] at hsn
        have Hsn := Lib.hid hsn
        clear hsn hc0
        gi_wp2_with fail
        refine ⟨_, ⟨.slice va gl vc, rfl, H25.out, ?_, ?_, h55.out, h65.out, h75.out⟩, F5.out.mono (fun _ _ h => h.elim), fun j hj => .inl hj⟩
        · rw [Hsn.out, Hgl.out]
          exact HRow.out
        · rw [Hsn.out, Hgl.out]
          omega
  case done =>
    rintro D s W hDe ⟨v, rfl, h2, h3, h4, h5, h6, h7⟩ hDf hK
    rw [Hs4.out] at hDe
    subst hDe
    rw [List.take_length] at h3 h4
    have htk : (geE k E).take most = geE k E := List.take_of_length_le h4
    have hc := h2.cell
    have hfp : Fr0 (fun k => k = N0 + 4) W (W.putObj (N0 + 4) (.deferred none)) := Fr0.putNew _ _ rfl
    have hfin := Lib.hid (show (W.putObj (N0 + 4) (.deferred none)).ownsRow w.heap.size 28 5 v ((geE k E).take most).length (flatEv ((geE k E).take most)) ∧ Fr0 none' w (W.putObj (N0 + 4) (.deferred none)) from ⟨by rw [htk]; exact own_up (ownsRow_fr0 h3 hfp (fun g hg e => by have := (h3.lt g hg).1; omega)) (by have := HN0.out; omega), h7.trans' hfp (fun j hj e => by have := HN0.out; omega)⟩)
    have HK := Lib.hid hK
    clear h2 h3 h4 h5 h6 h7 hDf hK hfp it htk
    gi_wp2
    refine ⟨by simp, .inl ⟨_, _, rfl, run_takeDeferred HK.out, ?_⟩⟩
    refine ⟨_, results_tmp rfl _ _ _, v, rfl, hfin.out⟩
  case stop =>
    rintro D c W hDe ⟨rfl, v, h2, h3, h7⟩ hK
    rw [Hs4.out] at hDe
    subst hDe
    have hc := h2.cell
    have hfp : Fr0 (fun k => k = N0 + 4) W (W.putObj (N0 + 4) (.deferred none)) := Fr0.putNew _ _ rfl
    have hfin := Lib.hid (show (W.putObj (N0 + 4) (.deferred none)).ownsRow w.heap.size 28 5 v ((geE k E).take most).length (flatEv ((geE k E).take most)) ∧ Fr0 none' w (W.putObj (N0 + 4) (.deferred none)) from ⟨own_up (ownsRow_fr0 h3 hfp (fun g hg e => by have := (h3.lt g hg).1; omega)) (by have := HN0.out; omega), h7.trans' hfp (fun j hj e => by have := HN0.out; omega)⟩)
    have HK := Lib.hid hK
    clear h2 h3 h7 hK hfp it
    gi_wp2
    refine ⟨by simp, .inl ⟨_, _, rfl, run_takeDeferred HK.out, ?_⟩⟩
    refine ⟨_, results_tmp rfl _ _ _, v, rfl, hfin.out⟩
theorem QIs.from_ (h : QIs w qb n T E ft) (k : Key3) (most : Nat) (hm : most ≤ 1000) : Calls Tryz.prog 34 #[.pointer (some ⟨qb, 0, none⟩), .agg #[.int .i64 k.time, .int .i64 k.source, .int .i64 k.seq], .int .i64 most] w fun e w' => ∃ v, e = .returned v ∧ w'.ownsRow w.heap.size 28 5 v ((geE k E).take most).length (flatEv ((geE k E).take most)) ∧ Fr0 none' w w' := callsIn_wide.1 (QFrom_in h k most hm)
end Go.Proofs.YtmcgipilopfgoaaGreat

/-
  The queue: Ready.
-/
namespace Go.Proofs.YtmcgipilopfgoaaGreat
open Go Go.RowKit Go.ChangeMaps
attribute [local go_sem ↓] Go.wp_at_zero Go.wp_at_succ
attribute [local go_sem] Oper.semAt_some wide_fn wide_depth wide_fnR wide_depthR
variable {w w' : World} {qb n T : Nat} {E : List Ev} {ft : Nat → Prop}

theorem to_snoc {t : Int} {E : List Ev} {i : Nat} {x : Ev} (hx : E[i]? = some x) : toE t (E.take (i + 1)) = toE t (E.take i) ++ if x.key.time < t then [x.to] else [] := by
  unfold toE befE
  rw [List.take_add_one, hx, List.filter_append, List.map_append]
  congr 1
  by_cases h : x.key.time < t
  · simp [h]
  · simp [h]
set_option maxRecDepth 100000 in
set_option maxHeartbeats 2000000 in
theorem QReady_in (h : QIs w qb n T E ft) (t : Int) : CallsIn Fence.wide 0 Tryz.prog 13 #[.pointer (some ⟨qb, 0, none⟩), .int .i64 t] w fun e w' => ∃ v, e = .returned v ∧ w'.ownsRow w.heap.size 3 1 v (rdyE t E 17).length ((rdyE t E 17).map natV') ∧ Fr0 none' w w' := by
  obtain ⟨i0, hi, hz0, hz1, hz2⟩ := info_parts info_int
  have H := Lib.hid h
  have HG := Lib.hid h.good
  have HE := Lib.hid h.le
  have hrl := ready_len (t := t) h.good.2.2
  have hre := ready_eq (t := t) h.good.2.2
  obtain ⟨R, hR⟩ : ∃ R, rdyE t E 17 = R := ⟨_, rfl⟩
  rw [hR] at hrl hre ⊢
  have Hrl := Lib.hid hrl
  have Hre := Lib.hid hre
  clear h hrl hre hR
  refine callsIn_of_wp_marks Tryz.func13 rfl trivial ?_ rfl
  simp only [Tryz.ntmps13, List.size_toArray, List.length_cons, List.length_nil, Nat.reduceAdd, Nat.reduceSub, Array.replicate_succ, Array.replicate_zero, List.push_toArray, List.append_toArray, List.nil_append, List.cons_append]
  gi_wp2_with fail
  obtain ⟨N0, hN0⟩ : ∃ N0, w.heap.size = N0 := ⟨_, rfl⟩
  obtain ⟨W3, hW3⟩ : ∃ W, (w.alloc (.cells #[.int .i64 t] 3)).alloc (.cells #[.slice none 0 0] 33) = W := ⟨_, rfl⟩
  have hs1 : (w.alloc (.cells #[.int .i64 t] 3)).heap.size = N0 + 1 := by rw [World.size_alloc, hN0]
  have Hs3 := Lib.hid (show W3.heap.size = N0 + 2 by rw [← hW3, World.size_alloc, hs1])
  have F3 := Lib.hid (show Fr0 none' w W3 by rw [← hW3]; exact ((Fr0.refl _ _).alloc _).alloc _)
  have HM3 := Lib.hid (show Box W3 N0 (.int .i64 t) by
    rw [← hW3]
    have h1 := Box.new w (.int .i64 t) 3
    rw [hN0] at h1
    exact h1.alloc _)
  have HO3 := Lib.hid (show Box W3 (N0 + 1) (.slice none 0 0) by
    rw [← hW3, ← hs1]
    exact Box.new _ _ _)
  rw [hW3]
  try rw [hN0]
  have HN0 := Lib.hid hN0
  clear hW3 hN0 hs1
  refine (callsIn_wide.2 (ordered_any qb W3)).mono ?_
  rintro e w4 ⟨rfl, hw4⟩
  rw [Hs3.out]
  obtain ⟨W4, hW4⟩ : ∃ W, W3.alloc (.cells #[.pointer (some ⟨qb, 0, none⟩)] 35) = W := ⟨_, rfl⟩
  rw [hW4] at hw4
  subst hw4
  have F34 := Lib.hid (show Fr0 none' W3 w4 by rw [← hW4]; exact (Fr0.refl _ _).alloc _)
  have Bq4 := Lib.hid (show Box w4 (N0 + 2) (.pointer (some ⟨qb, 0, none⟩)) by rw [← hW4, ← Hs3.out]; exact Box.new _ _ _)
  have Hs4 := Lib.hid (show w4.heap.size = N0 + 3 by rw [← hW4, World.size_alloc, Hs3.out])
  have F4 := Lib.hid (show Fr0 none' w w4 from F3.out.trans F34.out)
  have H4 := Lib.hid (H.out.later F4.out)
  have HM4 := Lib.hid (HM3.out.fr0 F34.out id)
  have HO4 := Lib.hid (HO3.out.fr0 F34.out id)
  clear hW4
  obtain ⟨rd, it, hrd⟩ := H4.out.ordered (N0 + 2) Bq4.out
  have Hrd := Lib.hid hrd
  clear hrd
  have hlf := H.out.lt
  gi_wp2_with fail
  refine wpIn_iterS0 (σ := Option Nat) (gf := 69) (lb := #[.pointer (some ⟨N0 + 2, 0, none⟩)]) rfl (by intro args w; rfl) it (Keep.refl _ _) (fun _ => rfl) (fun k hk => hk.elim) (fun k hk => by
      rw [Hs4.out]
      rcases Hrd.out k hk with rfl | h
      · omega
      · have := hlf k h
        have := HN0.out
        omega)
    (fun i s W => ∃ v, v.ownBlock = s ∧ Box W (N0 + 1) v ∧ W.ownsRow (N0 + 5) 3 1 v (toE t (E.take i)).length ((toE t (E.take i)).map (Value.int .i64)) ∧ (toE t (E.take i)).length ≤ i ∧ Box W N0 (.int .i64 t) ∧ Fr0 none' w W)
    (fun s j => j = N0 + 1 ∨ s = some j)
    (fun _ _ => False) ?hInv ?hlt (fun _ _ _ h _ => h.elim) none ?h0 ?hf0
    (fun (x : Ev) W a' => ∃ B, a' = { tmps := #[.pointer (some ⟨qb, 0, none⟩), .int .i64 t, undef, .pointer (some ⟨N0, 0, none⟩), .slice none 0 0, .pointer (some ⟨N0 + 1, 0, none⟩), .pointer (some ⟨B, 0, none⟩), .pointer (some ⟨qb, 0, none⟩), .func (.func 69) #[] #[.pointer (some ⟨N0 + 2, 0, none⟩)], .agg #[.int .i64 x.key.time, .int .i64 x.key.source, .int .i64 x.key.seq, .int .i64 x.to, .int .i64 x.value], undef, undef, undef, undef, undef, undef, undef, undef, undef, undef, undef, undef, undef, undef], defers := [] } ∧ N0 + 4 < B ∧ W.heap[B]? = some (.cells (cev x).toArray 28 (0, 0)))
    ?assign ?keep ?body ?done (fun _ _ _ _ h _ => h.elim)
  case hInv =>
    rintro i s W1 W2 ⟨v, rfl, h2, h3, h4, h6, h7⟩ hf
    rw [Hs4.out] at hf
    refine ⟨v, rfl, h2.fr0 hf (fun hs => hs.2 (.inl rfl)), ownsRow_fr0 h3 hf (fun g hg hs => hs.2 (.inr hg)), h4, h6.fr0 hf (fun hs => ?_), h7.trans' hf (fun j hj hs => ?_)⟩
    · rcases hs.1 with h | h
      · exact h
      · omega
    · rcases hs.1 with h | h
      · exact h
      · have := HN0.out; omega
  case hlt =>
    rintro i s W j ⟨v, rfl, h2, h3, h4, h6, h7⟩ (rfl | hk)
    · exact h2.lt
    · exact (h3.lt j hk).2
  case h0 => exact ⟨.slice none 0 0, rfl, HO4.out, World.ownsRow_nil _ _ _ _, Nat.zero_le _, HM4.out, F4.out⟩
  case hf0 =>
    rintro j (rfl | hk)
    · refine ⟨id, fun hr => ?_⟩
      rcases Hrd.out _ hr with h | h
      · omega
      · have := hlf _ h
        have := HN0.out
        omega
    · cases hk
  case assign =>
    intro l x W K hlt hK
    rw [Hs4.out] at hlt
    simp only [evV]
    gi_wp2
    exact hK _ _ ⟨W.heap.size, rfl, by omega, World.alloc_heap_new W _⟩ ((Fr0.refl _ _).alloc _)
  case keep =>
    rintro x W4 W5 a' ⟨B, rfl, hB, hc⟩ hf
    exact ⟨B, rfl, hB, (hf.block B (Array.getElem?_eq_some_iff.1 hc).1 (by rw [Hs4.out]; omega)).trans hc⟩
  case body =>
    rintro l i x s W a' hxi ⟨v, rfl, h2, h3, h4, h6, h7⟩ hfoot hsz ⟨B, rfl, hB, hcB⟩
    have hlt : i < E.length := (List.getElem?_eq_some_iff.1 hxi).1
    have b0 := cells_in hcB 0
    have b1 := cells_in hcB 1
    have b2 := cells_in hcB 2
    have b3 := cells_in hcB 3
    have b4 := cells_in hcB 4
    simp [cev] at b0 b1 b2 b3 b4
    have cO := h2.cell
    have cM := h6.cell
    have hil := HE.out
    obtain ⟨G, hG⟩ : ∃ G, toE t (E.take i) = G := ⟨_, rfl⟩
    have hsn := to_snoc (t := t) hxi
    rw [hG] at h3 h4 hsn
    obtain ⟨gl, hgl⟩ : ∃ gl, G.length = gl := ⟨_, rfl⟩
    rw [hgl] at h3 h4
    obtain ⟨va, vc, rfl⟩ : ∃ va vc, v = .slice va gl vc := by
      rcases h3.2 with ⟨e1, e2⟩ | ⟨g, cap, cur, hv, _⟩
      · exact ⟨none, 0, by rw [e1, e2]⟩
      · exact ⟨_, _, hv⟩
    have H2 := Lib.hid h2
    have H3 := Lib.hid h3
    have H6 := Lib.hid h6
    have H7 := Lib.hid h7
    have Hgl := Lib.hid hgl
    have cF := h2.frozen
    have hgl5 : gl ≤ 1000 := by omega
    by_cases ht : x.key.time < t
    · have d1 : decide (x.key.time < t) = true := decide_eq_true ht
      rw [if_pos ht] at hsn
      have Hsn := Lib.hid hsn
      have hsrc := Src.newRow (P := Tryz.prog) (size := 1) (tx := 33) (ty := 3) W Tryz.underlying33 1 1 [.int .i64 x.to] rfl (by simp [Value.oneCell'])
      have hbase : N0 + 5 ≤ W.heap.size := by rw [Hs4.out] at hsz; omega
      clear h2 h3 h6 h7 hgl hG hsn ht hxi
      gi_wp2_with (gi_at_builtin; refine wpListIn_append_k rfl _ _ 33 33 rfl (N0 + 5) 3 i0 (.int .i64 0) 1 8 Tryz.underlying33 hi hz0 hz1 hz2 rfl (by decide) (.slice va gl vc) gl _ rfl (ownsRow_fr0 H3.out ((Fr0.refl none' W).alloc _) (fun _ _ h => h)) (.slice (some ⟨W.heap.size, 0, none⟩) 1 1) 1 _ rfl hsrc (by unfold maxLen; omega) (by omega) (by simp; omega) ?_; intro v' w6 hown' hgrow hdr hob; obtain ⟨g', cap', rfl⟩ := ownsRow_k_succ hown'; have hfg := ((Fr0.refl (fun k => (Value.slice va gl vc).ownBlock = some k) W).alloc _).grown hgrow (fun k hk _ => hk); have hb1 := H2.out.fr0 hfg (fun h => by have := (H3.out.lt _ h).1; omega); have hc1 := hb1.cell; have hf1 := hb1.frozen)
      have hb2 := hb1.set (.slice (some ⟨g', 0, none⟩) (gl + 1) cap')
      have hf2 := (hfg.mono (S' := fun k => k = N0 + 1 ∨ (Value.slice va gl vc).ownBlock = some k) (fun k _ h => .inr h)).setCell (b := N0 + 1) (o := 0) (fun _ => .inl rfl) (.slice (some ⟨g', 0, none⟩) (gl + 1) cap')
      refine ⟨_, ⟨(.slice (some ⟨g', 0, none⟩) (gl + 1) cap'), rfl, hb2, ?_, ?_, ?_, ?_⟩, hf2, ?_⟩
      · have h3 := ownsRow_setCell_below hown' (a := ⟨N0 + 1, 0, none⟩) (by simp) (.slice (some ⟨g', 0, none⟩) (gl + 1) cap')
        rw [Hsn.out, List.length_append, List.length_singleton, Hgl.out, List.map_append]
        exact h3
      · rw [Hsn.out, List.length_append, List.length_singleton, Hgl.out]
        omega
      · refine H6.out.fr0 hf2 (fun hs => ?_)
        rcases hs with h | h
        · omega
        · have := (H3.out.lt _ h).1; omega
      · refine H7.out.trans' hf2 (fun j hj hs => ?_)
        rcases hs with h | h
        · have := HN0.out; omega
        · have := (H3.out.lt _ h).1; have := HN0.out; omega
      · rintro j (rfl | hj)
        · exact .inl (.inl rfl)
        · rcases hob with h | h
          · rw [h] at hj
            exact .inl (.inr hj)
          · rw [h] at hj
            injection hj with hj
            rw [World.size_alloc] at hj
            exact .inr (by omega)
    · have d1 : decide (x.key.time < t) = false := decide_eq_false ht
      rw [if_neg ht, List.append_nil] at hsn
      have Hsn := Lib.hid hsn
      clear h2 h3 h6 h7 hgl hG hsn ht hxi
      gi_wp2_with fail
      refine ⟨_, ⟨.slice va gl vc, rfl, H2.out, ?_, ?_, H6.out, H7.out⟩, Fr0.refl _ _, fun j hj => .inl hj⟩
      · rw [Hsn.out, Hgl.out]
        exact H3.out
      · rw [Hsn.out, Hgl.out]
        omega
  case done =>
    rintro D s W hDe ⟨v, rfl, h2, h3, h4, h6, h7⟩ hDf hK
    rw [Hs4.out] at hDe
    subst hDe
    rw [List.take_length] at h3 h4
    have hnl : (toE t E).length ≤ 256 := by have h1 := HE.out; omega
    have HK := Lib.hid hK
    have hc := h2.cell
    clear hDf hK it h6
    rcases h3.2 with ⟨rfl, h0⟩ | ⟨g, cap, cur, rfl, hg, hgW, _⟩
    · have hnil : toE t E = [] := List.eq_nil_of_length_eq_zero h0
      rw [hnil] at Hre
      have hR0 : R = [] := by
        have := Hre.out
        simpa [sortI, Lib.compact, Lib.compactUpTo] using this
      subst hR0
      have hfp : Fr0 (fun k => k = N0 + 3) W (W.putObj (N0 + 3) (.deferred none)) := Fr0.putNew _ _ rfl
      have HF := Lib.hid (show Fr0 none' w (W.putObj (N0 + 3) (.deferred none)) from h7.trans' hfp (fun j hj e => by have := HN0.out; omega))
      clear h2 h3 h7 hfp hnil h0
      gi_wp2_with fail
      refine (callsIn_wide.2 (Tryz.slices_Sort_int_none none 0 W)).mono ?_
      rintro e w5 ⟨rfl, rfl⟩
      gi_wp2_with fail
      refine (callsIn_wide.2 (Tryz.slices_Compact_int_empty none 0 _)).mono ?_
      rintro e w6 ⟨rfl, rfl⟩
      gi_wp2
      refine ⟨by simp, .inl ⟨_, _, rfl, run_takeDeferred HK.out, ?_⟩⟩
      exact ⟨_, results_tmp rfl _ _ _, .slice none 0 0, rfl, World.ownsRow_nil _ _ _ _, HF.out⟩
    · have H3 := Lib.hid h3
      have H7 := Lib.hid h7
      have H2 := Lib.hid h2
      clear h2 h3 h7
      gi_wp2_with fail
      refine (callsIn_wide.2 (sort_row (toE t E) H3.out (by omega))).mono ?_
      rintro e w5 ⟨rfl, hrow5, hf5⟩
      have hlt5 := hrow5.lt g rfl
      have HK5 := Lib.hid ((hf5.block (N0 + 3) (Array.getElem?_eq_some_iff.1 HK.out).1 (fun e => by omega)).trans HK.out)
      have H25 := Lib.hid (H2.out.fr0 hf5 (fun e => by omega))
      have hc5 := H25.out.cell
      have H75 := Lib.hid (H7.out.trans' hf5 (fun j hj e => by have := HN0.out; omega))
      have Hrow5 := Lib.hid hrow5
      clear hc hrow5 hf5
      gi_wp2_with fail
      refine (callsIn_wide.2 (compact_row (sortI (toE t E)) Hrow5.out (by omega))).mono ?_
      rintro e w6 ⟨rfl, hrow6, hf6⟩
      have HK6 := Lib.hid ((hf6.block (N0 + 3) (Array.getElem?_eq_some_iff.1 HK5.out).1 (fun e => by omega)).trans HK5.out)
      have hfp : Fr0 (fun k => k = N0 + 3) w6 (w6.putObj (N0 + 3) (.deferred none)) := Fr0.putNew _ _ rfl
      rw [Hre.out, Hrl.out] at hrow6
      have HF := Lib.hid (show (w6.putObj (N0 + 3) (.deferred none)).ownsRow w.heap.size 3 1 (.slice (some ⟨g, 0, none⟩) R.length cap) R.length (R.map natV') ∧ Fr0 none' w (w6.putObj (N0 + 3) (.deferred none)) from ⟨own_low (ownsRow_fr0 hrow6 hfp (fun g hg e => by have := (hrow6.lt g hg).1; omega)) (show w.heap.size ≤ N0 + 5 by have := HN0.out; omega), (H75.out.trans' hf6 (fun j hj e => by have := HN0.out; omega)).trans' hfp (fun j hj e => by have := HN0.out; omega)⟩)
      rw [Hrl.out]
      clear hc5 hrow6 hf6 hfp
      gi_wp2
      refine ⟨by simp, .inl ⟨_, _, rfl, run_takeDeferred HK6.out, ?_⟩⟩
      exact ⟨_, results_tmp rfl _ _ _, .slice (some ⟨g, 0, none⟩) R.length cap, rfl, HF.out⟩
theorem QIs.ready (h : QIs w qb n T E ft) (t : Int) : Calls Tryz.prog 13 #[.pointer (some ⟨qb, 0, none⟩), .int .i64 t] w fun e w' => ∃ v, e = .returned v ∧ w'.ownsRow w.heap.size 3 1 v (rdyE t E 17).length ((rdyE t E 17).map natV') ∧ Fr0 none' w w' := callsIn_wide.1 (QReady_in h t)
end Go.Proofs.YtmcgipilopfgoaaGreat
