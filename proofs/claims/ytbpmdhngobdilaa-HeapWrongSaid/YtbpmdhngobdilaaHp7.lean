/-
  Heap.cut; a heap in memory as a list in order.
-/
import Derived.Test.YtbpmdhngobdilaaHp6
import Derived.StillTailTactics
namespace Go.Proofs.Ytbpmdhngobdilaa
open Go.RowKit
attribute [local go_sem ↓] Go.wp_at_zero Go.wp_at_succ

theorem sink_mem (hb bt ba cap n ca i0 : Nat) (t : List Ent) (A : List Nat) (w : World) (h : MemH w hb bt ba cap n ca t A) (hi : i0 < t.length) (hm : t.length ≤ 10000) (hp : ∀ k, k < t.length → (at' t k).place < n) :
    Calls Try.prog 31 #[.pointer (some ⟨hb, 0, none⟩), .int .i64 i0] w fun e' w' => e' = .returned (.tuple #[]) ∧ MemH w' hb bt ba cap n ca (sinkL ordE (at' t i0) t i0).1 (sinkA ordE Ent.place (at' t i0) t A i0) ∧ SetFr bt ba w w' :=
  callsIn_wide.1 (sink_in hb bt ba cap n ca i0 t A w h hi hm hp)

/-- The tree is cut short by one. -/
theorem MemH.short {w : World} {hb bt ba cap n ca : Nat} {t : List Ent} {A : List Nat} (h : MemH w hb bt ba cap n ca t A) :
    MemH (w.setCell ⟨hb, 1, none⟩ (.slice (some ⟨bt, 0, none⟩) (t.length - 1) cap)) hb bt ba cap n ca t.dropLast A := by
  obtain ⟨cu, h2, h2', h3⟩ := h.tr
  obtain ⟨cv, h4, h5⟩ := h.tb
  have hl := h.len
  refine ⟨?_, ⟨cu, (Below.heap_setCell w ⟨hb, 1, none⟩ _ bt h.ne1.symm).trans h2, h2', fun i hi c hc => ?_⟩, ⟨cv, (Below.heap_setCell w ⟨hb, 1, none⟩ _ ba h.ne2.symm).trans h4, h5⟩, h.ne1, h.ne2, h.ne3, by simp; omega, h.small⟩
  · have := h.hd
    simp [World.setCell, Array.getElem?_modify, this]
  · simp only [List.length_dropLast] at hi
    rw [at_dropLast hi]; exact h3 i (by omega) c hc
/-- A cell of the table is put anew. -/
theorem MemH.table {w : World} {hb bt ba cap n ca : Nat} {t : List Ent} {A : List Nat} (h : MemH w hb bt ba cap n ca t A) (p x : Nat) :
    MemH (w.setCell ⟨ba, p, none⟩ (natV x)) hb bt ba cap n ca t (A.set p x) := by
  obtain ⟨cu, h2, h3⟩ := h.tr
  obtain ⟨cv, h4, h5, h6, h7⟩ := h.tb
  refine ⟨(Below.heap_setCell w ⟨ba, p, none⟩ _ hb h.ne2).trans h.hd, ⟨cu, (Below.heap_setCell w ⟨ba, p, none⟩ _ bt h.ne3).trans h2, h3⟩, ⟨cv.setIfInBounds p (natV x), ?_, by simpa using h5, by simpa using h6, fun q y hq => ?_⟩, h.ne1, h.ne2, h.ne3, h.len, h.small⟩
  · simp [World.setCell, Array.getElem?_modify, h4]
  · by_cases e : q = p
    · subst e
      have hlt : q < (A.set q x).length := (List.getElem?_eq_some_iff.1 hq).1
      rw [List.getElem?_set_self (by simpa using hlt)] at hq
      injection hq with hq
      subst hq
      rw [Array.getElem?_setIfInBounds, if_pos rfl, if_pos (by simp at hlt; omega)]
    · rw [List.getElem?_set_ne (fun x => e x.symm)] at hq
      rw [Array.getElem?_setIfInBounds, if_neg (fun x => e x.symm)]
      exact h7 q y hq
theorem MemH.tabCell {w : World} {hb bt ba cap n ca : Nat} {t : List Ent} {A : List Nat} (h : MemH w hb bt ba cap n ca t A) {p x : Nat} (hx : A[p]? = some x) : w.cell? ⟨ba, p, none⟩ = some (.int .i64 x) ∧ w.frozen? ⟨ba, p, none⟩ = false := by
  obtain ⟨cv, h4, h5, h6, h7⟩ := h.tb
  exact ⟨by rw [cells_at h4]; exact h7 p x hx, frozen_at h4 p⟩

/-- What is cut out. -/
theorem cut_perm {t : List Ent} {i : Nat} (hi : i < t.length - 1) : (at' t i :: t.dropLast.set i (at' t (t.length - 1))).Perm t := by
  obtain ⟨D, y, rfl⟩ : ∃ D y, t = D ++ [y] := by
    rcases List.eq_nil_or_concat t with h | ⟨D, y, h⟩
    · rw [h] at hi; simp at hi
    · exact ⟨D, y, by simpa using h⟩
  have h1 : at' (D ++ [y]) ((D ++ [y]).length - 1) = y := by simpa using at_append_last D y
  simp only [List.length_append, List.length_singleton, Nat.add_sub_cancel] at hi h1
  rw [at_append_left y hi]
  simp only [List.length_append, List.length_singleton, Nat.add_sub_cancel, List.dropLast_concat, h1]
  have e1 : D = D.take i ++ at' D i :: D.drop (i + 1) := by
    rw [at_get hi, ← List.drop_eq_getElem_cons hi, List.take_append_drop]
  have e2 : D.set i y = D.take i ++ y :: D.drop (i + 1) := by rw [List.set_eq_take_append_cons_drop, if_pos hi]
  rw [e2]
  have e3 : (D.take i ++ y :: D.drop (i + 1)).Perm (y :: (D.take i ++ D.drop (i + 1))) := List.perm_middle
  have e4 : D.Perm (at' D i :: (D.take i ++ D.drop (i + 1))) := by
    have := List.perm_middle (a := at' D i) (l₁ := D.take i) (l₂ := D.drop (i + 1))
    rwa [← e1] at this
  refine ((e3.cons _).trans (List.Perm.swap _ _ _)).trans ?_
  exact (e4.symm.cons y).trans (List.perm_append_singleton y D).symm

theorem set4 {W : World} {N : Nat} {a b c d : Value} {ty : TypeId} (h : W.heap[N]? = some (.cells #[a, b, c, d] ty (0, 0))) (p q r s : Value) :
    ((((W.setCell ⟨N, 0, none⟩ p).setCell ⟨N, 1, none⟩ q).setCell ⟨N, 2, none⟩ r).setCell ⟨N, 3, none⟩ s).heap[N]? = some (.cells #[p, q, r, s] ty (0, 0)) := by
  simp [World.setCell, Array.getElem?_modify, h]
set_option maxRecDepth 100000 in
set_option maxHeartbeats 4000000 in
theorem cut_mem (hb bt ba cap n ca i : Nat) (t : List Ent) (A : List Nat) (w : World) (h : MemH w hb bt ba cap n ca t A) (ok : HeapOK ordE Ent.place t A) (hi : i < t.length) (hm : t.length ≤ 10000) (hp : ∀ k, k < t.length → (at' t k).place < n) :
    Calls Try.prog 32 #[.pointer (some ⟨hb, 0, none⟩), .int .i64 i] w fun e w' => e = .returned (entV (at' t i)) ∧ ∃ t' A', MemH w' hb bt ba cap n ca t' A' ∧ HeapOK ordE Ent.place t' A' ∧ (at' t i :: t').Perm t ∧ Fr (fun k => k = hb ∨ k = bt ∨ k = ba) w w' := by
  obtain ⟨e0, e1, e2, e3⟩ := h.ent hi
  have k1 : w.cell? ⟨hb, 1, none⟩ = some (.slice (some ⟨bt, 0, none⟩) t.length cap) := by rw [cells_at h.hd]; rfl
  obtain ⟨m, hm'⟩ : ∃ m, t.length = m := ⟨_, rfl⟩
  obtain ⟨f0, f1, f2, f3⟩ := h.ent (i := t.length - 1) (by omega)
  obtain ⟨x, hx⟩ : ∃ x, at' t i = x := ⟨_, rfl⟩
  obtain ⟨y, hy⟩ : ∃ y, at' t (t.length - 1) = y := ⟨_, rfl⟩
  have hxp : x.place < n := by rw [← hx]; exact hp i hi
  have hyp : y.place < n := by rw [← hy]; exact hp _ (by omega)
  rw [hx] at e0 e1 e2 e3 ⊢
  rw [hy] at f0 f1 f2 f3
  rw [hm'] at k1 f0 f1 f2 f3 hm
  have hi' : i < m := by omega
  obtain ⟨q, hq⟩ : ∃ q, m - 1 = q := ⟨_, rfl⟩
  have hqm : m = q + 1 := by omega
  subst hqm
  simp only [Nat.add_sub_cancel] at f0 f1 f2 f3
  have q1 : (0 : Int) ≤ (i : Int) := by omega
  have q2 : (i : Int) < ((q + 1 : Nat) : Int) := by omega
  have q3 : IntKind.i64.wrap (((q + 1 : Nat) : Int) - 1) = (q : Int) := by rw [IntWalk.i64_in _ (by omega)]; omega
  have q4 : (0 : Int) ≤ (q : Int) := by omega
  have q5 : (q : Int) < ((q + 1 : Nat) : Int) := by omega
  obtain ⟨l1, l2, l3⟩ := h.lt
  have l1a : hb < w.heap.size + 1 := by omega
  have l1b : hb < w.heap.size + 1 + 1 := by omega
  have l1c : hb < w.heap.size + 1 + 1 + 1 := by omega
  have l2a : bt < w.heap.size + 1 := by omega
  have l2b : bt < w.heap.size + 1 + 1 := by omega
  have fz1 : w.frozen? ⟨hb, 1, none⟩ = false := frozen_at h.hd 1
  have hlc := h.len
  rw [hm'] at hlc
  have q6 : (q : Int) ≤ (cap : Int) := by omega
  have H := Lib.hid h
  have Hx := Lib.hid hx
  have Hy := Lib.hid hy
  have Hm := Lib.hid hm'
  have Ok := Lib.hid ok
  have Hp := Lib.hid hp
  clear h hx hy hm' ok hp hq hi
  go_enter Try.func32, Try.ntmps32
  go_wp2_with fail
  obtain ⟨N, hN⟩ : ∃ N, w.heap.size = N := ⟨_, rfl⟩
  obtain ⟨W1, hW1⟩ : ∃ W1, (((w.setCell ⟨hb, 1, none⟩ (.slice (some ⟨bt, 0, none⟩) q cap)).alloc (.cells #[.int .i64 0, .int .i64 0, .int .i64 0, .int .i64 0] 70)).alloc (.cells #[.int .i64 x.key.time, .int .i64 x.key.source, .int .i64 x.key.seq, .int .i64 x.place] 70)).alloc (.cells #[.int .i64 y.key.time, .int .i64 y.key.source, .int .i64 y.key.seq, .int .i64 y.place] 70) = W1 := ⟨_, rfl⟩
  rw [hN, hW1]
  have hs0 : (w.setCell ⟨hb, 1, none⟩ (.slice (some ⟨bt, 0, none⟩) q cap)).heap.size = N := by simp [World.setCell]; exact hN
  have fr1 : Fr (fun k => k = hb) w W1 := by rw [← hW1]; exact (((((Fr.refl (fun k => k = hb) w).setCell (fun _ => rfl) _).alloc _).alloc _).alloc _)
  have m1 : MemH W1 hb bt ba cap n ca t.dropLast A := by
    have h1 := H.out.short
    rw [Hm.out] at h1
    rw [← hW1]
    exact h1.fr ((((Fr.refl none' _).alloc _).alloc _).alloc _) id id id
  have zx : W1.heap[N]? = some (.cells #[.int .i64 0, .int .i64 0, .int .i64 0, .int .i64 0] 70 (0, 0)) := by
    rw [← hW1, ← hs0]
    have := World.alloc_heap_new (w.setCell ⟨hb, 1, none⟩ (.slice (some ⟨bt, 0, none⟩) q cap)) (.cells #[.int .i64 0, .int .i64 0, .int .i64 0, .int .i64 0] 70)
    exact (Fr.block (((Fr.refl none' _).alloc _).alloc _) _ (by simp) id).trans this
  have ex : EntAt W1 (N + 1) x := by
    rw [← hW1, ← hs0]
    have := EntAt.new ((w.setCell ⟨hb, 1, none⟩ (.slice (some ⟨bt, 0, none⟩) q cap)).alloc (.cells #[.int .i64 0, .int .i64 0, .int .i64 0, .int .i64 0] 70)) x
    rw [World.size_alloc] at this
    exact EntAt.fr this ((Fr.refl none' _).alloc _) id
  have ey : EntAt W1 (N + 1 + 1) y := by
    rw [← hW1, ← hs0]
    have := EntAt.new (((w.setCell ⟨hb, 1, none⟩ (.slice (some ⟨bt, 0, none⟩) q cap)).alloc (.cells #[.int .i64 0, .int .i64 0, .int .i64 0, .int .i64 0] 70)).alloc (.cells #[.int .i64 x.key.time, .int .i64 x.key.source, .int .i64 x.key.seq, .int .i64 x.place] 70)) y
    rwa [World.size_alloc, World.size_alloc] at this
  have s1 : W1.heap.size = N + 3 := by rw [← hW1]; simp [World.setCell]; exact hN
  rw [hN] at l1 l2 l3
  have Fr1 := Lib.hid fr1
  have M1 := Lib.hid m1
  have Zx := Lib.hid zx
  have Ex := Lib.hid ex
  have Ey := Lib.hid ey
  have HN := Lib.hid hN
  have S1 := Lib.hid s1
  have k2 : W1.cell? ⟨hb, 2, none⟩ = some (.slice (some ⟨ba, 0, none⟩) n ca) := by rw [cells_at m1.hd]; rfl
  obtain ⟨_, _, _, x3⟩ := ex.ent
  obtain ⟨u, hu⟩ : ∃ u, A[x.place]? = some u := ⟨_, List.getElem?_eq_getElem (by obtain ⟨_, _, _, h, _⟩ := m1.tb; omega)⟩
  have tc := (m1.tabCell hu).1
  have tf := (m1.tabCell hu).2
  have q7 : (x.place : Int) < (n : Int) := by omega
  have q8 : (0 : Int) ≤ (x.place : Int) := by omega
  clear k1 e0 e1 e2 e3 f0 f1 f2 f3 l1a l1b l1c l2a l2b fz1 hs0 hW1 fr1 m1 zx ex ey hu hN s1
  go_still_tail 7, (by kernel_rfl)
  change wpList _ _ _ _ _ W1.drew
  have fr2 : Fr (fun k => k = ba) W1 (W1.setCell ⟨ba, x.place, none⟩ (.int .i64 0)).drew := ((Fr.refl (fun k => k = ba) W1).setCell (fun _ => rfl) _).drew
  have m2 : MemH (W1.setCell ⟨ba, x.place, none⟩ (.int .i64 0)).drew hb bt ba cap n ca t.dropLast (A.set x.place 0) := (M1.out.table x.place 0).fr (Fr.refl none' _).drew id id id
  have Fr2 := Lib.hid fr2
  have M2 := Lib.hid m2
  clear fr2 m2
  by_cases hiq : i < q
  · have d1 : decide ((i : Int) < (q : Int)) = true := decide_eq_true (by omega)
    have d2 : decide (i < q) = true := decide_eq_true hiq
    obtain ⟨y0, y1, y2, y3⟩ := Ey.out.ent
    go_wp2_with fail
    have hlen : t.dropLast.length = q := by rw [List.length_dropLast, Hm.out]; rfl
    have hch := cut_hole ordE_ord Ok.out (i := i) (by rw [Hm.out]; omega)
    rw [Hx.out, Hy.out] at hch
    obtain ⟨hho, htb⟩ := hch
    have hfx := fix_ok ordE_ord hho htb
    have hS := set_mem hb bt ba cap n ca i t.dropLast (A.set x.place 0) y _ M2.out (by omega) (by omega) hyp
    simp only [entV] at hS
    have hpd : ∀ k, k < q → (at' (t.dropLast.set i y) k).place < n := fun k hk => by
      by_cases hki : k = i
      · rw [hki, at_set_same y (by omega)]; exact hyp
      · rw [at_set_ne (t := t.dropLast) y (fun e => hki e.symm), at_dropLast (by rw [Hm.out]; omega)]; exact Hp.out k (by rw [Hm.out]; omega)
    have hsame : at' (t.dropLast.set i y) i = y := at_set_same y (by omega)
    have HSame := Lib.hid hsame
    have Hlen := Lib.hid hlen
    have Hfx := Lib.hid hfx
    have Hpd := Lib.hid hpd
    clear hfx hho htb hpd hlen hsame
    refine hS.mono ?_
    rintro e3 W3 ⟨rfl, m3, sf3⟩
    have M3 := Lib.hid m3
    have Sf3 := Lib.hid sf3
    clear hS m3 sf3
    go_wp2_with fail
    have hK := sink_mem hb bt ba cap n ca i _ _ W3 M3.out (by rw [List.length_set, Hlen.out]; exact hiq) (by rw [List.length_set, Hlen.out]; omega) (fun k hk => Hpd.out k (by rw [List.length_set, Hlen.out] at hk; exact hk))
    rw [HSame.out] at hK
    refine hK.mono ?_
    rintro e4 W4 ⟨rfl, m4, sf4⟩
    obtain ⟨fx1, fx2, fx3, fx4, fx5, fx6, fx7, fx8⟩ := Hfx.out
    obtain ⟨T, hT⟩ : ∃ T, sinkL ordE y (t.dropLast.set i y) i = T := ⟨_, rfl⟩
    obtain ⟨idx, hidx⟩ : ∃ idx, T.2 = idx := ⟨_, rfl⟩
    have hfA : fixA ordE Ent.place y (t.dropLast.set i y) ((A.set x.place 0).set y.place (i + 1)) i = riseA ordE Ent.place y T.1 (sinkA ordE Ent.place y (t.dropLast.set i y) ((A.set x.place 0).set y.place (i + 1)) i) idx := by unfold fixA; rw [hT, hidx]
    have hfT : fixT ordE y (t.dropLast.set i y) i = riseL ordE y T.1 idx := by unfold fixT; rw [hT, hidx]
    obtain ⟨TA, hTA⟩ : ∃ TA, sinkA ordE Ent.place y (t.dropLast.set i y) ((A.set x.place 0).set y.place (i + 1)) i = TA := ⟨_, rfl⟩
    rw [hT] at m4 fx5 fx6 fx7 fx8
    rw [hTA] at m4 fx7
    rw [hidx] at fx5 fx6 fx7
    have hidx2 : idx < q := by have := fx5; rw [List.length_set, Hlen.out] at this; exact this
    have hTl : T.1.length = q := by rw [fx8, List.length_set, Hlen.out]
    have W14 : Fr (fun k => k = bt ∨ k = ba) W1 W4 := ((Fr2.out.mono (S' := fun k => k = bt ∨ k = ba) (fun _ _ h => .inr h)).trans Sf3.out.to).trans sf4.to
    have ey4 : EntAt W4 (N + 1 + 1) y := Ey.out.fr W14 (by omega)
    obtain ⟨_, _, _, yy⟩ := ey4.ent
    have kk : W4.cell? ⟨hb, 2, none⟩ = some (.slice (some ⟨ba, 0, none⟩) n ca) := by rw [cells_at m4.hd]; rfl
    have tt := (m4.tabCell fx7).1
    have r1 : (0 : Int) ≤ (y.place : Int) := by omega
    have r2 : (y.place : Int) < (n : Int) := by omega
    have r3 : IntKind.i64.wrap (((idx + 1 : Nat) : Int) - 1) = (idx : Int) := by rw [IntWalk.i64_in _ (by omega)]; omega
    have hpT : ∀ k, k < q → (at' T.1 k).place < n := fun k hk => by
      have h1 : T.1.Perm (t.dropLast.set i y) := by
        have h2 := (sinkL_all ordE_ord y (t.dropLast.set i y) i (by rw [List.length_set, Hlen.out]; exact hiq) (cut_hole ordE_ord Ok.out (i := i) (by rw [Hm.out]; omega) |>.1 |> fun h => by rw [Hy.out] at h; exact h)).2.2.2.2.1
        rw [hT, List.set_set] at h2
        exact h2
      have h3 : at' T.1 k ∈ t.dropLast.set i y := h1.mem_iff.1 (by rw [at_get (by omega)]; exact List.getElem_mem _)
      obtain ⟨l, hl, he⟩ := List.getElem_of_mem h3
      rw [← he, ← at_get hl]
      exact Hpd.out l (by rw [List.length_set, Hlen.out] at hl; exact hl)
    have HR := rise_mem ordE order_does hb bt ba cap n ca idx T.1 TA W4.drew (m4.fr (Fr.refl none' W4).drew id id id) (by omega) (by omega) (fun k hk => hpT k (by omega))
    rw [fx6, ← hfT] at HR
    rw [hTA] at hfA
    rw [← hfA] at HR
    have hper : (x :: fixT ordE y (t.dropLast.set i y) i).Perm t := by
      refine (fx2.cons x).trans ?_
      rw [List.set_set]
      have := cut_perm (t := t) (i := i) (by rw [Hm.out]; omega)
      rw [Hx.out, Hy.out] at this
      exact this
    have Fx1 := Lib.hid fx1
    have Hper := Lib.hid hper
    have HHR := Lib.hid HR
    have HW14 := Lib.hid W14
    clear hK m4 sf4 fx1 fx2 fx3 fx4 fx5 fx6 fx7 fx8 hT hidx hfA hfT hTA hTl W14 ey4 hpT HR hper d1 d2
    go_wp2_with fail
    go_still_tail 10, (by kernel_rfl)
    change wpList _ _ _ _ _ W4.drew
    go_wp2_with fail
    refine HHR.out.mono ?_
    rintro e5 W5 ⟨rfl, m5, sf5⟩
    have W15 : Fr (fun k => k = bt ∨ k = ba) W1 W5 := (HW14.out.drew).trans sf5.to
    have HEx := Lib.hid (Ex.out.fr W15 (by omega))
    have HZx := Lib.hid ((W15.block N (by rw [S1.out]; omega) (by omega)).trans Zx.out)
    have HW15 := Lib.hid W15
    have M5 := Lib.hid m5
    clear m5 sf5 W15 r1 r2 r3 tt kk yy y0 y1 y2 y3 k2 x3 tc tf
    obtain ⟨x0, x1, x2, x3⟩ := HEx.out.ent
    have z0 := cells_of HZx.out 0
    have z1 := cells_of HZx.out 1
    have z2 := cells_of HZx.out 2
    have z3 := cells_of HZx.out 3
    simp at z0 z1 z2 z3
    have y0 := frozen_at HZx.out 0
    have y1 := frozen_at HZx.out 1
    have y2 := frozen_at HZx.out 2
    have y3 := frozen_at HZx.out 3
    go_wp2
    have zz := set4 HZx.out (.int .i64 x.key.time) (.int .i64 x.key.source) (.int .i64 x.key.seq) (.int .i64 x.place)
    have w0 := cells_of zz 0
    have w1 := cells_of zz 1
    have w2 := cells_of zz 2
    have w3 := cells_of zz 3
    simp at w0 w1 w2 w3
    refine bodyPost_ret (v := entV x) (by simp [results, Try.results32, go_sem, entV, w0, w1, w2, w3]) rfl ⟨rfl, _, _, M5.out.fr (S := fun k => k = N) ?_ (by omega) (by omega) (by omega), Fx1.out, Hper.out, ?_⟩
    · exact (((((Fr.refl (fun k => k = N) W5).setCell (fun _ => rfl) _).setCell (fun _ => rfl) _).setCell (fun _ => rfl) _).setCell (fun _ => rfl) _)
    · have f1 : Fr (fun k => k = hb ∨ k = bt ∨ k = ba) w W5 := (Fr1.out.mono (fun _ _ h => .inl h)).trans (HW15.out.mono (fun _ _ h => .inr h))
      have nN : N < w.heap.size → (N = hb ∨ N = bt ∨ N = ba) := fun h => by rw [HN.out] at h; omega
      exact ((((f1.setCell nN _).setCell nN _).setCell nN _).setCell nN _)
  · have hiq' : i = q := by omega
    subst hiq'
    have d1 : decide ((i : Int) < (i : Int)) = false := decide_eq_false (by omega)
    have d2 : decide (i < i) = false := decide_eq_false (by omega)
    have hxy : x = y := by rw [← Hx.out, ← Hy.out, Hm.out]; rfl
    have hcl := cut_last Ok.out (by rw [Hm.out]; omega)
    have hper : (x :: t.dropLast).Perm t := by
      have h0 : t ≠ [] := by intro h; have := Hm.out; rw [h] at this; simp at this
      have h1 : t.dropLast ++ [x] = t := by
        have h2 := List.dropLast_concat_getLast h0
        have h3 : t.getLast h0 = x := by
          rw [hxy, ← Hy.out, at_get (by rw [Hm.out]; omega), List.getLast_eq_getElem]
        rw [h3] at h2; exact h2
      have := (List.perm_append_singleton x t.dropLast).symm
      rwa [h1] at this
    rw [Hy.out, ← hxy] at hcl
    have W12 : Fr (fun k => k = bt ∨ k = ba) W1 (W1.setCell ⟨ba, x.place, none⟩ (.int .i64 0)).drew := Fr2.out.mono (fun _ _ h => .inr h)
    have Hcl := Lib.hid hcl
    have Hper := Lib.hid hper
    have Hxy := Lib.hid hxy
    obtain ⟨W5, hW5⟩ : ∃ W5, (W1.setCell ⟨ba, x.place, none⟩ (.int .i64 0)).drew = W5 := ⟨_, rfl⟩
    rw [hW5] at W12
    have M5 := Lib.hid (hW5 ▸ M2.out)
    have HEx := Lib.hid (Ex.out.fr W12 (by omega))
    have HZx := Lib.hid ((W12.block N (by rw [S1.out]; omega) (by omega)).trans Zx.out)
    have HW15 := Lib.hid W12
    clear hcl hper hxy W12
    obtain ⟨x0, x1, x2, x3⟩ := HEx.out.ent
    have z0 := cells_of HZx.out 0
    have z1 := cells_of HZx.out 1
    have z2 := cells_of HZx.out 2
    have z3 := cells_of HZx.out 3
    simp at z0 z1 z2 z3
    have y0 := frozen_at HZx.out 0
    have y1 := frozen_at HZx.out 1
    have y2 := frozen_at HZx.out 2
    have y3 := frozen_at HZx.out 3
    go_wp2
    have zz := set4 HZx.out (.int .i64 x.key.time) (.int .i64 x.key.source) (.int .i64 x.key.seq) (.int .i64 x.place)
    have w0 := cells_of zz 0
    have w1 := cells_of zz 1
    have w2 := cells_of zz 2
    have w3 := cells_of zz 3
    simp at w0 w1 w2 w3
    refine bodyPost_ret (v := entV x) (by simp [results, Try.results32, go_sem, entV, w0, w1, w2, w3]) rfl ⟨rfl, _, _, M5.out.fr (S := fun k => k = N) ?_ (by omega) (by omega) (by omega), Hcl.out, Hper.out, ?_⟩
    · exact (((((Fr.refl (fun k => k = N) W5).setCell (fun _ => rfl) _).setCell (fun _ => rfl) _).setCell (fun _ => rfl) _).setCell (fun _ => rfl) _)
    · have f1 : Fr (fun k => k = hb ∨ k = bt ∨ k = ba) w W5 := (Fr1.out.mono (fun _ _ h => .inl h)).trans (HW15.out.mono (fun _ _ h => .inr h))
      have nN : N < w.heap.size → (N = hb ∨ N = bt ∨ N = ba) := fun h => by rw [HN.out] at h; omega
      exact ((((f1.setCell nN _).setCell nN _).setCell nN _).setCell nN _)
end Go.Proofs.Ytbpmdhngobdilaa
