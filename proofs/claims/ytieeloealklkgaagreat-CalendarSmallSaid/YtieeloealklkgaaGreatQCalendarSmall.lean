/- CalendarSmall: the statement: the law returns true; a closed statement, no condition. -/
import Derived.Test.YtieeloealklkgaaGreatJb3
import Derived.Test.YtieeloealklkgaaGreatJb5
import Derived.Test.YtieeloealklkgaaGreatJa2
set_option linter.unusedSimpArgs false
set_option linter.unusedVariables false
set_option maxRecDepth 100000

/-
  CalendarPlays: plays.
-/
namespace Go.Proofs.YtieeloealklkgaaGreat
open Go Go.RowKit Go.ChangeMaps
attribute [local go_sem ↓] Go.wp_at_zero Go.wp_at_succ
attribute [local go_sem] Oper.semAt_some wide_fn wide_depth wide_fnR wide_depthR

/-- Puts, one for each event. -/
def firstC (l : List Ev) : List Ca := l.map (fun x => ⟨1, x, 0⟩)
theorem firstC_kinds (l : List Ev) : ∀ a ∈ firstC l, 1 ≤ a.kind ∧ a.kind ≤ 5 := fun a ha => by
 obtain ⟨x, _, rfl⟩ := List.mem_map.1 ha
 exact ⟨by simp, by simp⟩
theorem firstC_snoc {l : List Ev} {k : Nat} {x : Ev} (h : l[k]? = some x) : firstC (l.take (k + 1)) = firstC (l.take k) ++ [⟨1, x, 0⟩] := by
 unfold firstC; rw [List.take_add_one, h, List.map_append]; rfl
theorem stC_first {n : Nat} {l : List Ev} {k : Nat} {x : Ev} (h : l[k]? = some x) : stC n [] (firstC (l.take (k + 1))) = allE n (stC n [] (firstC (l.take k))) [x] := by
 rw [firstC_snoc h, stC_append]; rfl
theorem make_racts (n : Nat) (hn : n ≤ 1000000) (w : World) : (Go.Instr.makeSlice 73 (.int .i64 0) (.int .i64 n)).run Tryz.prog w = .ok (.slice (some ⟨w.heap.size, 0, none⟩) 0 n) (w.alloc (.cells (madeCells #[.int .u8 0, .int .i64 0, .int .i64 0, .int .i64 0, .int .i64 0, .int .i64 0, .int .i64 0] (n * 7)) 75)) := by
 obtain ⟨i0, hi, hz0, hz1, hz2⟩ := info_parts3 info_ract
 have := run_make (P := Tryz.prog) w 73 75 i0 _ Tryz.underlying73 hi hz0 .i64 .i64 (0 : Int) (n : Int) (Int.le_refl _) (by omega) (by rw [hz2]; omega) (by omega)
 rw [this, hz1]
 simp only [Int.toNat_natCast, Int.toNat_zero, Value.cells]
set_option maxHeartbeats 4000000 in
theorem plays_any {w : World} {a aa : Option Addr} {n m cap M ca : Nat} (l : List Ev) (A : List Ca) (h : EsIn w a l) (hl : l.length = m) (hm : m ≤ 1000) (hn : n ≤ 256) (hA : CasIn w aa A) (hAl : A.length = M) (hM : M ≤ 1000) (hk : ∀ x ∈ A, (0 ≤ x.kind ∧ x.kind < 256) ∧ I64 x.x.name.1 ∧ I64 x.x.name.2) :
  Calls Tryz.prog 7 #[.slice a m cap, .int .i64 n, .slice aa M ca] w fun e w' => e = .returned (.bool true) ∧ Fr0 none' w w' := by
 obtain ⟨i0, hi, hz0, hz1, hz2⟩ := info_parts info_ract
 have HN := Lib.hid (QNew_is n hn w)
 have HL := Lib.hid h
 have Hl := Lib.hid hl
 have HA := Lib.hid hA
 have HAl := Lib.hid hAl
 have HK := Lib.hid hk
 have hmk := fun W => make_racts m (by omega) W
 clear h hl hA hAl hk
 go_enter Tryz.func7, Tryz.ntmps7
 go_wp2_with fail
 refine HN.out.mono ?_
 rintro e w1 ⟨qb, ft, rfl, hq1, f1, hge⟩
 have HS1 := Lib.hid (show StQ w w1 qb n 0 [] ft from ⟨hq1, f1, hge⟩)
 clear hq1 f1 hge HN
 go_wp2_with fail
 clear hmk
 obtain ⟨N, hN⟩ : ∃ N, w1.heap.size = N := ⟨_, rfl⟩
 obtain ⟨W2, hW2⟩ : ∃ W, w1.alloc (.cells (madeCells #[.int .u8 0, .int .i64 0, .int .i64 0, .int .i64 0, .int .i64 0, .int .i64 0, .int .i64 0] (m * 7)) 75) = W := ⟨_, rfl⟩
 have f2 : Fr0 none' w1 W2 := by rw [← hW2]; exact (Fr0.refl _ _).alloc _
 have hrow0 : W2.ownsRow N 75 7 (.slice (some ⟨N, 0, none⟩) 0 m) 0 (flatCa (firstC (l.take 0))) := by
  have hb : W2.heap[N]? = some (.cells (madeCells #[.int .u8 0, .int .i64 0, .int .i64 0, .int .i64 0, .int .i64 0, .int .i64 0, .int .i64 0] (m * 7)) 75 (0, 0)) := by rw [← hW2, ← hN]; exact World.alloc_heap_new w1 _
  exact ⟨by simp [flatCa, firstC], .inr ⟨N, m, _, rfl, Nat.le_refl _, hb, Nat.zero_le _, by unfold maxLen; omega, by simp [madeCells], by simp [flatCa, firstC]⟩⟩
 have HR0 := Lib.hid hrow0
 have HS2 := Lib.hid (HS1.out.later f2)
 have HFN := Lib.hid (show ∀ k, ft k → k < N by rw [← hN]; exact HS1.out.1.lt)
 have HN2 := Lib.hid (show N < W2.heap.size by rw [← hW2, World.size_alloc, hN]; omega)
 have HwN := Lib.hid (show w.heap.size ≤ N by rw [← hN]; exact HS1.out.2.1.size)
 rw [hW2]
 try rw [hN]
 clear hW2 hN f2 hrow0 HS1
 go_loopw [9, 11, 38] (fun out _ i wr => ∃ (k : Nat) (fk : Nat → Prop), k ≤ m ∧ i = .int .i64 k ∧ Hid (StQ w wr qb n k (stC n [] (firstC (l.take k))) fk) ∧ Hid (wr.ownsRow N 75 7 out k (flatCa (firstC (l.take k)))) ∧ Hid (∀ g, out.ownBlock = some g → ¬ fk g) ∧ Hid (W2.heap.size ≤ wr.heap.size)) (fun _ _ i _ => m - (Go.RowKit.intOf i).toNat)
 case atStart => exact ⟨0, ft, Nat.zero_le _, rfl, HS2, HR0, fun g hg hk => by have := HFN.out g hk; have hg : N = g := Option.some.inj hg; omega, Nat.le_refl _⟩
 case round =>
  obtain ⟨k, fk, hk, rfl, hst, hown, hdis, hws⟩ := hrel
  by_cases hlt : k < m
  ·obtain ⟨x, hx⟩ : ∃ x, l[k]? = some x := ⟨_, List.getElem?_eq_getElem (by rw [Hl.out]; exact hlt)⟩
   obtain ⟨g2, o, rfl, hxc⟩ := HL.out k x hx
   obtain ⟨x0, x1, x2, x3, x4⟩ := hxc.later hst.out.2.1
   have k1 : (0 : Int) ≤ (k : Int) := by omega
   have k2 : (k : Int) < (m : Int) := by omega
   obtain ⟨q, hq⟩ : ∃ q, wr.heap.size = q := ⟨_, rfl⟩
   obtain ⟨W3, hW3⟩ : ∃ W, wr.alloc (.cells #[.int .i64 x.key.time, .int .i64 x.key.source, .int .i64 x.key.seq, .int .i64 x.to, .int .i64 x.value] 30) = W := ⟨_, rfl⟩
   have f3 : Fr0 none' wr W3 := by rw [← hW3]; exact (Fr0.refl _ _).alloc _
   have b3 : W3.heap[q]? = some (.cells (cev x).toArray 30 (0, 0)) := by rw [← hW3, ← hq]; exact World.alloc_heap_new _ _
   have HST3 := Lib.hid (hst.out.later f3)
   have Hx := Lib.hid hx
   have HF3 := Lib.hid f3
   have HP := Lib.hid (HST3.out.1.put1 x (by omega))
   rw [← stC_first hx] at HP
   simp only [evV] at HP
   have B3 := Lib.hid b3
   have Hq := Lib.hid hq
   have HQ := Lib.hid (show ¬ fk q from fun h => by have := hst.out.1.lt q h; omega)
   have z0 := cells_in b3 0
   have z1 := cells_in b3 1
   have z2 := cells_in b3 2
   have z3 := cells_in b3 3
   have z4 := cells_in b3 4
   simp [cev] at z0 z1 z2 z3 z4
   clear hx hxc f3 b3
   go_wp2_with fail
   clear hW3 hq z0 z1 z2 z3 z4
   refine HP.out.mono ?_
   rintro e w4 ⟨rfl, hq4, hf4⟩
   have HST4 := Lib.hid (HST3.out.step hq4 hf4)
   have b4 := (hf4.block q (Array.getElem?_eq_some_iff.1 B3.out).1 HQ.out).trans B3.out
   have hown4 := ownsRow_fr0 (ownsRow_fr0 hown.out HF3.out (fun _ _ h => h)) hf4 hdis.out
   have hdis4 : ∀ g, u9.ownBlock = some g → ¬ qgrow fk W3 w4 g := fun g hg => qgrow_off (hdis.out g hg) (Nat.lt_of_lt_of_le (hown.out.lt g hg).2 HF3.out.size)
   have HD4 := Lib.hid hdis4
   have y0 := cells_in b4 0
   have y1 := cells_in b4 1
   have y2 := cells_in b4 2
   have y3 := cells_in b4 3
   have y4 := cells_in b4 4
   simp [cev] at y0 y1 y2 y3 y4
   have hsrc := Src.newRow (P := Tryz.prog) (size := 7) (tx := 73) (ty := 75) w4 Tryz.underlying73 1 1 [.int .u8 1, .int .i64 x.key.time, .int .i64 x.key.source, .int .i64 x.key.seq, .int .i64 x.to, .int .i64 x.value, .int .i64 0] rfl (by simp [Value.oneCell'])
   have Hsrc := Lib.hid hsrc
   have Hown4 := Lib.hid (hown4.alloc (.cells [Value.int .u8 1, .int .i64 x.key.time, .int .i64 x.key.source, .int .i64 x.key.seq, .int .i64 x.to, .int .i64 x.value, .int .i64 0].toArray 75))
   have hN4 : W2.heap.size ≤ w4.heap.size := by have := hf4.size; have := HF3.out.size; have := hws.out; omega
   have HS4 := Lib.hid hN4
   have hN4 : N ≤ w4.heap.size := by have := HN2.out; omega
   obtain ⟨va, vc, rfl⟩ : ∃ va vc, u9 = .slice va k vc := by
    rcases hown.out.2 with ⟨rfl, h0⟩ | ⟨g, cap, cur, rfl, _⟩
    ·exact ⟨none, 0, by rw [h0]⟩
    ·exact ⟨_, cap, rfl⟩
   clear hsrc hown4 hq4 hf4 b4 hdis4 HP x0 x1 x2 x3 x4
   go_wp2_with (at_builtin; refine wpList_append_k rfl _ _ 73 73 rfl N 75 i0 (.agg #[.int .u8 0, .int .i64 0, .int .i64 0, .int .i64 0, .int .i64 0, .int .i64 0, .int .i64 0]) 7 56 Tryz.underlying73 hi hz0 hz1 hz2 rfl (by decide) (.slice va k vc) k _ rfl Hown4.out (.slice (some ⟨w4.heap.size, 0, none⟩) 1 1) 1 _ rfl Hsrc.out (by unfold maxLen; omega) (by omega) (by simp; omega) ?_; intro v' w5 hown' hgrow hdr hob)
   have hfg : Fr0 (fun i => (Value.slice va k vc).ownBlock = some i) w4 w5 := ((Fr0.refl _ w4).alloc _).grown hgrow (fun i hi _ => hi)
   have HST5 := Lib.hid (HST4.out.other (gt := fun i => (Value.slice va k vc).ownBlock = some i) (fun i hi => by have := (hown.out.lt i hi).1; have := HwN.out; omega) (fun i hi hs => HD4.out i hs hi) hfg)
   have HS5 := Lib.hid (Nat.le_trans HS4.out hfg.size)
   have hst4 : flatCa (firstC (l.take (k + 1))) = flatCa (firstC (l.take k)) ++ [Value.int .u8 1, .int .i64 x.key.time, .int .i64 x.key.source, .int .i64 x.key.seq, .int .i64 x.to, .int .i64 x.value, .int .i64 0] := by rw [firstC_snoc Hx.out, flatCa_snoc]
   rw [← hst4] at hown'
   have hdis5 : ∀ g, v'.ownBlock = some g → ¬ qgrow fk W3 w4 g := fun g hg hh => by
    rcases hob with hob | hob
    ·exact HD4.out g (by rw [← hob]; exact hg) hh
    ·rw [hg] at hob
     injection hob with hob
     have := HST4.out.1.lt g hh
     rw [World.size_alloc] at hob
     omega
   have HD5 := Lib.hid hdis5
   have Hown' := Lib.hid hown'
   obtain ⟨g', cap', rfl⟩ := ownsRow_k_succ hown'
   clear hgrow hdr hob hown' hfg hst4 hdis5 y0 y1 y2 y3 y4
   go_wp2
   go_roundw
   case rel => exact ⟨k + 1, qgrow fk W3 w4, by omega, by go_num, HST5, Hown', HD5, HS5⟩
   case measure => simp [Go.RowKit.intOf]; omega
  ·have hkm : k = m := by omega
   subst hkm
   rw [List.take_of_length_le (by rw [Hl.out]; exact Nat.le_refl _)] at hst hown
   obtain ⟨fa, fc, rfl, hfl, hfc, hfi⟩ := flatCa_ownR hown.out
   obtain ⟨B, hB⟩ : ∃ B, stC n [] (firstC l) = B := ⟨_, rfl⟩
   have hgB : GoodE n B := by rw [← hB]; exact GoodE.acts _ (GoodE.nil n)
   have hBl := hgB.le
   obtain ⟨bl, hbl⟩ : ∃ b, B.length = b := ⟨_, rfl⟩
   rw [hbl] at hBl
   have HR1 := Lib.hid (rPlay_any (w := wr) (c := n) (n := 0) (cap := 0) (ca := fc) [] (firstC l) (esIn_nilC wr none) rfl (by omega) (Nat.zero_le _) hfi hfl (by omega))
   unfold EndRP at HR1
   rw [playC_ok (GoodE.nil n) hn (firstC_kinds l), hB] at HR1
   simp only [hbl] at HR1
   rw [hB] at hst
   have HQr := Lib.hid hst.out.1
   have HFr := Lib.hid hst.out.2.1
   have HFT := Lib.hid hst.out.2.2
   have HFL := Lib.hid hst.out.1.lt
   have HBl := Lib.hid hbl
   have HgB := Lib.hid hgB
   clear hst hown hdis hfi hB hgB hbl hfl
   go_wp2_with fail
   refine HR1.out.mono ?_
   rintro e w5 ⟨ba, bc, u0, zs0, rfl, hbc, hbi, hbf, hu0, _, _, hf⟩
   obtain ⟨ua0, uc0, rfl, _, _⟩ := TdsIn.of_ownR hu0
   have HBI := Lib.hid hbi
   have HBF := Lib.hid (show ∀ g o s, ba = some ⟨g, o, s⟩ → B ≠ [] → wr.heap.size ≤ g ∧ g < w5.heap.size from fun g o s e h0 => (hbf g o s e h0).elim (fun h => absurd rfl h.2) id)
   have F5 := Lib.hid hf
   have FW := Lib.hid (HFr.out.trans hf)
   have HTH := Lib.hid (theirs_any (cap := ca) A (HA.out.later FW.out) HAl.out (by omega))
   clear hbi hbf hu0 hf HR1
   go_wp2_with fail
   refine HTH.out.mono ?_
   rintro e w6 ⟨q, rfl, hq, hf⟩
   obtain ⟨qa, qc, rfl, _, hqc, hqi⟩ := flatCa_ownR hq
   have HBI := Lib.hid (HBI.out.later hf)
   have F6 := Lib.hid (F5.out.trans hf)
   have FW := Lib.hid (FW.out.trans hf)
   have HR2 := Lib.hid (rPlay_any (w := w6) (c := n) (cap := bc) (ca := qc) B A HBI.out HBl.out (by omega) hbc hqi HAl.out (by omega))
   unfold EndRP at HR2
   clear hq hqi hf HTH
   have hcase : (∃ ix er T F, playC B n A = (F, T, ix, er) ∧ queC n B A = (F, T, ix, er) ∧ er = 0) ∨ (∃ ix T, playC B n A = ([], T, ix, 121) ∧ queC n B A = (B, T, ix, 121)) := by
    by_cases h0 : 0 ≤ oddC A
    ·exact .inr ⟨oddC A, [], playC_odd (HgB.out.rightC hn) h0, queC_odd h0⟩
    ·exact .inl ⟨-1, 0, tlC n B A, stC n B A, by rw [playC_right (HgB.out.rightC hn) h0, Int.toNat_natCast], queC_right h0, rfl⟩
   have hb3 := playC_bounds B n A
   have HgQ := Lib.hid (show GoodE n (queC n B A).1 from by
    unfold queC
    split
    ·exact HgB.out
    ·exact GoodE.acts A HgB.out)
   rcases hcase with ⟨ix, er, T, F, hp, hq, rfl⟩ | ⟨ix, T, hp, hq⟩
   ·rw [hp] at HR2 hb3
    obtain ⟨fl, hfl⟩ : ∃ l, F.length = l := ⟨_, rfl⟩
    obtain ⟨tn, htn⟩ : ∃ l, T.length = l := ⟨_, rfl⟩
    simp only [hfl, htn] at HR2 hb3
    rw [HAl.out] at hb3
    obtain ⟨hf256, htm, hb3⟩ := hb3
    have HB3 := Lib.hid hb3
    have HFl := Lib.hid hfl
    have Htn := Lib.hid htn
    have Hqc := Lib.hid hq
    clear hp hq hb3 hfl htn
    go_wp2_with fail
    refine HR2.out.mono ?_
    rintro e w7 ⟨wa, wc, sv, zs, rfl, hwc, hw, hfw, hsv, hzt, hz, hf⟩
    obtain ⟨sa, sc, rfl, hzl, hsi⟩ := TdsIn.of_ownR hsv
    have FW := Lib.hid (FW.out.trans hf)
    have F7 := Lib.hid (F6.out.trans hf)
    have HQ8 := Lib.hid (HQr.out.later F7.out)
    have HW := Lib.hid hw
    have HBI := Lib.hid (HBI.out.later hf)
    have HFA := Lib.hid (show ∀ g o s, wa = some ⟨g, o, s⟩ → F ≠ [] → wr.heap.size ≤ g from fun g o s e h0 => by
     rcases hfw g o s e h0 with ⟨⟨o', s', e'⟩, h1⟩ | h1
     ·exact (HBF.out g o' s' e' h1).1
     ·have := F6.out.size; omega)
    have HSL := Lib.hid (show ∀ g o s, sa = some ⟨g, o, s⟩ → wr.heap.size ≤ g from fun g o s e => by
     have := (hsv.lt g (by rw [e]; rfl)).1
     have := F6.out.size
     omega)
    have HZT := Lib.hid hzt
    have HZ := Lib.hid (show ∀ y ∈ zs, EsIn w7 y.sa y.evs ∧ y.sn = y.evs.length ∧ ∀ g o s, y.sa = some ⟨g, o, s⟩ → y.evs ≠ [] → wr.heap.size ≤ g from fun y hy => by
     obtain ⟨h1, h2, h3⟩ := hz y hy
     refine ⟨h1, h2, fun g o s e h0 => ?_⟩
     rcases h3 g o s e h0 with ⟨⟨o', s', e'⟩, h1⟩ | h1
     ·exact (HBF.out g o' s' e' h1).1
     ·have := F6.out.size; omega)
    have HZL := Lib.hid hzl
    have HSI := Lib.hid hsi
    clear hw hfw hsv hzt hz hf hzl hsi
    go_wp2_with fail
    have HQ := Lib.hid (Queue_any (m := M) (ca := ca) A HQ8.out (by omega) (HA.out.later FW.out) HAl.out (by omega) (fun x hx => (HK.out x hx).1) (fun x hx => (HK.out x hx).2) (fun h0 g o s e hg => by have := HA.out.lt h0 g o s e; have := HFT.out g hg; omega))
    unfold EndQ at HQ
    rw [Hqc.out] at HQ
    simp only at HQ
    refine HQ.out.mono ?_
    clear HQ
    rintro e w9 ⟨u, ys, ft', rfl, hu, hT, hq9, hft', hu', hf⟩
    obtain ⟨ua, uc, rfl, hyl, huin⟩ := TdsIn.of_own hu
    have HFin := Lib.hid (show Fr0 none' w w9 from FW.out.trans' hf (fun k hk hs => by have := HFT.out k hs; omega))
    have HQ9 := Lib.hid hq9
    have HU := Lib.hid huin
    have HYL := Lib.hid (show ys.length = tn from hyl.trans Htn.out)
    have HYE := Lib.hid (show TdEv w9 ys from fun y hy => by
     have h1 := hT.row y hy
     have h2 := HB3.out y.tl (by rw [← hT.tl]; exact List.mem_map.2 ⟨y, hy, rfl⟩)
     have h2 : y.evs.length ≤ 256 := h2
     obtain ⟨p, cp, e1, e2, e3⟩ := EsIn.of_own h1
     injection e1 with f1 f2 f3
     rw [f1]
     exact ⟨e3, f2.symm, by omega⟩)
    have HZS := Lib.hid (show TdsIn w9 sa zs from HSI.out.fr0 hf (fun g o s e hg => by have := HSL.out g o s e; have := HFL.out g hg; omega))
    have HZE := Lib.hid (show TdEv w9 zs from fun y hy => by
     have h2 := HB3.out y.tl (by rw [← HZT.out]; exact List.mem_map.2 ⟨y, hy, rfl⟩)
     have h2 : y.evs.length ≤ 256 := h2
     obtain ⟨h3, h4, h5⟩ := HZ.out y hy
     exact ⟨h3.off hf (fun g o s e h0 hg => by have := h5 g o s e h0; have := HFL.out g hg; omega), h4.symm, by omega⟩)
    have HAF := Lib.hid (show EsIn w9 wa F from HW.out.off hf (fun g o s e h0 hg => by have := HFA.out g o s e h0; have := HFL.out g hg; omega))
    have HYT := Lib.hid (show ys.map Td.tl = zs.map Td.tl from hT.tl.trans HZT.out.symm)
    clear hu hT hq9 hft' hu' hf hyl huin
    rw [Htn.out]
    go_wp2_with fail
    have HS := told12_any ua sa tn tn uc sc ys zs w9 HYL.out HZL.out (by omega) (by omega) HU.out HZS.out HYE.out HZE.out
    rw [decide_eq_true HYT.out] at HS
    refine HS.mono ?_
    clear HS
    rintro e w10 ⟨rfl, hf⟩
    have HFin := Lib.hid (HFin.out.trans hf)
    have HQ9 := Lib.hid (HQ9.out.later hf)
    have HAF := Lib.hid (HAF.out.later hf)
    clear hf HU HZS HYE HZE
    have q1 : (ix == ix) = true := by simp
    go_wp2_with fail
    refine HQ9.out.all.mono ?_
    rintro e w11 ⟨v, rfl, hv, hf⟩
    obtain ⟨va, vc, rfl, hvl, hvi⟩ := EsIn.of_own hv
    have HV := Lib.hid hvi
    have HAF := Lib.hid (HAF.out.later hf)
    have HFin := Lib.hid (HFin.out.trans hf)
    rw [HFl.out]
    clear hv hf hvl hvi q1
    go_wp2_with fail
    have HS := sameEs_any va wa fl fl vc wc F F w11 HFl.out HFl.out (by omega) (by omega) HV.out HAF.out
    rw [decide_eq_true rfl] at HS
    refine HS.mono ?_
    clear HS
    rintro e w12 ⟨rfl, hf⟩
    have HFin := Lib.hid (HFin.out.trans hf)
    clear hf
    go_wp2
    go_ret
    exact ⟨rfl, HFin.out⟩
   ·rw [hp] at HR2 hb3
    obtain ⟨F, hF⟩ : ∃ F, F = B := ⟨_, rfl⟩
    subst hF
    obtain ⟨fl, hfl⟩ : ∃ l, l = bl := ⟨_, rfl⟩
    subst hfl
    obtain ⟨tn, htn⟩ : ∃ l, T.length = l := ⟨_, rfl⟩
    simp only [htn, List.length_nil] at HR2 hb3
    rw [HAl.out] at hb3
    obtain ⟨_, htm, hb3⟩ := hb3
    have HB3 := Lib.hid hb3
    have HFl := Lib.hid HBl.out
    have Htn := Lib.hid htn
    have Hqc := Lib.hid hq
    clear hp hq hb3 htn
    go_wp2_with fail
    refine HR2.out.mono ?_
    rintro e w7 ⟨wa, wc, sv, zs, rfl, hwc, hw, hfw, hsv, hzt, hz, hf⟩
    obtain ⟨sa, sc, rfl, hzl, hsi⟩ := TdsIn.of_ownR hsv
    have FW := Lib.hid (FW.out.trans hf)
    have F7 := Lib.hid (F6.out.trans hf)
    have HQ8 := Lib.hid (HQr.out.later F7.out)
    have HW := Lib.hid hw
    have HBI := Lib.hid (HBI.out.later hf)
    have HFA := Lib.hid (show ∀ g o s, wa = some ⟨g, o, s⟩ → [] ≠ [] → wr.heap.size ≤ g from fun g o s e h0 => by
     rcases hfw g o s e h0 with ⟨⟨o', s', e'⟩, h1⟩ | h1
     ·exact (HBF.out g o' s' e' h1).1
     ·have := F6.out.size; omega)
    have HSL := Lib.hid (show ∀ g o s, sa = some ⟨g, o, s⟩ → wr.heap.size ≤ g from fun g o s e => by
     have := (hsv.lt g (by rw [e]; rfl)).1
     have := F6.out.size
     omega)
    have HZT := Lib.hid hzt
    have HZ := Lib.hid (show ∀ y ∈ zs, EsIn w7 y.sa y.evs ∧ y.sn = y.evs.length ∧ ∀ g o s, y.sa = some ⟨g, o, s⟩ → y.evs ≠ [] → wr.heap.size ≤ g from fun y hy => by
     obtain ⟨h1, h2, h3⟩ := hz y hy
     refine ⟨h1, h2, fun g o s e h0 => ?_⟩
     rcases h3 g o s e h0 with ⟨⟨o', s', e'⟩, h1⟩ | h1
     ·exact (HBF.out g o' s' e' h1).1
     ·have := F6.out.size; omega)
    have HZL := Lib.hid hzl
    have HSI := Lib.hid hsi
    clear hw hfw hsv hzt hz hf hzl hsi
    have HFA := Lib.hid (show ∀ g o s, ba = some ⟨g, o, s⟩ → F ≠ [] → wr.heap.size ≤ g from fun g o s e h0 => (HBF.out g o s e h0).1)
    go_wp2_with fail
    have HQ := Lib.hid (Queue_any (m := M) (ca := ca) A HQ8.out (by omega) (HA.out.later FW.out) HAl.out (by omega) (fun x hx => (HK.out x hx).1) (fun x hx => (HK.out x hx).2) (fun h0 g o s e hg => by have := HA.out.lt h0 g o s e; have := HFT.out g hg; omega))
    unfold EndQ at HQ
    rw [Hqc.out] at HQ
    simp only at HQ
    refine HQ.out.mono ?_
    clear HQ
    rintro e w9 ⟨u, ys, ft', rfl, hu, hT, hq9, hft', hu', hf⟩
    obtain ⟨ua, uc, rfl, hyl, huin⟩ := TdsIn.of_own hu
    have HFin := Lib.hid (show Fr0 none' w w9 from FW.out.trans' hf (fun k hk hs => by have := HFT.out k hs; omega))
    have HQ9 := Lib.hid hq9
    have HU := Lib.hid huin
    have HYL := Lib.hid (show ys.length = tn from hyl.trans Htn.out)
    have HYE := Lib.hid (show TdEv w9 ys from fun y hy => by
     have h1 := hT.row y hy
     have h2 := HB3.out y.tl (by rw [← hT.tl]; exact List.mem_map.2 ⟨y, hy, rfl⟩)
     have h2 : y.evs.length ≤ 256 := h2
     obtain ⟨p, cp, e1, e2, e3⟩ := EsIn.of_own h1
     injection e1 with f1 f2 f3
     rw [f1]
     exact ⟨e3, f2.symm, by omega⟩)
    have HZS := Lib.hid (show TdsIn w9 sa zs from HSI.out.fr0 hf (fun g o s e hg => by have := HSL.out g o s e; have := HFL.out g hg; omega))
    have HZE := Lib.hid (show TdEv w9 zs from fun y hy => by
     have h2 := HB3.out y.tl (by rw [← HZT.out]; exact List.mem_map.2 ⟨y, hy, rfl⟩)
     have h2 : y.evs.length ≤ 256 := h2
     obtain ⟨h3, h4, h5⟩ := HZ.out y hy
     exact ⟨h3.off hf (fun g o s e h0 hg => by have := h5 g o s e h0; have := HFL.out g hg; omega), h4.symm, by omega⟩)
    have HAF := Lib.hid (show EsIn w9 ba F from HBI.out.off hf (fun g o s e h0 hg => by have := HFA.out g o s e h0; have := HFL.out g hg; omega))
    have HYT := Lib.hid (show ys.map Td.tl = zs.map Td.tl from hT.tl.trans HZT.out.symm)
    clear hu hT hq9 hft' hu' hf hyl huin
    rw [Htn.out]
    go_wp2_with fail
    have HS := told12_any ua sa tn tn uc sc ys zs w9 HYL.out HZL.out (by omega) (by omega) HU.out HZS.out HYE.out HZE.out
    rw [decide_eq_true HYT.out] at HS
    refine HS.mono ?_
    clear HS
    rintro e w10 ⟨rfl, hf⟩
    have HFin := Lib.hid (HFin.out.trans hf)
    have HQ9 := Lib.hid (HQ9.out.later hf)
    have HAF := Lib.hid (HAF.out.later hf)
    clear hf HU HZS HYE HZE
    have q1 : (ix == ix) = true := by simp
    go_wp2_with fail
    refine HQ9.out.all.mono ?_
    rintro e w11 ⟨v, rfl, hv, hf⟩
    obtain ⟨va, vc, rfl, hvl, hvi⟩ := EsIn.of_own hv
    have HV := Lib.hid hvi
    have HAF := Lib.hid (HAF.out.later hf)
    have HFin := Lib.hid (HFin.out.trans hf)
    rw [HFl.out]
    clear hv hf hvl hvi q1
    go_wp2_with fail
    have HS := sameEs_any va ba fl fl vc bc F F w11 HFl.out HFl.out (by omega) (by omega) HV.out HAF.out
    rw [decide_eq_true rfl] at HS
    refine HS.mono ?_
    clear HS
    rintro e w12 ⟨rfl, hf⟩
    have HFin := Lib.hid (HFin.out.trans hf)
    clear hf
    go_wp2
    go_ret
    exact ⟨rfl, HFin.out⟩
/-
  calendar: Queue on a queue that is none.
-/
variable {w w' : World} {p : Option Addr}

/-- No queue: nil, or one that was not made by New. -/
def NoQ (w : World) (p : Option Addr) : Prop := p = none ∨ ∃ b, p = some ⟨b, 0, none⟩ ∧ w.heap[b]? = some (.cells #[.pointer none, .pointer none, .slice none 0 0, .map none] 42 (0, 0))
theorem NoQ.later (h : NoQ w p) (hf : Fr0 none' w w') : NoQ w' p := by
 rcases h with h | ⟨b, h1, h2⟩
 ·exact .inl h
 ·exact .inr ⟨b, h1, (hf.block b (Array.getElem?_eq_some_iff.1 h2).1 id).trans h2⟩
theorem NoQ.isnt (h : NoQ w p) : Calls Tryz.prog 57 #[.pointer p] w fun e w' => e = .returned (.bool true) ∧ Fr0 none' w w' := by
 rcases h with rfl | ⟨b, rfl, hb⟩
 ·go_enter Tryz.func57, Tryz.ntmps57
  go_wp2
  go_ret
  exact ⟨rfl, Fr0.refl _ _⟩
 ·have c0 := cells_in hb 0
  simp at c0
  go_enter Tryz.func57, Tryz.ntmps57
  go_wp2
  go_ret
  exact ⟨rfl, Fr0.refl _ _⟩
set_option maxHeartbeats 1000000 in
theorem NoQ.copy (h : NoQ w p) : Calls Tryz.prog 39 #[.pointer p] w fun e w' => e = .returned (.tuple #[.pointer none, .int .i64 1]) ∧ Fr0 none' w w' := by
 have HI := Lib.hid (fun W (hf : Fr0 none' w W) => (h.later hf).isnt)
 clear h
 go_enter Tryz.func39, Tryz.ntmps39
 go_wp2_with fail
 refine (HI.out _ (Fr0.refl _ _)).mono ?_
 rintro e w1 ⟨rfl, hf⟩
 go_wp2_with fail
 go_ret2
 exact ⟨rfl, hf⟩
set_option maxHeartbeats 1000000 in
theorem Queue_none (h : NoQ w p) (u : Value) : Calls Tryz.prog 12 #[.pointer p, u] w fun e w' => e = .returned (.tuple #[.slice none 0 0, .int .i64 (-1), .int .i64 1]) ∧ Fr0 none' w w' := by
 have HI := Lib.hid h.copy
 clear h
 go_enter Tryz.func12, Tryz.ntmps12
 go_wp2_with fail
 refine HI.out.mono ?_
 rintro e w1 ⟨rfl, hf⟩
 go_wp2_with fail
 go_ret3
 exact ⟨rfl, hf⟩
end Go.Proofs.YtieeloealklkgaaGreat

/-
  CalendarPlays.
-/
namespace Go.Proofs.YtieeloealklkgaaGreat
open Go Go.RowKit
attribute [local go_sem ↓] Go.wp_at_zero Go.wp_at_succ
attribute [local go_sem] Oper.semAt_some wide_fn wide_depth wide_fnR wide_depthR

end Go.Proofs.YtieeloealklkgaaGreat

/-
  CalendarSmall.
-/
namespace Go.Proofs.YtieeloealklkgaaGreat
open Go Go.RowKit Go.ChangeMaps
attribute [local go_sem ↓] Go.wp_at_zero Go.wp_at_succ
attribute [local go_sem] Oper.semAt_some wide_fn wide_depth wide_fnR wide_depthR

def evAtC (a b c : Int) : Ev := ⟨⟨a, b, c⟩, 1, 0⟩
theorem CasIn.cells {w : World} {g : Nat} {cu : Array Value} {ty : TypeId} {L : List Ca} (hg : w.heap[g]? = some (.cells cu ty (0, 0))) (ht : cu.toList = flatCa L) : CasIn w (some ⟨g, 0, none⟩) L := CasIn.of_flat (fun j u hj => by
 rw [Nat.zero_add, cells_in hg, ← Array.getElem?_toList, ht]
 exact hj)
theorem CasIn.nth {w : World} {g n i : Nat} {L : List Ca} (h : CasIn w (some ⟨g, 0, none⟩) L) (hl : L.length = n) (hi : i < n) : ∃ x, L[i]? = some x ∧ CaAt w g (i * 7) x := by
 obtain ⟨x, hx⟩ : ∃ x, L[i]? = some x := ⟨_, List.getElem?_eq_getElem (by omega)⟩
 obtain ⟨g', o, e, hc⟩ := h i x hx
 injection e with e
 injection e with e1 e2
 subst e1 e2
 rw [Nat.zero_add] at hc
 exact ⟨x, hx, hc⟩
theorem CaAt.later {w w' : World} {g o : Nat} {x : Ca} (h : CaAt w g o x) (hf : Fr0 none' w w') : CaAt w' g o x := h.fr0 hf id
theorem EsIn.firstN {w : World} {a : Option Addr} {L : List Ev} (h : EsIn w a L) (n : Nat) : EsIn w a (L.take n) := fun i x hx => by
 rw [List.getElem?_take] at hx
 split at hx
 ·exact h i x hx
 ·cases hx
theorem EsIn.cells {w : World} {g : Nat} {cu : Array Value} {ty : TypeId} {L : List Ev} (hg : w.heap[g]? = some (.cells cu ty (0, 0))) (ht : cu.toList = flatEv L) : EsIn w (some ⟨g, 0, none⟩) L := EsIn.of_flat (fun j u hj => by
 rw [Nat.zero_add, cells_in hg, ← Array.getElem?_toList, ht]
 exact hj)
/-- The ten acts. -/
def tenC : List Ca := [⟨1, evAtC 3 1 0, 0⟩, ⟨1, evAtC 1 2 0, 0⟩, ⟨1, evAtC 3 1 1, 0⟩, ⟨1, evAtC 9 2 0, 0⟩, ⟨1, zeroE, 0⟩, ⟨2, zeroE, 0⟩, ⟨3, zeroE, 3⟩, ⟨4, evAtC 3 1 1, 0⟩, ⟨4, evAtC 0 2 0, 0⟩, ⟨5, zeroE, 0⟩]
theorem ten_ok : ∀ x ∈ tenC, (0 ≤ x.kind ∧ x.kind < 256) ∧ I64 x.x.name.1 ∧ I64 x.x.name.2 := by
 intro x hx
 unfold I64
 revert x hx
 decide
def capsI : List Int := [-9223372036854775808, -1, 0, 1, 2, 256, 257, 9223372036854775807]
def timesI : List Int := [-9223372036854775808, -1, 0, 1, 2, 3, 4, 9223372036854775807]
def untilI : List Int := [-9223372036854775808, 0, 2, 3, 9223372036854775807]
theorem times_64 : ∀ n ∈ timesI, I64 n := by unfold I64; decide
theorem until_64 : ∀ n ∈ untilI, I64 n := by unfold I64; decide
theorem ints_cell {w : World} {b j : Nat} {ty : TypeId} {L : List Int} {n : Int} (h : w.heap[b]? = some (.cells (L.map (Value.int .i64)).toArray ty (0, 0))) (hn : L[j]? = some n) : w.cell? ⟨b, j, none⟩ = some (.int .i64 n) := by
 rw [cells_in h]
 simp [hn]
/-- A slice of events by its value. -/
def SlI (W : World) (v : Value) (L : List Ev) : Prop := ∃ b, v = .slice (some ⟨b, 0, none⟩) L.length L.length ∧ EsIn W (some ⟨b, 0, none⟩) L
theorem SlI.later {W W' : World} {v : Value} {L : List Ev} (h : SlI W v L) (hf : Fr0 none' W W') : SlI W' v L := by
 obtain ⟨b, h1, h2⟩ := h
 exact ⟨b, h1, h2.later hf⟩
theorem SlI.made (W : World) (L : List Ev) : SlI (W.alloc (.cells (flatEv L).toArray 30)) (.slice (some ⟨W.heap.size, 0, none⟩) L.length L.length) L := ⟨_, rfl, EsIn.cells (World.alloc_heap_new _ _) rfl⟩
/-- A row of such slices. -/
def RowsI (W : World) (v : Value) (LL : List (List Ev)) : Prop := ∃ b, v = .slice (some ⟨b, 0, none⟩) LL.length LL.length ∧ ∀ j L, LL[j]? = some L → ∃ sa sn sc, W.cell? ⟨b, j, none⟩ = some (.slice sa sn sc) ∧ EsIn W sa L ∧ L.length = sn ∧ sn ≤ sc
theorem RowsI.later {W W' : World} {v : Value} {L : List (List Ev)} (h : RowsI W v L) (hf : Fr0 none' W W') : RowsI W' v L := by
 obtain ⟨b, h1, h2⟩ := h
 refine ⟨b, h1, fun j l hl => ?_⟩
 obtain ⟨sa, sn, sc, h3, h4, h5, h6⟩ := h2 j l hl
 exact ⟨sa, sn, sc, hf.later h3, h4.later hf, h5, h6⟩
/-- The nine calendars. -/
def nineC : List (List Ev) := [[], [evAtC 3 1 0], [evAtC 1 2 0, evAtC 3 1 0], [evAtC 3 1 0, evAtC 1 2 0], [evAtC 3 1 0, evAtC 3 1 0], [evAtC 1 2 0, evAtC 2 2 0], [evAtC (-1) 1 1], [⟨⟨3, 1, 0⟩, 0, 0⟩], [evAtC 1 2 0, evAtC 3 1 0, evAtC 3 1 1]]
theorem nine_len : ∀ L ∈ nineC, L.length ≤ 3 := by decide
/-- What each operation of the law's list gives. -/
def PhiC (N : Nat) : Nat → Value → World → Prop
 | 0, v, _ => v = evV (evAtC 3 1 0)
 | 1, v, W => SlI W v [evAtC 3 1 0]
 | 2, v, _ => v = evV (evAtC 1 2 0)
 | 3, v, _ => v = evV (evAtC 3 1 0)
 | 4, v, W => SlI W v [evAtC 1 2 0, evAtC 3 1 0]
 | 5, v, _ => v = evV (evAtC 3 1 0)
 | 6, v, _ => v = evV (evAtC 1 2 0)
 | 7, v, W => SlI W v [evAtC 3 1 0, evAtC 1 2 0]
 | 8, v, _ => v = evV (evAtC 3 1 0)
 | 9, v, _ => v = evV (evAtC 3 1 0)
 | 10, v, W => SlI W v [evAtC 3 1 0, evAtC 3 1 0]
 | 11, v, _ => v = evV (evAtC 1 2 0)
 | 12, v, _ => v = evV (evAtC 2 2 0)
 | 13, v, W => SlI W v [evAtC 1 2 0, evAtC 2 2 0]
 | 14, v, _ => v = evV (evAtC (-1) 1 1)
 | 15, v, W => SlI W v [evAtC (-1) 1 1]
 | 16, v, _ => v = .pointer (some ⟨N, 0, none⟩)
 | 17, v, _ => v = .agg #[.int .i64 3, .int .i64 1, .int .i64 0]
 | 18, v, _ => v = evV (⟨⟨3, 1, 0⟩, 0, 0⟩)
 | 19, v, W => SlI W v [⟨⟨3, 1, 0⟩, 0, 0⟩]
 | 20, v, _ => v = evV (evAtC 1 2 0)
 | 21, v, _ => v = evV (evAtC 3 1 0)
 | 22, v, _ => v = evV (evAtC 3 1 1)
 | 23, v, W => SlI W v [evAtC 1 2 0, evAtC 3 1 0, evAtC 3 1 1]
 | 24, v, W => RowsI W v nineC
 | 25, v, _ => v = .int .i64 9
 | 26, v, _ => v = .int .i64 0
 | _, _, _ => True
theorem PhiC.later {N j : Nat} {v : Value} {W W' : World} (hf : Fr0 none' W W') (h : PhiC N j v W) : PhiC N j v W' := by
 unfold PhiC at h ⊢
 split at h <;> first | exact h | exact SlI.later h hf | exact RowsI.later h hf | trivial
set_option maxHeartbeats 4000000 in
theorem CalendarSmall_any (w : World) : Calls Tryz.prog 4 #[] w fun e w' => e = .returned (.bool true) ∧ Fr0 none' w w' := by
 have HA := Lib.hid (fun a b c W => cat_any a b c W)
 unfold evV at HA
 simp only at HA
 go_enter Tryz.func4, Tryz.ntmps4
 go_wp2_with fail
 refine (HA.out _ _ _ _).mono ?_
 rintro e w1 ⟨rfl, hf1⟩
 go_wp2_with fail
 refine (HA.out _ _ _ _).mono ?_
 rintro e w2 ⟨rfl, hf2⟩
 go_wp2_with fail
 refine (HA.out _ _ _ _).mono ?_
 rintro e w3 ⟨rfl, hf3⟩
 have F3 := Lib.hid ((hf1.trans hf2).trans hf3)
 clear hf1 hf2 hf3
 go_wp2_with fail
 obtain ⟨N, hN⟩ : ∃ N, w3.heap.size = N := ⟨_, rfl⟩
 rw [hN]
 have zw3 := hN
 obtain ⟨V1, hV1⟩ : ∃ W, w3.alloc (.cells #[.int .i64 3, .int .i64 1, .int .i64 0, .int .i64 1, .int .i64 0] 30) = W := ⟨_, rfl⟩
 have fV1 : Fr0 none' w3 V1 := by rw [← hV1]; exact (Fr0.refl _ _).alloc _
 have bV1 : V1.heap[N]? = some (.cells #[.int .i64 3, .int .i64 1, .int .i64 0, .int .i64 1, .int .i64 0] 30 (0, 0)) := by rw [← hV1, ← zw3]; exact World.alloc_heap_new _ _
 have zV1 : V1.heap.size = N + 1 := by rw [← hV1, World.size_alloc, zw3]
 rw [hV1]
 obtain ⟨V2, hV2⟩ : ∃ W, V1.alloc (.cells #[.int .i64 1, .int .i64 2, .int .i64 0, .int .i64 1, .int .i64 0] 30) = W := ⟨_, rfl⟩
 have fV2 : Fr0 none' V1 V2 := by rw [← hV2]; exact (Fr0.refl _ _).alloc _
 have bV2 : V2.heap[N + 1]? = some (.cells #[.int .i64 1, .int .i64 2, .int .i64 0, .int .i64 1, .int .i64 0] 30 (0, 0)) := by rw [← hV2, ← zV1]; exact World.alloc_heap_new _ _
 have zV2 : V2.heap.size = N + 1 + 1 := by rw [← hV2, World.size_alloc, zV1]
 rw [hV2]
 obtain ⟨V3, hV3⟩ : ∃ W, V2.alloc (.cells #[.int .i64 3, .int .i64 1, .int .i64 1, .int .i64 1, .int .i64 0] 30) = W := ⟨_, rfl⟩
 have fV3 : Fr0 none' V2 V3 := by rw [← hV3]; exact (Fr0.refl _ _).alloc _
 have bV3 : V3.heap[N + 1 + 1]? = some (.cells #[.int .i64 3, .int .i64 1, .int .i64 1, .int .i64 1, .int .i64 0] 30 (0, 0)) := by rw [← hV3, ← zV2]; exact World.alloc_heap_new _ _
 rw [hV3]
 have HB1 := Lib.hid ((fV2.trans fV3).block N (by omega) id |>.trans bV1)
 have HB2 := Lib.hid (fV3.block (N + 1) (by omega) id |>.trans bV2)
 have HB3 := Lib.hid bV3
 have F3 := Lib.hid (F3.out.trans ((fV1.trans fV2).trans fV3))
 clear hV1 hV2 hV3 fV1 fV2 fV3 bV1 bV2 bV3 zV1 zV2 zw3 hN
 refine wp_region_held_drew (S := fun W' => Fr0 none' V3 W') (by kernel_rfl) ((Fr0.refl none' V3).drew) (fun hHeld => ?_)
 refine tkn (i := 0) (v := .agg #[.int .i64 3, .int .i64 1, .int .i64 0, .int .i64 1, .int .i64 0]) (fun W' hSW => ?_) ?_
 ·have hb := (hSW.block _ (Array.getElem?_eq_some_iff.1 HB1.out).1 id).trans HB1.out
  have a0 := cells_in hb 0
  have a1 := cells_in hb 1
  have a2 := cells_in hb 2
  have a3 := cells_in hb 3
  have a4 := cells_in hb 4
  simp at a0 a1 a2 a3 a4
  clear hb
  first|go_simp;done|exact rfl|go_simp;rfl|go_simp;omega
 try simp only[pUt,pUn,sEt,sEz,sEs]
 refine tk0 (i := 1) (v := .agg #[.int .u8 1, .int .i64 3, .int .i64 1, .int .i64 0, .int .i64 1, .int .i64 0, .int .i64 0]) ?_
 try simp only[pUt,pUn,sEt,sEz,sEs]
 refine tkn (i := 2) (v := .agg #[.int .i64 1, .int .i64 2, .int .i64 0, .int .i64 1, .int .i64 0]) (fun W' hSW => ?_) ?_
 ·have hb := (hSW.block _ (Array.getElem?_eq_some_iff.1 HB2.out).1 id).trans HB2.out
  have a0 := cells_in hb 0
  have a1 := cells_in hb 1
  have a2 := cells_in hb 2
  have a3 := cells_in hb 3
  have a4 := cells_in hb 4
  simp at a0 a1 a2 a3 a4
  clear hb
  first|go_simp;done|exact rfl|go_simp;rfl|go_simp;omega
 try simp only[pUt,pUn,sEt,sEz,sEs]
 refine tk0 (i := 3) (v := .agg #[.int .u8 1, .int .i64 1, .int .i64 2, .int .i64 0, .int .i64 1, .int .i64 0, .int .i64 0]) ?_
 try simp only[pUt,pUn,sEt,sEz,sEs]
 refine tkn (i := 4) (v := .agg #[.int .i64 3, .int .i64 1, .int .i64 1, .int .i64 1, .int .i64 0]) (fun W' hSW => ?_) ?_
 ·have hb := (hSW.block _ (Array.getElem?_eq_some_iff.1 HB3.out).1 id).trans HB3.out
  have a0 := cells_in hb 0
  have a1 := cells_in hb 1
  have a2 := cells_in hb 2
  have a3 := cells_in hb 3
  have a4 := cells_in hb 4
  simp at a0 a1 a2 a3 a4
  clear hb
  first|go_simp;done|exact rfl|go_simp;rfl|go_simp;omega
 try simp only[pUt,pUn,sEt,sEz,sEs]
 refine tk0 (i := 5) (v := .agg #[.int .u8 1, .int .i64 3, .int .i64 1, .int .i64 1, .int .i64 1, .int .i64 0, .int .i64 0]) ?_
 try simp only[pUt,pUn,sEt,sEz,sEs]
 refine tk0 (i := 8) (v := .agg #[.int .u8 1, .int .i64 0, .int .i64 0, .int .i64 0, .int .i64 0, .int .i64 0, .int .i64 0]) ?_
 try simp only[pUt,pUn,sEt,sEz,sEs]
 refine tk0 (i := 9) (v := .agg #[.int .u8 2, .int .i64 0, .int .i64 0, .int .i64 0, .int .i64 0, .int .i64 0, .int .i64 0]) ?_
 try simp only[pUt,pUn,sEt,sEz,sEs]
 refine tk0 (i := 10) (v := .agg #[.int .u8 3, .int .i64 0, .int .i64 0, .int .i64 0, .int .i64 0, .int .i64 0, .int .i64 3]) ?_
 try simp only[pUt,pUn,sEt,sEz,sEs]
 refine tkn (i := 11) (v := .agg #[.int .i64 3, .int .i64 1, .int .i64 1, .int .i64 1, .int .i64 0]) (fun W' hSW => ?_) ?_
 ·have hb := (hSW.block _ (Array.getElem?_eq_some_iff.1 HB3.out).1 id).trans HB3.out
  have a0 := cells_in hb 0
  have a1 := cells_in hb 1
  have a2 := cells_in hb 2
  have a3 := cells_in hb 3
  have a4 := cells_in hb 4
  simp at a0 a1 a2 a3 a4
  clear hb
  first|go_simp;done|exact rfl|go_simp;rfl|go_simp;omega
 try simp only[pUt,pUn,sEt,sEz,sEs]
 refine tk0 (i := 12) (v := .agg #[.int .u8 4, .int .i64 3, .int .i64 1, .int .i64 1, .int .i64 1, .int .i64 0, .int .i64 0]) ?_
 try simp only[pUt,pUn,sEt,sEz,sEs]
 refine tk0 (i := 15) (v := .agg #[.int .u8 5, .int .i64 0, .int .i64 0, .int .i64 0, .int .i64 0, .int .i64 0, .int .i64 0]) ?_
 try simp only[pUt,pUn,sEt,sEz,sEs]
 refine take_call (i := 6) rfl (by kernel_rfl) (by kernel_rfl) (fun K hK => ?_)
 go_simp
 refine (HA.out 9 2 0 _).mono ?_
 rintro e wA ⟨rfl, hfA⟩
 have FA := Lib.hid (hHeld.trans hfA)
 clear hfA
 go_wp2_with fail
 refine hK.out _ _ FA.out (fun hHeld => ?_)
 clear hK K
 try simp only[pUt,pUn,sEt,sEz,sEs]
 refine tk0 (i := 7) (v := .agg #[.int .u8 1, .int .i64 9, .int .i64 2, .int .i64 0, .int .i64 1, .int .i64 0, .int .i64 0]) ?_
 try simp only[pUt,pUn,sEt,sEz,sEs]
 refine take_call (i := 13) rfl (by kernel_rfl) (by kernel_rfl) (fun K hK => ?_)
 go_simp
 refine (HA.out 0 2 0 _).mono ?_
 rintro e wA ⟨rfl, hfA⟩
 have FA := Lib.hid (hHeld.trans hfA)
 clear hfA
 go_wp2_with fail
 refine hK.out _ _ FA.out (fun hHeld => ?_)
 clear hK K
 try simp only[pUt,pUn,sEt,sEz,sEs]
 refine tk0 (i := 14) (v := .agg #[.int .u8 4, .int .i64 0, .int .i64 2, .int .i64 0, .int .i64 1, .int .i64 0, .int .i64 0]) ?_
 try simp only[pUt,pUn,sEt,sEz,sEs]
 refine take_call (i := 16) rfl (by kernel_rfl) (by kernel_rfl) (fun K hK => ?_)
 go_simp
 have hz8 := World.alloc_heap_new wA (.cells (flatCa tenC).toArray 33)
 have hf8 : Fr0 none' wA (wA.alloc (.cells (flatCa tenC).toArray 33)) := (Fr0.refl _ _).alloc _
 obtain ⟨W8, hW8⟩ : ∃ W, wA.alloc (.cells (flatCa tenC).toArray 33) = W := ⟨_, rfl⟩
 rw [hW8] at hz8 hf8
 refine (congrArg (K _) hW8).mpr ?_
 obtain ⟨TB, hTB⟩ : ∃ b, wA.heap.size = b := ⟨_, rfl⟩
 rw [hTB] at hz8 ⊢
 have HT := Lib.hid (show CasIn W8 (some ⟨TB, 0, none⟩) tenC from CasIn.cells hz8 rfl)
 have F8 := Lib.hid (hHeld.trans hf8)
 clear hW8 hz8 hf8 hTB
 refine hK.out _ _ F8.out (fun hHeld => ?_)
 clear hK K
 try simp only[pUt,pUn,sEt,sEz,sEs]
 refine tk0 (i := 17) (v := .slice (some ⟨TB, 0, none⟩) 10 10) ?_
 try simp only[pUt,pUn,sEt,sEz,sEs]
 refine wpAnyH_done (by kernel_rfl) ?_ _
 have FW := Lib.hid (F3.out.trans F8.out)
 have HB1 := Lib.hid ((F8.out.block _ (Array.getElem?_eq_some_iff.1 HB1.out).1 id).trans HB1.out)
 have HB2 := Lib.hid ((F8.out.block _ (Array.getElem?_eq_some_iff.1 HB2.out).1 id).trans HB2.out)
 have HB3 := Lib.hid ((F8.out.block _ (Array.getElem?_eq_some_iff.1 HB3.out).1 id).trans HB3.out)
 clear hHeld F8 F3
 go_wp2_with fail
 go_loopw [5, 6, 40] (fun _ _ i wr => ∃ k : Nat, k ≤ 10000 ∧ i = .int .i64 k ∧ Hid (Fr0 none' W8 wr)) (fun _ _ i _ => 10000 - (Go.RowKit.intOf i).toNat)
 case atStart => exact ⟨0, Nat.zero_le _, rfl, Fr0.refl _ _⟩
 case round =>
  obtain ⟨k, hk, rfl, hb⟩ := hrel
  by_cases hlt : k < 10000
  ·skip
   -- DEV<
   have k1 : (k : Int) < 10000 := by omega
   obtain ⟨i1, hi1⟩ : ∃ i, k % 10 = i := ⟨_, rfl⟩
   obtain ⟨j2, hj2⟩ : ∃ i, k / 10 = i := ⟨_, rfl⟩
   obtain ⟨i2, hi2⟩ : ∃ i, j2 % 10 = i := ⟨_, rfl⟩
   obtain ⟨j3, hj3⟩ : ∃ i, k / 100 = i := ⟨_, rfl⟩
   obtain ⟨i3, hi3⟩ : ∃ i, j3 % 10 = i := ⟨_, rfl⟩
   obtain ⟨i4, hi4⟩ : ∃ i, k / 1000 = i := ⟨_, rfl⟩
   obtain ⟨r3, hr3⟩ : ∃ i, k % 3 = i := ⟨_, rfl⟩
   obtain ⟨r4, hr4⟩ : ∃ i, k % 4 = i := ⟨_, rfl⟩
   have t1 : (k : Int).tmod 10 = (i1 : Int) := by rw [Int.tmod_eq_emod_of_nonneg (by omega)]; omega
   have d2 : (k : Int).tdiv 10 = (j2 : Int) := by rw [Int.tdiv_eq_ediv_of_nonneg (by omega)]; omega
   have t2 : (j2 : Int).tmod 10 = (i2 : Int) := by rw [Int.tmod_eq_emod_of_nonneg (by omega)]; omega
   have d3 : (k : Int).tdiv 100 = (j3 : Int) := by rw [Int.tdiv_eq_ediv_of_nonneg (by omega)]; omega
   have t3 : (j3 : Int).tmod 10 = (i3 : Int) := by rw [Int.tmod_eq_emod_of_nonneg (by omega)]; omega
   have d4 : (k : Int).tdiv 1000 = (i4 : Int) := by rw [Int.tdiv_eq_ediv_of_nonneg (by omega)]; omega
   have t5 : (k : Int).tmod 3 = (r3 : Int) := by rw [Int.tmod_eq_emod_of_nonneg (by omega)]; omega
   have t4 : (k : Int).tmod 4 = (r4 : Int) := by rw [Int.tmod_eq_emod_of_nonneg (by omega)]; omega
   have n1 : i1 < 10 := by omega
   have n2 : i2 < 10 := by omega
   have n3 : i3 < 10 := by omega
   have n4 : i4 < 10 := by omega
   have m1 : (i1 : Int) < 10 := by omega
   have m2 : (i2 : Int) < 10 := by omega
   have m3 : (i3 : Int) < 10 := by omega
   have m4 : (i4 : Int) < 10 := by omega
   have wj2 : IntKind.i64.wrap (j2 : Int) = (j2 : Int) := IntWalk.i64_in _ (by omega)
   have wj3 : IntKind.i64.wrap (j3 : Int) = (j3 : Int) := IntWalk.i64_in _ (by omega)
   have wj4 : IntKind.i64.wrap (i4 : Int) = (i4 : Int) := IntWalk.i64_in _ (by omega)
   have Hr3 := Lib.hid (show r3 < 3 by omega)
   have Hr4 := Lib.hid (show r4 < 4 by omega)
   clear hi1 hj2 hi2 hj3 hi3 hi4 hr3 hr4
   obtain ⟨xa, ha, ina⟩ := HT.out.nth (n := 10) rfl n1
   obtain ⟨xb, hb', inb⟩ := HT.out.nth (n := 10) rfl n2
   obtain ⟨xc, hc, inc⟩ := HT.out.nth (n := 10) rfl n3
   obtain ⟨xd, hd, ind⟩ := HT.out.nth (n := 10) rfl n4
   have HM := Lib.hid (show xa ∈ tenC ∧ xb ∈ tenC ∧ xc ∈ tenC ∧ xd ∈ tenC from ⟨List.mem_of_getElem? ha, List.mem_of_getElem? hb', List.mem_of_getElem? hc, List.mem_of_getElem? hd⟩)
   have HIa := Lib.hid (ina.later hb.out)
   have HIb := Lib.hid (inb.later hb.out)
   have HIc := Lib.hid (inc.later hb.out)
   have HId := Lib.hid (ind.later hb.out)
   clear ina inb inc ind ha hb' hc hd
   have HC1 := Lib.hid ((hb.out.block _ (Array.getElem?_eq_some_iff.1 HB1.out).1 id).trans HB1.out)
   have HC2 := Lib.hid ((hb.out.block _ (Array.getElem?_eq_some_iff.1 HB2.out).1 id).trans HB2.out)
   go_wp2_with fail
   refine wp_region_held_drew (S := fun W' => Fr0 none' wr W') (by kernel_rfl) ((Fr0.refl none' wr).drew) (fun hHeld => ?_)
   refine tk0 (i := 0) (v := .slice (some ⟨TB, 0, none⟩) 10 10) ?_
   try simp only[pUt,pUn,sEt,sEz,sEs]
   refine tk0 (i := 1) (v := .int .i64 (k : Int)) ?_
   try simp only[pUt,pUn,sEt,sEz,sEs]
   refine tk0 (i := 2) (v := .int .i64 (i1 : Int)) ?_
   try simp only[pUt,pUn,sEt,sEz,sEs]
   refine tk0 (i := 3) (v := .pointer (some ⟨TB, i1 * 7, none⟩)) ?_
   try simp only[pUt,pUn,sEt,sEz,sEs]
   refine tkn (i := 4) (v := actCV xa) (fun W' hSW => ?_) ?_
   ·obtain ⟨a0, a1, a2, a3, a4, a5, a6⟩ := HIa.out.later hSW
    unfold actCV
    first|go_simp;done|exact rfl|go_simp;rfl|go_simp;omega
   try simp only[pUt,pUn,sEt,sEz,sEs]
   refine tk0 (i := 5) (v := .slice (some ⟨TB, 0, none⟩) 10 10) ?_
   try simp only[pUt,pUn,sEt,sEz,sEs]
   refine tk0 (i := 6) (v := .int .i64 (k : Int)) ?_
   try simp only[pUt,pUn,sEt,sEz,sEs]
   refine tk0 (i := 7) (v := .int .i64 (j2 : Int)) ?_
   try simp only[pUt,pUn,sEt,sEz,sEs]
   refine tk0 (i := 8) (v := .int .i64 (i2 : Int)) ?_
   try simp only[pUt,pUn,sEt,sEz,sEs]
   refine tk0 (i := 9) (v := .pointer (some ⟨TB, i2 * 7, none⟩)) ?_
   try simp only[pUt,pUn,sEt,sEz,sEs]
   refine tkn (i := 10) (v := actCV xb) (fun W' hSW => ?_) ?_
   ·obtain ⟨a0, a1, a2, a3, a4, a5, a6⟩ := HIb.out.later hSW
    unfold actCV
    first|go_simp;done|exact rfl|go_simp;rfl|go_simp;omega
   try simp only[pUt,pUn,sEt,sEz,sEs]
   refine tk0 (i := 11) (v := .slice (some ⟨TB, 0, none⟩) 10 10) ?_
   try simp only[pUt,pUn,sEt,sEz,sEs]
   refine tk0 (i := 12) (v := .int .i64 (k : Int)) ?_
   try simp only[pUt,pUn,sEt,sEz,sEs]
   refine tk0 (i := 13) (v := .int .i64 (j3 : Int)) ?_
   try simp only[pUt,pUn,sEt,sEz,sEs]
   refine tk0 (i := 14) (v := .int .i64 (i3 : Int)) ?_
   try simp only[pUt,pUn,sEt,sEz,sEs]
   refine tk0 (i := 15) (v := .pointer (some ⟨TB, i3 * 7, none⟩)) ?_
   try simp only[pUt,pUn,sEt,sEz,sEs]
   refine tkn (i := 16) (v := actCV xc) (fun W' hSW => ?_) ?_
   ·obtain ⟨a0, a1, a2, a3, a4, a5, a6⟩ := HIc.out.later hSW
    unfold actCV
    first|go_simp;done|exact rfl|go_simp;rfl|go_simp;omega
   try simp only[pUt,pUn,sEt,sEz,sEs]
   refine tk0 (i := 17) (v := .slice (some ⟨TB, 0, none⟩) 10 10) ?_
   try simp only[pUt,pUn,sEt,sEz,sEs]
   refine tk0 (i := 18) (v := .int .i64 (k : Int)) ?_
   try simp only[pUt,pUn,sEt,sEz,sEs]
   refine tk0 (i := 19) (v := .int .i64 (i4 : Int)) ?_
   try simp only[pUt,pUn,sEt,sEz,sEs]
   refine tk0 (i := 20) (v := .pointer (some ⟨TB, i4 * 7, none⟩)) ?_
   try simp only[pUt,pUn,sEt,sEz,sEs]
   refine tkn (i := 21) (v := actCV xd) (fun W' hSW => ?_) ?_
   ·obtain ⟨a0, a1, a2, a3, a4, a5, a6⟩ := HId.out.later hSW
    unfold actCV
    first|go_simp;done|exact rfl|go_simp;rfl|go_simp;omega
   try simp only[pUt,pUn,sEt,sEz,sEs]
   unfold actCV
   refine take_call (i := 22) rfl (by kernel_rfl) (by kernel_rfl) (fun K hK => ?_)
   go_simp
   have hz8 := World.alloc_heap_new wr.drew (.cells (flatCa [xa, xb, xc, xd]).toArray 33)
   have hf8 : Fr0 none' wr (wr.drew.alloc (.cells (flatCa [xa, xb, xc, xd]).toArray 33)) := (Fr0.refl none' wr).drew.alloc _
   obtain ⟨W9, hW9⟩ : ∃ W, wr.drew.alloc (.cells (flatCa [xa, xb, xc, xd]).toArray 33) = W := ⟨_, rfl⟩
   rw [hW9] at hz8 hf8
   refine (congrArg (K _) hW9).mpr ?_
   obtain ⟨LB, hLB⟩ : ∃ b, wr.drew.heap.size = b := ⟨_, rfl⟩
   rw [hLB] at hz8
   have hLB : wr.heap.size = LB := hLB
   rw [hLB]
   have HL := Lib.hid (show CasIn W9 (some ⟨LB, 0, none⟩) [xa, xb, xc, xd] from CasIn.cells hz8 rfl)
   have F9 := Lib.hid hf8
   clear hW9 hz8 hf8 hLB
   refine hK.out _ _ F9.out (fun hHeld => ?_)
   clear hK K
   try simp only[pUt,pUn,sEt,sEz,sEs]
   refine tk0 (i := 23) (v := .slice (some ⟨LB, 0, none⟩) 4 4) ?_
   try simp only[pUt,pUn,sEt,sEz,sEs]
   refine wpAnyH_done (by kernel_rfl) ?_ _
   have HD1 := Lib.hid ((F9.out.block _ (Array.getElem?_eq_some_iff.1 HC1.out).1 id).trans HC1.out)
   have HD2 := Lib.hid ((F9.out.block _ (Array.getElem?_eq_some_iff.1 HC2.out).1 id).trans HC2.out)
   have FR := Lib.hid (hb.out.trans F9.out)
   clear hHeld HIa HIb HIc HId t1 t2 t3 d2 d3 d4 wj2 wj3 wj4 m1 m2 m3 m4 n1 n2 n3 n4 F9 HC1 HC2 hb
   have a0 := cells_in HD1.out 0
   have a1 := cells_in HD1.out 1
   have a2 := cells_in HD1.out 2
   have a3 := cells_in HD1.out 3
   have a4 := cells_in HD1.out 4
   have b0 := cells_in HD2.out 0
   have b1 := cells_in HD2.out 1
   have b2 := cells_in HD2.out 2
   have b3 := cells_in HD2.out 3
   have b4 := cells_in HD2.out 4
   simp at a0 a1 a2 a3 a4 b0 b1 b2 b3 b4
   have z1 : (0 : Int) ≤ (r3 : Int) := by omega
   have z2 : (r3 : Int) ≤ 2 := by have := Hr3.out; omega
   obtain ⟨h3, hh3⟩ : ∃ h : Int, (r3 : Int).tdiv 2 = h := ⟨_, rfl⟩
   have hh : 0 ≤ h3 ∧ h3 ≤ 1 := by rw [← hh3, Int.tdiv_eq_ediv_of_nonneg (by omega)]; have := Hr3.out; omega
   obtain ⟨c3, hc3⟩ : ∃ c : Int, 3 - (r4 : Int) + h3 = c := ⟨_, rfl⟩
   have w1 : IntKind.i64.wrap (3 - (r4 : Int)) = 3 - (r4 : Int) := IntWalk.i64_in _ (by have := Hr4.out; omega)
   have w2 : IntKind.i64.wrap h3 = h3 := IntWalk.i64_in _ (by omega)
   have w3 : IntKind.i64.wrap (3 - (r4 : Int) + h3) = c3 := by rw [IntWalk.i64_in _ (by have := Hr4.out; omega)]; exact hc3
   have Hc3 := Lib.hid hc3
   clear hc3
   go_wp2_with fail
   have HK := Lib.hid (show ∀ x ∈ [xa, xb, xc, xd], (0 ≤ x.kind ∧ x.kind < 256) ∧ I64 x.x.name.1 ∧ I64 x.x.name.2 from fun x hx => ten_ok x (by
    have := HM.out
    simp only [List.mem_cons, List.not_mem_nil, or_false] at hx
    rcases hx with rfl | rfl | rfl | rfl
    ·exact this.1
    ·exact this.2.1
    ·exact this.2.2.1
    ·exact this.2.2.2))
   obtain ⟨G, hG⟩ : ∃ b, W9.heap.size = b := ⟨_, rfl⟩
   obtain ⟨W10, hW10⟩ : ∃ V, W9.alloc (.cells #[.int .i64 1, .int .i64 2, .int .i64 0, .int .i64 1, .int .i64 0, .int .i64 3, .int .i64 1, .int .i64 0, .int .i64 1, .int .i64 0] 30) = V := ⟨_, rfl⟩
   have f10 : Fr0 none' W9 W10 := by rw [← hW10]; exact (Fr0.refl _ _).alloc _
   have b10 : W10.heap[G]? = some (.cells (flatEv [evAtC 1 2 0, evAtC 3 1 0]).toArray 30 (0, 0)) := by rw [← hW10, ← hG]; exact World.alloc_heap_new _ _
   rw [hW10]
   try rw [hG]
   have hE := (EsIn.cells (L := [evAtC 1 2 0, evAtC 3 1 0]) b10 rfl).firstN r3
   have hT := tells12_any (n := r3) (cap := 2) (m := 4) (ca := 4) (c := c3) _ [xa, xb, xc, xd] hE (by rw [List.length_take]; have := Hr3.out; simp only [List.length_cons, List.length_nil]; omega) (by omega) (by have := Hr3.out; omega) (HL.out.later f10) rfl (by omega) (by omega) (fun x hx => (HK.out x hx).1)
   refine hT.mono ?_
   clear hT hE hW10 hG b10 a0 a1 a2 a3 a4 b0 b1 b2 b3 b4 hh3
   rintro e w11 ⟨rfl, hf⟩
   have F11 := Lib.hid (f10.trans hf)
   clear hf f10 w1 w2 w3
   by_cases h31 : r3 = 1
   ·have q5 : ((r3 : Int) == 1) = true := by rw [h31]; rfl
    have HE1 := Lib.hid ((F11.out.block _ (Array.getElem?_eq_some_iff.1 HD1.out).1 id).trans HD1.out)
    have HE2 := Lib.hid ((F11.out.block _ (Array.getElem?_eq_some_iff.1 HD2.out).1 id).trans HD2.out)
    have a0 := cells_in HE1.out 0
    have a1 := cells_in HE1.out 1
    have a2 := cells_in HE1.out 2
    have a3 := cells_in HE1.out 3
    have a4 := cells_in HE1.out 4
    have b0 := cells_in HE2.out 0
    have b1 := cells_in HE2.out 1
    have b2 := cells_in HE2.out 2
    have b3 := cells_in HE2.out 3
    have b4 := cells_in HE2.out 4
    simp at a0 a1 a2 a3 a4 b0 b1 b2 b3 b4
    have z3 : (0 : Int) ≤ (r4 : Int) := by omega
    have z4 : (r4 : Int) ≤ 3 := by have := Hr4.out; omega
    clear h31
    go_wp2_with fail
    obtain ⟨G, hG⟩ : ∃ b, w11.heap.size = b := ⟨_, rfl⟩
    obtain ⟨W12, hW12⟩ : ∃ V, w11.alloc (.cells #[.int .i64 3, .int .i64 1, .int .i64 0, .int .i64 1, .int .i64 0, .int .i64 1, .int .i64 2, .int .i64 0, .int .i64 1, .int .i64 0, .int .i64 3, .int .i64 1, .int .i64 0, .int .i64 1, .int .i64 0] 30) = V := ⟨_, rfl⟩
    have f12 : Fr0 none' w11 W12 := by rw [← hW12]; exact (Fr0.refl _ _).alloc _
    have b12 : W12.heap[G]? = some (.cells (flatEv [evAtC 3 1 0, evAtC 1 2 0, evAtC 3 1 0]).toArray 30 (0, 0)) := by rw [← hW12, ← hG]; exact World.alloc_heap_new _ _
    rw [hW12]
    try rw [hG]
    have hE := (EsIn.cells (L := [evAtC 3 1 0, evAtC 1 2 0, evAtC 3 1 0]) b12 rfl).firstN r4
    have hT := plays_any (n := r4) (m := r4) (cap := 3) (M := 4) (ca := 4) _ [xa, xb, xc, xd] hE (by rw [List.length_take]; have := Hr4.out; simp only [List.length_cons, List.length_nil]; omega) (by omega) (by omega) (HL.out.later (F11.out.trans f12)) rfl (by omega) HK.out
    have FE := Lib.hid ((FR.out.trans F11.out).trans f12)
    refine hT.mono ?_
    clear hT hE hW12 hG b12 a0 a1 a2 a3 a4 b0 b1 b2 b3 b4 f12
    rintro e w13 ⟨rfl, hf⟩
    have FE := Lib.hid (FE.out.trans hf)
    clear hf
    go_wp2_with fail
    go_roundw
    case rel => exact ⟨k + 1, by omega, by go_num, FE⟩
    case measure => simp [Go.RowKit.intOf]; omega
   ·have q5 : ((r3 : Int) == 1) = false := by simp only [beq_eq_false_iff_ne, ne_eq]; omega
    have FE := Lib.hid (FR.out.trans F11.out)
    clear h31
    go_wp2_with fail
    go_roundw
    case rel => exact ⟨k + 1, by omega, by go_num, FE⟩
    case measure => simp [Go.RowKit.intOf]; omega
   -- >DEV
  ·have d1 : decide ((k : Int) < 10000) = false := decide_eq_false (by omega)
   have d2 : decide (k < 10000) = false := decide_eq_false hlt
   have FR := Lib.hid (FW.out.trans hb.out)
   have HB1 := Lib.hid ((hb.out.block _ (Array.getElem?_eq_some_iff.1 HB1.out).1 id).trans HB1.out)
   have HB2 := Lib.hid ((hb.out.block _ (Array.getElem?_eq_some_iff.1 HB2.out).1 id).trans HB2.out)
   have HB3 := Lib.hid ((hb.out.block _ (Array.getElem?_eq_some_iff.1 HB3.out).1 id).trans HB3.out)
   clear HT hb FW hk hlt
   go_wp2_with fail
   clear d1 d2
   refine wp_region_anyG [102, 103, 104, 105, 106, 107, 108, 109, 110, 111, 112, 113, 114, 115, 116, 117, 118, 119, 120, 121, 122, 123, 124, 125, 126, 127, 128] (by kernel_rfl) (by kernel_rfl) (by kernel_rfl) (PhiC N) (fun j v w w' hf h => PhiC.later hf h) (fun i oi hi b us W hg ho hF hdeps K hK => ?_) (fun us W hF hΦ => ?_)
   ·skip
    -- DEV<
    have HC1 := Lib.hid ((hF.block _ (Array.getElem?_eq_some_iff.1 HB1.out).1 id).trans HB1.out)
    have HC2 := Lib.hid ((hF.block _ (Array.getElem?_eq_some_iff.1 HB2.out).1 id).trans HB2.out)
    have HC3 := Lib.hid ((hF.block _ (Array.getElem?_eq_some_iff.1 HB3.out).1 id).trans HB3.out)
    have o1 : (b.tmps[1]?).getD undef = .pointer (some ⟨N, 0, none⟩) := (ho 1 (by decide)).trans rfl
    have o2 : (b.tmps[2]?).getD undef = .pointer (some ⟨N + 1, 0, none⟩) := (ho 2 (by decide)).trans rfl
    have o3 : (b.tmps[3]?).getD undef = .pointer (some ⟨N + 1 + 1, 0, none⟩) := (ho 3 (by decide)).trans rfl
    rcases i with _ | _ | _ | _ | _ | _ | _ | _ | _ | _ | _ | _ | _ | _ | _ | _ | _ | _ | _ | _ | _ | _ | _ | _ | _ | _ | _ | i
    ·obtain rfl := Option.some.inj hi
     have a0 := cells_in HC1.out 0
     have a1 := cells_in HC1.out 1
     have a2 := cells_in HC1.out 2
     have a3 := cells_in HC1.out 3
     have a4 := cells_in HC1.out 4
     simp at a0 a1 a2 a3 a4
     go_simp
     exact hK.out _ _ (Fr0.refl _ _) rfl
    ·obtain rfl := Option.some.inj hi
     have h0 : PhiC N 0 (us 0) W := hdeps ⟨0, .data⟩ (by simp) rfl
     have e0 : us 0 = _ := h0
     have e0 := (hg 0 102 rfl).trans e0
     (try simp only [evV, evAtC] at *)
     go_simp
     exact hK.out _ _ ((Fr0.refl _ _).alloc _) (SlI.made W [evAtC 3 1 0])
    ·obtain rfl := Option.some.inj hi
     have a0 := cells_in HC2.out 0
     have a1 := cells_in HC2.out 1
     have a2 := cells_in HC2.out 2
     have a3 := cells_in HC2.out 3
     have a4 := cells_in HC2.out 4
     simp at a0 a1 a2 a3 a4
     go_simp
     exact hK.out _ _ (Fr0.refl _ _) rfl
    ·obtain rfl := Option.some.inj hi
     have a0 := cells_in HC1.out 0
     have a1 := cells_in HC1.out 1
     have a2 := cells_in HC1.out 2
     have a3 := cells_in HC1.out 3
     have a4 := cells_in HC1.out 4
     simp at a0 a1 a2 a3 a4
     go_simp
     exact hK.out _ _ (Fr0.refl _ _) rfl
    ·obtain rfl := Option.some.inj hi
     have h2 : PhiC N 2 (us 2) W := hdeps ⟨2, .data⟩ (by simp) rfl
     have h3 : PhiC N 3 (us 3) W := hdeps ⟨3, .data⟩ (by simp) rfl
     have e2 : us 2 = _ := h2
     have e2 := (hg 2 104 rfl).trans e2
     have e3 : us 3 = _ := h3
     have e3 := (hg 3 105 rfl).trans e3
     (try simp only [evV, evAtC] at *)
     go_simp
     exact hK.out _ _ ((Fr0.refl _ _).alloc _) (SlI.made W [evAtC 1 2 0, evAtC 3 1 0])
    ·obtain rfl := Option.some.inj hi
     have a0 := cells_in HC1.out 0
     have a1 := cells_in HC1.out 1
     have a2 := cells_in HC1.out 2
     have a3 := cells_in HC1.out 3
     have a4 := cells_in HC1.out 4
     simp at a0 a1 a2 a3 a4
     go_simp
     exact hK.out _ _ (Fr0.refl _ _) rfl
    ·obtain rfl := Option.some.inj hi
     have a0 := cells_in HC2.out 0
     have a1 := cells_in HC2.out 1
     have a2 := cells_in HC2.out 2
     have a3 := cells_in HC2.out 3
     have a4 := cells_in HC2.out 4
     simp at a0 a1 a2 a3 a4
     go_simp
     exact hK.out _ _ (Fr0.refl _ _) rfl
    ·obtain rfl := Option.some.inj hi
     have h5 : PhiC N 5 (us 5) W := hdeps ⟨5, .data⟩ (by simp) rfl
     have h6 : PhiC N 6 (us 6) W := hdeps ⟨6, .data⟩ (by simp) rfl
     have e5 : us 5 = _ := h5
     have e5 := (hg 5 107 rfl).trans e5
     have e6 : us 6 = _ := h6
     have e6 := (hg 6 108 rfl).trans e6
     (try simp only [evV, evAtC] at *)
     go_simp
     exact hK.out _ _ ((Fr0.refl _ _).alloc _) (SlI.made W [evAtC 3 1 0, evAtC 1 2 0])
    ·obtain rfl := Option.some.inj hi
     have a0 := cells_in HC1.out 0
     have a1 := cells_in HC1.out 1
     have a2 := cells_in HC1.out 2
     have a3 := cells_in HC1.out 3
     have a4 := cells_in HC1.out 4
     simp at a0 a1 a2 a3 a4
     go_simp
     exact hK.out _ _ (Fr0.refl _ _) rfl
    ·obtain rfl := Option.some.inj hi
     have a0 := cells_in HC1.out 0
     have a1 := cells_in HC1.out 1
     have a2 := cells_in HC1.out 2
     have a3 := cells_in HC1.out 3
     have a4 := cells_in HC1.out 4
     simp at a0 a1 a2 a3 a4
     go_simp
     exact hK.out _ _ (Fr0.refl _ _) rfl
    ·obtain rfl := Option.some.inj hi
     have h8 : PhiC N 8 (us 8) W := hdeps ⟨8, .data⟩ (by simp) rfl
     have h9 : PhiC N 9 (us 9) W := hdeps ⟨9, .data⟩ (by simp) rfl
     have e8 : us 8 = _ := h8
     have e8 := (hg 8 110 rfl).trans e8
     have e9 : us 9 = _ := h9
     have e9 := (hg 9 111 rfl).trans e9
     (try simp only [evV, evAtC] at *)
     go_simp
     exact hK.out _ _ ((Fr0.refl _ _).alloc _) (SlI.made W [evAtC 3 1 0, evAtC 3 1 0])
    ·obtain rfl := Option.some.inj hi
     have a0 := cells_in HC2.out 0
     have a1 := cells_in HC2.out 1
     have a2 := cells_in HC2.out 2
     have a3 := cells_in HC2.out 3
     have a4 := cells_in HC2.out 4
     simp at a0 a1 a2 a3 a4
     go_simp
     exact hK.out _ _ (Fr0.refl _ _) rfl
    ·obtain rfl := Option.some.inj hi
     go_simp
     refine (HA.out 2 2 0 _).mono ?_
     rintro e wB ⟨rfl, hfB⟩
     exact hK.out _ _ hfB rfl
    ·obtain rfl := Option.some.inj hi
     have h11 : PhiC N 11 (us 11) W := hdeps ⟨11, .data⟩ (by simp) rfl
     have h12 : PhiC N 12 (us 12) W := hdeps ⟨12, .data⟩ (by simp) rfl
     have e11 : us 11 = _ := h11
     have e11 := (hg 11 113 rfl).trans e11
     have e12 : us 12 = _ := h12
     have e12 := (hg 12 114 rfl).trans e12
     (try simp only [evV, evAtC] at *)
     go_simp
     exact hK.out _ _ ((Fr0.refl _ _).alloc _) (SlI.made W [evAtC 1 2 0, evAtC 2 2 0])
    ·obtain rfl := Option.some.inj hi
     go_simp
     refine (HA.out (-1) 1 1 _).mono ?_
     rintro e wB ⟨rfl, hfB⟩
     exact hK.out _ _ hfB rfl
    ·obtain rfl := Option.some.inj hi
     have h14 : PhiC N 14 (us 14) W := hdeps ⟨14, .data⟩ (by simp) rfl
     have e14 : us 14 = _ := h14
     have e14 := (hg 14 116 rfl).trans e14
     (try simp only [evV, evAtC] at *)
     go_simp
     exact hK.out _ _ ((Fr0.refl _ _).alloc _) (SlI.made W [evAtC (-1) 1 1])
    ·obtain rfl := Option.some.inj hi
     (try simp only [evV, evAtC] at *)
     go_simp
     exact hK.out _ _ (Fr0.refl _ _) rfl
    ·obtain rfl := Option.some.inj hi
     have h16 : PhiC N 16 (us 16) W := hdeps ⟨16, .data⟩ (by simp) rfl
     have e16 : us 16 = _ := h16
     have e16 := (hg 16 118 rfl).trans e16
     have a0 := cells_in HC1.out 0
     have a1 := cells_in HC1.out 1
     have a2 := cells_in HC1.out 2
     simp at a0 a1 a2
     go_simp
     exact hK.out _ _ (Fr0.refl _ _) rfl
    ·obtain rfl := Option.some.inj hi
     have h17 : PhiC N 17 (us 17) W := hdeps ⟨17, .data⟩ (by simp) rfl
     have e17 : us 17 = _ := h17
     have e17 := (hg 17 119 rfl).trans e17
     (try simp only [evV, evAtC] at *)
     go_simp
     exact hK.out _ _ (Fr0.refl _ _) rfl
    ·obtain rfl := Option.some.inj hi
     have h18 : PhiC N 18 (us 18) W := hdeps ⟨18, .data⟩ (by simp) rfl
     have e18 : us 18 = _ := h18
     have e18 := (hg 18 120 rfl).trans e18
     (try simp only [evV, evAtC] at *)
     go_simp
     exact hK.out _ _ ((Fr0.refl _ _).alloc _) (SlI.made W [⟨⟨3, 1, 0⟩, 0, 0⟩])
    ·obtain rfl := Option.some.inj hi
     have a0 := cells_in HC2.out 0
     have a1 := cells_in HC2.out 1
     have a2 := cells_in HC2.out 2
     have a3 := cells_in HC2.out 3
     have a4 := cells_in HC2.out 4
     simp at a0 a1 a2 a3 a4
     go_simp
     exact hK.out _ _ (Fr0.refl _ _) rfl
    ·obtain rfl := Option.some.inj hi
     have a0 := cells_in HC1.out 0
     have a1 := cells_in HC1.out 1
     have a2 := cells_in HC1.out 2
     have a3 := cells_in HC1.out 3
     have a4 := cells_in HC1.out 4
     simp at a0 a1 a2 a3 a4
     go_simp
     exact hK.out _ _ (Fr0.refl _ _) rfl
    ·obtain rfl := Option.some.inj hi
     have a0 := cells_in HC3.out 0
     have a1 := cells_in HC3.out 1
     have a2 := cells_in HC3.out 2
     have a3 := cells_in HC3.out 3
     have a4 := cells_in HC3.out 4
     simp at a0 a1 a2 a3 a4
     go_simp
     exact hK.out _ _ (Fr0.refl _ _) rfl
    ·obtain rfl := Option.some.inj hi
     have h20 : PhiC N 20 (us 20) W := hdeps ⟨20, .data⟩ (by simp) rfl
     have h21 : PhiC N 21 (us 21) W := hdeps ⟨21, .data⟩ (by simp) rfl
     have h22 : PhiC N 22 (us 22) W := hdeps ⟨22, .data⟩ (by simp) rfl
     have e20 : us 20 = _ := h20
     have e20 := (hg 20 122 rfl).trans e20
     have e21 : us 21 = _ := h21
     have e21 := (hg 21 123 rfl).trans e21
     have e22 : us 22 = _ := h22
     have e22 := (hg 22 124 rfl).trans e22
     (try simp only [evV, evAtC] at *)
     go_simp
     exact hK.out _ _ ((Fr0.refl _ _).alloc _) (SlI.made W [evAtC 1 2 0, evAtC 3 1 0, evAtC 3 1 1])
    ·obtain rfl := Option.some.inj hi
     have h1 : PhiC N 1 (us 1) W := hdeps ⟨1, .data⟩ (by simp) rfl
     have h4 : PhiC N 4 (us 4) W := hdeps ⟨4, .data⟩ (by simp) rfl
     have h7 : PhiC N 7 (us 7) W := hdeps ⟨7, .data⟩ (by simp) rfl
     have h10 : PhiC N 10 (us 10) W := hdeps ⟨10, .data⟩ (by simp) rfl
     have h13 : PhiC N 13 (us 13) W := hdeps ⟨13, .data⟩ (by simp) rfl
     have h15 : PhiC N 15 (us 15) W := hdeps ⟨15, .data⟩ (by simp) rfl
     have h19 : PhiC N 19 (us 19) W := hdeps ⟨19, .data⟩ (by simp) rfl
     have h23 : PhiC N 23 (us 23) W := hdeps ⟨23, .data⟩ (by simp) rfl
     obtain ⟨b1, e1, q1⟩ := h1
     have e1 := (hg 1 103 rfl).trans e1
     obtain ⟨b4, e4, q4⟩ := h4
     have e4 := (hg 4 106 rfl).trans e4
     obtain ⟨b7, e7, q7⟩ := h7
     have e7 := (hg 7 109 rfl).trans e7
     obtain ⟨b10, e10, q10⟩ := h10
     have e10 := (hg 10 112 rfl).trans e10
     obtain ⟨b13, e13, q13⟩ := h13
     have e13 := (hg 13 115 rfl).trans e13
     obtain ⟨b15, e15, q15⟩ := h15
     have e15 := (hg 15 117 rfl).trans e15
     obtain ⟨b19, e19, q19⟩ := h19
     have e19 := (hg 19 121 rfl).trans e19
     obtain ⟨b23, e23, q23⟩ := h23
     have e23 := (hg 23 125 rfl).trans e23
     go_simp
     have hb := World.alloc_heap_new W (.cells #[.slice none 0 0, .slice (some ⟨b1, 0, none⟩) 1 1, .slice (some ⟨b4, 0, none⟩) 2 2, .slice (some ⟨b7, 0, none⟩) 2 2, .slice (some ⟨b10, 0, none⟩) 2 2, .slice (some ⟨b13, 0, none⟩) 2 2, .slice (some ⟨b15, 0, none⟩) 1 1, .slice (some ⟨b19, 0, none⟩) 1 1, .slice (some ⟨b23, 0, none⟩) 3 3] 22)
     have fb : Fr0 none' W (W.alloc (.cells #[.slice none 0 0, .slice (some ⟨b1, 0, none⟩) 1 1, .slice (some ⟨b4, 0, none⟩) 2 2, .slice (some ⟨b7, 0, none⟩) 2 2, .slice (some ⟨b10, 0, none⟩) 2 2, .slice (some ⟨b13, 0, none⟩) 2 2, .slice (some ⟨b15, 0, none⟩) 1 1, .slice (some ⟨b19, 0, none⟩) 1 1, .slice (some ⟨b23, 0, none⟩) 3 3] 22)) := (Fr0.refl _ _).alloc _
     refine hK.out (.slice (some ⟨W.heap.size, 0, none⟩) 9 9) _ fb ⟨W.heap.size, rfl, fun j L hL => ?_⟩
     rcases j with _ | _ | _ | _ | _ | _ | _ | _ | _ | j
     ·obtain rfl := Option.some.inj hL
      exact ⟨none, 0, 0, by rw [cells_in hb]; rfl, esIn_nilC _ _, rfl, Nat.le_refl _⟩
     ·obtain rfl := Option.some.inj hL
      exact ⟨some ⟨b1, 0, none⟩, 1, 1, by rw [cells_in hb]; rfl, q1.later fb, rfl, Nat.le_refl _⟩
     ·obtain rfl := Option.some.inj hL
      exact ⟨some ⟨b4, 0, none⟩, 2, 2, by rw [cells_in hb]; rfl, q4.later fb, rfl, Nat.le_refl _⟩
     ·obtain rfl := Option.some.inj hL
      exact ⟨some ⟨b7, 0, none⟩, 2, 2, by rw [cells_in hb]; rfl, q7.later fb, rfl, Nat.le_refl _⟩
     ·obtain rfl := Option.some.inj hL
      exact ⟨some ⟨b10, 0, none⟩, 2, 2, by rw [cells_in hb]; rfl, q10.later fb, rfl, Nat.le_refl _⟩
     ·obtain rfl := Option.some.inj hL
      exact ⟨some ⟨b13, 0, none⟩, 2, 2, by rw [cells_in hb]; rfl, q13.later fb, rfl, Nat.le_refl _⟩
     ·obtain rfl := Option.some.inj hL
      exact ⟨some ⟨b15, 0, none⟩, 1, 1, by rw [cells_in hb]; rfl, q15.later fb, rfl, Nat.le_refl _⟩
     ·obtain rfl := Option.some.inj hL
      exact ⟨some ⟨b19, 0, none⟩, 1, 1, by rw [cells_in hb]; rfl, q19.later fb, rfl, Nat.le_refl _⟩
     ·obtain rfl := Option.some.inj hL
      exact ⟨some ⟨b23, 0, none⟩, 3, 3, by rw [cells_in hb]; rfl, q23.later fb, rfl, Nat.le_refl _⟩
     ·simp [nineC] at hL
    ·obtain rfl := Option.some.inj hi
     have h24 : PhiC N 24 (us 24) W := hdeps ⟨24, .data⟩ (by simp) rfl
     obtain ⟨b24, e24, q24⟩ := h24
     have e24 := (hg 24 126 rfl).trans e24
     (try simp only [evV, evAtC] at *)
     go_simp
     exact hK.out _ _ (Fr0.refl _ _) rfl
    ·obtain rfl := Option.some.inj hi
     (try simp only [evV, evAtC] at *)
     go_simp
     exact hK.out _ _ (Fr0.refl _ _) rfl
    ·exact absurd (Array.getElem?_eq_some_iff.1 hi).1 (by simp)
    -- >DEV
   ·obtain ⟨RB, e24, hrows⟩ := hΦ 24 (by decide)
    have e25 : us 25 = .int .i64 9 := hΦ 25 (by decide)
    have e26 : us 26 = .int .i64 0 := hΦ 26 (by decide)
    have e24 : us 24 = .slice (some ⟨RB, 0, none⟩) 9 9 := e24
    simp only [putsB, Nat.reduceAdd, Act.put, List.setIfInBounds_toArray, List.set_cons_zero, List.set_cons_succ]
    rw [e24, e25, e26]
    have HRows := Lib.hid hrows
    have FR := Lib.hid (FR.out.trans hF)
    have HB1 := Lib.hid ((hF.block _ (Array.getElem?_eq_some_iff.1 HB1.out).1 id).trans HB1.out)
    clear hΦ e24 e25 e26 hrows hF HB2 HB3
    go_wp2_with fail
    obtain ⟨W20, hW20⟩ : ∃ V, V = W := ⟨_, rfl⟩
    subst hW20
    go_loopw [8, 10, 12, 14, 128] (fun _ _ _ _ i wr => ∃ j : Nat, j ≤ 9 ∧ i = .int .i64 j ∧ Hid (Fr0 none' W20 wr)) (fun _ _ _ _ i _ => 9 - (Go.RowKit.intOf i).toNat)
    case atStart => exact ⟨0, Nat.zero_le _, rfl, Fr0.refl _ _⟩
    case round =>
     obtain ⟨j, hj, rfl, hb⟩ := hrel
     by_cases hlt : j < 9
     ·obtain ⟨L, hL⟩ : ∃ L, nineC[j]? = some L := ⟨_, List.getElem?_eq_getElem (by simpa [nineC] using hlt)⟩
      obtain ⟨sa, sn, sc, hc, hes, hln, hsc⟩ := HRows.out j L hL
      have c0 := hb.out.later hc
      have HES := Lib.hid (hes.later hb.out)
      have HLn := Lib.hid (show L.length = sn ∧ sn ≤ sc ∧ sn ≤ 3 from ⟨hln, hsc, by rw [← hln]; exact nine_len L (List.mem_of_getElem? hL)⟩)
      have HC1 := Lib.hid ((hb.out.block _ (Array.getElem?_eq_some_iff.1 HB1.out).1 id).trans HB1.out)
      have j1 : (0 : Int) ≤ (j : Int) := by omega
      have j2 : (j : Int) < 9 := by omega
      clear hL hc hes hln hsc
      go_wp2_with fail
      obtain ⟨G, hG⟩ : ∃ G, wr.heap.size = G := ⟨_, rfl⟩
      obtain ⟨W21, hW21⟩ : ∃ W, wr.alloc (.cells #[.int .i64 (-9223372036854775808), .int .i64 (-1), .int .i64 0, .int .i64 1, .int .i64 2, .int .i64 256, .int .i64 257, .int .i64 9223372036854775807] 3) = W := ⟨_, rfl⟩
      have hI : W21.heap[G]? = some (.cells (capsI.map (Value.int .i64)).toArray 3 (0, 0)) := by rw [← hW21, ← hG]; exact World.alloc_heap_new _ _
      have HI := Lib.hid hI
      have f21 : Fr0 none' wr W21 := by rw [← hW21]; exact (Fr0.refl _ _).alloc _
      have F21 := Lib.hid (hb.out.trans f21)
      have HES := Lib.hid (HES.out.later f21)
      have HC1 := Lib.hid ((f21.block _ (Array.getElem?_eq_some_iff.1 HC1.out).1 id).trans HC1.out)
      rw [hW21]
      try rw [hG]
      clear hG hW21 hI f21 c0
      go_loopw [10, 134] (fun _ i wr => ∃ t : Nat, t ≤ 8 ∧ i = .int .i64 t ∧ Hid (Fr0 none' W21 wr)) (fun _ i _ => 8 - (Go.RowKit.intOf i).toNat)
      case atStart => exact ⟨0, Nat.zero_le _, rfl, Fr0.refl _ _⟩
      case round =>
       obtain ⟨t, ht, rfl, hb2⟩ := hrel
       by_cases hlt2 : t < 8
       ·skip
        -- DEV<
        obtain ⟨n, hn⟩ : ∃ n, capsI[t]? = some n := ⟨_, List.getElem?_eq_getElem (by simpa [capsI] using hlt2)⟩
        have c0 := hb2.out.later (ints_cell HI.out hn)
        have t1 : (0 : Int) ≤ (t : Int) := by omega
        have t2 : (t : Int) < 8 := by omega
        have HT := Lib.hid (fun (A : List Ca) (aa : Option Addr) (m ca : Nat) (W : World) (hf : Fr0 none' W21 W) (hA : CasIn W aa A) (hl : A.length = m) (hm : m ≤ 1000) (hmc : m ≤ ca) (hk : ∀ x ∈ A, 0 ≤ x.kind ∧ x.kind < 256) => tells12_any (c := n) (n := sn) (cap := sc) (m := m) (ca := ca) L A (HES.out.later hf) HLn.out.1 (by have := HLn.out; omega) HLn.out.2.1 hA hl hm hmc hk)
        clear hn
        go_wp2_with fail
        have f1 := (Fr0.refl none' wr).alloc (.cells #[.int .u8 3, .int .i64 0, .int .i64 0, .int .i64 0, .int .i64 0, .int .i64 0, .int .i64 2] 33)
        refine (HT.out [⟨3, zeroE, 2⟩] _ 1 1 _ (hb2.out.trans f1) (CasIn.cells (World.alloc_heap_new wr _) rfl) rfl (by omega) (by omega) (by decide)).mono ?_
        rintro e v1 ⟨rfl, hf⟩
        have F1 := Lib.hid ((hb2.out.trans f1).trans hf)
        clear f1 hf c0
        go_wp2_with fail
        have f1 := (Fr0.refl none' v1).alloc (.cells #[.int .u8 2, .int .i64 0, .int .i64 0, .int .i64 0, .int .i64 0, .int .i64 0, .int .i64 0, .int .u8 6, .int .i64 0, .int .i64 0, .int .i64 0, .int .i64 0, .int .i64 0, .int .i64 0, .int .u8 0, .int .i64 0, .int .i64 0, .int .i64 0, .int .i64 0, .int .i64 0, .int .i64 0] 33)
        refine (HT.out [⟨2, zeroE, 0⟩, ⟨6, zeroE, 0⟩, ⟨0, zeroE, 0⟩] _ 3 3 _ (F1.out.trans f1) (CasIn.cells (World.alloc_heap_new v1 _) rfl) rfl (by omega) (by omega) (by decide)).mono ?_
        rintro e v2 ⟨rfl, hf⟩
        have F1 := Lib.hid ((F1.out.trans f1).trans hf)
        clear f1 hf
        go_wp2_with fail
        refine (HT.out [] none 0 0 _ F1.out (casIn_nil _ _) rfl (by omega) (by omega) (by simp)).mono ?_
        rintro e v3 ⟨rfl, hf⟩
        have F1 := Lib.hid (F1.out.trans hf)
        clear hf HT
        go_wp2_with fail
        go_roundw
        case rel => exact ⟨t + 1, by omega, by go_num, F1⟩
        case measure => simp [Go.RowKit.intOf]; omega
        -- >DEV
       ·have FE := Lib.hid (F21.out.trans hb2.out)
        have HES := Lib.hid (HES.out.later hb2.out)
        clear hb2 F21 HI
        go_wp2_with fail
        obtain ⟨G, hG⟩ : ∃ G, wr.heap.size = G := ⟨_, rfl⟩
        obtain ⟨W22, hW22⟩ : ∃ W, wr.alloc (.cells #[.int .i64 (-9223372036854775808), .int .i64 (-1), .int .i64 0, .int .i64 1, .int .i64 2, .int .i64 3, .int .i64 4, .int .i64 9223372036854775807] 3) = W := ⟨_, rfl⟩
        have hI : W22.heap[G]? = some (.cells (timesI.map (Value.int .i64)).toArray 3 (0, 0)) := by rw [← hW22, ← hG]; exact World.alloc_heap_new _ _
        have HI := Lib.hid hI
        have f22 : Fr0 none' wr W22 := by rw [← hW22]; exact (Fr0.refl _ _).alloc _
        have FE := Lib.hid (FE.out.trans f22)
        have HES := Lib.hid (HES.out.later f22)
        rw [hW22]
        try rw [hG]
        clear hG hW22 hI f22
        go_loopw [12, 14, 163] (fun _ _ i wr => ∃ t : Nat, t ≤ 8 ∧ i = .int .i64 t ∧ Hid (Fr0 none' W22 wr)) (fun _ _ i _ => 8 - (Go.RowKit.intOf i).toNat)
        case atStart => exact ⟨0, Nat.zero_le _, rfl, Fr0.refl _ _⟩
        case round =>
         obtain ⟨t, ht, rfl, hb3⟩ := hrel
         by_cases hlt3 : t < 8
         ·obtain ⟨n, hn⟩ : ∃ n, timesI[t]? = some n := ⟨_, List.getElem?_eq_getElem (by simpa [timesI] using hlt3)⟩
          have c0 := hb3.out.later (ints_cell HI.out hn)
          have t1 : (0 : Int) ≤ (t : Int) := by omega
          have t2 : (t : Int) < 8 := by omega
          have n64 := times_64 n (List.mem_of_getElem? hn)
          have HN := Lib.hid n64
          have wn : IntKind.i64.wrap n = n := IntWalk.i64_in _ (by unfold I64 at n64; omega)
          clear hn n64
          go_wp2_with fail
          obtain ⟨G3, hG3⟩ : ∃ G, wr.heap.size = G := ⟨_, rfl⟩
          obtain ⟨W23, hW23⟩ : ∃ W, wr.alloc (.cells #[.int .i64 (-9223372036854775808), .int .i64 0, .int .i64 2, .int .i64 3, .int .i64 9223372036854775807] 3) = W := ⟨_, rfl⟩
          have hI : W23.heap[G3]? = some (.cells (untilI.map (Value.int .i64)).toArray 3 (0, 0)) := by rw [← hW23, ← hG3]; exact World.alloc_heap_new _ _
          have HI3 := Lib.hid hI
          have f23 : Fr0 none' wr W23 := by rw [← hW23]; exact (Fr0.refl _ _).alloc _
          have F3 := Lib.hid (hb3.out.trans f23)
          have HES3 := Lib.hid (HES.out.later F3.out)
          rw [hW23]
          try rw [hG3]
          clear hG3 hW23 hI f23 c0 hb3
          go_loopw [14, 169] (fun _ i wr => ∃ s : Nat, s ≤ 5 ∧ i = .int .i64 s ∧ Hid (Fr0 none' W23 wr)) (fun _ i _ => 5 - (Go.RowKit.intOf i).toNat)
          case atStart => exact ⟨0, Nat.zero_le _, rfl, Fr0.refl _ _⟩
          case round =>
           obtain ⟨s, hs, rfl, hb4⟩ := hrel
           by_cases hlt4 : s < 5
           ·obtain ⟨u, hu⟩ : ∃ u, untilI[s]? = some u := ⟨_, List.getElem?_eq_getElem (by simpa [untilI] using hlt4)⟩
            have c0 := hb4.out.later (ints_cell HI3.out hu)
            have s1 : (0 : Int) ≤ (s : Int) := by omega
            have s2 : (s : Int) < 5 := by omega
            have u64 := until_64 u (List.mem_of_getElem? hu)
            have HU := Lib.hid u64
            have wu : IntKind.i64.wrap u = u := IntWalk.i64_in _ (by unfold I64 at u64; omega)
            clear hu u64
            go_wp2_with fail
            refine (counts_any (cap := sc) L (HES3.out.later hb4.out) HLn.out.1 (by have := HLn.out; omega)).mono ?_
            rintro e v1 ⟨rfl, hf⟩
            have F4 := Lib.hid (hb4.out.trans hf)
            clear hf c0
            go_wp2_with fail
            refine (HA.out n 1 u _).mono ?_
            rintro e v2 ⟨rfl, hf⟩
            have F4 := Lib.hid (F4.out.trans hf)
            clear hf
            go_wp2_with fail
            have f1 := (Fr0.refl none' v2).alloc (.cells #[.int .u8 3, .int .i64 0, .int .i64 0, .int .i64 0, .int .i64 0, .int .i64 0, .int .i64 n, .int .u8 (IntKind.u8.wrap u), .int .i64 0, .int .i64 0, .int .i64 0, .int .i64 0, .int .i64 0, .int .i64 0, .int .u8 1, .int .i64 n, .int .i64 1, .int .i64 u, .int .i64 1, .int .i64 0, .int .i64 0] 33)
            have hk : ∀ x ∈ ([⟨3, zeroE, n⟩, ⟨IntKind.u8.wrap u, zeroE, 0⟩, ⟨1, evAtC n 1 u, 0⟩] : List Ca), (0 ≤ x.kind ∧ x.kind < 256) ∧ I64 x.x.name.1 ∧ I64 x.x.name.2 := by
             intro x hx
             have z64 : I64 0 ∧ I64 1 := by unfold I64; decide
             simp only [List.mem_cons, List.not_mem_nil, or_false] at hx
             rcases hx with rfl | rfl | rfl
             ·exact ⟨⟨show (0 : Int) ≤ 3 by decide, show (3 : Int) < 256 by decide⟩, z64.1, z64.1⟩
             ·exact ⟨⟨show 0 ≤ IntKind.u8.wrap u by rw [IntKind.wrap_u8]; omega, show IntKind.u8.wrap u < 256 by rw [IntKind.wrap_u8]; omega⟩, z64.1, z64.1⟩
             ·exact ⟨⟨show (0 : Int) ≤ 1 by decide, show (1 : Int) < 256 by decide⟩, z64.2, HU.out⟩
            refine (plays_any (n := 2) (M := 3) (ca := 3) (cap := sc) L [⟨3, zeroE, n⟩, ⟨IntKind.u8.wrap u, zeroE, 0⟩, ⟨1, evAtC n 1 u, 0⟩] (HES3.out.later (F4.out.trans f1)) HLn.out.1 (by have := HLn.out; omega) (by omega) (CasIn.cells (World.alloc_heap_new v2 _) rfl) rfl (by omega) hk).mono ?_
            clear hk
            rintro e v3 ⟨rfl, hf⟩
            have F4 := Lib.hid ((F4.out.trans f1).trans hf)
            clear hf f1
            go_wp2_with fail
            go_roundw
            case rel => exact ⟨s + 1, by omega, by go_num, F4⟩
            case measure => simp [Go.RowKit.intOf]; omega
           ·have FE := Lib.hid (F3.out.trans hb4.out)
            clear hb4 F3 HI3
            go_wp2_with fail
            go_roundw
            case rel => exact ⟨t + 1, by omega, by go_num, FE⟩
            case measure => simp [Go.RowKit.intOf]; omega
         ·have FE := Lib.hid (FE.out.trans hb3.out)
          clear hb3 HI
          go_wp2_with fail
          go_roundw
          case rel => exact ⟨j + 1, by omega, by go_num, FE⟩
          case measure => simp [Go.RowKit.intOf]; omega
     ·have FR := Lib.hid (FR.out.trans hb.out)
      clear hb HRows HB1
      go_wp2_with fail
      obtain ⟨G, hG⟩ : ∃ G, wr.heap.size = G := ⟨_, rfl⟩
      obtain ⟨W31, hW31⟩ : ∃ W, wr.alloc (.cells #[.pointer none, .pointer none, .slice none 0 0, .map none] 42) = W := ⟨_, rfl⟩
      have f31 : Fr0 none' wr W31 := by rw [← hW31]; exact (Fr0.refl _ _).alloc _
      have b31 : W31.heap[G]? = some (.cells #[.pointer none, .pointer none, .slice none 0 0, .map none] 42 (0, 0)) := by rw [← hW31, ← hG]; exact World.alloc_heap_new _ _
      rw [hW31]
      try rw [hG]
      have hG2 : W31.heap.size = G + 1 := by rw [← hW31, World.size_alloc, hG]
      obtain ⟨W32, hW32⟩ : ∃ W, W31.alloc (.cells #[.pointer none, .pointer (some ⟨G, 0, none⟩)] 37) = W := ⟨_, rfl⟩
      have f32 : Fr0 none' W31 W32 := by rw [← hW32]; exact (Fr0.refl _ _).alloc _
      have b32 : W32.heap[G + 1]? = some (.cells #[.pointer none, .pointer (some ⟨G, 0, none⟩)] 37 (0, 0)) := by rw [← hW32, ← hG2]; exact World.alloc_heap_new _ _
      rw [hW32]
      try rw [hG2]
      have HQ1 := Lib.hid (show NoQ W32 none from .inl rfl)
      have HQ2 := Lib.hid (show NoQ W32 (some ⟨G, 0, none⟩) from .inr ⟨G, rfl, (f32.block _ (Array.getElem?_eq_some_iff.1 b31).1 id).trans b31⟩)
      have HQs := Lib.hid b32
      have FR := Lib.hid ((FR.out.trans f31).trans f32)
      clear hG hG2 hW31 hW32 f31 f32 b31 b32
      go_loopw [16, 17, 18, 19, 200] (fun _ _ _ _ i wr => ∃ j : Nat, j ≤ 2 ∧ i = .int .i64 j ∧ Hid (Fr0 none' W32 wr)) (fun _ _ _ _ i _ => 2 - (Go.RowKit.intOf i).toNat)
      case atStart => exact ⟨0, Nat.zero_le _, rfl, Fr0.refl _ _⟩
      case round =>
       obtain ⟨t, ht, rfl, hb5⟩ := hrel
       by_cases hlt5 : t < 2
       ·obtain ⟨p, hp, hq⟩ : ∃ p, wr.cell? ⟨G + 1, t, none⟩ = some (.pointer p) ∧ NoQ wr p := by
         rcases t with _ | _ | t
         ·exact ⟨none, hb5.out.later (by rw [cells_in HQs.out]; rfl), HQ1.out.later hb5.out⟩
         ·exact ⟨_, hb5.out.later (by rw [cells_in HQs.out]; rfl), HQ2.out.later hb5.out⟩
         ·omega
        have HQ := Lib.hid hq
        have t1 : (0 : Int) ≤ (t : Int) := by omega
        have t2 : (t : Int) < 2 := by omega
        clear hq
        go_wp2_with fail
        have f1 := (Fr0.refl none' wr).alloc (.cells #[.int .u8 0, .int .i64 0, .int .i64 0, .int .i64 0, .int .i64 0, .int .i64 0, .int .i64 0] 33)
        refine (Queue_none (HQ.out.later f1) _).mono ?_
        rintro e v1 ⟨rfl, hf⟩
        have F1 := Lib.hid ((hb5.out.trans f1).trans hf)
        clear f1 hf hp HQ
        go_wp2_with fail
        go_roundw
        case rel => exact ⟨t + 1, by omega, by go_num, F1⟩
        case measure => simp [Go.RowKit.intOf]; omega
       ·have FR := Lib.hid (FR.out.trans hb5.out)
        clear hb5 HQ1 HQ2 HQs
        go_wp2_with fail
        refine (cawake_any _).mono ?_
        rintro e v1 ⟨rfl, hf⟩
        have FR := Lib.hid (FR.out.trans hf)
        clear hf
        go_wp2_with fail
        go_ret
        exact ⟨rfl, FR.out⟩
end Go.Proofs.YtieeloealklkgaaGreat

/-
  A slice of acts among the arguments, its numbers of 64 bits.
-/
namespace Go.Proofs.YtieeloealklkgaaGreat
open Go.ChangeShapes Go.WideShapes Go.ChangeAt Go.RowKit Go.Deep Go.Joins

theorem int_C64 {H : Type} {enc : TypeId × Value → H} {w : World} {n : Nat} {v : Value} {y : DataW H × List MemPlace} (h : DataW.trod enc Tryz.prog w 0 (fun _ => true) true n 3 [v] = some y) : ∃ a, v = .int .i64 a ∧ I64 a := by
 obtain ⟨a, h1, _, hw⟩ := DataW.trod_int Tryz.underlying3 h
 injection h1 with h1 _
 have := bounds_i64 hw
 exact ⟨a, h1, by unfold I64; omega⟩
theorem int64_C64 {H : Type} {enc : TypeId × Value → H} {w : World} {n : Nat} {v : Value} {y : DataW H × List MemPlace} (h : DataW.trod enc Tryz.prog w 0 (fun _ => true) true n 2 [v] = some y) : ∃ a, v = .int .i64 a := by
 obtain ⟨a, h1, _, hw⟩ := DataW.trod_int Tryz.underlying2 h
 injection h1 with h1 _
 exact ⟨a, h1⟩
theorem key_C64 {H : Type} {enc : TypeId × Value → H} {w : World} {n : Nat} {v0 v1 v2 : Value} {y : DataW H × List MemPlace} (h : DataW.trod enc Tryz.prog w 0 (fun _ => true) true n 28 [v0, v1, v2] = some y) : ∃ k : Key3, v0 = .int .i64 k.time ∧ v1 = .int .i64 k.source ∧ v2 = .int .i64 k.seq ∧ I64 k.time ∧ I64 k.source ∧ I64 k.seq := by
 obtain ⟨ys, k, _, _, _, hyl, hfl⟩ := DataW.trod_struct Tryz.underlying28 h
 have hone : Tryz.prog.cellsOf 3 = 1 := by kernel_rfl
 have f0 : DataW.trod enc Tryz.prog w 0 (fun _ => true) true k 3 (([v0, v1, v2].drop 0).take (Tryz.prog.cellsOf 3)) = ys[0]? := hfl 0 _ rfl
 have f1 : DataW.trod enc Tryz.prog w 0 (fun _ => true) true k 3 (([v0, v1, v2].drop 1).take (Tryz.prog.cellsOf 3)) = ys[1]? := hfl 1 _ rfl
 have f2 : DataW.trod enc Tryz.prog w 0 (fun _ => true) true k 3 (([v0, v1, v2].drop 2).take (Tryz.prog.cellsOf 3)) = ys[2]? := hfl 2 _ rfl
 rw [hone] at f0 f1 f2
 have yl : ys.length = 3 := hyl
 have t0 : DataW.trod enc Tryz.prog w 0 (fun _ => true) true k 3 [v0] = some (ys[0]'(by omega)) := f0.trans (List.getElem?_eq_getElem _)
 have t1 : DataW.trod enc Tryz.prog w 0 (fun _ => true) true k 3 [v1] = some (ys[1]'(by omega)) := f1.trans (List.getElem?_eq_getElem _)
 have t2 : DataW.trod enc Tryz.prog w 0 (fun _ => true) true k 3 [v2] = some (ys[2]'(by omega)) := f2.trans (List.getElem?_eq_getElem _)
 obtain ⟨a0, rfl, b0⟩ := int_C64 t0
 obtain ⟨a1, rfl, b1⟩ := int_C64 t1
 obtain ⟨a2, rfl, b2⟩ := int_C64 t2
 exact ⟨⟨a0, a1, a2⟩, rfl, rfl, rfl, b0, b1, b2⟩
theorem event_C64 {H : Type} {enc : TypeId × Value → H} {w : World} {n : Nat} {v0 v1 v2 v3 v4 : Value} {y : DataW H × List MemPlace} (h : DataW.trod enc Tryz.prog w 0 (fun _ => true) true n 30 [v0, v1, v2, v3, v4] = some y) : ∃ x : Ev, v0 = .int .i64 x.key.time ∧ v1 = .int .i64 x.key.source ∧ v2 = .int .i64 x.key.seq ∧ v3 = .int .i64 x.to ∧ v4 = .int .i64 x.value ∧ I64 x.key.source ∧ I64 x.key.seq := by
 obtain ⟨ys, k, _, _, _, hyl, hfl⟩ := DataW.trod_struct Tryz.underlying30 h
 have hone : Tryz.prog.cellsOf 3 = 1 := by kernel_rfl
 have hone6 : Tryz.prog.cellsOf 2 = 1 := by kernel_rfl
 have hthree : Tryz.prog.cellsOf 28 = 3 := by kernel_rfl
 have f0 : DataW.trod enc Tryz.prog w 0 (fun _ => true) true k 28 (([v0, v1, v2, v3, v4].drop 0).take (Tryz.prog.cellsOf 28)) = ys[0]? := hfl 0 _ rfl
 have f1 : DataW.trod enc Tryz.prog w 0 (fun _ => true) true k 3 (([v0, v1, v2, v3, v4].drop 3).take (Tryz.prog.cellsOf 3)) = ys[1]? := hfl 1 _ rfl
 have f2 : DataW.trod enc Tryz.prog w 0 (fun _ => true) true k 2 (([v0, v1, v2, v3, v4].drop 4).take (Tryz.prog.cellsOf 2)) = ys[2]? := hfl 2 _ rfl
 rw [hthree] at f0
 rw [hone] at f1
 rw [hone6] at f2
 have yl : ys.length = 3 := hyl
 have t0 : DataW.trod enc Tryz.prog w 0 (fun _ => true) true k 28 [v0, v1, v2] = some (ys[0]'(by omega)) := f0.trans (List.getElem?_eq_getElem _)
 have t1 : DataW.trod enc Tryz.prog w 0 (fun _ => true) true k 3 [v3] = some (ys[1]'(by omega)) := f1.trans (List.getElem?_eq_getElem _)
 have t2 : DataW.trod enc Tryz.prog w 0 (fun _ => true) true k 2 [v4] = some (ys[2]'(by omega)) := f2.trans (List.getElem?_eq_getElem _)
 obtain ⟨kk, rfl, rfl, rfl, b0, b1, b2⟩ := key_C64 t0
 obtain ⟨a1, rfl, _⟩ := int_C64 t1
 obtain ⟨a2, rfl⟩ := int64_C64 t2
 exact ⟨⟨kk, a1, a2⟩, rfl, rfl, rfl, rfl, rfl, b1, b2⟩
theorem actQ7 {H : Type} {enc : TypeId × Value → H} {w : World} {n : Nat} {v0 v1 v2 v3 v4 v5 v6 : Value} {y : DataW H × List MemPlace} (h : DataW.trod enc Tryz.prog w 0 (fun _ => true) true n 33 [v0, v1, v2, v3, v4, v5, v6] = some y) : ∃ x : Ca, ((0 ≤ x.kind ∧ x.kind < 256) ∧ I64 x.x.name.1 ∧ I64 x.x.name.2) ∧ v0 = .int .u8 x.kind ∧ v1 = .int .i64 x.x.key.time ∧ v2 = .int .i64 x.x.key.source ∧ v3 = .int .i64 x.x.key.seq ∧ v4 = .int .i64 x.x.to ∧ v5 = .int .i64 x.x.value ∧ v6 = .int .i64 x.time := by
 obtain ⟨ys, k, _, _, _, hyl, hfl⟩ := DataW.trod_struct Tryz.underlying33 h
 have hone : Tryz.prog.cellsOf 3 = 1 := by kernel_rfl
 have hone8 : Tryz.prog.cellsOf 5 = 1 := by kernel_rfl
 have hfive : Tryz.prog.cellsOf 30 = 5 := by kernel_rfl
 have f0 : DataW.trod enc Tryz.prog w 0 (fun _ => true) true k 5 (([v0, v1, v2, v3, v4, v5, v6].drop 0).take (Tryz.prog.cellsOf 5)) = ys[0]? := hfl 0 _ rfl
 have f1 : DataW.trod enc Tryz.prog w 0 (fun _ => true) true k 30 (([v0, v1, v2, v3, v4, v5, v6].drop 1).take (Tryz.prog.cellsOf 30)) = ys[1]? := hfl 1 _ rfl
 have f2 : DataW.trod enc Tryz.prog w 0 (fun _ => true) true k 3 (([v0, v1, v2, v3, v4, v5, v6].drop 6).take (Tryz.prog.cellsOf 3)) = ys[2]? := hfl 2 _ rfl
 rw [hone8] at f0
 rw [hfive] at f1
 rw [hone] at f2
 have yl : ys.length = 3 := hyl
 have t0 : DataW.trod enc Tryz.prog w 0 (fun _ => true) true k 5 [v0] = some (ys[0]'(by omega)) := f0.trans (List.getElem?_eq_getElem _)
 have t1 : DataW.trod enc Tryz.prog w 0 (fun _ => true) true k 30 [v1, v2, v3, v4, v5] = some (ys[1]'(by omega)) := f1.trans (List.getElem?_eq_getElem _)
 have t2 : DataW.trod enc Tryz.prog w 0 (fun _ => true) true k 3 [v6] = some (ys[2]'(by omega)) := f2.trans (List.getElem?_eq_getElem _)
 obtain ⟨a0, rfl, l0, m0⟩ := smallC t0
 obtain ⟨x, rfl, rfl, rfl, rfl, rfl, i1, i2⟩ := event_C64 t1
 obtain ⟨a2, rfl⟩ := intC t2
 exact ⟨⟨a0, x, a2⟩, ⟨⟨l0, m0⟩, i1, i2⟩, rfl, rfl, rfl, rfl, rfl, rfl, rfl⟩
/-- A slice of acts, opened. -/
theorem acts_argQ {base : Nat} {H : Type} {enc : TypeId × Value → H} {W : World} {v : Value} {d : DataW H} {ps : List MemPlace}
  (hval : Value.okWide Tryz.prog W .any base 23 v) (h : DataW.Trod enc Tryz.prog W 0 (fun _ => true) true 23 v d ps) : ∃ a n cap xs, v = .slice a n cap ∧ CasIn W a xs ∧ (∀ x ∈ xs, (0 ≤ x.kind ∧ x.kind < 256) ∧ I64 x.x.name.1 ∧ I64 x.x.name.2) ∧ xs.length = n ∧ n ≤ cap := by
 obtain ⟨A, n, cap, rfl⟩ := okWide_slice Tryz.underlying23 hval
 obtain ⟨fuel, hf⟩ := h
 rcases open_slice Tryz.underlying23 hf with ⟨hcs, _⟩ | ⟨a, len, cap', m, _, D, Pl, hcs, _, hl, hm, hz, _, hi⟩
 ·simp [Value.cells] at hcs
  obtain ⟨rfl, rfl, rfl⟩ := hcs
  exact ⟨none, 0, 0, [], rfl, fun j x hj => by simp at hj, fun x hx => by simp at hx, rfl, Nat.le_refl _⟩
 ·simp [Value.cells] at hcs
  obtain ⟨rfl, rfl, rfl⟩ := hcs
  have hmn : n ≤ m := by rw [hz]; split <;> omega
  have key : ∀ i, i < n → ∃ x : Ca, ((0 ≤ x.kind ∧ x.kind < 256) ∧ I64 x.x.name.1 ∧ I64 x.x.name.2) ∧ ∃ g o, a = ⟨g, o, none⟩ ∧ CaAt W g (o + i * 7) x := fun i hin => by
   obtain ⟨cs, hc, ht⟩ := hi i (by omega)
   rw [show Tryz.prog.cellsOf 33 = 7 by kernel_rfl] at hc
   obtain ⟨_, hcl, hat⟩ := World.cells?_some hc
   match cs, hcl with
   | [v0, v1, v2, v3, v4, v5, v6], _ =>
   have c0 := hat 0 (by omega)
   have c1 := hat 1 (by omega)
   have c2 := hat 2 (by omega)
   have c3 := hat 3 (by omega)
   have c4 := hat 4 (by omega)
   have c5 := hat 5 (by omega)
   have c6 := hat 6 (by omega)
   obtain ⟨x, hx, rfl, rfl, rfl, rfl, rfl, rfl, rfl⟩ := actQ7 ht
   obtain ⟨cs', hc', _⟩ := hi 0 (by omega)
   rw [show Tryz.prog.cellsOf 33 = 7 by kernel_rfl] at hc'
   obtain ⟨_, hcl', hat'⟩ := World.cells?_some hc'
   have z0 := hat' 0 (by omega)
   rw [List.getElem?_eq_getElem (by omega)] at z0
   obtain ⟨b, off, spot⟩ := a
   have hspot : spot = none := by simpa [Addr.add] using World.cell?_spot z0
   subst hspot
   rw [Addr.add_mid, Addr.add_mid] at c0 c1 c2 c3 c4 c5 c6
   exact ⟨x, hx, b, off, rfl, c0, c1, c2, c3, c4, c5, c6⟩
  obtain ⟨xs, hxl, hx⟩ := listC n key
  refine ⟨some a, n, cap, xs, rfl, fun j x hj => ?_, fun x hx' => ?_, hxl, by simpa using hl⟩
  ·obtain ⟨_, g, o, rfl, q⟩ := hx j x hj
   exact ⟨g, o, rfl, q⟩
  ·obtain ⟨j, hj⟩ := List.getElem?_of_mem hx'
   exact (hx j x hj).1
end Go.Proofs.YtieeloealklkgaaGreat

namespace Go.Proofs.YtieeloealklkgaaGreat.calendarSmall
open Go.ChangeShapes Go.WideShapes Go.ChangeAt Go.RowKit Go.Proofs.YtieeloealklkgaaGreat

theorem lifted (os : Os) (started : os.Started) (H : Type) (enc : TypeId × Value → H) :
  ReturnsInHanded {} Tryz.checked os 4 .any (Rows.calendarSmallSpec.pre6 enc Tryz.prog Tryz.f4 Rows.calendarSmallRow.domain false) (Rows.calendarSmallSpec.post enc Tryz.prog Tryz.f4 false true false false) := by
 refine returnsInHanded_of_change (C := Tryz.checked) knobC started (by kernel_rfl) Tryz.func4
  (ChangeSpec.witness6 (enc := enc) (C := Tryz.checked) false ⟨#[], #[], []⟩ 8 (by kernel_rfl) (by kernel_rfl) (by kernel_rfl) (by kernel_rfl)) ?_
 intro W base args ds gs before hval0 hW hcnd _
 have hval : ∀ (j : Nat) t v, Tryz.f4.params[j]? = some t → args[j]? = some v → Value.okWide Tryz.prog W .any base t v := hval0
 have hW' := hW
 obtain ⟨p, q, hA0, hV, rfl, hfz, hnd⟩ := hW
 have hA : DataW.TrodAll enc Tryz.prog W 0 (fun _ => true) true Tryz.f4.params.toList args.toList ds p := hA0
 rw [Tryz.params4] at hA hval
 obtain ⟨hnil, rfl, rfl⟩ := trodAll_nil hA
 obtain rfl : args = #[] := by cases args; simp_all
 obtain ⟨rfl, rfl⟩ := trodVars_none hV
 clear hA0 hval0
 simp only [List.append_nil] at hW'
 refine (CalendarSmall_any W).mono fun e W' ⟨he, hg0⟩ => ?_
 have hg := hg0.below (Nat.le_refl _) (fun _ _ h => h)
 subst he
 exact ⟨_, rfl, post_belowC (pa := []) (pv := []) hW' (fun _ _ _ => (trodAll_cons_mk (shut_bool Tryz.underlying4 _) trodAll_mk0)) trodAll_mk0 (fun _ _ => rfl) hg⟩

theorem over : Rows.calendarSmallRow.holds Tryz.pinned (OpenSpec.ofChange Rows.calendarSmallSpec) :=
 OpenClaim.holds_of_wide 4 Tryz.f4 rfl rfl rfl rfl rfl rfl rfl ⟨rfl, rfl, rfl, rfl, rfl⟩ rfl rfl rfl rfl rfl (by kernel_rfl) Tryz.func4 (by kernel_rfl)
  (of_decide_eq_true (by kernel_rfl)) (by unfold Func.isWrapper; first | (rw [if_pos (by decide +kernel)]; kernel_rfl) | (rw [if_neg (by decide +kernel)]; exact ⟨rfl, rfl⟩))
  (fun os started H enc _ => lifted os started H enc)

theorem proved : Rows.CalendarSmallSaid := over
#print axioms proved
end Go.Proofs.YtieeloealklkgaaGreat.calendarSmall
