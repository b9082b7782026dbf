/- CalendarPlays: the statement: for any input the law returns true, and the arguments read as before; no condition. -/
import Derived.Test.YtieeloealklkgaaGreatJb3
import Derived.Test.YtieeloealklkgaaGreatJb5
import Derived.Test.YtieeloealklkgaaGreatJb2
set_option linter.unusedSimpArgs false
set_option linter.unusedVariables false

/-
  CalendarPlays: plays.
-/
namespace Go.Proofs.YtieeloealklkgaaGreat
open Go Go.RowKit Go.ChangeMaps
attribute [local go_sem ↓] Go.wp_at_zero Go.wp_at_succ
attribute [local go_sem] Oper.semAt_some wide_fn wide_depth wide_fnR wide_depthR

/-- Puts, one for each event. -/
def firstC (l : List Ev) : List Ca := l.map (fun x => ⟨1, x, 0⟩)
theorem firstC_kinds (l : List Ev) : ∀ a ∈ firstC l, 1 ≤ a.kind ∧ a.kind ≤ 5 := fun a ha => by
 obtain ⟨x, _, rfl⟩ := List.mem_map.1 ha
 exact ⟨by simp, by simp⟩
theorem firstC_snoc {l : List Ev} {k : Nat} {x : Ev} (h : l[k]? = some x) : firstC (l.take (k + 1)) = firstC (l.take k) ++ [⟨1, x, 0⟩] := by
 unfold firstC; rw [List.take_add_one, h, List.map_append]; rfl
theorem stC_first {n : Nat} {l : List Ev} {k : Nat} {x : Ev} (h : l[k]? = some x) : stC n [] (firstC (l.take (k + 1))) = allE n (stC n [] (firstC (l.take k))) [x] := by
 rw [firstC_snoc h, stC_append]; rfl
theorem make_racts (n : Nat) (hn : n ≤ 1000000) (w : World) : (Go.Instr.makeSlice 73 (.int .i64 0) (.int .i64 n)).run Tryz.prog w = .ok (.slice (some ⟨w.heap.size, 0, none⟩) 0 n) (w.alloc (.cells (madeCells #[.int .u8 0, .int .i64 0, .int .i64 0, .int .i64 0, .int .i64 0, .int .i64 0, .int .i64 0] (n * 7)) 75)) := by
 obtain ⟨i0, hi, hz0, hz1, hz2⟩ := info_parts3 info_ract
 have := run_make (P := Tryz.prog) w 73 75 i0 _ Tryz.underlying73 hi hz0 .i64 .i64 (0 : Int) (n : Int) (Int.le_refl _) (by omega) (by rw [hz2]; omega) (by omega)
 rw [this, hz1]
 simp only [Int.toNat_natCast, Int.toNat_zero, Value.cells]
set_option maxRecDepth 100000 in
set_option maxHeartbeats 4000000 in
theorem plays_any {w : World} {a aa : Option Addr} {n m cap M ca : Nat} (l : List Ev) (A : List Ca) (h : EsIn w a l) (hl : l.length = m) (hm : m ≤ 1000) (hn : n ≤ 256) (hA : CasIn w aa A) (hAl : A.length = M) (hM : M ≤ 1000) (hk : ∀ x ∈ A, (0 ≤ x.kind ∧ x.kind < 256) ∧ I64 x.x.name.1 ∧ I64 x.x.name.2) :
  Calls Tryz.prog 7 #[.slice a m cap, .int .i64 n, .slice aa M ca] w fun e w' => e = .returned (.bool true) ∧ Fr0 none' w w' := by
 obtain ⟨i0, hi, hz0, hz1, hz2⟩ := info_parts info_ract
 have HN := Lib.hid (QNew_is n hn w)
 have HL := Lib.hid h
 have Hl := Lib.hid hl
 have HA := Lib.hid hA
 have HAl := Lib.hid hAl
 have HK := Lib.hid hk
 have hmk := fun W => make_racts m (by omega) W
 clear h hl hA hAl hk
 go_enter Tryz.func7, Tryz.ntmps7
 go_wp2_with fail
 refine HN.out.mono ?_
 rintro e w1 ⟨qb, ft, rfl, hq1, f1, hge⟩
 have HS1 := Lib.hid (show StQ w w1 qb n 0 [] ft from ⟨hq1, f1, hge⟩)
 clear hq1 f1 hge HN
 go_wp2_with fail
 clear hmk
 obtain ⟨N, hN⟩ : ∃ N, w1.heap.size = N := ⟨_, rfl⟩
 obtain ⟨W2, hW2⟩ : ∃ W, w1.alloc (.cells (madeCells #[.int .u8 0, .int .i64 0, .int .i64 0, .int .i64 0, .int .i64 0, .int .i64 0, .int .i64 0] (m * 7)) 75) = W := ⟨_, rfl⟩
 have f2 : Fr0 none' w1 W2 := by rw [← hW2]; exact (Fr0.refl _ _).alloc _
 have hrow0 : W2.ownsRow N 75 7 (.slice (some ⟨N, 0, none⟩) 0 m) 0 (flatCa (firstC (l.take 0))) := by
  have hb : W2.heap[N]? = some (.cells (madeCells #[.int .u8 0, .int .i64 0, .int .i64 0, .int .i64 0, .int .i64 0, .int .i64 0, .int .i64 0] (m * 7)) 75 (0, 0)) := by rw [← hW2, ← hN]; exact World.alloc_heap_new w1 _
  exact ⟨by simp [flatCa, firstC], .inr ⟨N, m, _, rfl, Nat.le_refl _, hb, Nat.zero_le _, by unfold maxLen; omega, by simp [madeCells], by simp [flatCa, firstC]⟩⟩
 have HR0 := Lib.hid hrow0
 have HS2 := Lib.hid (HS1.out.later f2)
 have HFN := Lib.hid (show ∀ k, ft k → k < N by rw [← hN]; exact HS1.out.1.lt)
 have HN2 := Lib.hid (show N < W2.heap.size by rw [← hW2, World.size_alloc, hN]; omega)
 have HwN := Lib.hid (show w.heap.size ≤ N by rw [← hN]; exact HS1.out.2.1.size)
 rw [hW2]
 try rw [hN]
 clear hW2 hN f2 hrow0 HS1
 go_loopw [9, 11, 38] (fun out _ i wr => ∃ (k : Nat) (fk : Nat → Prop), k ≤ m ∧ i = .int .i64 k ∧ Hid (StQ w wr qb n k (stC n [] (firstC (l.take k))) fk) ∧ Hid (wr.ownsRow N 75 7 out k (flatCa (firstC (l.take k)))) ∧ Hid (∀ g, out.ownBlock = some g → ¬ fk g) ∧ Hid (W2.heap.size ≤ wr.heap.size)) (fun _ _ i _ => m - (Go.RowKit.intOf i).toNat)
 case atStart => exact ⟨0, ft, Nat.zero_le _, rfl, HS2, HR0, fun g hg hk => by have := HFN.out g hk; have hg : N = g := Option.some.inj hg; omega, Nat.le_refl _⟩
 case round =>
  obtain ⟨k, fk, hk, rfl, hst, hown, hdis, hws⟩ := hrel
  by_cases hlt : k < m
  ·obtain ⟨x, hx⟩ : ∃ x, l[k]? = some x := ⟨_, List.getElem?_eq_getElem (by rw [Hl.out]; exact hlt)⟩
   obtain ⟨g2, o, rfl, hxc⟩ := HL.out k x hx
   obtain ⟨x0, x1, x2, x3, x4⟩ := hxc.later hst.out.2.1
   have k1 : (0 : Int) ≤ (k : Int) := by omega
   have k2 : (k : Int) < (m : Int) := by omega
   obtain ⟨q, hq⟩ : ∃ q, wr.heap.size = q := ⟨_, rfl⟩
   obtain ⟨W3, hW3⟩ : ∃ W, wr.alloc (.cells #[.int .i64 x.key.time, .int .i64 x.key.source, .int .i64 x.key.seq, .int .i64 x.to, .int .i64 x.value] 30) = W := ⟨_, rfl⟩
   have f3 : Fr0 none' wr W3 := by rw [← hW3]; exact (Fr0.refl _ _).alloc _
   have b3 : W3.heap[q]? = some (.cells (cev x).toArray 30 (0, 0)) := by rw [← hW3, ← hq]; exact World.alloc_heap_new _ _
   have HST3 := Lib.hid (hst.out.later f3)
   have Hx := Lib.hid hx
   have HF3 := Lib.hid f3
   have HP := Lib.hid (HST3.out.1.put1 x (by omega))
   rw [← stC_first hx] at HP
   simp only [evV] at HP
   have B3 := Lib.hid b3
   have Hq := Lib.hid hq
   have HQ := Lib.hid (show ¬ fk q from fun h => by have := hst.out.1.lt q h; omega)
   have z0 := cells_in b3 0
   have z1 := cells_in b3 1
   have z2 := cells_in b3 2
   have z3 := cells_in b3 3
   have z4 := cells_in b3 4
   simp [cev] at z0 z1 z2 z3 z4
   clear hx hxc f3 b3
   go_wp2_with fail
   clear hW3 hq z0 z1 z2 z3 z4
   refine HP.out.mono ?_
   rintro e w4 ⟨rfl, hq4, hf4⟩
   have HST4 := Lib.hid (HST3.out.step hq4 hf4)
   have b4 := (hf4.block q (Array.getElem?_eq_some_iff.1 B3.out).1 HQ.out).trans B3.out
   have hown4 := ownsRow_fr0 (ownsRow_fr0 hown.out HF3.out (fun _ _ h => h)) hf4 hdis.out
   have hdis4 : ∀ g, u9.ownBlock = some g → ¬ qgrow fk W3 w4 g := fun g hg => qgrow_off (hdis.out g hg) (Nat.lt_of_lt_of_le (hown.out.lt g hg).2 HF3.out.size)
   have HD4 := Lib.hid hdis4
   have y0 := cells_in b4 0
   have y1 := cells_in b4 1
   have y2 := cells_in b4 2
   have y3 := cells_in b4 3
   have y4 := cells_in b4 4
   simp [cev] at y0 y1 y2 y3 y4
   have hsrc := Src.newRow (P := Tryz.prog) (size := 7) (tx := 73) (ty := 75) w4 Tryz.underlying73 1 1 [.int .u8 1, .int .i64 x.key.time, .int .i64 x.key.source, .int .i64 x.key.seq, .int .i64 x.to, .int .i64 x.value, .int .i64 0] rfl (by simp [Value.oneCell'])
   have Hsrc := Lib.hid hsrc
   have Hown4 := Lib.hid (hown4.alloc (.cells [Value.int .u8 1, .int .i64 x.key.time, .int .i64 x.key.source, .int .i64 x.key.seq, .int .i64 x.to, .int .i64 x.value, .int .i64 0].toArray 75))
   have hN4 : W2.heap.size ≤ w4.heap.size := by have := hf4.size; have := HF3.out.size; have := hws.out; omega
   have HS4 := Lib.hid hN4
   have hN4 : N ≤ w4.heap.size := by have := HN2.out; omega
   obtain ⟨va, vc, rfl⟩ : ∃ va vc, u9 = .slice va k vc := by
    rcases hown.out.2 with ⟨rfl, h0⟩ | ⟨g, cap, cur, rfl, _⟩
    ·exact ⟨none, 0, by rw [h0]⟩
    ·exact ⟨_, cap, rfl⟩
   clear hsrc hown4 hq4 hf4 b4 hdis4 HP x0 x1 x2 x3 x4
   go_wp2_with (at_builtin; refine wpList_append_k rfl _ _ 73 73 rfl N 75 i0 (.agg #[.int .u8 0, .int .i64 0, .int .i64 0, .int .i64 0, .int .i64 0, .int .i64 0, .int .i64 0]) 7 56 Tryz.underlying73 hi hz0 hz1 hz2 rfl (by decide) (.slice va k vc) k _ rfl Hown4.out (.slice (some ⟨w4.heap.size, 0, none⟩) 1 1) 1 _ rfl Hsrc.out (by unfold maxLen; omega) (by omega) (by simp; omega) ?_; intro v' w5 hown' hgrow hdr hob)
   have hfg : Fr0 (fun i => (Value.slice va k vc).ownBlock = some i) w4 w5 := ((Fr0.refl _ w4).alloc _).grown hgrow (fun i hi _ => hi)
   have HST5 := Lib.hid (HST4.out.other (gt := fun i => (Value.slice va k vc).ownBlock = some i) (fun i hi => by have := (hown.out.lt i hi).1; have := HwN.out; omega) (fun i hi hs => HD4.out i hs hi) hfg)
   have HS5 := Lib.hid (Nat.le_trans HS4.out hfg.size)
   have hst4 : flatCa (firstC (l.take (k + 1))) = flatCa (firstC (l.take k)) ++ [Value.int .u8 1, .int .i64 x.key.time, .int .i64 x.key.source, .int .i64 x.key.seq, .int .i64 x.to, .int .i64 x.value, .int .i64 0] := by rw [firstC_snoc Hx.out, flatCa_snoc]
   rw [← hst4] at hown'
   have hdis5 : ∀ g, v'.ownBlock = some g → ¬ qgrow fk W3 w4 g := fun g hg hh => by
    rcases hob with hob | hob
    ·exact HD4.out g (by rw [← hob]; exact hg) hh
    ·rw [hg] at hob
     injection hob with hob
     have := HST4.out.1.lt g hh
     rw [World.size_alloc] at hob
     omega
   have HD5 := Lib.hid hdis5
   have Hown' := Lib.hid hown'
   obtain ⟨g', cap', rfl⟩ := ownsRow_k_succ hown'
   clear hgrow hdr hob hown' hfg hst4 hdis5 y0 y1 y2 y3 y4
   go_wp2
   go_roundw
   case rel => exact ⟨k + 1, qgrow fk W3 w4, by omega, by go_num, HST5, Hown', HD5, HS5⟩
   case measure => simp [Go.RowKit.intOf]; omega
  ·have hkm : k = m := by omega
   subst hkm
   rw [List.take_of_length_le (by rw [Hl.out]; exact Nat.le_refl _)] at hst hown
   obtain ⟨fa, fc, rfl, hfl, hfc, hfi⟩ := flatCa_ownR hown.out
   obtain ⟨B, hB⟩ : ∃ B, stC n [] (firstC l) = B := ⟨_, rfl⟩
   have hgB : GoodE n B := by rw [← hB]; exact GoodE.acts _ (GoodE.nil n)
   have hBl := hgB.le
   obtain ⟨bl, hbl⟩ : ∃ b, B.length = b := ⟨_, rfl⟩
   rw [hbl] at hBl
   have HR1 := Lib.hid (rPlay_any (w := wr) (c := n) (n := 0) (cap := 0) (ca := fc) [] (firstC l) (esIn_nilC wr none) rfl (by omega) (Nat.zero_le _) hfi hfl (by omega))
   unfold EndRP at HR1
   rw [playC_ok (GoodE.nil n) hn (firstC_kinds l), hB] at HR1
   simp only [hbl] at HR1
   rw [hB] at hst
   have HQr := Lib.hid hst.out.1
   have HFr := Lib.hid hst.out.2.1
   have HFT := Lib.hid hst.out.2.2
   have HFL := Lib.hid hst.out.1.lt
   have HBl := Lib.hid hbl
   have HgB := Lib.hid hgB
   clear hst hown hdis hfi hB hgB hbl hfl
   go_wp2_with fail
   refine HR1.out.mono ?_
   rintro e w5 ⟨ba, bc, u0, zs0, rfl, hbc, hbi, hbf, hu0, _, _, hf⟩
   obtain ⟨ua0, uc0, rfl, _, _⟩ := TdsIn.of_ownR hu0
   have HBI := Lib.hid hbi
   have HBF := Lib.hid (show ∀ g o s, ba = some ⟨g, o, s⟩ → B ≠ [] → wr.heap.size ≤ g ∧ g < w5.heap.size from fun g o s e h0 => (hbf g o s e h0).elim (fun h => absurd rfl h.2) id)
   have F5 := Lib.hid hf
   have FW := Lib.hid (HFr.out.trans hf)
   have HTH := Lib.hid (theirs_any (cap := ca) A (HA.out.later FW.out) HAl.out (by omega))
   clear hbi hbf hu0 hf HR1
   go_wp2_with fail
   refine HTH.out.mono ?_
   rintro e w6 ⟨q, rfl, hq, hf⟩
   obtain ⟨qa, qc, rfl, _, hqc, hqi⟩ := flatCa_ownR hq
   have HBI := Lib.hid (HBI.out.later hf)
   have F6 := Lib.hid (F5.out.trans hf)
   have FW := Lib.hid (FW.out.trans hf)
   have HR2 := Lib.hid (rPlay_any (w := w6) (c := n) (cap := bc) (ca := qc) B A HBI.out HBl.out (by omega) hbc hqi HAl.out (by omega))
   unfold EndRP at HR2
   clear hq hqi hf HTH
   have hcase : (∃ ix er T F, playC B n A = (F, T, ix, er) ∧ queC n B A = (F, T, ix, er) ∧ er = 0) ∨ (∃ ix T, playC B n A = ([], T, ix, 121) ∧ queC n B A = (B, T, ix, 121)) := by
    by_cases h0 : 0 ≤ oddC A
    ·exact .inr ⟨oddC A, [], playC_odd (HgB.out.rightC hn) h0, queC_odd h0⟩
    ·exact .inl ⟨-1, 0, tlC n B A, stC n B A, by rw [playC_right (HgB.out.rightC hn) h0, Int.toNat_natCast], queC_right h0, rfl⟩
   have hb3 := playC_bounds B n A
   have HgQ := Lib.hid (show GoodE n (queC n B A).1 from by
    unfold queC
    split
    ·exact HgB.out
    ·exact GoodE.acts A HgB.out)
   rcases hcase with ⟨ix, er, T, F, hp, hq, rfl⟩ | ⟨ix, T, hp, hq⟩
   ·rw [hp] at HR2 hb3
    obtain ⟨fl, hfl⟩ : ∃ l, F.length = l := ⟨_, rfl⟩
    obtain ⟨tn, htn⟩ : ∃ l, T.length = l := ⟨_, rfl⟩
    simp only [hfl, htn] at HR2 hb3
    rw [HAl.out] at hb3
    obtain ⟨hf256, htm, hb3⟩ := hb3
    have HB3 := Lib.hid hb3
    have HFl := Lib.hid hfl
    have Htn := Lib.hid htn
    have Hqc := Lib.hid hq
    clear hp hq hb3 hfl htn
    go_wp2_with fail
    refine HR2.out.mono ?_
    rintro e w7 ⟨wa, wc, sv, zs, rfl, hwc, hw, hfw, hsv, hzt, hz, hf⟩
    obtain ⟨sa, sc, rfl, hzl, hsi⟩ := TdsIn.of_ownR hsv
    have FW := Lib.hid (FW.out.trans hf)
    have F7 := Lib.hid (F6.out.trans hf)
    have HQ8 := Lib.hid (HQr.out.later F7.out)
    have HW := Lib.hid hw
    have HBI := Lib.hid (HBI.out.later hf)
    have HFA := Lib.hid (show ∀ g o s, wa = some ⟨g, o, s⟩ → F ≠ [] → wr.heap.size ≤ g from fun g o s e h0 => by
     rcases hfw g o s e h0 with ⟨⟨o', s', e'⟩, h1⟩ | h1
     ·exact (HBF.out g o' s' e' h1).1
     ·have := F6.out.size; omega)
    have HSL := Lib.hid (show ∀ g o s, sa = some ⟨g, o, s⟩ → wr.heap.size ≤ g from fun g o s e => by
     have := (hsv.lt g (by rw [e]; rfl)).1
     have := F6.out.size
     omega)
    have HZT := Lib.hid hzt
    have HZ := Lib.hid (show ∀ y ∈ zs, EsIn w7 y.sa y.evs ∧ y.sn = y.evs.length ∧ ∀ g o s, y.sa = some ⟨g, o, s⟩ → y.evs ≠ [] → wr.heap.size ≤ g from fun y hy => by
     obtain ⟨h1, h2, h3⟩ := hz y hy
     refine ⟨h1, h2, fun g o s e h0 => ?_⟩
     rcases h3 g o s e h0 with ⟨⟨o', s', e'⟩, h1⟩ | h1
     ·exact (HBF.out g o' s' e' h1).1
     ·have := F6.out.size; omega)
    have HZL := Lib.hid hzl
    have HSI := Lib.hid hsi
    clear hw hfw hsv hzt hz hf hzl hsi
    go_wp2_with fail
    have HQ := Lib.hid (Queue_any (m := M) (ca := ca) A HQ8.out (by omega) (HA.out.later FW.out) HAl.out (by omega) (fun x hx => (HK.out x hx).1) (fun x hx => (HK.out x hx).2) (fun h0 g o s e hg => by have := HA.out.lt h0 g o s e; have := HFT.out g hg; omega))
    unfold EndQ at HQ
    rw [Hqc.out] at HQ
    simp only at HQ
    refine HQ.out.mono ?_
    clear HQ
    rintro e w9 ⟨u, ys, ft', rfl, hu, hT, hq9, hft', hu', hf⟩
    obtain ⟨ua, uc, rfl, hyl, huin⟩ := TdsIn.of_own hu
    have HFin := Lib.hid (show Fr0 none' w w9 from FW.out.trans' hf (fun k hk hs => by have := HFT.out k hs; omega))
    have HQ9 := Lib.hid hq9
    have HU := Lib.hid huin
    have HYL := Lib.hid (show ys.length = tn from hyl.trans Htn.out)
    have HYE := Lib.hid (show TdEv w9 ys from fun y hy => by
     have h1 := hT.row y hy
     have h2 := HB3.out y.tl (by rw [← hT.tl]; exact List.mem_map.2 ⟨y, hy, rfl⟩)
     have h2 : y.evs.length ≤ 256 := h2
     obtain ⟨p, cp, e1, e2, e3⟩ := EsIn.of_own h1
     injection e1 with f1 f2 f3
     rw [f1]
     exact ⟨e3, f2.symm, by omega⟩)
    have HZS := Lib.hid (show TdsIn w9 sa zs from HSI.out.fr0 hf (fun g o s e hg => by have := HSL.out g o s e; have := HFL.out g hg; omega))
    have HZE := Lib.hid (show TdEv w9 zs from fun y hy => by
     have h2 := HB3.out y.tl (by rw [← HZT.out]; exact List.mem_map.2 ⟨y, hy, rfl⟩)
     have h2 : y.evs.length ≤ 256 := h2
     obtain ⟨h3, h4, h5⟩ := HZ.out y hy
     exact ⟨h3.off hf (fun g o s e h0 hg => by have := h5 g o s e h0; have := HFL.out g hg; omega), h4.symm, by omega⟩)
    have HAF := Lib.hid (show EsIn w9 wa F from HW.out.off hf (fun g o s e h0 hg => by have := HFA.out g o s e h0; have := HFL.out g hg; omega))
    have HYT := Lib.hid (show ys.map Td.tl = zs.map Td.tl from hT.tl.trans HZT.out.symm)
    clear hu hT hq9 hft' hu' hf hyl huin
    rw [Htn.out]
    go_wp2_with fail
    have HS := told12_any ua sa tn tn uc sc ys zs w9 HYL.out HZL.out (by omega) (by omega) HU.out HZS.out HYE.out HZE.out
    rw [decide_eq_true HYT.out] at HS
    refine HS.mono ?_
    clear HS
    rintro e w10 ⟨rfl, hf⟩
    have HFin := Lib.hid (HFin.out.trans hf)
    have HQ9 := Lib.hid (HQ9.out.later hf)
    have HAF := Lib.hid (HAF.out.later hf)
    clear hf HU HZS HYE HZE
    have q1 : (ix == ix) = true := by simp
    go_wp2_with fail
    refine HQ9.out.all.mono ?_
    rintro e w11 ⟨v, rfl, hv, hf⟩
    obtain ⟨va, vc, rfl, hvl, hvi⟩ := EsIn.of_own hv
    have HV := Lib.hid hvi
    have HAF := Lib.hid (HAF.out.later hf)
    have HFin := Lib.hid (HFin.out.trans hf)
    rw [HFl.out]
    clear hv hf hvl hvi q1
    go_wp2_with fail
    have HS := sameEs_any va wa fl fl vc wc F F w11 HFl.out HFl.out (by omega) (by omega) HV.out HAF.out
    rw [decide_eq_true rfl] at HS
    refine HS.mono ?_
    clear HS
    rintro e w12 ⟨rfl, hf⟩
    have HFin := Lib.hid (HFin.out.trans hf)
    clear hf
    go_wp2
    go_ret
    exact ⟨rfl, HFin.out⟩
   ·rw [hp] at HR2 hb3
    obtain ⟨F, hF⟩ : ∃ F, F = B := ⟨_, rfl⟩
    subst hF
    obtain ⟨fl, hfl⟩ : ∃ l, l = bl := ⟨_, rfl⟩
    subst hfl
    obtain ⟨tn, htn⟩ : ∃ l, T.length = l := ⟨_, rfl⟩
    simp only [htn, List.length_nil] at HR2 hb3
    rw [HAl.out] at hb3
    obtain ⟨_, htm, hb3⟩ := hb3
    have HB3 := Lib.hid hb3
    have HFl := Lib.hid HBl.out
    have Htn := Lib.hid htn
    have Hqc := Lib.hid hq
    clear hp hq hb3 htn
    go_wp2_with fail
    refine HR2.out.mono ?_
    rintro e w7 ⟨wa, wc, sv, zs, rfl, hwc, hw, hfw, hsv, hzt, hz, hf⟩
    obtain ⟨sa, sc, rfl, hzl, hsi⟩ := TdsIn.of_ownR hsv
    have FW := Lib.hid (FW.out.trans hf)
    have F7 := Lib.hid (F6.out.trans hf)
    have HQ8 := Lib.hid (HQr.out.later F7.out)
    have HW := Lib.hid hw
    have HBI := Lib.hid (HBI.out.later hf)
    have HFA := Lib.hid (show ∀ g o s, wa = some ⟨g, o, s⟩ → [] ≠ [] → wr.heap.size ≤ g from fun g o s e h0 => by
     rcases hfw g o s e h0 with ⟨⟨o', s', e'⟩, h1⟩ | h1
     ·exact (HBF.out g o' s' e' h1).1
     ·have := F6.out.size; omega)
    have HSL := Lib.hid (show ∀ g o s, sa = some ⟨g, o, s⟩ → wr.heap.size ≤ g from fun g o s e => by
     have := (hsv.lt g (by rw [e]; rfl)).1
     have := F6.out.size
     omega)
    have HZT := Lib.hid hzt
    have HZ := Lib.hid (show ∀ y ∈ zs, EsIn w7 y.sa y.evs ∧ y.sn = y.evs.length ∧ ∀ g o s, y.sa = some ⟨g, o, s⟩ → y.evs ≠ [] → wr.heap.size ≤ g from fun y hy => by
     obtain ⟨h1, h2, h3⟩ := hz y hy
     refine ⟨h1, h2, fun g o s e h0 => ?_⟩
     rcases h3 g o s e h0 with ⟨⟨o', s', e'⟩, h1⟩ | h1
     ·exact (HBF.out g o' s' e' h1).1
     ·have := F6.out.size; omega)
    have HZL := Lib.hid hzl
    have HSI := Lib.hid hsi
    clear hw hfw hsv hzt hz hf hzl hsi
    have HFA := Lib.hid (show ∀ g o s, ba = some ⟨g, o, s⟩ → F ≠ [] → wr.heap.size ≤ g from fun g o s e h0 => (HBF.out g o s e h0).1)
    go_wp2_with fail
    have HQ := Lib.hid (Queue_any (m := M) (ca := ca) A HQ8.out (by omega) (HA.out.later FW.out) HAl.out (by omega) (fun x hx => (HK.out x hx).1) (fun x hx => (HK.out x hx).2) (fun h0 g o s e hg => by have := HA.out.lt h0 g o s e; have := HFT.out g hg; omega))
    unfold EndQ at HQ
    rw [Hqc.out] at HQ
    simp only at HQ
    refine HQ.out.mono ?_
    clear HQ
    rintro e w9 ⟨u, ys, ft', rfl, hu, hT, hq9, hft', hu', hf⟩
    obtain ⟨ua, uc, rfl, hyl, huin⟩ := TdsIn.of_own hu
    have HFin := Lib.hid (show Fr0 none' w w9 from FW.out.trans' hf (fun k hk hs => by have := HFT.out k hs; omega))
    have HQ9 := Lib.hid hq9
    have HU := Lib.hid huin
    have HYL := Lib.hid (show ys.length = tn from hyl.trans Htn.out)
    have HYE := Lib.hid (show TdEv w9 ys from fun y hy => by
     have h1 := hT.row y hy
     have h2 := HB3.out y.tl (by rw [← hT.tl]; exact List.mem_map.2 ⟨y, hy, rfl⟩)
     have h2 : y.evs.length ≤ 256 := h2
     obtain ⟨p, cp, e1, e2, e3⟩ := EsIn.of_own h1
     injection e1 with f1 f2 f3
     rw [f1]
     exact ⟨e3, f2.symm, by omega⟩)
    have HZS := Lib.hid (show TdsIn w9 sa zs from HSI.out.fr0 hf (fun g o s e hg => by have := HSL.out g o s e; have := HFL.out g hg; omega))
    have HZE := Lib.hid (show TdEv w9 zs from fun y hy => by
     have h2 := HB3.out y.tl (by rw [← HZT.out]; exact List.mem_map.2 ⟨y, hy, rfl⟩)
     have h2 : y.evs.length ≤ 256 := h2
     obtain ⟨h3, h4, h5⟩ := HZ.out y hy
     exact ⟨h3.off hf (fun g o s e h0 hg => by have := h5 g o s e h0; have := HFL.out g hg; omega), h4.symm, by omega⟩)
    have HAF := Lib.hid (show EsIn w9 ba F from HBI.out.off hf (fun g o s e h0 hg => by have := HFA.out g o s e h0; have := HFL.out g hg; omega))
    have HYT := Lib.hid (show ys.map Td.tl = zs.map Td.tl from hT.tl.trans HZT.out.symm)
    clear hu hT hq9 hft' hu' hf hyl huin
    rw [Htn.out]
    go_wp2_with fail
    have HS := told12_any ua sa tn tn uc sc ys zs w9 HYL.out HZL.out (by omega) (by omega) HU.out HZS.out HYE.out HZE.out
    rw [decide_eq_true HYT.out] at HS
    refine HS.mono ?_
    clear HS
    rintro e w10 ⟨rfl, hf⟩
    have HFin := Lib.hid (HFin.out.trans hf)
    have HQ9 := Lib.hid (HQ9.out.later hf)
    have HAF := Lib.hid (HAF.out.later hf)
    clear hf HU HZS HYE HZE
    have q1 : (ix == ix) = true := by simp
    go_wp2_with fail
    refine HQ9.out.all.mono ?_
    rintro e w11 ⟨v, rfl, hv, hf⟩
    obtain ⟨va, vc, rfl, hvl, hvi⟩ := EsIn.of_own hv
    have HV := Lib.hid hvi
    have HAF := Lib.hid (HAF.out.later hf)
    have HFin := Lib.hid (HFin.out.trans hf)
    rw [HFl.out]
    clear hv hf hvl hvi q1
    go_wp2_with fail
    have HS := sameEs_any va ba fl fl vc bc F F w11 HFl.out HFl.out (by omega) (by omega) HV.out HAF.out
    rw [decide_eq_true rfl] at HS
    refine HS.mono ?_
    clear HS
    rintro e w12 ⟨rfl, hf⟩
    have HFin := Lib.hid (HFin.out.trans hf)
    clear hf
    go_wp2
    go_ret
    exact ⟨rfl, HFin.out⟩
end Go.Proofs.YtieeloealklkgaaGreat

/-
  CalendarPlays.
-/
namespace Go.Proofs.YtieeloealklkgaaGreat
open Go Go.RowKit
attribute [local go_sem ↓] Go.wp_at_zero Go.wp_at_succ
attribute [local go_sem] Oper.semAt_some wide_fn wide_depth wide_fnR wide_depthR

set_option maxRecDepth 100000 in
set_option maxHeartbeats 2000000 in
theorem CalendarPlays_any {w : World} {a aa : Option Addr} {n cap m ca : Nat} {c : Int} (L : List Ev) (h : EsIn w a L) (hl : L.length = n) (_ : n ≤ cap) (hc0 : 0 ≤ c ∧ c < 256) (A : List Ca) (hA : CasIn w aa A) (hk : ∀ x ∈ A, (0 ≤ x.kind ∧ x.kind < 256) ∧ I64 x.x.name.1 ∧ I64 x.x.name.2) (hAl : A.length = m) (_ : m ≤ ca) :
  Calls Tryz.prog 3 #[.slice a n cap, .int .u8 c, .slice aa m ca] w fun e w' => e = .returned (.bool true) ∧ Fr0 none' w w' := by
 obtain ⟨N, hN⟩ : ∃ n : Nat, c % 21 = (n : Int) := ⟨(c % 21).toNat, by omega⟩
 have hN1 : N ≤ 20 := by omega
 have q1 : Int.tmod c 21 = (N : Int) := by rw [Int.tmod_eq_emod_of_nonneg hc0.1, hN]
 have HA := Lib.hid (fun (W : World) => cawake_any W)
 clear hN hc0
 by_cases h30 : n > 20
 ·have d1 : decide ((n : Int) > 20) = true := decide_eq_true (by omega)
  have d2 : decide ((20 : Int) < (n : Int)) = true := decide_eq_true (by omega)
  clear h hl h30 hA hk hAl
  go_enter Tryz.func3, Tryz.ntmps3
  go_wp2_with fail
  refine (HA.out _).mono ?_
  rintro e w1 ⟨rfl, hf⟩
  have F := Lib.hid hf
  clear hf
  go_wp2_with fail
  go_ret
  exact ⟨rfl, F.out⟩
 have d1 : decide ((n : Int) > 20) = false := decide_eq_false (by omega)
 have d2 : decide ((20 : Int) < (n : Int)) = false := decide_eq_false (by omega)
 by_cases h60 : m > 60
 ·have d3 : decide ((m : Int) > 60) = true := decide_eq_true (by omega)
  have d4 : decide ((60 : Int) < (m : Int)) = true := decide_eq_true (by omega)
  clear h hl h30 hA hk hAl h60
  go_enter Tryz.func3, Tryz.ntmps3
  go_wp2_with fail
  refine (HA.out _).mono ?_
  rintro e w1 ⟨rfl, hf⟩
  have F := Lib.hid hf
  clear hf
  go_wp2_with fail
  go_ret
  exact ⟨rfl, F.out⟩
 have d3 : decide ((m : Int) > 60) = false := decide_eq_false (by omega)
 have d4 : decide ((60 : Int) < (m : Int)) = false := decide_eq_false (by omega)
 have HT := Lib.hid (plays_any (n := N) (cap := cap) (ca := ca) L A h hl (by omega) (by omega) hA hAl (by omega) hk)
 clear h hl h30 hA hk hAl h60
 go_enter Tryz.func3, Tryz.ntmps3
 go_wp2_with fail
 refine HT.out.mono ?_
 rintro e w1 ⟨rfl, hf⟩
 have F := Lib.hid hf
 clear hf
 go_wp2_with fail
 refine (HA.out _).mono ?_
 rintro e w2 ⟨rfl, hf⟩
 have F := Lib.hid (F.out.trans hf)
 clear hf
 go_wp2_with fail
 go_ret
 exact ⟨rfl, F.out⟩
end Go.Proofs.YtieeloealklkgaaGreat

/-
  A slice of acts among the arguments.
-/
namespace Go.Proofs.YtieeloealklkgaaGreat
open Go.ChangeShapes Go.WideShapes Go.ChangeAt Go.RowKit Go.Deep Go.Joins

set_option maxRecDepth 100000 in
theorem actC7 {H : Type} {enc : TypeId × Value → H} {w : World} {n : Nat} {v0 v1 v2 v3 v4 v5 v6 : Value} {y : DataW H × List MemPlace} (h : DataW.trod enc Tryz.prog w 0 (fun _ => true) true n 33 [v0, v1, v2, v3, v4, v5, v6] = some y) : ∃ x : Ca, (0 ≤ x.kind ∧ x.kind < 256) ∧ v0 = .int .u8 x.kind ∧ v1 = .int .i64 x.x.key.time ∧ v2 = .int .i64 x.x.key.source ∧ v3 = .int .i64 x.x.key.seq ∧ v4 = .int .i64 x.x.to ∧ v5 = .int .i64 x.x.value ∧ v6 = .int .i64 x.time := by
 obtain ⟨ys, k, _, _, _, hyl, hfl⟩ := DataW.trod_struct Tryz.underlying33 h
 have hone : Tryz.prog.cellsOf 3 = 1 := by kernel_rfl
 have hone8 : Tryz.prog.cellsOf 5 = 1 := by kernel_rfl
 have hfive : Tryz.prog.cellsOf 30 = 5 := by kernel_rfl
 have f0 : DataW.trod enc Tryz.prog w 0 (fun _ => true) true k 5 (([v0, v1, v2, v3, v4, v5, v6].drop 0).take (Tryz.prog.cellsOf 5)) = ys[0]? := hfl 0 _ rfl
 have f1 : DataW.trod enc Tryz.prog w 0 (fun _ => true) true k 30 (([v0, v1, v2, v3, v4, v5, v6].drop 1).take (Tryz.prog.cellsOf 30)) = ys[1]? := hfl 1 _ rfl
 have f2 : DataW.trod enc Tryz.prog w 0 (fun _ => true) true k 3 (([v0, v1, v2, v3, v4, v5, v6].drop 6).take (Tryz.prog.cellsOf 3)) = ys[2]? := hfl 2 _ rfl
 rw [hone8] at f0
 rw [hfive] at f1
 rw [hone] at f2
 have yl : ys.length = 3 := hyl
 have t0 : DataW.trod enc Tryz.prog w 0 (fun _ => true) true k 5 [v0] = some (ys[0]'(by omega)) := f0.trans (List.getElem?_eq_getElem _)
 have t1 : DataW.trod enc Tryz.prog w 0 (fun _ => true) true k 30 [v1, v2, v3, v4, v5] = some (ys[1]'(by omega)) := f1.trans (List.getElem?_eq_getElem _)
 have t2 : DataW.trod enc Tryz.prog w 0 (fun _ => true) true k 3 [v6] = some (ys[2]'(by omega)) := f2.trans (List.getElem?_eq_getElem _)
 obtain ⟨a0, rfl, l0, m0⟩ := smallC t0
 obtain ⟨x, rfl, rfl, rfl, rfl, rfl⟩ := eventC t1
 obtain ⟨a2, rfl⟩ := intC t2
 exact ⟨⟨a0, x, a2⟩, ⟨l0, m0⟩, rfl, rfl, rfl, rfl, rfl, rfl, rfl⟩
set_option maxRecDepth 100000 in
/-- A slice of acts, opened. -/
theorem acts_argC {base : Nat} {H : Type} {enc : TypeId × Value → H} {W : World} {v : Value} {d : DataW H} {ps : List MemPlace}
  (hval : Value.okWide Tryz.prog W .any base 23 v) (h : DataW.Trod enc Tryz.prog W 0 (fun _ => true) true 23 v d ps) : ∃ a n cap xs, v = .slice a n cap ∧ CasIn W a xs ∧ (∀ x ∈ xs, 0 ≤ x.kind ∧ x.kind < 256) ∧ xs.length = n ∧ n ≤ cap := by
 obtain ⟨A, n, cap, rfl⟩ := okWide_slice Tryz.underlying23 hval
 obtain ⟨fuel, hf⟩ := h
 rcases open_slice Tryz.underlying23 hf with ⟨hcs, _⟩ | ⟨a, len, cap', m, _, D, Pl, hcs, _, hl, hm, hz, _, hi⟩
 ·simp [Value.cells] at hcs
  obtain ⟨rfl, rfl, rfl⟩ := hcs
  exact ⟨none, 0, 0, [], rfl, fun j x hj => by simp at hj, fun x hx => by simp at hx, rfl, Nat.le_refl _⟩
 ·simp [Value.cells] at hcs
  obtain ⟨rfl, rfl, rfl⟩ := hcs
  have hmn : n ≤ m := by rw [hz]; split <;> omega
  have key : ∀ i, i < n → ∃ x : Ca, (0 ≤ x.kind ∧ x.kind < 256) ∧ ∃ g o, a = ⟨g, o, none⟩ ∧ CaAt W g (o + i * 7) x := fun i hin => by
   obtain ⟨cs, hc, ht⟩ := hi i (by omega)
   rw [show Tryz.prog.cellsOf 33 = 7 by kernel_rfl] at hc
   obtain ⟨_, hcl, hat⟩ := World.cells?_some hc
   match cs, hcl with
   | [v0, v1, v2, v3, v4, v5, v6], _ =>
   have c0 := hat 0 (by omega)
   have c1 := hat 1 (by omega)
   have c2 := hat 2 (by omega)
   have c3 := hat 3 (by omega)
   have c4 := hat 4 (by omega)
   have c5 := hat 5 (by omega)
   have c6 := hat 6 (by omega)
   obtain ⟨x, hx, rfl, rfl, rfl, rfl, rfl, rfl, rfl⟩ := actC7 ht
   obtain ⟨cs', hc', _⟩ := hi 0 (by omega)
   rw [show Tryz.prog.cellsOf 33 = 7 by kernel_rfl] at hc'
   obtain ⟨_, hcl', hat'⟩ := World.cells?_some hc'
   have z0 := hat' 0 (by omega)
   rw [List.getElem?_eq_getElem (by omega)] at z0
   obtain ⟨b, off, spot⟩ := a
   have hspot : spot = none := by simpa [Addr.add] using World.cell?_spot z0
   subst hspot
   rw [Addr.add_mid, Addr.add_mid] at c0 c1 c2 c3 c4 c5 c6
   exact ⟨x, hx, b, off, rfl, c0, c1, c2, c3, c4, c5, c6⟩
  obtain ⟨xs, hxl, hx⟩ := listC n key
  refine ⟨some a, n, cap, xs, rfl, fun j x hj => ?_, fun x hx' => ?_, hxl, by simpa using hl⟩
  ·obtain ⟨_, g, o, rfl, q⟩ := hx j x hj
   exact ⟨g, o, rfl, q⟩
  ·obtain ⟨j, hj⟩ := List.getElem?_of_mem hx'
   exact (hx j x hj).1
end Go.Proofs.YtieeloealklkgaaGreat

/-
  A slice of acts among the arguments, its numbers of 64 bits.
-/
namespace Go.Proofs.YtieeloealklkgaaGreat
open Go.ChangeShapes Go.WideShapes Go.ChangeAt Go.RowKit Go.Deep Go.Joins

theorem int_C64 {H : Type} {enc : TypeId × Value → H} {w : World} {n : Nat} {v : Value} {y : DataW H × List MemPlace} (h : DataW.trod enc Tryz.prog w 0 (fun _ => true) true n 3 [v] = some y) : ∃ a, v = .int .i64 a ∧ I64 a := by
 obtain ⟨a, h1, _, hw⟩ := DataW.trod_int Tryz.underlying3 h
 injection h1 with h1 _
 have := bounds_i64 hw
 exact ⟨a, h1, by unfold I64; omega⟩
theorem int64_C64 {H : Type} {enc : TypeId × Value → H} {w : World} {n : Nat} {v : Value} {y : DataW H × List MemPlace} (h : DataW.trod enc Tryz.prog w 0 (fun _ => true) true n 2 [v] = some y) : ∃ a, v = .int .i64 a := by
 obtain ⟨a, h1, _, hw⟩ := DataW.trod_int Tryz.underlying2 h
 injection h1 with h1 _
 exact ⟨a, h1⟩
set_option maxRecDepth 100000 in
theorem key_C64 {H : Type} {enc : TypeId × Value → H} {w : World} {n : Nat} {v0 v1 v2 : Value} {y : DataW H × List MemPlace} (h : DataW.trod enc Tryz.prog w 0 (fun _ => true) true n 28 [v0, v1, v2] = some y) : ∃ k : Key3, v0 = .int .i64 k.time ∧ v1 = .int .i64 k.source ∧ v2 = .int .i64 k.seq ∧ I64 k.time ∧ I64 k.source ∧ I64 k.seq := by
 obtain ⟨ys, k, _, _, _, hyl, hfl⟩ := DataW.trod_struct Tryz.underlying28 h
 have hone : Tryz.prog.cellsOf 3 = 1 := by kernel_rfl
 have f0 : DataW.trod enc Tryz.prog w 0 (fun _ => true) true k 3 (([v0, v1, v2].drop 0).take (Tryz.prog.cellsOf 3)) = ys[0]? := hfl 0 _ rfl
 have f1 : DataW.trod enc Tryz.prog w 0 (fun _ => true) true k 3 (([v0, v1, v2].drop 1).take (Tryz.prog.cellsOf 3)) = ys[1]? := hfl 1 _ rfl
 have f2 : DataW.trod enc Tryz.prog w 0 (fun _ => true) true k 3 (([v0, v1, v2].drop 2).take (Tryz.prog.cellsOf 3)) = ys[2]? := hfl 2 _ rfl
 rw [hone] at f0 f1 f2
 have yl : ys.length = 3 := hyl
 have t0 : DataW.trod enc Tryz.prog w 0 (fun _ => true) true k 3 [v0] = some (ys[0]'(by omega)) := f0.trans (List.getElem?_eq_getElem _)
 have t1 : DataW.trod enc Tryz.prog w 0 (fun _ => true) true k 3 [v1] = some (ys[1]'(by omega)) := f1.trans (List.getElem?_eq_getElem _)
 have t2 : DataW.trod enc Tryz.prog w 0 (fun _ => true) true k 3 [v2] = some (ys[2]'(by omega)) := f2.trans (List.getElem?_eq_getElem _)
 obtain ⟨a0, rfl, b0⟩ := int_C64 t0
 obtain ⟨a1, rfl, b1⟩ := int_C64 t1
 obtain ⟨a2, rfl, b2⟩ := int_C64 t2
 exact ⟨⟨a0, a1, a2⟩, rfl, rfl, rfl, b0, b1, b2⟩
set_option maxRecDepth 100000 in
theorem event_C64 {H : Type} {enc : TypeId × Value → H} {w : World} {n : Nat} {v0 v1 v2 v3 v4 : Value} {y : DataW H × List MemPlace} (h : DataW.trod enc Tryz.prog w 0 (fun _ => true) true n 30 [v0, v1, v2, v3, v4] = some y) : ∃ x : Ev, v0 = .int .i64 x.key.time ∧ v1 = .int .i64 x.key.source ∧ v2 = .int .i64 x.key.seq ∧ v3 = .int .i64 x.to ∧ v4 = .int .i64 x.value ∧ I64 x.key.source ∧ I64 x.key.seq := by
 obtain ⟨ys, k, _, _, _, hyl, hfl⟩ := DataW.trod_struct Tryz.underlying30 h
 have hone : Tryz.prog.cellsOf 3 = 1 := by kernel_rfl
 have hone6 : Tryz.prog.cellsOf 2 = 1 := by kernel_rfl
 have hthree : Tryz.prog.cellsOf 28 = 3 := by kernel_rfl
 have f0 : DataW.trod enc Tryz.prog w 0 (fun _ => true) true k 28 (([v0, v1, v2, v3, v4].drop 0).take (Tryz.prog.cellsOf 28)) = ys[0]? := hfl 0 _ rfl
 have f1 : DataW.trod enc Tryz.prog w 0 (fun _ => true) true k 3 (([v0, v1, v2, v3, v4].drop 3).take (Tryz.prog.cellsOf 3)) = ys[1]? := hfl 1 _ rfl
 have f2 : DataW.trod enc Tryz.prog w 0 (fun _ => true) true k 2 (([v0, v1, v2, v3, v4].drop 4).take (Tryz.prog.cellsOf 2)) = ys[2]? := hfl 2 _ rfl
 rw [hthree] at f0
 rw [hone] at f1
 rw [hone6] at f2
 have yl : ys.length = 3 := hyl
 have t0 : DataW.trod enc Tryz.prog w 0 (fun _ => true) true k 28 [v0, v1, v2] = some (ys[0]'(by omega)) := f0.trans (List.getElem?_eq_getElem _)
 have t1 : DataW.trod enc Tryz.prog w 0 (fun _ => true) true k 3 [v3] = some (ys[1]'(by omega)) := f1.trans (List.getElem?_eq_getElem _)
 have t2 : DataW.trod enc Tryz.prog w 0 (fun _ => true) true k 2 [v4] = some (ys[2]'(by omega)) := f2.trans (List.getElem?_eq_getElem _)
 obtain ⟨kk, rfl, rfl, rfl, b0, b1, b2⟩ := key_C64 t0
 obtain ⟨a1, rfl, _⟩ := int_C64 t1
 obtain ⟨a2, rfl⟩ := int64_C64 t2
 exact ⟨⟨kk, a1, a2⟩, rfl, rfl, rfl, rfl, rfl, b1, b2⟩
set_option maxRecDepth 100000 in
theorem actQ7 {H : Type} {enc : TypeId × Value → H} {w : World} {n : Nat} {v0 v1 v2 v3 v4 v5 v6 : Value} {y : DataW H × List MemPlace} (h : DataW.trod enc Tryz.prog w 0 (fun _ => true) true n 33 [v0, v1, v2, v3, v4, v5, v6] = some y) : ∃ x : Ca, ((0 ≤ x.kind ∧ x.kind < 256) ∧ I64 x.x.name.1 ∧ I64 x.x.name.2) ∧ v0 = .int .u8 x.kind ∧ v1 = .int .i64 x.x.key.time ∧ v2 = .int .i64 x.x.key.source ∧ v3 = .int .i64 x.x.key.seq ∧ v4 = .int .i64 x.x.to ∧ v5 = .int .i64 x.x.value ∧ v6 = .int .i64 x.time := by
 obtain ⟨ys, k, _, _, _, hyl, hfl⟩ := DataW.trod_struct Tryz.underlying33 h
 have hone : Tryz.prog.cellsOf 3 = 1 := by kernel_rfl
 have hone8 : Tryz.prog.cellsOf 5 = 1 := by kernel_rfl
 have hfive : Tryz.prog.cellsOf 30 = 5 := by kernel_rfl
 have f0 : DataW.trod enc Tryz.prog w 0 (fun _ => true) true k 5 (([v0, v1, v2, v3, v4, v5, v6].drop 0).take (Tryz.prog.cellsOf 5)) = ys[0]? := hfl 0 _ rfl
 have f1 : DataW.trod enc Tryz.prog w 0 (fun _ => true) true k 30 (([v0, v1, v2, v3, v4, v5, v6].drop 1).take (Tryz.prog.cellsOf 30)) = ys[1]? := hfl 1 _ rfl
 have f2 : DataW.trod enc Tryz.prog w 0 (fun _ => true) true k 3 (([v0, v1, v2, v3, v4, v5, v6].drop 6).take (Tryz.prog.cellsOf 3)) = ys[2]? := hfl 2 _ rfl
 rw [hone8] at f0
 rw [hfive] at f1
 rw [hone] at f2
 have yl : ys.length = 3 := hyl
 have t0 : DataW.trod enc Tryz.prog w 0 (fun _ => true) true k 5 [v0] = some (ys[0]'(by omega)) := f0.trans (List.getElem?_eq_getElem _)
 have t1 : DataW.trod enc Tryz.prog w 0 (fun _ => true) true k 30 [v1, v2, v3, v4, v5] = some (ys[1]'(by omega)) := f1.trans (List.getElem?_eq_getElem _)
 have t2 : DataW.trod enc Tryz.prog w 0 (fun _ => true) true k 3 [v6] = some (ys[2]'(by omega)) := f2.trans (List.getElem?_eq_getElem _)
 obtain ⟨a0, rfl, l0, m0⟩ := smallC t0
 obtain ⟨x, rfl, rfl, rfl, rfl, rfl, i1, i2⟩ := event_C64 t1
 obtain ⟨a2, rfl⟩ := intC t2
 exact ⟨⟨a0, x, a2⟩, ⟨⟨l0, m0⟩, i1, i2⟩, rfl, rfl, rfl, rfl, rfl, rfl, rfl⟩
set_option maxRecDepth 100000 in
/-- A slice of acts, opened. -/
theorem acts_argQ {base : Nat} {H : Type} {enc : TypeId × Value → H} {W : World} {v : Value} {d : DataW H} {ps : List MemPlace}
  (hval : Value.okWide Tryz.prog W .any base 23 v) (h : DataW.Trod enc Tryz.prog W 0 (fun _ => true) true 23 v d ps) : ∃ a n cap xs, v = .slice a n cap ∧ CasIn W a xs ∧ (∀ x ∈ xs, (0 ≤ x.kind ∧ x.kind < 256) ∧ I64 x.x.name.1 ∧ I64 x.x.name.2) ∧ xs.length = n ∧ n ≤ cap := by
 obtain ⟨A, n, cap, rfl⟩ := okWide_slice Tryz.underlying23 hval
 obtain ⟨fuel, hf⟩ := h
 rcases open_slice Tryz.underlying23 hf with ⟨hcs, _⟩ | ⟨a, len, cap', m, _, D, Pl, hcs, _, hl, hm, hz, _, hi⟩
 ·simp [Value.cells] at hcs
  obtain ⟨rfl, rfl, rfl⟩ := hcs
  exact ⟨none, 0, 0, [], rfl, fun j x hj => by simp at hj, fun x hx => by simp at hx, rfl, Nat.le_refl _⟩
 ·simp [Value.cells] at hcs
  obtain ⟨rfl, rfl, rfl⟩ := hcs
  have hmn : n ≤ m := by rw [hz]; split <;> omega
  have key : ∀ i, i < n → ∃ x : Ca, ((0 ≤ x.kind ∧ x.kind < 256) ∧ I64 x.x.name.1 ∧ I64 x.x.name.2) ∧ ∃ g o, a = ⟨g, o, none⟩ ∧ CaAt W g (o + i * 7) x := fun i hin => by
   obtain ⟨cs, hc, ht⟩ := hi i (by omega)
   rw [show Tryz.prog.cellsOf 33 = 7 by kernel_rfl] at hc
   obtain ⟨_, hcl, hat⟩ := World.cells?_some hc
   match cs, hcl with
   | [v0, v1, v2, v3, v4, v5, v6], _ =>
   have c0 := hat 0 (by omega)
   have c1 := hat 1 (by omega)
   have c2 := hat 2 (by omega)
   have c3 := hat 3 (by omega)
   have c4 := hat 4 (by omega)
   have c5 := hat 5 (by omega)
   have c6 := hat 6 (by omega)
   obtain ⟨x, hx, rfl, rfl, rfl, rfl, rfl, rfl, rfl⟩ := actQ7 ht
   obtain ⟨cs', hc', _⟩ := hi 0 (by omega)
   rw [show Tryz.prog.cellsOf 33 = 7 by kernel_rfl] at hc'
   obtain ⟨_, hcl', hat'⟩ := World.cells?_some hc'
   have z0 := hat' 0 (by omega)
   rw [List.getElem?_eq_getElem (by omega)] at z0
   obtain ⟨b, off, spot⟩ := a
   have hspot : spot = none := by simpa [Addr.add] using World.cell?_spot z0
   subst hspot
   rw [Addr.add_mid, Addr.add_mid] at c0 c1 c2 c3 c4 c5 c6
   exact ⟨x, hx, b, off, rfl, c0, c1, c2, c3, c4, c5, c6⟩
  obtain ⟨xs, hxl, hx⟩ := listC n key
  refine ⟨some a, n, cap, xs, rfl, fun j x hj => ?_, fun x hx' => ?_, hxl, by simpa using hl⟩
  ·obtain ⟨_, g, o, rfl, q⟩ := hx j x hj
   exact ⟨g, o, rfl, q⟩
  ·obtain ⟨j, hj⟩ := List.getElem?_of_mem hx'
   exact (hx j x hj).1
end Go.Proofs.YtieeloealklkgaaGreat

namespace Go.Proofs.YtieeloealklkgaaGreat.calendarPlays
open Go.ChangeShapes Go.WideShapes Go.ChangeAt Go.RowKit Go.Proofs.YtieeloealklkgaaGreat

set_option maxRecDepth 100000 in
theorem lifted (os : Os) (started : os.Started) (H : Type) (enc : TypeId × Value → H) :
  ReturnsInHanded {} Tryz.checked os 3 .any (Rows.calendarPlaysSpec.pre6 enc Tryz.prog Tryz.f3 Rows.calendarPlaysRow.domain false) (Rows.calendarPlaysSpec.post enc Tryz.prog Tryz.f3 false true false false) := by
 refine returnsInHanded_of_change (C := Tryz.checked) knobC started (by kernel_rfl) Tryz.func3
  (ChangeSpec.witness6 (enc := enc) (C := Tryz.checked) false ⟨#[], #[.slice none 0 0, .int .u8 0, .slice none 0 0], []⟩ 8 (by kernel_rfl) (by kernel_rfl) (by kernel_rfl) (by kernel_rfl)) ?_
 intro W base args ds gs before hval0 hW hcnd _
 have hval : ∀ (j : Nat) t v, Tryz.f3.params[j]? = some t → args[j]? = some v → Value.okWide Tryz.prog W .any base t v := hval0
 have hW' := hW
 obtain ⟨p, q, hA0, hV, rfl, hfz, hnd⟩ := hW
 have hA : DataW.TrodAll enc Tryz.prog W 0 (fun _ => true) true Tryz.f3.params.toList args.toList ds p := hA0
 rw [Tryz.params3] at hA hval
 obtain ⟨v0, vs0, d0, ds0, p0, q0, hargs, rfl, rfl, h0, r0⟩ := trodAll_cons hA
 obtain ⟨v1, vs1, d1, ds1, p1, q1, rfl, rfl, rfl, h1, r1⟩ := trodAll_cons r0
 obtain ⟨v2, vs2, d2, ds2, p2, q2, rfl, rfl, rfl, h2, r2⟩ := trodAll_cons r1
 obtain ⟨rfl, rfl, rfl⟩ := trodAll_nil r2
 obtain rfl : args = #[v0, v1, v2] := by cases args; simp_all
 obtain ⟨rfl, rfl⟩ := trodVars_none hV
 clear hA0 hval0
 simp only [List.append_nil] at hW'
 have l0 : ∀ x ∈ p0, x.block < W.heap.size := fun x hx => hW'.lt x (by simp [hx])
 have t0 := fun W' (hb : Below W.heap.size W W') => Below.trod laidC (by kernel_rfl) (of_decide_eq_true (by kernel_rfl)) h0 hb l0
 have l1 : ∀ x ∈ p1, x.block < W.heap.size := fun x hx => hW'.lt x (by simp [hx])
 have t1 := fun W' (hb : Below W.heap.size W W') => Below.trod laidC (by kernel_rfl) (of_decide_eq_true (by kernel_rfl)) h1 hb l1
 have l2 : ∀ x ∈ p2, x.block < W.heap.size := fun x hx => hW'.lt x (by simp [hx])
 have t2 := fun W' (hb : Below W.heap.size W W') => Below.trod laidC (by kernel_rfl) (of_decide_eq_true (by kernel_rfl)) h2 hb l2
 obtain ⟨a0, n0, c0, xs0, rfl, hx0, hl0, hc0⟩ := events_argC (hval 0 22 v0 rfl rfl) h0
 obtain ⟨a1, rfl, _, _, w1⟩ := open_int Tryz.underlying5 (hval 1 5 v1 rfl rfl) h1
 have b1 : 0 ≤ a1 ∧ a1 < 256 := by
  have := bounds_u8 w1
  omega
 obtain ⟨a2, n2, c2, xs2, rfl, hx2, hk2, hl2, hc2⟩ := acts_argQ (hval 2 23 v2 rfl rfl) h2
 refine (CalendarPlays_any xs0 hx0 hl0 hc0 b1 xs2 hx2 hk2 hl2 hc2).mono fun e W' ⟨he, hf⟩ => ?_
 have hg : Below W.heap.size W W' := hf.below (Nat.le_refl _) (fun _ _ h => h)
 subst he
 exact ⟨_, rfl, post_belowC (pa := p0 ++ (p1 ++ (p2 ++ ([])))) (pv := []) hW' (fun _ _ _ => (trodAll_cons_mk (shut_bool Tryz.underlying4 _) trodAll_mk0)) (trodAll_cons_mk (t0 _ hg) (trodAll_cons_mk (t1 _ hg) (trodAll_cons_mk (t2 _ hg) trodAll_mk0))) (fun _ _ => rfl) hg⟩

theorem over : Rows.calendarPlaysRow.holds Tryz.pinned (OpenSpec.ofChange Rows.calendarPlaysSpec) :=
 OpenClaim.holds_of_wide 3 Tryz.f3 rfl rfl rfl rfl rfl rfl rfl ⟨rfl, rfl, rfl, rfl, rfl⟩ rfl rfl rfl rfl rfl (by kernel_rfl) Tryz.func3 (by kernel_rfl)
  (of_decide_eq_true (by kernel_rfl)) (by unfold Func.isWrapper; first | (rw [if_pos (by decide +kernel)]; kernel_rfl) | (rw [if_neg (by decide +kernel)]; exact ⟨rfl, rfl⟩))
  (fun os started H enc _ => lifted os started H enc)

theorem proved : Rows.CalendarPlaysSaid := over
#print axioms proved
end Go.Proofs.YtieeloealklkgaaGreat.calendarPlays
