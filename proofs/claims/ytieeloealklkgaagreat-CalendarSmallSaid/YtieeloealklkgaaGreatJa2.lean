/-
  What the laws on spaces lean on and what knows no space: rows, names, sets of names.
-/
import Derived.Test.YtieeloealklkgaaGreatJa1
import Derived.Test.YtieeloealklkgaaGreatScopeIn
import Derived.Outline
import Derived.StillTailTactics
import Derived.OwnWalk
import Derived.WalkKit
import Derived.Sort.OwnSorted
import Derived.Lib.QuietBelow
import Derived.Test.YtieeloealklkgaaGreatShelf
import Derived.Lib.OwnBridge
import Derived.LoopNIn
set_option linter.unusedSimpArgs false
set_option linter.unusedVariables false
set_option maxRecDepth 100000

/-
  Heap.sink.
-/
namespace Go.Proofs.YtieeloealklkgaaGreat
open Go.RowKit
attribute [local go_sem ↓] Go.wp_at_zero Go.wp_at_succ
attribute [local go_sem] Oper.semAt_some wide_fn wide_depth wide_fnR wide_depthR

theorem Fr.later {w w' : World} (h : Fr none' w w') {p : Addr} {v : Value} (hc : w.cell? p = some v) : w'.cell? p = some v := by
 rw [h.cell (World.block_lt_of_cell? _ _ hc) id]; exact hc
theorem MemH.fr {S : Nat → Prop} {w w' : World} {hb bt ba cap n ca : Nat} {t : List Ent} {A : List Nat} (h : MemH w hb bt ba cap n ca t A) (hf : Fr S w w') (h1 : ¬ S hb) (h2 : ¬ S bt) (h3 : ¬ S ba) : MemH w' hb bt ba cap n ca t A :=
 h.of_heap (hf.block _ h.lt.1 h1) (hf.block _ h.lt.2.1 h2) (hf.block _ h.lt.2.2 h3)
theorem SetFr.fr {S : Nat → Prop} {bt ba : Nat} {w a b : World} (h : SetFr bt ba w a) (k : Fr S a b) (hS : ∀ k, S k → k < w.heap.size → False) : SetFr bt ba w b :=
 ⟨k.os.trans h.os, k.tape.trans h.tape, k.output.trans h.output, Nat.le_trans h.size k.size, fun i hi h1 h2 => (k.block i (Nat.lt_of_lt_of_le hi h.size) (fun hs => hS i hs hi)).trans (h.block i hi h1 h2), Nat.le_trans h.drawn k.drawn⟩
theorem SetFr.to {bt ba : Nat} {w w' : World} (h : SetFr bt ba w w') : Fr (fun k => k = bt ∨ k = ba) w w' :=
 ⟨h.os, h.tape, h.output, h.size, fun k hk hs => h.block k hk (fun e => hs (.inl e)) (fun e => hs (.inr e)), h.drawn⟩
theorem EntAt.fr {S : Nat → Prop} {w w' : World} {B : Nat} {x : Ent} (h : EntAt w B x) (hf : Fr S w w') (hs : ¬ S B) : EntAt w' B x := (hf.block B h.lt hs).trans h
/-- A region is left in one way. -/
def OnlyN (Q : Exit → Act → World → Prop) : Exit → Act → World → Prop
 | .normal, a, w => Q .normal a w
 | _, _, _ => False
theorem OnlyN_normal (Q : Exit → Act → World → Prop) (a : Act) (w : World) : OnlyN Q .normal a w = Q .normal a w := rfl
theorem wpIn_regionW {P : Program} {c : Code} {Q : Exit → Act → World → Prop} {a : Act} {w : World} (h : c.wp P (OnlyN Q) a w) : c.wpIn Fence.wide 0 P Q a w :=
 wpIn_mono (wpIn_wide.2 h) (fun e a w hq => by cases e <;> first | exact hq | exact hq.elim)
/-- The least below, as a number. -/
def lv : Option Nat → Int
 | none => -1
 | some m => m

set_option maxHeartbeats 4000000 in
theorem sink_in (hb bt ba cap n ca i0 : Nat) (t : List Ent) (A : List Nat) (w : World) (h : MemH w hb bt ba cap n ca t A) (hi : i0 < t.length) (hm : t.length ≤ 10000) (hp : ∀ k, k < t.length → (at' t k).place < n) :
  CallsIn Fence.wide 0 Tryz.prog 165 #[.pointer (some ⟨hb, 0, none⟩), .int .i64 i0] w fun e' w' => e' = .returned (.tuple #[]) ∧ MemH w' hb bt ba cap n ca (sinkL ordE (at' t i0) t i0).1 (sinkA ordE Ent.place (at' t i0) t A i0) ∧ SetFr bt ba w w' := by
 have q1 : (0 : Int) ≤ (i0 : Int) := by omega
 obtain ⟨x, hx⟩ : ∃ x, at' t i0 = x := ⟨_, rfl⟩
 have hxp : x.place < n := by rw [← hx]; exact hp i0 hi
 rw [hx]
 have hl := h.lt
 obtain ⟨m, hm'⟩ : ∃ m, t.length = m := ⟨_, rfl⟩
 obtain ⟨R, hR⟩ : ∃ R, (sinkL ordE x t i0).1 = R := ⟨_, rfl⟩
 obtain ⟨RA, hRA⟩ : ∃ RA, sinkA ordE Ent.place x t A i0 = RA := ⟨_, rfl⟩
 obtain ⟨B, hB⟩ : ∃ B, w.heap.size = B := ⟨_, rfl⟩
 obtain ⟨V0, hV0⟩ : ∃ V0, w.alloc (.cells #[.pointer (some ⟨hb, 0, none⟩)] 39) = V0 := ⟨_, rfl⟩
 have frV : Fr none' w V0 := by rw [← hV0]; exact (Fr.refl _ _).alloc _
 have hV := h.on (frV.below (Nat.le_refl _) (fun _ _ => id))
 have hVs : V0.heap.size = B + 1 := by rw [← hV0, ← hB]; simp
 have bV : Box V0 B (.pointer (some ⟨hb, 0, none⟩)) := by rw [← hV0, ← hB]; exact Box.new _ _ _
 obtain ⟨e0, e1, e2, e3⟩ := hV.ent hi
 rw [hx] at e0 e1 e2 e3
 have k1 : V0.cell? ⟨hb, 1, none⟩ = some (.slice (some ⟨bt, 0, none⟩) t.length cap) := by rw [cells_at hV.hd]; rfl
 have b1 := bV.cell
 obtain ⟨W0, hW0⟩ : ∃ W0, V0.alloc (.cells #[.int .i64 x.key.time, .int .i64 x.key.source, .int .i64 x.key.seq, .int .i64 x.place] 192) = W0 := ⟨_, rfl⟩
 have fr0 : Fr none' w W0 := by rw [← hW0]; exact frV.alloc _
 have hst : MemH W0 hb bt ba cap n ca t A ∧ t.length = m ∧ (sinkL ordE x t i0).1 = R ∧ sinkA ordE Ent.place x t A i0 = RA ∧ ∀ k, k < m → (at' t k).place < n :=
  ⟨h.on (fr0.below (Nat.le_refl _) (fun _ _ => id)), hm', hR, hRA, hm' ▸ hp⟩
 have hEB : EntAt W0 (B + 1) x := by
  rw [← hW0, ← hVs]
  exact EntAt.new V0 x
 have hBox : Box W0 B (.pointer (some ⟨hb, 0, none⟩)) := by rw [← hW0]; exact bV.alloc _
 have hsz0 : W0.heap.size = B + 2 := by rw [← hW0, World.size_alloc, hVs]
 have hne : bt < B ∧ ba < B ∧ hb < B := by omega
 have hmb : hb ≠ bt ∧ hb ≠ ba ∧ bt ≠ ba := ⟨h.ne1, h.ne2, h.ne3⟩
 rw [hR, hRA]
 rw [hm'] at k1 hi hm
 have q2 : (i0 : Int) < (m : Int) := by omega
 have Hst := Lib.hid hst
 have HV0 := Lib.hid hV0
 have HVs := Lib.hid hVs
 have HW0 := Lib.hid hW0
 have HEB := Lib.hid hEB
 have HBox := Lib.hid hBox
 have HB := Lib.hid hB
 have Hne := Lib.hid hne
 have Hmb := Lib.hid hmb
 have Fr0 := Lib.hid fr0
 have Hsz0 := Lib.hid hsz0
 clear hB h hp hm' hR hRA hst hEB hx hl hne hBox hmb fr0 hsz0 hV0 frV hV hVs bV hW0
 refine callsIn_of_wp_marks Tryz.func165 rfl trivial ?_ rfl
 simp only [Tryz.ntmps165, List.size_toArray, List.length_cons, List.length_nil, Nat.reduceAdd, Nat.reduceSub, Array.replicate_succ, Array.replicate_zero, List.push_toArray, List.append_toArray, List.nil_append, List.cons_append]
 gi_wp2_with fail
 rw [HB.out, HV0.out]
 apply wpIn_scope_straight
 gi_wp2_with fail
 rw [HVs.out, HW0.out]
 apply wpIn_label
 gi_wp2_with fail
 clear k1 e0 e1 e2 e3 b1
 refine wpIn_loop (fun a' w' => ∃ (u1 u5 u14 u15 u16 u39 u40 u41 u42 u43 u44 u45 u46 u47 u48 u49 u50 u51 u52 u53 u54 u55 u56 u57 u58 u59 u60 u61 u62 u63 : Value) (ds : List Deferred), (∃ (j : Nat) (t' : List Ent) (A' : List Nat), u1 = .int .i64 j ∧ j < m ∧ Hid (MemH w' hb bt ba cap n ca t' A' ∧ t'.length = m ∧ (sinkL ordE x t' j).1 = R ∧ sinkA ordE Ent.place x t' A' j = RA ∧ ∀ k, k < m → (at' t' k).place < n) ∧ Hid (EntAt w' (B + 1) x) ∧ Hid (Box w' B (.pointer (some ⟨hb, 0, none⟩))) ∧ Hid (SetFr bt ba w w') ∧ Hid (Marks B ds w') ∧ B + 1 < w'.heap.size) ∧ a' = { tmps := #[.pointer (some ⟨hb, 0, none⟩), u1, .pointer (some ⟨B, 0, none⟩), undef, .pointer (some ⟨B + 1, 0, none⟩), u5, undef, .pointer (some ⟨hb, 0, none⟩), .pointer (some ⟨hb, 0, none⟩), .pointer (some ⟨hb, 1, none⟩), .slice (some ⟨bt, 0, none⟩) m cap, .int .i64 i0, .pointer (some ⟨bt, i0 * 4, none⟩), .agg #[.int .i64 x.key.time, .int .i64 x.key.source, .int .i64 x.key.seq, .int .i64 x.place], u14, u15, u16, undef, undef, undef, undef, undef, undef, undef, undef, undef, undef, undef, undef, undef, undef, undef, undef, undef, undef, undef, undef, undef, undef, u39, u40, u41, u42, u43, u44, u45, u46, u47, u48, u49, u50, u51, u52, u53, u54, u55, u56, u57, u58, u59, u60, u61, u62, u63, undef, undef, undef, undef], defers := ds }) (fun a' _ => m - (intOf (a'.tmps.getD 1 undef)).toNat) ?start ?round
 case start =>
  repeat (apply Exists.intro)
  refine ⟨⟨i0, t, A, rfl, hi, Hst, HEB, HBox, ?_, Marks.nil _ _, by rw [Hsz0.out]; omega⟩, rfl⟩
  exact (SetFr.refl bt ba w).fr Fr0.out (fun _ h _ => h)
 case round =>
  rintro a' wr ⟨u1, u5, u14, u15, u16, u39, u40, u41, u42, u43, u44, u45, u46, u47, u48, u49, u50, u51, u52, u53, u54, u55, u56, u57, u58, u59, u60, u61, u62, u63, ds, ⟨j, t', A', rfl, hj, hinv, hE, hbx, hfr, hds, hBs⟩, rfl⟩
  obtain ⟨im, ilen, iR, iA, ip⟩ := hinv.out
  have z0 : (0 : Int) ≤ (j : Int) := by omega
  have z1 : (j : Int) < (m : Int) := by omega
  obtain ⟨hn1, hn2, hn3⟩ := Hne.out
  have Him := Lib.hid im
  have hbl := im.lt
  obtain ⟨L, hL⟩ : ∃ L, wr.heap.size = L := ⟨_, rfl⟩
  have hbxc := hbx.out.cell
  have hB0 : B < wr.heap.size := by omega
  have HL := Lib.hid hL
  clear im hinv hL
  gi_wp2_with fail
  refine (callsIn_wide.2 (below_any hb j _)).mono ?_
  rintro e w1 ⟨rfl, rfl⟩
  gi_wp2_with fail
  rw [HL.out] at hbl hBs hB0
  obtain ⟨Wl, hWl⟩ : ∃ Wl, ((wr.alloc (.cells #[.int .i64 (-1)] 3)).alloc (.cells #[.pointer (some ⟨hb, 0, none⟩)] 39)).alloc (.cells #[.int .i64 j] 3) = Wl := ⟨_, rfl⟩
  simp only [HL.out, hWl]
  have frl : Fr none' wr Wl := by rw [← hWl]; exact (((Fr.refl _ _).alloc _).alloc _).alloc _
  have lsz : Wl.heap.size = L + 3 := by rw [← hWl]; simp [HL.out]
  have bL : Box Wl L (.int .i64 (-1)) := by rw [← hWl, ← HL.out]; exact ((Box.new _ _ _).alloc _).alloc _
  have bH : Box Wl (L + 1) (.pointer (some ⟨hb, 0, none⟩)) := by
   rw [← hWl, ← HL.out]
   have := Box.new (wr.alloc (.cells #[.int .i64 (-1)] 3)) (.pointer (some ⟨hb, 0, none⟩)) 39
   rw [World.size_alloc] at this
   exact this.alloc _
  have bI : Box Wl (L + 1 + 1) (.int .i64 j) := by
   rw [← hWl, ← HL.out]
   have := Box.new ((wr.alloc (.cells #[.int .i64 (-1)] 3)).alloc (.cells #[.pointer (some ⟨hb, 0, none⟩)] 39)) (.int .i64 j) 3
   rwa [World.size_alloc, World.size_alloc] at this
  have mL : MemH Wl hb bt ba cap n ca t' A' := Him.out.fr frl id id id
  have hHd : Header Wl hb bt m cap := by unfold Header; rw [cells_at mL.hd, ilen]; rfl
  have it := (below_iter hb bt cap m j (L + 1 + 1) (L + 1) Wl hj hm bI bH hHd).x
  have Frl := Lib.hid frl
  have Lsz := Lib.hid lsz
  have BL := Lib.hid bL
  have ML := Lib.hid mL
  have Ilen := Lib.hid ilen
  have IR := Lib.hid iR
  have IA := Lib.hid iA
  have Ip := Lib.hid ip
  have IP2 := ip
  clear hWl frl lsz bL bH bI mL hHd ilen iR iA ip IP2 hbxc
  have hkn : min (4 * j + 5) m - (4 * j + 1) = kids t' j := by unfold kids; rw [Ilen.out]
  rw [hkn] at it
  have Hkn := Lib.hid hkn
  clear hkn
  trace_state
  refine wpIn_iterF (gf := 168) rfl (by intro args w; rfl) it (Keep.refl _ _) (fun _ => rfl) (fun k hk => hk.elim) (fun k hk => by rw [Lsz.out]; omega)
   (fun q X W => Fr (fun k => k = L) Wl W ∧ Box W L (.int .i64 (lv (leastC ordE t' j q)))) (fun _ _ => False) ?hI (fun _ _ _ h _ => h.elim) ?h0
   (fun k T => (T.setIfInBounds 17 (.int .i64 k)).setIfInBounds 6 (.int .i64 k)) ?assign ?body ?done (fun _ _ _ _ h _ => h.elim)
  case hI =>
   rintro q X Y W4 W5 ⟨h1, h2⟩ hX hf hY
   rw [Lsz.out] at hX hf
   have hlt : ∀ k, k < L + 3 → ¬ (none' k ∨ X k ∨ k = L + 3 ∨ k = L + 3 + 1) := fun k hk h => by
    rcases h with h | h | h | h
    ·exact h
    ·have := hX k h; omega
    ·omega
    ·omega
   exact ⟨h1.trans' hf (fun k hk h => absurd h (hlt k (by rw [Lsz.out] at hk; exact hk))), h2.fr hf (hlt _ (by omega))⟩
  case h0 => exact ⟨Fr.refl _ _, BL.out⟩
  case assign =>
   intro l k W K hlt hK
   have HK := Lib.hid hK
   clear hK
   gi_wp2
   exact HK.out _ (Fr.refl _ _)
  case body =>
   rintro l q k X W r hxi ⟨hfr', hbL⟩ hXb hD hLo
   obtain ⟨hq, hk⟩ : q < kids t' j ∧ k = 4 * j + 1 + q := by
    have h1 := (List.getElem?_eq_some_iff.1 hxi).1
    rw [List.length_range'] at h1
    rw [List.getElem?_range' h1] at hxi
    injection hxi with hxi
    exact ⟨h1, by omega⟩
   have hkm : k < m := by have := hk; unfold kids at hq; rw [Ilen.out] at hq; omega
   have mW : MemH W hb bt ba cap n ca t' A' := ML.out.fr hfr' (by omega) (by omega) (by omega)
   have ew := mW.ent (i := k) (by rw [Ilen.out]; exact hkm)
   obtain ⟨s0, s1, s2, s3⟩ := ew
   obtain ⟨y, hy⟩ : ∃ y, at' t' k = y := ⟨_, rfl⟩
   rw [hy] at s0 s1 s2 s3
   have k1 : W.cell? ⟨hb, 1, none⟩ = some (.slice (some ⟨bt, 0, none⟩) m cap) := by rw [cells_at mW.hd, Ilen.out]; rfl
   have hbB : Box W B (.pointer (some ⟨hb, 0, none⟩)) := (hbx.out.fr Frl.out id).fr hfr' (by omega)
   have b1 := hbB.cell
   have c1 := hbL.cell
   have z2 : (0 : Int) ≤ (k : Int) := by omega
   have z3 : (k : Int) < (m : Int) := by omega
   have Hk := Lib.hid hk
   have Hy := Lib.hid hy
   have MW := Lib.hid mW
   have HXb := Lib.hid hXb
   clear hxi hD hLo hk hy mW hXb
   simp only [List.setIfInBounds_toArray, List.set_cons_zero, List.set_cons_succ]
   rcases hle : leastC ordE t' j q with _ | l
   ·rw [hle] at c1
    simp only [lv] at c1
    have Hle := Lib.hid hle
    clear hle s0 s1 s2 s3
    gi_wp2
    refine wpIn_round_held (S := fun W' => W' = W.drew) (by kernel_rfl) (by kernel_rfl) (by intro a w h; exact h) rfl (fun hHeld => ?_)
    refine tk2 (i := 0) (v := .int .i64 (-1)) ?_
    try simp only[pUt,pUn,sEt,sEz,sEs]
    refine tk2 (i := 1) (v := .bool true) ?_
    try simp only[pUt,pUn,sEt,sEz,sEs]
    refine tk2 (i := 2) (v := .bool true) ?_
    try simp only[pUt,pUn,sEt,sEz,sEs]
    refine tkf (i := 3) ?_
    try simp only[pUt,pUn,sEt,sEz,sEs]
    refine tkf (i := 4) ?_
    try simp only[pUt,pUn,sEt,sEz,sEs]
    refine tkf (i := 5) ?_
    try simp only[pUt,pUn,sEt,sEz,sEs]
    refine tkf (i := 6) ?_
    try simp only[pUt,pUn,sEt,sEz,sEs]
    refine tkf (i := 7) ?_
    try simp only[pUt,pUn,sEt,sEz,sEs]
    refine tkf (i := 8) ?_
    try simp only[pUt,pUn,sEt,sEz,sEs]
    refine tkf (i := 9) ?_
    try simp only[pUt,pUn,sEt,sEz,sEs]
    refine tkf (i := 10) ?_
    try simp only[pUt,pUn,sEt,sEz,sEs]
    refine tkf (i := 11) ?_
    try simp only[pUt,pUn,sEt,sEz,sEs]
    refine tkf (i := 12) ?_
    try simp only[pUt,pUn,sEt,sEz,sEs]
    refine tkf (i := 13) ?_
    try simp only[pUt,pUn,sEt,sEz,sEs]
    refine tkf (i := 14) ?_
    try simp only[pUt,pUn,sEt,sEz,sEs]
    refine tkf (i := 15) ?_
    try simp only[pUt,pUn,sEt,sEz,sEs]
    refine tkf (i := 16) ?_
    try simp only[pUt,pUn,sEt,sEz,sEs]
    refine tkf (i := 17) ?_
    try simp only[pUt,pUn,sEt,sEz,sEs]
    refine tkf (i := 18) ?_
    try simp only[pUt,pUn,sEt,sEz,sEs]
    refine tk2 (i := 19) (v := .bool true) ?_
    try simp only[pUt,pUn,sEt,sEz,sEs]
    refine wpAnyH_done (by kernel_rfl) ?_ _
    clear hHeld
    have hfz := hbL.frozen
    gi_wp2
    refine ⟨fun k => k = L, ((Fr.refl (fun k => k = L) W).drew).setCell (fun _ => rfl) _, ?_, (hfr'.drew).setCell (fun _ => rfl) _, ?_⟩
    ·intro k' hk' h
     subst hk'
     rw [Lsz.out] at h HXb
     rcases h with h | h | h | h
     ·omega
     ·have := HXb.out _ h; omega
     ·omega
     ·omega
    ·rw [leastC_succ, Hle.out]
     simp only [pickC, lv]
     rw [← Hk.out]
     exact hbL.set _
   ·rw [hle] at c1
    simp only [lv] at c1
    have hls := leastC_spec ordE_ord t' j q
    rw [hle] at hls
    obtain ⟨hl1, hl2⟩ : 4 * j + 1 ≤ l ∧ l < 4 * j + 1 + q := by
     rcases hls with ⟨h, _⟩ | ⟨l', h, h1, h2, _⟩
     ·cases h
     ·injection h with h; subst h; exact ⟨h1, h2⟩
    have hlm : l < m := by have := Hk.out; omega
    obtain ⟨v0, v1, v2, v3⟩ := MW.out.ent (i := l) (by rw [Ilen.out]; exact hlm)
    obtain ⟨u, hu⟩ : ∃ u, at' t' l = u := ⟨_, rfl⟩
    rw [hu] at v0 v1 v2 v3
    have Hu := Lib.hid hu
    have Hle := Lib.hid hle
    have z4 : (0 : Int) ≤ (l : Int) := by omega
    have z5 : (l : Int) < (m : Int) := by omega
    have d1 : decide ((l : Int) < 0) = false := decide_eq_false (by omega)
    clear hu hle hls
    gi_wp2
    refine wpIn_round_held (S := fun W' => W'.cell? ⟨L, 0, none⟩ = some (.int .i64 l) ∧ W'.cell? ⟨B, 0, none⟩ = some (.pointer (some ⟨hb, 0, none⟩)) ∧ W'.cell? ⟨hb, 1, none⟩ = some (.slice (some ⟨bt, 0, none⟩) m cap) ∧
     W'.cell? ⟨bt, k * 4, none⟩ = some (.int .i64 y.key.time) ∧ W'.cell? ⟨bt, k * 4 + 1, none⟩ = some (.int .i64 y.key.source) ∧ W'.cell? ⟨bt, k * 4 + 2, none⟩ = some (.int .i64 y.key.seq) ∧ W'.cell? ⟨bt, k * 4 + 3, none⟩ = some (.int .i64 y.place) ∧
     W'.cell? ⟨bt, l * 4, none⟩ = some (.int .i64 u.key.time) ∧ W'.cell? ⟨bt, l * 4 + 1, none⟩ = some (.int .i64 u.key.source) ∧ W'.cell? ⟨bt, l * 4 + 2, none⟩ = some (.int .i64 u.key.seq) ∧ W'.cell? ⟨bt, l * 4 + 3, none⟩ = some (.int .i64 u.place)) (by kernel_rfl) (by kernel_rfl) (by intro a w h; exact h) ⟨c1, b1, k1, s0, s1, s2, s3, v0, v1, v2, v3⟩ (fun hHeld => ?_)
    refine tk1 (i := 0) (v := .int .i64 l) ?_
    try simp only[pUt,pUn,sEt,sEz,sEs]
    refine tk1 (i := 1) (v := .bool false) ?_
    try simp only[pUt,pUn,sEt,sEz,sEs]
    refine tk1 (i := 2) (v := .bool false) ?_
    try simp only[pUt,pUn,sEt,sEz,sEs]
    refine tk1 (i := 3) (v := .pointer (some ⟨hb, 0, none⟩)) ?_
    try simp only[pUt,pUn,sEt,sEz,sEs]
    refine tk1 (i := 4) (v := .pointer (some ⟨hb, 0, none⟩)) ?_
    try simp only[pUt,pUn,sEt,sEz,sEs]
    refine tk1 (i := 5) (v := .pointer (some ⟨hb, 1, none⟩)) ?_
    try simp only[pUt,pUn,sEt,sEz,sEs]
    refine tk1 (i := 6) (v := .slice (some ⟨bt, 0, none⟩) m cap) ?_
    try simp only[pUt,pUn,sEt,sEz,sEs]
    refine tk1 (i := 7) (v := .int .i64 k) ?_
    try simp only[pUt,pUn,sEt,sEz,sEs]
    refine tk1 (i := 8) (v := .pointer (some ⟨bt, k * 4, none⟩)) ?_
    try simp only[pUt,pUn,sEt,sEz,sEs]
    refine tk1 (i := 9) (v := .agg #[.int .i64 y.key.time, .int .i64 y.key.source, .int .i64 y.key.seq, .int .i64 y.place]) ?_
    try simp only[pUt,pUn,sEt,sEz,sEs]
    refine tk1 (i := 10) (v := .pointer (some ⟨hb, 0, none⟩)) ?_
    try simp only[pUt,pUn,sEt,sEz,sEs]
    refine tk1 (i := 11) (v := .pointer (some ⟨hb, 0, none⟩)) ?_
    try simp only[pUt,pUn,sEt,sEz,sEs]
    refine tk1 (i := 12) (v := .pointer (some ⟨hb, 1, none⟩)) ?_
    try simp only[pUt,pUn,sEt,sEz,sEs]
    refine tk1 (i := 13) (v := .slice (some ⟨bt, 0, none⟩) m cap) ?_
    try simp only[pUt,pUn,sEt,sEz,sEs]
    refine tk1 (i := 14) (v := .int .i64 l) ?_
    try simp only[pUt,pUn,sEt,sEz,sEs]
    refine tk1 (i := 15) (v := .pointer (some ⟨bt, l * 4, none⟩)) ?_
    try simp only[pUt,pUn,sEt,sEz,sEs]
    refine tk1 (i := 16) (v := .agg #[.int .i64 u.key.time, .int .i64 u.key.source, .int .i64 u.key.seq, .int .i64 u.place]) ?_
    try simp only[pUt,pUn,sEt,sEz,sEs]
    obtain ⟨c, hc⟩ : ∃ c, ordE y u = c := ⟨_, rfl⟩
    have HO := order_any y u W.drew
    rw [hc] at HO
    simp only [entV] at HO
    refine take_call (i := 17) rfl (by kernel_rfl) (by kernel_rfl) (fun K hK => ?_)
    go_simp
    refine HO.mono ?_
    rintro e1 w1 ⟨rfl, hf1⟩
    go_wp2_with fail
    refine hK.out _ _ ⟨hf1.later c1, hf1.later b1, hf1.later k1, hf1.later s0, hf1.later s1, hf1.later s2, hf1.later s3, hf1.later v0, hf1.later v1, hf1.later v2, hf1.later v3⟩ (fun hHeld2 => ?_)
    clear hK K HO
    have hbL1 : Box w1 L (.int .i64 l) := by
     have := (hbL.of_block rfl : Box W.drew L _).fr hf1 id
     rwa [Hle.out] at this
    have fr1 : Fr (fun k => k = L) Wl w1 := (hfr'.drew).trans' hf1 (fun _ _ h => h.elim)
    have frW : Fr none' W w1 := ((Fr.refl _ _).drew).trans hf1
    have Hc := Lib.hid hc
    have Fr1 := Lib.hid fr1
    have FrW := Lib.hid frW
    clear hc hf1 fr1 frW c1 b1 k1 s0 s1 s2 s3 v0 v1 v2 v3 hHeld
    try simp only[pUt,pUn,sEt,sEz,sEs]
    have hbn := hbL1.frozen
    have hbc := hbL1.cell
    by_cases hc0 : c < 0
    ·have d0 : decide (c < 0) = true := decide_eq_true hc0
     refine tk1 (i := 18) (v := .bool true) ?_
     try simp only[pUt,pUn,sEt,sEz,sEs]
     refine tk1 (i := 19) (v := .bool true) ?_
     try simp only[pUt,pUn,sEt,sEz,sEs]
     refine wpAnyH_done (by kernel_rfl) ?_ _
     clear hHeld2 d1
     gi_wp2
     refine ⟨fun k => k = L, Fr.setCell (S := fun k => k = L) (FrW.out.mono (fun _ _ h => h.elim)) (fun _ => rfl) _, ?_, Fr1.out.setCell (fun _ => rfl) _, ?_⟩
     ·intro k' hk' h
      subst hk'
      rw [Lsz.out] at h HXb
      rcases h with h | h | h | h
      ·omega
      ·have := HXb.out _ h; omega
      ·omega
      ·omega
     ·rw [leastC_succ, Hle.out]
      simp only [pickC]
      rw [← Hk.out, Hy.out, Hu.out, Hc.out, if_pos hc0]
      simp only [lv]
      exact hbL1.set _
    ·have d0 : decide (c < 0) = false := decide_eq_false hc0
     refine tk1 (i := 18) (v := .bool false) ?_
     try simp only[pUt,pUn,sEt,sEz,sEs]
     refine tk1 (i := 19) (v := .bool false) ?_
     try simp only[pUt,pUn,sEt,sEz,sEs]
     refine wpAnyH_done (by kernel_rfl) ?_ _
     clear hHeld2 d1
     gi_wp2
     refine ⟨none', FrW.out, fun _ h => h.elim, Fr1.out, ?_⟩
     rw [leastC_succ, Hle.out]
     simp only [pickC]
     rw [← Hk.out, Hy.out, Hu.out, Hc.out, if_neg (by omega)]
     exact hbL1
  case done =>
   rintro D X W hDe ⟨hfr', hbL⟩ hK
   rw [Lsz.out] at hDe
   subst hDe
   rw [List.length_range'] at hbL
   have hDs : L + 3 < W.heap.size := (Array.getElem?_eq_some_iff.1 hK).1
   have frr : Fr none' wr W := Frl.out.trans' hfr' (fun k hk h => by rw [HL.out] at hk; omega)
   have hmk : Marks B ({ target := .collected (L + 3), args := #[] } :: ds) W :=
    hds.out.cons (D := L + 3) frr (fun _ h _ => h.elim) (by omega) (by rw [HL.out]; omega) hK
   have hsf : SetFr bt ba w W := hfr.out.fr frr (fun _ h _ => h)
   have mW : MemH W hb bt ba cap n ca t' A' := ML.out.fr hfr' (by omega) (by omega) (by omega)
   have hEW : EntAt W (B + 1) x := (hE.out.fr Frl.out id).fr hfr' (by omega)
   have hbB : Box W B (.pointer (some ⟨hb, 0, none⟩)) := (hbx.out.fr Frl.out id).fr hfr' (by omega)
   obtain ⟨g1, g2, g3, g4⟩ := hEW.ent
   have k1 : W.cell? ⟨hb, 1, none⟩ = some (.slice (some ⟨bt, 0, none⟩) m cap) := by rw [cells_at mW.hd, Ilen.out]; rfl
   have b1 := hbB.cell
   have c1 := hbL.cell
   have Hmk := Lib.hid hmk
   have Hsf := Lib.hid hsf
   have MW := Lib.hid mW
   have HEW := Lib.hid hEW
   have HbB := Lib.hid hbB
   have HbL := Lib.hid hbL
   clear hK frr hmk hsf mW hEW hbB it
   rcases hle : leastC ordE t' j (kids t' j) with _ | l
   ·have hR1 : t'.set j x = R := by rw [← IR.out, sinkL, hle]
    have hA1 : A'.set x.place (j + 1) = RA := by rw [← IA.out, sinkA, hle]
    rw [hle] at c1
    simp only [lv] at c1
    have HR1 := Lib.hid hR1
    have HA1 := Lib.hid hA1
    clear hR1 hA1 hle hbL g1 g2 g3 g4
    gi_wp2
    refine wpIn_regionW ?_
    refine wp_region_held_drew (S := fun W' => W' = W.drew) (by kernel_rfl) rfl (fun hHeld => ?_)
    refine tk2 (i := 0) (v := .int .i64 (-1)) ?_
    try simp only[pUt,pUn,sEt,sEz,sEs]
    refine tk2 (i := 1) (v := .bool true) ?_
    try simp only[pUt,pUn,sEt,sEz,sEs]
    refine tk2 (i := 2) (v := .bool true) ?_
    try simp only[pUt,pUn,sEt,sEz,sEs]
    refine tkf (i := 3) ?_
    try simp only[pUt,pUn,sEt,sEz,sEs]
    refine tkf (i := 4) ?_
    try simp only[pUt,pUn,sEt,sEz,sEs]
    refine tkf (i := 5) ?_
    try simp only[pUt,pUn,sEt,sEz,sEs]
    refine tkf (i := 6) ?_
    try simp only[pUt,pUn,sEt,sEz,sEs]
    refine tkf (i := 7) ?_
    try simp only[pUt,pUn,sEt,sEz,sEs]
    refine tkf (i := 8) ?_
    try simp only[pUt,pUn,sEt,sEz,sEs]
    refine tkf (i := 9) ?_
    try simp only[pUt,pUn,sEt,sEz,sEs]
    refine tkf (i := 10) ?_
    try simp only[pUt,pUn,sEt,sEz,sEs]
    refine tkf (i := 11) ?_
    try simp only[pUt,pUn,sEt,sEz,sEs]
    refine tkf (i := 12) ?_
    try simp only[pUt,pUn,sEt,sEz,sEs]
    refine tk2 (i := 13) (v := .bool true) ?_
    try simp only[pUt,pUn,sEt,sEz,sEs]
    refine wpAnyH_done (by kernel_rfl) ?_ _
    rw [OnlyN_normal]
    clear hHeld
    obtain ⟨g1, g2, g3, g4⟩ := HEW.out.ent
    gi_wp2_with fail
    have HS := set_mem hb bt ba cap n ca j t' A' x _ (MW.out.fr (Fr.refl none' W).drew id id id) (by rw [Ilen.out]; exact hj) (by rw [Ilen.out]; exact hm) hxp
    simp only [entV] at HS
    refine (callsIn_wide.2 HS).mono ?_
    rintro e2 w2 ⟨rfl, m2, sf2⟩
    have hfin : MemH w2 hb bt ba cap n ca R RA := by rw [← HR1.out, ← HA1.out]; exact m2
    have hmk2 := (Hmk.out.fr (Fr.refl none' W).drew (fun _ h _ => h.elim)).fr sf2.to (fun k h _ => by rcases h with h | h <;> omega)
    have hsf2 := (Hsf.out.fr (Fr.refl none' W).drew (fun _ h _ => h)).trans sf2
    have Hmk2 := Lib.hid hmk2
    have Hsf2 := Lib.hid hsf2
    have Hfin := Lib.hid hfin
    clear HS m2 sf2 hfin hmk2 hsf2
    gi_wp2
    refine leaves_marks _ _ Hmk2.out (fun w' hf => ⟨_, results_none rfl _ _ _, rfl, ?_, ?_⟩)
    ·exact Hfin.out.fr hf (by omega) (by omega) (by omega)
    ·exact Hsf2.out.fr hf (fun k h1 h2 => by rw [HB.out] at h2; omega)
   ·have hls := leastC_spec ordE_ord t' j (kids t' j)
    rw [hle] at hls
    obtain ⟨hl1, hl2⟩ : 4 * j + 1 ≤ l ∧ l < 4 * j + 1 + kids t' j := by
     rcases hls with ⟨h, _⟩ | ⟨l', h, h1, h2, _⟩
     ·cases h
     ·injection h with h; subst h; exact ⟨h1, h2⟩
    obtain ⟨hp1, hp2, hp3⟩ := par_kids hl1 hl2
    rw [Ilen.out] at hp2
    obtain ⟨v0, v1, v2, v3⟩ := MW.out.ent (i := l) (by rw [Ilen.out]; exact hp2)
    obtain ⟨u, hu⟩ : ∃ u, at' t' l = u := ⟨_, rfl⟩
    rw [hu] at v0 v1 v2 v3
    have hup : u.place < n := by rw [← hu]; exact Ip.out l hp2
    rw [hle] at c1
    simp only [lv] at c1
    obtain ⟨c, hc⟩ : ∃ c, ordE x u = c := ⟨_, rfl⟩
    have hR1 : (if c < 0 then (t'.set j x, j) else sinkL ordE x (t'.set j u) l).1 = R := by
     rw [← IR.out, sinkL.eq_def ordE x t' j, hle]
     simp only [dif_pos (show j < l ∧ l < t'.length from ⟨hp3, by rw [Ilen.out]; exact hp2⟩), hu, hc]
    have hA1 : (if c < 0 then A'.set x.place (j + 1) else sinkA ordE Ent.place x (t'.set j u) (A'.set u.place (j + 1)) l) = RA := by
     rw [← IA.out, sinkA.eq_def ordE Ent.place x t' A' j, hle]
     simp only [dif_pos (show j < l ∧ l < t'.length from ⟨hp3, by rw [Ilen.out]; exact hp2⟩), hu, hc]
    have HR1 := Lib.hid hR1
    have HA1 := Lib.hid hA1
    have Hu := Lib.hid hu
    have Hc := Lib.hid hc
    have hbL' := hbL
    rw [hle] at hbL'
    simp only [lv] at hbL'
    have HbL' := Lib.hid hbL'
    clear hR1 hA1 hle hbL hbL' hls hu hp1 hl1 hl2
    have z4 : (0 : Int) ≤ (l : Int) := by omega
    have z5 : (l : Int) < (m : Int) := by omega
    have d1 : decide ((l : Int) < 0) = false := decide_eq_false (by omega)
    have HO := order_any x u W.drew
    rw [hc] at HO
    simp only [entV] at HO
    clear hc
    gi_wp2
    refine wpIn_regionW ?_
    refine wp_region_held_drew (S := fun W' => W'.cell? ⟨L, 0, none⟩ = some (.int .i64 l) ∧ W'.cell? ⟨B, 0, none⟩ = some (.pointer (some ⟨hb, 0, none⟩)) ∧ W'.cell? ⟨hb, 1, none⟩ = some (.slice (some ⟨bt, 0, none⟩) m cap) ∧
     W'.cell? ⟨B + 1, 0, none⟩ = some (.int .i64 x.key.time) ∧ W'.cell? ⟨B + 1, 1, none⟩ = some (.int .i64 x.key.source) ∧ W'.cell? ⟨B + 1, 2, none⟩ = some (.int .i64 x.key.seq) ∧ W'.cell? ⟨B + 1, 3, none⟩ = some (.int .i64 x.place) ∧
     W'.cell? ⟨bt, l * 4, none⟩ = some (.int .i64 u.key.time) ∧ W'.cell? ⟨bt, l * 4 + 1, none⟩ = some (.int .i64 u.key.source) ∧ W'.cell? ⟨bt, l * 4 + 2, none⟩ = some (.int .i64 u.key.seq) ∧ W'.cell? ⟨bt, l * 4 + 3, none⟩ = some (.int .i64 u.place)) (by kernel_rfl) ⟨c1, b1, k1, g1, g2, g3, g4, v0, v1, v2, v3⟩ (fun hHeld => ?_)
    refine tk1 (i := 0) (v := .int .i64 l) ?_
    try simp only[pUt,pUn,sEt,sEz,sEs]
    refine tk1 (i := 1) (v := .bool false) ?_
    try simp only[pUt,pUn,sEt,sEz,sEs]
    refine tk1 (i := 2) (v := .bool false) ?_
    try simp only[pUt,pUn,sEt,sEz,sEs]
    refine tk1 (i := 3) (v := .agg #[.int .i64 x.key.time, .int .i64 x.key.source, .int .i64 x.key.seq, .int .i64 x.place]) ?_
    try simp only[pUt,pUn,sEt,sEz,sEs]
    refine tk1 (i := 4) (v := .pointer (some ⟨hb, 0, none⟩)) ?_
    try simp only[pUt,pUn,sEt,sEz,sEs]
    refine tk1 (i := 5) (v := .pointer (some ⟨hb, 0, none⟩)) ?_
    try simp only[pUt,pUn,sEt,sEz,sEs]
    refine tk1 (i := 6) (v := .pointer (some ⟨hb, 1, none⟩)) ?_
    try simp only[pUt,pUn,sEt,sEz,sEs]
    refine tk1 (i := 7) (v := .slice (some ⟨bt, 0, none⟩) m cap) ?_
    try simp only[pUt,pUn,sEt,sEz,sEs]
    refine tk1 (i := 8) (v := .int .i64 l) ?_
    try simp only[pUt,pUn,sEt,sEz,sEs]
    refine tk1 (i := 9) (v := .pointer (some ⟨bt, l * 4, none⟩)) ?_
    try simp only[pUt,pUn,sEt,sEz,sEs]
    refine tk1 (i := 10) (v := .agg #[.int .i64 u.key.time, .int .i64 u.key.source, .int .i64 u.key.seq, .int .i64 u.place]) ?_
    try simp only[pUt,pUn,sEt,sEz,sEs]
    refine take_call (i := 11) rfl (by kernel_rfl) (by kernel_rfl) (fun K hK => ?_)
    go_simp
    refine HO.mono ?_
    rintro e1 w1 ⟨rfl, hf1⟩
    go_wp2_with fail
    refine hK.out _ _ ⟨hf1.later c1, hf1.later b1, hf1.later k1, hf1.later g1, hf1.later g2, hf1.later g3, hf1.later g4, hf1.later v0, hf1.later v1, hf1.later v2, hf1.later v3⟩ (fun hHeld2 => ?_)
    clear hK K HO
    have frW : Fr none' W w1 := ((Fr.refl _ _).drew).trans hf1
    have FrW := Lib.hid frW
    clear hf1 frW c1 b1 k1 g1 g2 g3 g4 v0 v1 v2 v3 hHeld
    try simp only[pUt,pUn,sEt,sEz,sEs]
    by_cases hc0 : c < 0
    ·have d0 : decide (c < 0) = true := decide_eq_true hc0
     refine tk1 (i := 12) (v := .bool true) ?_
     try simp only[pUt,pUn,sEt,sEz,sEs]
     refine tk1 (i := 13) (v := .bool true) ?_
     try simp only[pUt,pUn,sEt,sEz,sEs]
     refine wpAnyH_done (by kernel_rfl) ?_ _
     rw [OnlyN_normal]
     have HR2 := Lib.hid (by have := HR1.out; rw [if_pos hc0] at this; exact this : t'.set j x = R)
     have HA2 := Lib.hid (by have := HA1.out; rw [if_pos hc0] at this; exact this : A'.set x.place (j + 1) = RA)
     clear hHeld2 d1 HR1 HA1
     have HR1 := HR2
     have HA1 := HA2
     obtain ⟨g1, g2, g3, g4⟩ := (HEW.out.fr FrW.out id).ent
     have b1 := (HbB.out.fr FrW.out id).cell
     gi_wp2_with fail
     have HS := set_mem hb bt ba cap n ca j t' A' x _ (MW.out.fr FrW.out id id id) (by rw [Ilen.out]; exact hj) (by rw [Ilen.out]; exact hm) hxp
     simp only [entV] at HS
     refine (callsIn_wide.2 HS).mono ?_
     rintro e2 w2 ⟨rfl, m2, sf2⟩
     have hfin : MemH w2 hb bt ba cap n ca R RA := by rw [← HR1.out, ← HA1.out]; exact m2
     have hmk2 := (Hmk.out.fr FrW.out (fun _ h _ => h.elim)).fr sf2.to (fun k h _ => by rcases h with h | h <;> omega)
     have hsf2 := (Hsf.out.fr FrW.out (fun _ h _ => h)).trans sf2
     have Hmk2 := Lib.hid hmk2
     have Hsf2 := Lib.hid hsf2
     have Hfin := Lib.hid hfin
     clear HS m2 sf2 hfin hmk2 hsf2
     gi_wp2
     refine leaves_marks _ _ Hmk2.out (fun w' hf => ⟨_, results_none rfl _ _ _, rfl, ?_, ?_⟩)
     ·exact Hfin.out.fr hf (by omega) (by omega) (by omega)
     ·exact Hsf2.out.fr hf (fun k h1 h2 => by rw [HB.out] at h2; omega)
    ·have d0 : decide (c < 0) = false := decide_eq_false hc0
     refine tk1 (i := 12) (v := .bool false) ?_
     try simp only[pUt,pUn,sEt,sEz,sEs]
     refine tk1 (i := 13) (v := .bool false) ?_
     try simp only[pUt,pUn,sEt,sEz,sEs]
     refine wpAnyH_done (by kernel_rfl) ?_ _
     rw [OnlyN_normal]
     have HR2 := Lib.hid (by have := HR1.out; rw [if_neg (by omega)] at this; exact this : (sinkL ordE x (t'.set j u) l).1 = R)
     have HA2 := Lib.hid (by have := HA1.out; rw [if_neg (by omega)] at this; exact this : sinkA ordE Ent.place x (t'.set j u) (A'.set u.place (j + 1)) l = RA)
     clear hHeld2 d1 HR1 HA1
     have m1 := MW.out.fr FrW.out id id id
     obtain ⟨v0, v1, v2, v3⟩ := m1.ent (i := l) (by rw [Ilen.out]; exact hp2)
     rw [Hu.out] at v0 v1 v2 v3
     have k1 : w1.cell? ⟨hb, 1, none⟩ = some (.slice (some ⟨bt, 0, none⟩) m cap) := by rw [cells_at m1.hd, Ilen.out]; rfl
     have b1 := (HbB.out.fr FrW.out id).cell
     have c1 := (HbL'.out.fr FrW.out id).cell
     have M1 := Lib.hid m1
     clear m1
     gi_wp2
     refine wpIn_regionW ?_
     refine wp_region_held_drew (S := fun W' => W'.cell? ⟨L, 0, none⟩ = some (.int .i64 l) ∧ W'.cell? ⟨B, 0, none⟩ = some (.pointer (some ⟨hb, 0, none⟩)) ∧ W'.cell? ⟨hb, 1, none⟩ = some (.slice (some ⟨bt, 0, none⟩) m cap) ∧
      W'.cell? ⟨bt, l * 4, none⟩ = some (.int .i64 u.key.time) ∧ W'.cell? ⟨bt, l * 4 + 1, none⟩ = some (.int .i64 u.key.source) ∧ W'.cell? ⟨bt, l * 4 + 2, none⟩ = some (.int .i64 u.key.seq) ∧ W'.cell? ⟨bt, l * 4 + 3, none⟩ = some (.int .i64 u.place)) (by kernel_rfl) ⟨c1, b1, k1, v0, v1, v2, v3⟩ (fun hHeld => ?_)
     refine tk1 (i := 0) (v := .pointer (some ⟨hb, 0, none⟩)) ?_
     try simp only[pUt,pUn,sEt,sEz,sEs]
     refine tk1 (i := 1) (v := .int .i64 j) ?_
     try simp only[pUt,pUn,sEt,sEz,sEs]
     refine tk1 (i := 2) (v := .pointer (some ⟨hb, 0, none⟩)) ?_
     try simp only[pUt,pUn,sEt,sEz,sEs]
     refine tk1 (i := 3) (v := .pointer (some ⟨hb, 0, none⟩)) ?_
     try simp only[pUt,pUn,sEt,sEz,sEs]
     refine tk1 (i := 4) (v := .pointer (some ⟨hb, 1, none⟩)) ?_
     try simp only[pUt,pUn,sEt,sEz,sEs]
     refine tk1 (i := 5) (v := .slice (some ⟨bt, 0, none⟩) m cap) ?_
     try simp only[pUt,pUn,sEt,sEz,sEs]
     refine tk1 (i := 6) (v := .int .i64 l) ?_
     try simp only[pUt,pUn,sEt,sEz,sEs]
     refine tk1 (i := 7) (v := .pointer (some ⟨bt, l * 4, none⟩)) ?_
     try simp only[pUt,pUn,sEt,sEz,sEs]
     refine tk1 (i := 8) (v := .agg #[.int .i64 u.key.time, .int .i64 u.key.source, .int .i64 u.key.seq, .int .i64 u.place]) ?_
     try simp only[pUt,pUn,sEt,sEz,sEs]
     have HS := set_mem hb bt ba cap n ca j t' A' u w1.drew (M1.out.fr (Fr.refl none' w1).drew id id id) (by rw [Ilen.out]; exact hj) (by rw [Ilen.out]; exact hm) hup
     simp only [entV] at HS
     refine take_call (i := 9) rfl (by kernel_rfl) (by kernel_rfl) (fun K hK => ?_)
     go_simp
     refine HS.mono ?_
     rintro e1 w2 ⟨rfl, m2, sf2⟩
     go_wp2_with fail
     have hlt1 : L + 3 < w1.heap.size := Nat.lt_of_lt_of_le hDs FrW.out.size
     have l2 : Box w2 L (.int .i64 l) := ((HbL'.out.fr FrW.out id).fr (Fr.refl none' w1).drew id).fr sf2.to (by omega)
     have b2 : Box w2 B (.pointer (some ⟨hb, 0, none⟩)) := ((HbB.out.fr FrW.out id).fr (Fr.refl none' w1).drew id).fr sf2.to (by omega)
     have x2 : EntAt w2 (B + 1) x := ((HEW.out.fr FrW.out id).fr (Fr.refl none' w1).drew id).fr sf2.to (by omega)
     have k2 : w2.cell? ⟨hb, 1, none⟩ = some (.slice (some ⟨bt, 0, none⟩) m cap) := by rw [cells_at m2.hd, List.length_set, Ilen.out]; rfl
     obtain ⟨y0, y1, y2, y3⟩ := m2.ent (i := l) (by rw [List.length_set, Ilen.out]; exact hp2)
     rw [at_set_ne (t := t') u (by omega : j ≠ l), Hu.out] at y0 y1 y2 y3
     refine hK.out _ _ ⟨l2.cell, b2.cell, k2, y0, y1, y2, y3⟩ (fun hHeld2 => ?_)
     clear hK K HS c1 b1 k1 v0 v1 v2 v3 hHeld
     try simp only[pUt,pUn,sEt,sEz,sEs]
     refine wpAnyH_done (by kernel_rfl) ?_ _
     rw [OnlyN_normal]
     have c1 := l2.cell
     have frw2 : Fr (fun k => k = bt ∨ k = ba) W w2 := ((FrW.out.drew).mono (fun _ _ h => h.elim)).trans sf2.to
     have hmk2 := Hmk.out.fr frw2 (fun k h _ => by rcases h with h | h <;> omega)
     have hsf2 : SetFr bt ba w w2 := (Hsf.out.fr (FrW.out.drew) (fun _ h _ => h)).trans sf2
     have Hmk2 := Lib.hid hmk2
     have Hsf2 := Lib.hid hsf2
     have M2 := Lib.hid m2
     have X2 := Lib.hid x2
     have B2 := Lib.hid b2
     have hlw : B + 1 < w2.heap.size := by have := frw2.size; omega
     clear hHeld2 k2 y0 y1 y2 y3 m2 sf2 x2 b2 frw2 hmk2 hsf2
     gi_wp2
     refine ⟨?_, ?_⟩
     ·repeat (apply Exists.intro)
      refine ⟨⟨l, t'.set j u, A'.set u.place (j + 1), rfl, hp2, ⟨M2.out, by rw [List.length_set]; exact Ilen.out, HR2.out, HA2.out, fun k hk => ?_⟩, X2, B2, Hsf2, Hmk2, hlw⟩, rfl⟩
      by_cases hkj : k = j
      ·subst hkj; rw [at_set_same u (by rw [Ilen.out]; exact hj)]; exact hup
      ·rw [at_set_ne (t := t') u (fun e => hkj e.symm)]; exact Ip.out k hk
     ·simp [intOf]; omega
end Go.Proofs.YtieeloealklkgaaGreat

/-
  Heap.cut; a heap in memory as a list in order.
-/
namespace Go.Proofs.YtieeloealklkgaaGreat
open Go.RowKit
attribute [local go_sem ↓] Go.wp_at_zero Go.wp_at_succ

theorem sink_mem (hb bt ba cap n ca i0 : Nat) (t : List Ent) (A : List Nat) (w : World) (h : MemH w hb bt ba cap n ca t A) (hi : i0 < t.length) (hm : t.length ≤ 10000) (hp : ∀ k, k < t.length → (at' t k).place < n) :
  Calls Tryz.prog 165 #[.pointer (some ⟨hb, 0, none⟩), .int .i64 i0] w fun e' w' => e' = .returned (.tuple #[]) ∧ MemH w' hb bt ba cap n ca (sinkL ordE (at' t i0) t i0).1 (sinkA ordE Ent.place (at' t i0) t A i0) ∧ SetFr bt ba w w' :=
 callsIn_wide.1 (sink_in hb bt ba cap n ca i0 t A w h hi hm hp)

/-- The tree is cut short by one. -/
theorem MemH.short {w : World} {hb bt ba cap n ca : Nat} {t : List Ent} {A : List Nat} (h : MemH w hb bt ba cap n ca t A) :
  MemH (w.setCell ⟨hb, 1, none⟩ (.slice (some ⟨bt, 0, none⟩) (t.length - 1) cap)) hb bt ba cap n ca t.dropLast A := by
 obtain ⟨cu, h2, h2', h3⟩ := h.tr
 obtain ⟨cv, h4, h5⟩ := h.tb
 have hl := h.len
 refine ⟨?_, ⟨cu, (Below.heap_setCell w ⟨hb, 1, none⟩ _ bt h.ne1.symm).trans h2, h2', fun i hi c hc => ?_⟩, ⟨cv, (Below.heap_setCell w ⟨hb, 1, none⟩ _ ba h.ne2.symm).trans h4, h5⟩, h.ne1, h.ne2, h.ne3, by simp; omega, h.small⟩
 ·have := h.hd
  simp [World.setCell, Array.getElem?_modify, this]
 ·simp only [List.length_dropLast] at hi
  rw [at_dropLast hi]; exact h3 i (by omega) c hc
/-- A cell of the table is put anew. -/
theorem MemH.table {w : World} {hb bt ba cap n ca : Nat} {t : List Ent} {A : List Nat} (h : MemH w hb bt ba cap n ca t A) (p x : Nat) :
  MemH (w.setCell ⟨ba, p, none⟩ (natV x)) hb bt ba cap n ca t (A.set p x) := by
 obtain ⟨cu, h2, h3⟩ := h.tr
 obtain ⟨cv, h4, h5, h6, h7⟩ := h.tb
 refine ⟨(Below.heap_setCell w ⟨ba, p, none⟩ _ hb h.ne2).trans h.hd, ⟨cu, (Below.heap_setCell w ⟨ba, p, none⟩ _ bt h.ne3).trans h2, h3⟩, ⟨cv.setIfInBounds p (natV x), ?_, by simpa using h5, by simpa using h6, fun q y hq => ?_⟩, h.ne1, h.ne2, h.ne3, h.len, h.small⟩
 ·simp [World.setCell, Array.getElem?_modify, h4]
 ·by_cases e : q = p
  ·subst e
   have hlt : q < (A.set q x).length := (List.getElem?_eq_some_iff.1 hq).1
   rw [List.getElem?_set_self (by simpa using hlt)] at hq
   injection hq with hq
   subst hq
   rw [Array.getElem?_setIfInBounds, if_pos rfl, if_pos (by simp at hlt; omega)]
  ·rw [List.getElem?_set_ne (fun x => e x.symm)] at hq
   rw [Array.getElem?_setIfInBounds, if_neg (fun x => e x.symm)]
   exact h7 q y hq
theorem MemH.tabCell {w : World} {hb bt ba cap n ca : Nat} {t : List Ent} {A : List Nat} (h : MemH w hb bt ba cap n ca t A) {p x : Nat} (hx : A[p]? = some x) : w.cell? ⟨ba, p, none⟩ = some (.int .i64 x) ∧ w.frozen? ⟨ba, p, none⟩ = false := by
 obtain ⟨cv, h4, h5, h6, h7⟩ := h.tb
 exact ⟨by rw [cells_at h4]; exact h7 p x hx, frozen_at h4 p⟩

/-- What is cut out. -/
theorem cut_perm {t : List Ent} {i : Nat} (hi : i < t.length - 1) : (at' t i :: t.dropLast.set i (at' t (t.length - 1))).Perm t := by
 obtain ⟨D, y, rfl⟩ : ∃ D y, t = D ++ [y] := by
  rcases List.eq_nil_or_concat t with h | ⟨D, y, h⟩
  ·rw [h] at hi; simp at hi
  ·exact ⟨D, y, by simpa using h⟩
 have h1 : at' (D ++ [y]) ((D ++ [y]).length - 1) = y := by simpa using at_append_last D y
 simp only [List.length_append, List.length_singleton, Nat.add_sub_cancel] at hi h1
 rw [at_append_left y hi]
 simp only [List.length_append, List.length_singleton, Nat.add_sub_cancel, List.dropLast_concat, h1]
 have e1 : D = D.take i ++ at' D i :: D.drop (i + 1) := by
  rw [at_get hi, ← List.drop_eq_getElem_cons hi, List.take_append_drop]
 have e2 : D.set i y = D.take i ++ y :: D.drop (i + 1) := by rw [List.set_eq_take_append_cons_drop, if_pos hi]
 rw [e2]
 have e3 : (D.take i ++ y :: D.drop (i + 1)).Perm (y :: (D.take i ++ D.drop (i + 1))) := List.perm_middle
 have e4 : D.Perm (at' D i :: (D.take i ++ D.drop (i + 1))) := by
  have := List.perm_middle (a := at' D i) (l₁ := D.take i) (l₂ := D.drop (i + 1))
  rwa [← e1] at this
 refine ((e3.cons _).trans (List.Perm.swap _ _ _)).trans ?_
 exact (e4.symm.cons y).trans (List.perm_append_singleton y D).symm

theorem set4 {W : World} {N : Nat} {a b c d : Value} {ty : TypeId} (h : W.heap[N]? = some (.cells #[a, b, c, d] ty (0, 0))) (p q r s : Value) :
  ((((W.setCell ⟨N, 0, none⟩ p).setCell ⟨N, 1, none⟩ q).setCell ⟨N, 2, none⟩ r).setCell ⟨N, 3, none⟩ s).heap[N]? = some (.cells #[p, q, r, s] ty (0, 0)) := by
 simp [World.setCell, Array.getElem?_modify, h]
set_option maxHeartbeats 4000000 in
theorem cut_mem (hb bt ba cap n ca i : Nat) (t : List Ent) (A : List Nat) (w : World) (h : MemH w hb bt ba cap n ca t A) (ok : HeapOK ordE Ent.place t A) (hi : i < t.length) (hm : t.length ≤ 10000) (hp : ∀ k, k < t.length → (at' t k).place < n) :
  Calls Tryz.prog 163 #[.pointer (some ⟨hb, 0, none⟩), .int .i64 i] w fun e w' => e = .returned (entV (at' t i)) ∧ ∃ t' A', MemH w' hb bt ba cap n ca t' A' ∧ HeapOK ordE Ent.place t' A' ∧ (at' t i :: t').Perm t ∧ Fr (fun k => k = hb ∨ k = bt ∨ k = ba) w w' := by
 obtain ⟨e0, e1, e2, e3⟩ := h.ent hi
 have k1 : w.cell? ⟨hb, 1, none⟩ = some (.slice (some ⟨bt, 0, none⟩) t.length cap) := by rw [cells_at h.hd]; rfl
 obtain ⟨m, hm'⟩ : ∃ m, t.length = m := ⟨_, rfl⟩
 obtain ⟨f0, f1, f2, f3⟩ := h.ent (i := t.length - 1) (by omega)
 obtain ⟨x, hx⟩ : ∃ x, at' t i = x := ⟨_, rfl⟩
 obtain ⟨y, hy⟩ : ∃ y, at' t (t.length - 1) = y := ⟨_, rfl⟩
 have hxp : x.place < n := by rw [← hx]; exact hp i hi
 have hyp : y.place < n := by rw [← hy]; exact hp _ (by omega)
 rw [hx] at e0 e1 e2 e3 ⊢
 rw [hy] at f0 f1 f2 f3
 rw [hm'] at k1 f0 f1 f2 f3 hm
 have hi' : i < m := by omega
 obtain ⟨q, hq⟩ : ∃ q, m - 1 = q := ⟨_, rfl⟩
 have hqm : m = q + 1 := by omega
 subst hqm
 simp only [Nat.add_sub_cancel] at f0 f1 f2 f3
 have q1 : (0 : Int) ≤ (i : Int) := by omega
 have q2 : (i : Int) < ((q + 1 : Nat) : Int) := by omega
 have q3 : IntKind.i64.wrap (((q + 1 : Nat) : Int) - 1) = (q : Int) := by rw [IntWalk.i64_in _ (by omega)]; omega
 have q4 : (0 : Int) ≤ (q : Int) := by omega
 have q5 : (q : Int) < ((q + 1 : Nat) : Int) := by omega
 obtain ⟨l1, l2, l3⟩ := h.lt
 have l1a : hb < w.heap.size + 1 := by omega
 have l1b : hb < w.heap.size + 1 + 1 := by omega
 have l1c : hb < w.heap.size + 1 + 1 + 1 := by omega
 have l2a : bt < w.heap.size + 1 := by omega
 have l2b : bt < w.heap.size + 1 + 1 := by omega
 have fz1 : w.frozen? ⟨hb, 1, none⟩ = false := frozen_at h.hd 1
 have hlc := h.len
 rw [hm'] at hlc
 have q6 : (q : Int) ≤ (cap : Int) := by omega
 have H := Lib.hid h
 have Hx := Lib.hid hx
 have Hy := Lib.hid hy
 have Hm := Lib.hid hm'
 have Ok := Lib.hid ok
 have Hp := Lib.hid hp
 clear h hx hy hm' ok hp hq hi
 go_enter Tryz.func163, Tryz.ntmps163
 go_wp2_with fail
 obtain ⟨N, hN⟩ : ∃ N, w.heap.size = N := ⟨_, rfl⟩
 obtain ⟨W1, hW1⟩ : ∃ W1, (((w.setCell ⟨hb, 1, none⟩ (.slice (some ⟨bt, 0, none⟩) q cap)).alloc (.cells #[.int .i64 0, .int .i64 0, .int .i64 0, .int .i64 0] 192)).alloc (.cells #[.int .i64 x.key.time, .int .i64 x.key.source, .int .i64 x.key.seq, .int .i64 x.place] 192)).alloc (.cells #[.int .i64 y.key.time, .int .i64 y.key.source, .int .i64 y.key.seq, .int .i64 y.place] 192) = W1 := ⟨_, rfl⟩
 rw [hN, hW1]
 have hs0 : (w.setCell ⟨hb, 1, none⟩ (.slice (some ⟨bt, 0, none⟩) q cap)).heap.size = N := by simp [World.setCell]; exact hN
 have fr1 : Fr (fun k => k = hb) w W1 := by rw [← hW1]; exact (((((Fr.refl (fun k => k = hb) w).setCell (fun _ => rfl) _).alloc _).alloc _).alloc _)
 have m1 : MemH W1 hb bt ba cap n ca t.dropLast A := by
  have h1 := H.out.short
  rw [Hm.out] at h1
  rw [← hW1]
  exact h1.fr ((((Fr.refl none' _).alloc _).alloc _).alloc _) id id id
 have zx : W1.heap[N]? = some (.cells #[.int .i64 0, .int .i64 0, .int .i64 0, .int .i64 0] 192 (0, 0)) := by
  rw [← hW1, ← hs0]
  have := World.alloc_heap_new (w.setCell ⟨hb, 1, none⟩ (.slice (some ⟨bt, 0, none⟩) q cap)) (.cells #[.int .i64 0, .int .i64 0, .int .i64 0, .int .i64 0] 192)
  exact (Fr.block (((Fr.refl none' _).alloc _).alloc _) _ (by simp) id).trans this
 have ex : EntAt W1 (N + 1) x := by
  rw [← hW1, ← hs0]
  have := EntAt.new ((w.setCell ⟨hb, 1, none⟩ (.slice (some ⟨bt, 0, none⟩) q cap)).alloc (.cells #[.int .i64 0, .int .i64 0, .int .i64 0, .int .i64 0] 192)) x
  rw [World.size_alloc] at this
  exact EntAt.fr this ((Fr.refl none' _).alloc _) id
 have ey : EntAt W1 (N + 1 + 1) y := by
  rw [← hW1, ← hs0]
  have := EntAt.new (((w.setCell ⟨hb, 1, none⟩ (.slice (some ⟨bt, 0, none⟩) q cap)).alloc (.cells #[.int .i64 0, .int .i64 0, .int .i64 0, .int .i64 0] 192)).alloc (.cells #[.int .i64 x.key.time, .int .i64 x.key.source, .int .i64 x.key.seq, .int .i64 x.place] 192)) y
  rwa [World.size_alloc, World.size_alloc] at this
 have s1 : W1.heap.size = N + 3 := by rw [← hW1]; simp [World.setCell]; exact hN
 rw [hN] at l1 l2 l3
 have Fr1 := Lib.hid fr1
 have M1 := Lib.hid m1
 have Zx := Lib.hid zx
 have Ex := Lib.hid ex
 have Ey := Lib.hid ey
 have HN := Lib.hid hN
 have S1 := Lib.hid s1
 have k2 : W1.cell? ⟨hb, 2, none⟩ = some (.slice (some ⟨ba, 0, none⟩) n ca) := by rw [cells_at m1.hd]; rfl
 obtain ⟨_, _, _, x3⟩ := ex.ent
 obtain ⟨u, hu⟩ : ∃ u, A[x.place]? = some u := ⟨_, List.getElem?_eq_getElem (by obtain ⟨_, _, _, h, _⟩ := m1.tb; omega)⟩
 have tc := (m1.tabCell hu).1
 have tf := (m1.tabCell hu).2
 have q7 : (x.place : Int) < (n : Int) := by omega
 have q8 : (0 : Int) ≤ (x.place : Int) := by omega
 clear k1 e0 e1 e2 e3 f0 f1 f2 f3 l1a l1b l1c l2a l2b fz1 hs0 hW1 fr1 m1 zx ex ey hu hN s1
 go_still_tail 7, (by kernel_rfl)
 change wpList _ _ _ _ _ W1.drew
 have fr2 : Fr (fun k => k = ba) W1 (W1.setCell ⟨ba, x.place, none⟩ (.int .i64 0)).drew := ((Fr.refl (fun k => k = ba) W1).setCell (fun _ => rfl) _).drew
 have m2 : MemH (W1.setCell ⟨ba, x.place, none⟩ (.int .i64 0)).drew hb bt ba cap n ca t.dropLast (A.set x.place 0) := (M1.out.table x.place 0).fr (Fr.refl none' _).drew id id id
 have Fr2 := Lib.hid fr2
 have M2 := Lib.hid m2
 clear fr2 m2
 by_cases hiq : i < q
 ·have d1 : decide ((i : Int) < (q : Int)) = true := decide_eq_true (by omega)
  have d2 : decide (i < q) = true := decide_eq_true hiq
  obtain ⟨y0, y1, y2, y3⟩ := Ey.out.ent
  go_wp2_with fail
  have hlen : t.dropLast.length = q := by rw [List.length_dropLast, Hm.out]; rfl
  have hch := cut_hole ordE_ord Ok.out (i := i) (by rw [Hm.out]; omega)
  rw [Hx.out, Hy.out] at hch
  obtain ⟨hho, htb⟩ := hch
  have hfx := fix_ok ordE_ord hho htb
  have hS := set_mem hb bt ba cap n ca i t.dropLast (A.set x.place 0) y _ M2.out (by omega) (by omega) hyp
  simp only [entV] at hS
  have hpd : ∀ k, k < q → (at' (t.dropLast.set i y) k).place < n := fun k hk => by
   by_cases hki : k = i
   ·rw [hki, at_set_same y (by omega)]; exact hyp
   ·rw [at_set_ne (t := t.dropLast) y (fun e => hki e.symm), at_dropLast (by rw [Hm.out]; omega)]; exact Hp.out k (by rw [Hm.out]; omega)
  have hsame : at' (t.dropLast.set i y) i = y := at_set_same y (by omega)
  have HSame := Lib.hid hsame
  have Hlen := Lib.hid hlen
  have Hfx := Lib.hid hfx
  have Hpd := Lib.hid hpd
  clear hfx hho htb hpd hlen hsame
  refine hS.mono ?_
  rintro e3 W3 ⟨rfl, m3, sf3⟩
  have M3 := Lib.hid m3
  have Sf3 := Lib.hid sf3
  clear hS m3 sf3
  go_wp2_with fail
  have hK := sink_mem hb bt ba cap n ca i _ _ W3 M3.out (by rw [List.length_set, Hlen.out]; exact hiq) (by rw [List.length_set, Hlen.out]; omega) (fun k hk => Hpd.out k (by rw [List.length_set, Hlen.out] at hk; exact hk))
  rw [HSame.out] at hK
  refine hK.mono ?_
  rintro e4 W4 ⟨rfl, m4, sf4⟩
  obtain ⟨fx1, fx2, fx3, fx4, fx5, fx6, fx7, fx8⟩ := Hfx.out
  obtain ⟨T, hT⟩ : ∃ T, sinkL ordE y (t.dropLast.set i y) i = T := ⟨_, rfl⟩
  obtain ⟨idx, hidx⟩ : ∃ idx, T.2 = idx := ⟨_, rfl⟩
  have hfA : fixA ordE Ent.place y (t.dropLast.set i y) ((A.set x.place 0).set y.place (i + 1)) i = riseA ordE Ent.place y T.1 (sinkA ordE Ent.place y (t.dropLast.set i y) ((A.set x.place 0).set y.place (i + 1)) i) idx := by unfold fixA; rw [hT, hidx]
  have hfT : fixT ordE y (t.dropLast.set i y) i = riseL ordE y T.1 idx := by unfold fixT; rw [hT, hidx]
  obtain ⟨TA, hTA⟩ : ∃ TA, sinkA ordE Ent.place y (t.dropLast.set i y) ((A.set x.place 0).set y.place (i + 1)) i = TA := ⟨_, rfl⟩
  rw [hT] at m4 fx5 fx6 fx7 fx8
  rw [hTA] at m4 fx7
  rw [hidx] at fx5 fx6 fx7
  have hidx2 : idx < q := by have := fx5; rw [List.length_set, Hlen.out] at this; exact this
  have hTl : T.1.length = q := by rw [fx8, List.length_set, Hlen.out]
  have W14 : Fr (fun k => k = bt ∨ k = ba) W1 W4 := ((Fr2.out.mono (S' := fun k => k = bt ∨ k = ba) (fun _ _ h => .inr h)).trans Sf3.out.to).trans sf4.to
  have ey4 : EntAt W4 (N + 1 + 1) y := Ey.out.fr W14 (by omega)
  obtain ⟨_, _, _, yy⟩ := ey4.ent
  have kk : W4.cell? ⟨hb, 2, none⟩ = some (.slice (some ⟨ba, 0, none⟩) n ca) := by rw [cells_at m4.hd]; rfl
  have tt := (m4.tabCell fx7).1
  have r1 : (0 : Int) ≤ (y.place : Int) := by omega
  have r2 : (y.place : Int) < (n : Int) := by omega
  have r3 : IntKind.i64.wrap (((idx + 1 : Nat) : Int) - 1) = (idx : Int) := by rw [IntWalk.i64_in _ (by omega)]; omega
  have hpT : ∀ k, k < q → (at' T.1 k).place < n := fun k hk => by
   have h1 : T.1.Perm (t.dropLast.set i y) := by
    have h2 := (sinkL_all ordE_ord y (t.dropLast.set i y) i (by rw [List.length_set, Hlen.out]; exact hiq) (cut_hole ordE_ord Ok.out (i := i) (by rw [Hm.out]; omega) |>.1 |> fun h => by rw [Hy.out] at h; exact h)).2.2.2.2.1
    rw [hT, List.set_set] at h2
    exact h2
   have h3 : at' T.1 k ∈ t.dropLast.set i y := h1.mem_iff.1 (by rw [at_get (by omega)]; exact List.getElem_mem _)
   obtain ⟨l, hl, he⟩ := List.getElem_of_mem h3
   rw [← he, ← at_get hl]
   exact Hpd.out l (by rw [List.length_set, Hlen.out] at hl; exact hl)
  have HR := rise_mem ordE order_does hb bt ba cap n ca idx T.1 TA W4.drew (m4.fr (Fr.refl none' W4).drew id id id) (by omega) (by omega) (fun k hk => hpT k (by omega))
  rw [fx6, ← hfT] at HR
  rw [hTA] at hfA
  rw [← hfA] at HR
  have hper : (x :: fixT ordE y (t.dropLast.set i y) i).Perm t := by
   refine (fx2.cons x).trans ?_
   rw [List.set_set]
   have := cut_perm (t := t) (i := i) (by rw [Hm.out]; omega)
   rw [Hx.out, Hy.out] at this
   exact this
  have Fx1 := Lib.hid fx1
  have Hper := Lib.hid hper
  have HHR := Lib.hid HR
  have HW14 := Lib.hid W14
  clear hK m4 sf4 fx1 fx2 fx3 fx4 fx5 fx6 fx7 fx8 hT hidx hfA hfT hTA hTl W14 ey4 hpT HR hper d1 d2
  go_wp2_with fail
  go_still_tail 10, (by kernel_rfl)
  change wpList _ _ _ _ _ W4.drew
  go_wp2_with fail
  refine HHR.out.mono ?_
  rintro e5 W5 ⟨rfl, m5, sf5⟩
  have W15 : Fr (fun k => k = bt ∨ k = ba) W1 W5 := (HW14.out.drew).trans sf5.to
  have HEx := Lib.hid (Ex.out.fr W15 (by omega))
  have HZx := Lib.hid ((W15.block N (by rw [S1.out]; omega) (by omega)).trans Zx.out)
  have HW15 := Lib.hid W15
  have M5 := Lib.hid m5
  clear m5 sf5 W15 r1 r2 r3 tt kk yy y0 y1 y2 y3 k2 x3 tc tf
  obtain ⟨x0, x1, x2, x3⟩ := HEx.out.ent
  have z0 := cells_of HZx.out 0
  have z1 := cells_of HZx.out 1
  have z2 := cells_of HZx.out 2
  have z3 := cells_of HZx.out 3
  simp at z0 z1 z2 z3
  have y0 := frozen_at HZx.out 0
  have y1 := frozen_at HZx.out 1
  have y2 := frozen_at HZx.out 2
  have y3 := frozen_at HZx.out 3
  go_wp2
  have zz := set4 HZx.out (.int .i64 x.key.time) (.int .i64 x.key.source) (.int .i64 x.key.seq) (.int .i64 x.place)
  have w0 := cells_of zz 0
  have w1 := cells_of zz 1
  have w2 := cells_of zz 2
  have w3 := cells_of zz 3
  simp at w0 w1 w2 w3
  refine bodyPost_ret (v := entV x) (by simp [results, Tryz.results163, go_sem, entV, w0, w1, w2, w3]) rfl ⟨rfl, _, _, M5.out.fr (S := fun k => k = N) ?_ (by omega) (by omega) (by omega), Fx1.out, Hper.out, ?_⟩
  ·exact (((((Fr.refl (fun k => k = N) W5).setCell (fun _ => rfl) _).setCell (fun _ => rfl) _).setCell (fun _ => rfl) _).setCell (fun _ => rfl) _)
  ·have f1 : Fr (fun k => k = hb ∨ k = bt ∨ k = ba) w W5 := (Fr1.out.mono (fun _ _ h => .inl h)).trans (HW15.out.mono (fun _ _ h => .inr h))
   have nN : N < w.heap.size → (N = hb ∨ N = bt ∨ N = ba) := fun h => by rw [HN.out] at h; omega
   exact ((((f1.setCell nN _).setCell nN _).setCell nN _).setCell nN _)
 ·have hiq' : i = q := by omega
  subst hiq'
  have d1 : decide ((i : Int) < (i : Int)) = false := decide_eq_false (by omega)
  have d2 : decide (i < i) = false := decide_eq_false (by omega)
  have hxy : x = y := by rw [← Hx.out, ← Hy.out, Hm.out]; rfl
  have hcl := cut_last Ok.out (by rw [Hm.out]; omega)
  have hper : (x :: t.dropLast).Perm t := by
   have h0 : t ≠ [] := by intro h; have := Hm.out; rw [h] at this; simp at this
   have h1 : t.dropLast ++ [x] = t := by
    have h2 := List.dropLast_concat_getLast h0
    have h3 : t.getLast h0 = x := by
     rw [hxy, ← Hy.out, at_get (by rw [Hm.out]; omega), List.getLast_eq_getElem]
    rw [h3] at h2; exact h2
   have := (List.perm_append_singleton x t.dropLast).symm
   rwa [h1] at this
  rw [Hy.out, ← hxy] at hcl
  have W12 : Fr (fun k => k = bt ∨ k = ba) W1 (W1.setCell ⟨ba, x.place, none⟩ (.int .i64 0)).drew := Fr2.out.mono (fun _ _ h => .inr h)
  have Hcl := Lib.hid hcl
  have Hper := Lib.hid hper
  have Hxy := Lib.hid hxy
  obtain ⟨W5, hW5⟩ : ∃ W5, (W1.setCell ⟨ba, x.place, none⟩ (.int .i64 0)).drew = W5 := ⟨_, rfl⟩
  rw [hW5] at W12
  have M5 := Lib.hid (hW5 ▸ M2.out)
  have HEx := Lib.hid (Ex.out.fr W12 (by omega))
  have HZx := Lib.hid ((W12.block N (by rw [S1.out]; omega) (by omega)).trans Zx.out)
  have HW15 := Lib.hid W12
  clear hcl hper hxy W12
  obtain ⟨x0, x1, x2, x3⟩ := HEx.out.ent
  have z0 := cells_of HZx.out 0
  have z1 := cells_of HZx.out 1
  have z2 := cells_of HZx.out 2
  have z3 := cells_of HZx.out 3
  simp at z0 z1 z2 z3
  have y0 := frozen_at HZx.out 0
  have y1 := frozen_at HZx.out 1
  have y2 := frozen_at HZx.out 2
  have y3 := frozen_at HZx.out 3
  go_wp2
  have zz := set4 HZx.out (.int .i64 x.key.time) (.int .i64 x.key.source) (.int .i64 x.key.seq) (.int .i64 x.place)
  have w0 := cells_of zz 0
  have w1 := cells_of zz 1
  have w2 := cells_of zz 2
  have w3 := cells_of zz 3
  simp at w0 w1 w2 w3
  refine bodyPost_ret (v := entV x) (by simp [results, Tryz.results163, go_sem, entV, w0, w1, w2, w3]) rfl ⟨rfl, _, _, M5.out.fr (S := fun k => k = N) ?_ (by omega) (by omega) (by omega), Hcl.out, Hper.out, ?_⟩
  ·exact (((((Fr.refl (fun k => k = N) W5).setCell (fun _ => rfl) _).setCell (fun _ => rfl) _).setCell (fun _ => rfl) _).setCell (fun _ => rfl) _)
  ·have f1 : Fr (fun k => k = hb ∨ k = bt ∨ k = ba) w W5 := (Fr1.out.mono (fun _ _ h => .inl h)).trans (HW15.out.mono (fun _ _ h => .inr h))
   have nN : N < w.heap.size → (N = hb ∨ N = bt ∨ N = ba) := fun h => by rw [HN.out] at h; omega
   exact ((((f1.setCell nN _).setCell nN _).setCell nN _).setCell nN _)
end Go.Proofs.YtieeloealklkgaaGreat

/-
  A heap in memory, with a tree that may be nil; what it has, as a list in order.
-/
namespace Go.Proofs.YtieeloealklkgaaGreat
open Go.RowKit

def flatE (t : List Ent) : List Value := t.flatMap entCells
theorem flatE_length (t : List Ent) : (flatE t).length = t.length * 4 := by
 induction t with
 | nil => rfl
 | cons a r ih => simp only [flatE, List.flatMap_cons, List.length_append] at *; rw [ih]; simp [entCells]; omega
theorem flatE_get (t : List Ent) : ∀ (i c : Nat), i < t.length → c < 4 → (flatE t)[4 * i + c]? = (entCells (at' t i))[c]? := by
 induction t with
 | nil => intro i c h; simp at h
 | cons a r ih =>
  intro i c hi hc
  simp only [flatE, List.flatMap_cons]
  cases i with
  | zero => rw [List.getElem?_append_left (by simp [entCells]; omega)]; simp [at']
  | succ i =>
   rw [List.getElem?_append_right (by simp [entCells]; omega)]
   have := ih i c (by simpa using hi) hc
   rw [show 4 * (i + 1) + c - (entCells a).length = 4 * i + c by simp [entCells]; omega]
   exact this.trans (by simp [at'])
theorem flatE_one (t : List Ent) : ∀ v ∈ flatE t, v.oneCell' = true := by
 intro v hv
 obtain ⟨e, _, he⟩ := List.mem_flatMap.1 hv
 simp [entCells] at he
 rcases he with h | h | h | h <;> subst h <;> rfl

/-- A heap in memory; its tree's value is v. -/
structure HeapIn (w : World) (hb ba : Nat) (v : Value) (n ca : Nat) (t : List Ent) (A : List Nat) : Prop where
 hd : w.heap[hb]? = some (.cells #[.bool true, v, .slice (some ⟨ba, 0, none⟩) n ca] 150 (0, 0))
 tr : w.ownsRow 0 192 4 v t.length (flatE t)
 tb : ∃ cur : Array Value, w.heap[ba]? = some (.cells cur 3 (0, 0)) ∧ n ≤ cur.size ∧ A.length = n ∧ ∀ (p x : Nat), A[p]? = some x → cur[p]? = some (natV x)
 n1 : ∀ g, v.ownBlock = some g → g ≠ hb ∧ g ≠ ba
 n2 : hb ≠ ba

theorem MemH.heapIn {w : World} {hb bt ba cap n ca : Nat} {t : List Ent} {A : List Nat} (h : MemH w hb bt ba cap n ca t A) : HeapIn w hb ba (.slice (some ⟨bt, 0, none⟩) t.length cap) n ca t A := by
 obtain ⟨cu, h1, h2, h3⟩ := h.tr
 refine ⟨h.hd, ⟨flatE_length t, .inr ⟨bt, cap, cu, rfl, Nat.zero_le _, h1, h.len, h.small, h2, ?_⟩⟩, h.tb, fun g hg => ?_, h.ne2⟩
 ·refine List.ext_getElem? (fun j => ?_)
  have hl := h.len
  by_cases hj : j < t.length * 4
  ·rw [List.getElem?_take_of_lt hj, Array.getElem?_toList]
   have h4 : j = 4 * (j / 4) + j % 4 := by omega
   rw [h4, h3 (j / 4) (by omega) (j % 4) (by omega), flatE_get t (j / 4) (j % 4) (by omega) (by omega)]
  ·rw [List.getElem?_eq_none (by rw [List.length_take]; simp; omega), List.getElem?_eq_none (by rw [flatE_length]; omega)]
 ·cases hg; exact ⟨h.ne1.symm, h.ne3⟩
theorem HeapIn.mem {w : World} {hb ba n ca : Nat} {v : Value} {t : List Ent} {A : List Nat} (h : HeapIn w hb ba v n ca t A) (ht : t ≠ []) :
  ∃ bt cap, v = .slice (some ⟨bt, 0, none⟩) t.length cap ∧ MemH w hb bt ba cap n ca t A := by
 rcases h.tr.2 with ⟨_, h0⟩ | ⟨g, cap, cur, rfl, _, hh, h1, h2, h3, h4⟩
 ·exact absurd (List.eq_nil_of_length_eq_zero h0) ht
 ·refine ⟨g, cap, rfl, h.hd, ⟨cur, hh, h3, fun i hi c hc => ?_⟩, h.tb, (h.n1 g rfl).1.symm, h.n2, (h.n1 g rfl).2, h1, h2⟩
  have h5 : 4 * i + c < t.length * 4 := by omega
  have h6 : (cur.toList.take (t.length * 4))[4 * i + c]? = (entCells (at' t i))[c]? := by rw [h4]; exact flatE_get t i c hi hc
  rw [List.getElem?_take_of_lt h5, Array.getElem?_toList] at h6
  exact h6
theorem HeapIn.nil_or {w : World} {hb ba n ca : Nat} {v : Value} {t : List Ent} {A : List Nat} (h : HeapIn w hb ba v n ca t A) : ∃ a cap, v = .slice a t.length cap := by
 rcases h.tr.2 with ⟨h1, h0⟩ | ⟨g, cap, cur, rfl, _⟩
 ·exact ⟨none, 0, by rw [h1, h0]⟩
 ·exact ⟨_, _, rfl⟩

/-- The blocks of a heap. -/
def foot (hb ba : Nat) (v : Value) (k : Nat) : Prop := k = hb ∨ k = ba ∨ v.ownBlock = some k
theorem HeapIn.lt {w : World} {hb ba n ca : Nat} {v : Value} {t : List Ent} {A : List Nat} (h : HeapIn w hb ba v n ca t A) (k : Nat) (hk : foot hb ba v k) : k < w.heap.size := by
 obtain ⟨cv, h4, _⟩ := h.tb
 rcases hk with h1 | h1 | h1
 ·subst h1; exact (Array.getElem?_eq_some_iff.1 h.hd).1
 ·subst h1; exact (Array.getElem?_eq_some_iff.1 h4).1
 ·exact (h.tr.lt k h1).2
theorem HeapIn.fr {S : Nat → Prop} {w w' : World} {hb ba n ca : Nat} {v : Value} {t : List Ent} {A : List Nat} (h : HeapIn w hb ba v n ca t A) (hf : Fr S w w') (hS : ∀ k, foot hb ba v k → ¬ S k) : HeapIn w' hb ba v n ca t A := by
 obtain ⟨cv, h4, h5⟩ := h.tb
 exact ⟨(hf.block _ (h.lt _ (.inl rfl)) (hS _ (.inl rfl))).trans h.hd, ownsRow_k_fr h.tr hf (fun g hg => hS g (.inr (.inr hg))), ⟨cv, (hf.block _ (h.lt _ (.inr (.inl rfl))) (hS _ (.inr (.inl rfl)))).trans h4, h5⟩, h.n1, h.n2⟩

/-- What a heap has. -/
structure HeapIs (w : World) (hb ba : Nat) (v : Value) (n : Nat) (L : List Ent) : Prop where
 some : ∃ ca t A, HeapIn w hb ba v n ca t A ∧ HeapOK ordE Ent.place t A ∧ t.Perm L
 sorted : Sorted L
 once : Once L
 place : ∀ e ∈ L, e.place < n
 size : n ≤ 4096
theorem HeapIs.lt {w : World} {hb ba n : Nat} {v : Value} {L : List Ent} (h : HeapIs w hb ba v n L) (k : Nat) (hk : foot hb ba v k) : k < w.heap.size := by
 obtain ⟨ca, t, A, h1, _⟩ := h.some; exact h1.lt k hk
theorem HeapIs.fr {S : Nat → Prop} {w w' : World} {hb ba n : Nat} {v : Value} {L : List Ent} (h : HeapIs w hb ba v n L) (hf : Fr S w w') (hS : ∀ k, foot hb ba v k → ¬ S k) : HeapIs w' hb ba v n L := by
 obtain ⟨ca, t, A, h1, h2⟩ := h.some; exact ⟨⟨ca, t, A, h1.fr hf hS, h2⟩, h.sorted, h.once, h.place, h.size⟩
theorem HeapIs.later {w w' : World} {hb ba n : Nat} {v : Value} {L : List Ent} (h : HeapIs w hb ba v n L) (hf : Fr none' w w') : HeapIs w' hb ba v n L := h.fr hf (fun _ _ h => h)
theorem del_perm {L : List Ent} (h : Once L) {e : Ent} (he : e ∈ L) : L.Perm (e :: delL e.place L) := by
 induction L with
 | nil => cases he
 | cons x r ih =>
  rcases List.mem_cons.1 he with h1 | h1
  ·subst h1; rw [del_cons h]
  ·have hne : x.place ≠ e.place := fun h2 => (List.nodup_cons.1 h).1 (List.mem_map.2 ⟨e, h1, h2.symm⟩)
   have h3 : delL e.place (x :: r) = x :: delL e.place r := by unfold delL; rw [List.filter_cons_of_pos (by simp [hne])]
   rw [h3]
   exact ((ih (List.nodup_cons.1 h).2 h1).cons x).trans (List.Perm.swap _ _ _)
theorem del_none {L : List Ent} {p : Nat} (h : look L p = none) : delL p L = L := by
 refine List.filter_eq_self.2 (fun e he => ?_)
 simp only [bne_iff_ne, ne_eq]
 exact look_none.1 h e he
theorem once_len {n : Nat} {L : List Ent} (h : Once L) (hp : ∀ e ∈ L, e.place < n) : L.length ≤ n := by
 induction n generalizing L with
 | zero => cases L with
  | nil => exact Nat.le_refl _
  | cons x r => have := hp x List.mem_cons_self; omega
 | succ n ih =>
  have h1 := ih (L := delL n L) (delL_once h) (fun e he => by
   have h2 := delL_mem.1 he
   have := hp e h2.1; omega)
  cases hl : look L n with
  | none => rw [del_none hl] at h1; omega
  | some k =>
   have := (del_perm h ((look_some h).1 hl)).length_eq
   simp only [List.length_cons] at this; omega
theorem HeapIs.len {w : World} {hb ba n : Nat} {v : Value} {L : List Ent} (h : HeapIs w hb ba v n L) : L.length ≤ n := once_len h.once h.place

/-- A step of a heap: its blocks may turn; its tree may come to lie in a new block. -/
structure HStep (hb ba : Nat) (v v' : Value) (w w' : World) : Prop where
 fr : Fr (foot hb ba v) w w'
 own : ∀ g, v'.ownBlock = some g → v.ownBlock = some g ∨ w.heap.size ≤ g
theorem HStep.refl (hb ba : Nat) (v : Value) (w : World) : HStep hb ba v v w w := ⟨Fr.refl _ _, fun _ h => .inl h⟩
theorem HStep.later {hb ba : Nat} {v v' : Value} {a b c : World} (h : HStep hb ba v v' a b) (hf : Fr none' b c) : HStep hb ba v v' a c := ⟨h.fr.trans' hf (fun _ _ h => h.elim), h.own⟩
theorem HStep.before {hb ba : Nat} {v v' : Value} {a b c : World} (hf : Fr none' a b) (h : HStep hb ba v v' b c) : HStep hb ba v v' a c :=
 ⟨(hf.mono (fun _ _ h => h.elim)).trans h.fr, fun g hg => (h.own g hg).imp id (fun h => Nat.le_trans hf.size h)⟩
theorem HStep.trans {hb ba : Nat} {v v' v'' : Value} {a b c : World} (h : HStep hb ba v v' a b) (k : HStep hb ba v' v'' b c) : HStep hb ba v v'' a c := by
 refine ⟨h.fr.trans' k.fr (fun i hi hs => ?_), fun g hg => ?_⟩
 ·rcases hs with h1 | h1 | h1
  ·exact .inl h1
  ·exact .inr (.inl h1)
  ·rcases h.own i h1 with h2 | h2
   ·exact .inr (.inr h2)
   ·omega
 ·rcases k.own g hg with h1 | h1
  ·exact h.own g h1
  ·exact .inr (Nat.le_trans h.fr.size h1)
/-- What a place is told. -/
def errP (n : Nat) (L : List Ent) (p : Int) : Int := if p < 0 ∨ (n : Int) ≤ p then 80 else if look L p.toNat = none then 6 else 0

/-- The table and the list. -/
theorem find_tells {w : World} {hb ba n ca : Nat} {v : Value} {t : List Ent} {A : List Nat} {L : List Ent} (h : HeapIn w hb ba v n ca t A) (ok : HeapOK ordE Ent.place t A) (hp : t.Perm L) (ho : Once L) (p : Int) :
  (findR p A).2 = errP n L p ∧ (errP n L p = 0 → ∃ i : Nat, (findR p A).1 = i ∧ i < t.length ∧ (at' t i).place = p.toNat ∧ look L p.toNat = some (at' t i).key) := by
 obtain ⟨_, _, _, hA, _⟩ := h.tb
 unfold findR errP
 rw [hA]
 by_cases c1 : p < 0 ∨ (n : Int) ≤ p
 ·rw [if_pos c1, if_pos c1]; exact ⟨rfl, fun h => by omega⟩
 ·rw [if_neg c1, if_neg c1]
  obtain ⟨j, rfl⟩ : ∃ j : Nat, p = j := ⟨p.toNat, by omega⟩
  rw [Int.toNat_natCast]
  have hj : j < A.length := by omega
  obtain ⟨x, hx⟩ : ∃ x, A[j]? = some x := ⟨_, List.getElem?_eq_getElem hj⟩
  have hg : A.getD j 0 = x := by rw [List.getD_eq_getElem?_getD, hx]; rfl
  rw [hg]
  by_cases hc : ∃ k, k < t.length ∧ (at' t k).place = j
  ·obtain ⟨k, hk, hkj⟩ := hc
   have h1 := ok.tab.here k hk
   rw [hkj, hx] at h1
   injection h1 with h1
   have hl : look L j = some (at' t k).key := (look_some ho).2 (hp.mem_iff.1 (by
    have h2 : at' t k ∈ t := by rw [at_get hk]; exact List.getElem_mem _
    rw [← hkj]; exact h2))
   rw [if_neg (by omega), if_neg (by rw [hl]; simp)]
   exact ⟨rfl, fun _ => ⟨k, by omega, hk, hkj, hl⟩⟩
  ·have h1 := ok.tab.none j hj (fun k hk e => hc ⟨k, hk, e⟩)
   rw [hx] at h1
   injection h1 with h1
   have hl : look L j = none := look_none.2 (fun e he hej => by
    have h2 : e ∈ t := hp.mem_iff.2 he
    obtain ⟨k, hk, hke⟩ := List.getElem_of_mem h2
    exact hc ⟨k, hk, by rw [at_get hk, hke]; exact hej⟩)
   rw [if_pos h1, if_pos hl]
   exact ⟨rfl, fun h => by omega⟩
theorem HeapIs.table_le {w : World} {hb ba n ca : Nat} {v : Value} {t : List Ent} {A : List Nat} (_ : HeapIn w hb ba v n ca t A) (ok : HeapOK ordE Ent.place t A) (hl : t.length ≤ 100000 - 1) : ∀ x ∈ A, x ≤ 100000 := by
 intro x hx
 obtain ⟨j, hj, rfl⟩ := List.getElem_of_mem hx
 by_cases hc : ∃ k, k < t.length ∧ (at' t k).place = j
 ·obtain ⟨k, hk, hkj⟩ := hc
  have h1 := ok.tab.here k hk
  rw [hkj, List.getElem?_eq_getElem hj] at h1
  injection h1 with h1
  omega
 ·have h1 := ok.tab.none j hj (fun k hk e => hc ⟨k, hk, e⟩)
  rw [List.getElem?_eq_getElem hj] at h1
  injection h1 with h1
  omega

/-- find on a heap. -/
theorem find_is {w : World} {hb ba n ca : Nat} {v : Value} {t : List Ent} {A : List Nat} {L : List Ent} (h : HeapIn w hb ba v n ca t A) (ok : HeapOK ordE Ent.place t A) (hp : t.Perm L) (ho : Once L) (hn : n ≤ 4096) (hl : L.length ≤ n) (p : Int) :
  Calls Tryz.prog 107 #[.pointer (some ⟨hb, 0, none⟩), .int .i64 p] w fun e w' => e = .returned (.tuple #[.int .i64 (findR p A).1, .int .i64 (errP n L p)]) ∧ Fr none' w w' := by
 obtain ⟨cu, h4, h5, h6, h7⟩ := h.tb
 have := find_any hb ba n ca p A w h6 (by omega) (HeapIs.table_le h ok (by rw [hp.length_eq]; omega)) (by rw [cells_at h.hd]; rfl) (by rw [cells_at h.hd]; rfl) (fun j x hx => by rw [cells_at h4]; exact h7 j x hx)
 rw [(find_tells h ok hp ho p).1] at this
 exact this.mono fun _ _ h => ⟨h.1, ⟨h.2.os, h.2.tape, h.2.output, by rw [h.2.heap]; exact Nat.le_refl _, fun k _ _ => by rw [h.2.heap], h.2.drawn⟩⟩
end Go.Proofs.YtieeloealklkgaaGreat

/-
  The acts of a heap that only tell.
-/
namespace Go.Proofs.YtieeloealklkgaaGreat
open Go.RowKit
attribute [local go_sem ↓] Go.wp_at_zero Go.wp_at_succ

theorem set3 {W : World} {N : Nat} {a b c : Value} {ty : TypeId} (h : W.heap[N]? = some (.cells #[a, b, c] ty (0, 0))) (p q r : Value) :
  (((W.setCell ⟨N, 0, none⟩ p).setCell ⟨N, 1, none⟩ q).setCell ⟨N, 2, none⟩ r).heap[N]? = some (.cells #[p, q, r] ty (0, 0)) := by
 simp [World.setCell, Array.getElem?_modify, h]
/-- The key of a place, or none. -/
def keyP (n : Nat) (L : List Ent) (p : Int) : Key3 := if errP n L p = 0 then (look L p.toNat).getD zeroK else zeroK

set_option maxHeartbeats 1000000 in
theorem Len_is {w : World} {hb ba n : Nat} {v : Value} {L : List Ent} (h : HeapIs w hb ba v n L) :
  Calls Tryz.prog 83 #[.pointer (some ⟨hb, 0, none⟩)] w fun e w' => e = .returned (.int .i64 (L.length : Nat)) ∧ w = w' := by
 obtain ⟨⟨ca, t, A, hIn, hOk, hPe⟩, hSo, hOn, hPl, hNn⟩ := h
 obtain ⟨a, cap, rfl⟩ := hIn.nil_or
 rw [hPe.length_eq] at hIn
 have h0 : w.cell? ⟨hb, 0, none⟩ = some (.bool true) := by rw [cells_at hIn.hd]; rfl
 have h1 : w.cell? ⟨hb, 1, none⟩ = some (.slice a L.length cap) := by rw [cells_at hIn.hd]; rfl
 clear hIn hOk hPe hSo hOn hPl hNn
 go_enter Tryz.func83, Tryz.ntmps83
 go_wp2_with (go_at_call 95; refine (is_made hb true _ h0).mono ?_; rintro e w' ⟨rfl, rfl⟩)
 go_ret
 exact ⟨rfl, rfl⟩

/-
  Acts that turn a heap: Put.
-/

theorem info_entry : (Tryz.prog.info? 192).map (fun i => (i.zero, i.size, i.bytes)) = some (some (.agg #[.int .i64 0, .int .i64 0, .int .i64 0, .int .i64 0]), 4, 32) := by kernel_rfl

theorem Src.newRowD {P : Program} {size : Nat} {tx e' ty : TypeId} (w : World) (hk : P.underlying tx = some (.slice e')) (n c : Nat) (news : List Value) (hl : news.length = n * size) (h1 : ∀ u ∈ news, u.oneCell' = true) :
  Src P size tx (.slice (some ⟨w.heap.size, 0, none⟩) n c) n news (w.alloc (.cells news.toArray ty)).drew :=
 Src.ofSlice _ hk _ n c news hl (fun j u hj => by
  have h : (w.alloc (.cells news.toArray ty)).drew.heap[w.heap.size]? = _ := World.alloc_heap_new w (.cells news.toArray ty)
  unfold Addr.add
  by_cases hj0 : j = 0
  ·subst hj0; simp only [World.cell?, if_true, h]; simpa using hj
  ·rw [if_neg hj0]; simp only [World.cell?, h]; simpa using hj) h1

set_option maxHeartbeats 4000000 in
theorem Put_in {w : World} {hb ba n ca : Nat} {v : Value} {t : List Ent} {A : List Nat} (hIn : HeapIn w hb ba v n ca t A) (p : Nat) (k : Key3)
  (hF : ∀ W, Fr none' w W → Calls Tryz.prog 107 #[.pointer (some ⟨hb, 0, none⟩), .int .i64 p] W fun e w' => e = .returned (.tuple #[.int .i64 0, .int .i64 6]) ∧ Fr none' W w') (hm : t.length < 5000) (hp : ∀ e ∈ t, e.place < n) (hpn : p < n) :
  Calls Tryz.prog 85 #[.pointer (some ⟨hb, 0, none⟩), .int .i64 p, keyV k] w fun e w' => e = .returned (.int .i64 0) ∧ ∃ v', HeapIn w' hb ba v' n ca (putT ordE ⟨k, p⟩ t) (putA ordE Ent.place ⟨k, p⟩ t A) ∧ HStep hb ba v v' w w' := by
 have hl := hIn.lt
 obtain ⟨a, cap, hv⟩ := hIn.nil_or
 obtain ⟨m, hm'⟩ : ∃ m, t.length = m := ⟨_, rfl⟩
 have hrow := hIn.tr
 obtain ⟨i0, hi, hz0, hz1, hz2⟩ := info_parts info_entry
 have h1 : w.cell? ⟨hb, 1, none⟩ = some v := by rw [cells_at hIn.hd]; rfl
 have hbl : hb < w.heap.size := hl hb (.inl rfl)
 obtain ⟨N, hN⟩ : ∃ N, w.heap.size = N := ⟨_, rfl⟩
 obtain ⟨W0, hW0⟩ : ∃ W0, w.alloc (.cells #[.int .i64 k.time, .int .i64 k.source, .int .i64 k.seq] 28) = W0 := ⟨_, rfl⟩
 have f0 : Fr none' w W0 := by rw [← hW0]; exact (Fr.refl _ _).alloc _
 have kz : KeyAt W0 N k := by rw [← hW0, ← hN]; exact World.alloc_heap_new w _
 have HI := Lib.hid hIn
 have HF := Lib.hid hF
 have HP := Lib.hid hp
 have HN := Lib.hid hN
 have HW0 := Lib.hid hW0
 have HV := Lib.hid hv
 have F0 := Lib.hid f0
 have Kz := Lib.hid kz
 have Hm := Lib.hid hm'
 rw [hm'] at hm
 rw [hN] at hbl
 clear hIn hF hp hN hW0 hv f0 kz hm' hl hrow h1
 simp only [keyV]
 go_enter Tryz.func85, Tryz.ntmps85
 go_wp2_with fail
 rw [HN.out, HW0.out]
 refine (HF.out W0 F0.out).mono ?_
 rintro e w1 ⟨rfl, hf⟩
 have f1 : Fr none' w w1 := F0.out.trans hf
 have hI1 := HI.out.fr f1 (fun _ _ h => h)
 have h1 : w1.cell? ⟨hb, 1, none⟩ = some v := by rw [cells_at hI1.hd]; rfl
 have hfz1 : w1.frozen? ⟨hb, 1, none⟩ = false := frozen_at hI1.hd 1
 have kz1 := Kz.out.fr hf id
 have w0 := cells_of kz1 0
 have w1' := cells_of kz1 1
 have w2 := cells_of kz1 2
 simp at w0 w1' w2
 have F1 := Lib.hid f1
 have HI1 := Lib.hid hI1
 clear hf f1 hI1 kz1
 go_wp2_with fail
 refine wp_region_Z (z := 12) (S := fun W' => W'.cell? ⟨hb, 1, none⟩ = some v ∧ W'.cell? ⟨N, 0, none⟩ = some (.int .i64 k.time) ∧ W'.cell? ⟨N, 1, none⟩ = some (.int .i64 k.source) ∧ W'.cell? ⟨N, 2, none⟩ = some (.int .i64 k.seq)) (by kernel_rfl) ?_
 have hSS : w1.drew.cell? ⟨hb, 1, none⟩ = some v ∧ w1.drew.cell? ⟨N, 0, none⟩ = some (.int .i64 k.time) ∧ w1.drew.cell? ⟨N, 1, none⟩ = some (.int .i64 k.source) ∧ w1.drew.cell? ⟨N, 2, none⟩ = some (.int .i64 k.seq) := ⟨h1, w0, w1', w2⟩
 refine takeZ_on (i := 0) (v := .pointer (some ⟨hb, 0, none⟩)) rfl (by kernel_rfl) (by kernel_rfl) (by kernel_rfl) (by kernel_rfl) (fun _ _ _ h => h) (by kernel_rfl) (fun W' hSW => ?_) (by assumption) ?_
 ·(try dsimp only at hSW)
  first|go_simp;done|exact rfl|go_simp;rfl|go_simp;omega
 try simp only[pUt,pUn,sEt,sEz,sEs]
 refine takeZ_on (i := 1) (v := .pointer (some ⟨hb, 0, none⟩)) rfl (by kernel_rfl) (by kernel_rfl) (by kernel_rfl) (by kernel_rfl) (fun _ _ _ h => h) (by kernel_rfl) (fun W' hSW => ?_) (by assumption) ?_
 ·(try dsimp only at hSW)
  first|go_simp;done|exact rfl|go_simp;rfl|go_simp;omega
 try simp only[pUt,pUn,sEt,sEz,sEs]
 refine takeZ_on (i := 2) (v := .pointer (some ⟨hb, 0, none⟩)) rfl (by kernel_rfl) (by kernel_rfl) (by kernel_rfl) (by kernel_rfl) (fun _ _ _ h => h) (by kernel_rfl) (fun W' hSW => ?_) (by assumption) ?_
 ·(try dsimp only at hSW)
  first|go_simp;done|exact rfl|go_simp;rfl|go_simp;omega
 try simp only[pUt,pUn,sEt,sEz,sEs]
 refine takeZ_on (i := 3) (v := .pointer (some ⟨hb, 1, none⟩)) rfl (by kernel_rfl) (by kernel_rfl) (by kernel_rfl) (by kernel_rfl) (fun _ _ _ h => h) (by kernel_rfl) (fun W' hSW => ?_) (by assumption) ?_
 ·(try dsimp only at hSW)
  first|go_simp;done|exact rfl|go_simp;rfl|go_simp;omega
 try simp only[pUt,pUn,sEt,sEz,sEs]
 refine takeZ_on (i := 4) (v := v) rfl (by kernel_rfl) (by kernel_rfl) (by kernel_rfl) (by kernel_rfl) (fun _ _ _ h => h) (by kernel_rfl) (fun W' hSW => ?_) (by assumption) ?_
 ·(try dsimp only at hSW)
  first|go_simp;done|exact rfl|go_simp;rfl|go_simp;omega
 try simp only[pUt,pUn,sEt,sEz,sEs]
 refine takeZ_on (i := 5) (v := .agg #[.int .i64 k.time, .int .i64 k.source, .int .i64 k.seq]) rfl (by kernel_rfl) (by kernel_rfl) (by kernel_rfl) (by kernel_rfl) (fun _ _ _ h => h) (by kernel_rfl) (fun W' hSW => ?_) (by assumption) ?_
 ·(try dsimp only at hSW)
  first|go_simp;done|exact rfl|go_simp;rfl|go_simp;omega
 try simp only[pUt,pUn,sEt,sEz,sEs]
 refine takeZ_on (i := 6) (v := .int .i64 p) rfl (by kernel_rfl) (by kernel_rfl) (by kernel_rfl) (by kernel_rfl) (fun _ _ _ h => h) (by kernel_rfl) (fun W' hSW => ?_) (by assumption) ?_
 ·(try dsimp only at hSW)
  first|go_simp;done|exact rfl|go_simp;rfl|go_simp;omega
 try simp only[pUt,pUn,sEt,sEz,sEs]
 refine takeZ_on (i := 7) (v := .agg #[.int .i64 k.time, .int .i64 k.source, .int .i64 k.seq, .int .i64 p]) rfl (by kernel_rfl) (by kernel_rfl) (by kernel_rfl) (by kernel_rfl) (fun _ _ _ h => h) (by kernel_rfl) (fun W' hSW => ?_) (by assumption) ?_
 ·(try dsimp only at hSW)
  first|go_simp;done|exact rfl|go_simp;rfl|go_simp;omega
 try simp only[pUt,pUn,sEt,sEz,sEs]
 refine takeZ_call (i := 8) rfl (by kernel_rfl) (by kernel_rfl) (fun K hK => ?_)
 go_simp
 have hbl1 : hb < w1.heap.size := Nat.lt_of_lt_of_le (by rw [HN.out]; exact hbl) F1.out.size
 have hN1 : N < w1.heap.size := World.block_lt_of_cell? w1 _ w0
 obtain ⟨W2, hW2⟩ : ∃ W2, (w1.alloc (.cells #[.int .i64 k.time, .int .i64 k.source, .int .i64 k.seq, .int .i64 p] 192)).drew = W2 := ⟨_, rfl⟩
 have f2 : Fr none' w1 W2 := by rw [← hW2]; exact ((Fr.refl _ _).alloc _).drew
 have hsrc := Src.newRowD (P := Tryz.prog) (size := 4) (tx := 148) (ty := 192) w1 Tryz.underlying148 1 1 [.int .i64 k.time, .int .i64 k.source, .int .i64 k.seq, .int .i64 p] rfl (by simp [Value.oneCell'])
 rw [hW2] at hsrc ⊢
 have hS2 : W2.cell? ⟨hb, 1, none⟩ = some v ∧ W2.cell? ⟨N, 0, none⟩ = some (.int .i64 k.time) ∧ W2.cell? ⟨N, 1, none⟩ = some (.int .i64 k.source) ∧ W2.cell? ⟨N, 2, none⟩ = some (.int .i64 k.seq) := ⟨f2.later h1, f2.later w0, f2.later w1', f2.later w2⟩
 refine hK.out _ _ (.inr hS2) ?_
 clear hK K
 try simp only[pUt,pUn,sEt,sEz,sEs]
 have hI2 := HI1.out.fr f2 (fun _ _ h => h)
 refine takeZ_call (i := 9) rfl (by kernel_rfl) (by kernel_rfl) (fun K hK => ?_)
 refine wp_append_k _ _ 148 148 rfl 0 192 i0 (.agg #[.int .i64 0, .int .i64 0, .int .i64 0, .int .i64 0]) 4 32 Tryz.underlying148 hi hz0 hz1 hz2 rfl (by decide) v t.length _ rfl hI2.tr (.slice (some ⟨w1.heap.size, 0, none⟩) 1 1) 1 _ rfl hsrc (by rw [Hm.out]; unfold maxLen; omega) (by rw [Hm.out]; omega) (Nat.zero_le _) ?_
 intro v' W3 hrow3 hgr hdr hob
 obtain ⟨g, cap', rfl⟩ := ownsRow_k_succ hrow3
 have f3 : Fr (fun k => v.ownBlock = some k) W2 W3 := (Fr.refl _ W2).grown hgr hdr (fun k hk _ => hk)
 have hgne : ∀ j, j < W2.heap.size → (v.ownBlock = some j → False) → j ≠ g := fun j hj h1 e => by
  subst e
  rcases hob with h | h
  ·exact h1 h.symm
  ·injection h with h
   simp at h; omega
 have hn1 : ∀ j, (j = hb ∨ j = ba) → v.ownBlock = some j → False := fun j hj h => by
  have := hI2.n1 j h
  rcases hj with rfl | rfl
  ·exact this.1 rfl
  ·exact this.2 rfl
 have hghb : hb ≠ g := hgne hb (hI2.lt hb (.inl rfl)) (hn1 hb (.inl rfl))
 have hgba : ba ≠ g := hgne ba (hI2.lt ba (.inr (.inl rfl))) (hn1 ba (.inr rfl))
 have hNv : v.ownBlock = some N → False := fun h => by
  have := HI.out.lt N (.inr (.inr h)); rw [HN.out] at this; omega
 have nmem : ∀ j o u, (v.ownBlock = some j → False) → W2.cell? ⟨j, o, none⟩ = some u → W3.cell? ⟨j, o, none⟩ = some u := fun j o u hj hc => by
  rw [f3.cell (p := ⟨j, o, none⟩) (World.block_lt_of_cell? _ _ hc) (fun h => hj h)]; exact hc
 have hS3 : W3.cell? ⟨hb, 1, none⟩ = some v ∧ W3.cell? ⟨N, 0, none⟩ = some (.int .i64 k.time) ∧ W3.cell? ⟨N, 1, none⟩ = some (.int .i64 k.source) ∧ W3.cell? ⟨N, 2, none⟩ = some (.int .i64 k.seq) :=
  ⟨nmem _ _ _ (hn1 hb (.inl rfl)) hS2.1, nmem _ _ _ hNv hS2.2.1, nmem _ _ _ hNv hS2.2.2.1, nmem _ _ _ hNv hS2.2.2.2⟩
 have hd3 : W3.heap[hb]? = some (.cells #[.bool true, v, .slice (some ⟨ba, 0, none⟩) n ca] 150 (0, 0)) := (f3.block hb (hI2.lt hb (.inl rfl)) (hn1 hb (.inl rfl))).trans hI2.hd
 refine hK.out _ _ (.inr hS3) ?_
 clear hK K
 try simp only[pUt,pUn,sEt,sEz,sEs]
 refine takeZ_call (i := 10) rfl (by kernel_rfl) (by kernel_rfl) (fun K hK => ?_)
 go_simp
 refine hK.out _ _ (.inr hS3) ?_
 clear hK K
 try simp only[pUt,pUn,sEt,sEz,sEs]
 refine takeZ_call (i := 11) rfl (by kernel_rfl) (by kernel_rfl) (fun K hK => ?_)
 go_simp
 refine hK.out _ _ (.inr hS3) ?_
 clear hK K
 try simp only[pUt,pUn,sEt,sEz,sEs]
 have hfz3 : W3.frozen? ⟨hb, 1, none⟩ = false := frozen_at hd3 1
 obtain ⟨W4, hW4⟩ : ∃ W4, W3.setCell ⟨hb, 1, none⟩ (.slice (some ⟨g, 0, none⟩) (t.length + 1) cap') = W4 := ⟨_, rfl⟩
 have f4 : Fr (fun k => k = hb) W3 W4 := by rw [← hW4]; exact (Fr.refl (fun k => k = hb) W3).setCell (fun _ => rfl) _
 have hfl : flatE t ++ [.int .i64 k.time, .int .i64 k.source, .int .i64 k.seq, .int .i64 p] = flatE (t ++ [⟨k, p⟩]) := by simp [flatE, entCells]
 rw [hfl] at hrow3
 have hI4 : HeapIn W4 hb ba (.slice (some ⟨g, 0, none⟩) (t.length + 1) cap') n ca (t ++ [⟨k, p⟩]) A := by
  obtain ⟨cv, hc1, hc2, hc3, hc4⟩ := hI2.tb
  refine ⟨?_, ?_, ⟨cv, (f4.block ba (Nat.lt_of_lt_of_le (hI2.lt ba (.inr (.inl rfl))) f3.size) hI2.n2.symm).trans ((f3.block ba (hI2.lt ba (.inr (.inl rfl))) (hn1 ba (.inr rfl))).trans hc1), hc2, hc3, hc4⟩, ?_, hI2.n2⟩
  ·rw [← hW4]; simp [World.setCell, Array.getElem?_modify, hd3]
  ·rw [List.length_append]
   refine ownsRow_k_fr hrow3 f4 (fun j hj e => ?_)
   injection hj with hj
   simp at hj; omega
  ·intro j hj
   injection hj with hj
   simp at hj
   subst hj
   exact ⟨hghb.symm, hgba.symm⟩
 obtain ⟨_, cap2, hveq, hM4⟩ := hI4.mem (by simp)
 injection hveq with e1 e2 e3
 injection e1 with e1
 injection e1 with e1
 subst e1
 subst e3
 have hst : HStep hb ba v (.slice (some ⟨g, 0, none⟩) (t.length + 1) cap') w W4 := by
  refine HStep.before (F1.out.trans f2) ⟨(f3.mono (fun _ _ h => .inr (.inr h))).trans (f4.mono (fun _ _ h => .inl h)), fun j hj => ?_⟩
  rcases hob with h | h
  ·left; rw [← h]; exact hj
  ·right
   rw [hj] at h
   injection h with h
   exact Nat.le_of_eq h.symm
 have Hst := Lib.hid hst
 have HM4 := Lib.hid hM4
 have HW4 := Lib.hid hW4
 have hk1 : W4.cell? ⟨hb, 1, none⟩ = some (.slice (some ⟨g, 0, none⟩) (m + 1) cap') := by rw [cells_at hI4.hd, ← Hm.out]; rfl
 refine takeZ_call (i := 12) rfl (by kernel_rfl) (by kernel_rfl) (fun K hK => ?_)
 clear hI4 hM4 hst hfl hrow3 hob hgr hdr hI2 hgne hn1 hghb hgba hNv nmem hS2 f2 f3 f4 hsrc hd3 hW2 e2
 have hs1 := hS3.1
 clear hS3 hSS
 go_simp
 refine hK.out _ _ (.inl rfl) ?_
 clear hK K hs1 hfz3 hW4
 try simp only[pUt,pUn,sEt,sEz,sEs]
 refine wpAnyZ_done (by kernel_rfl) ?_ _
 have q3 : IntKind.i64.wrap (((m + 1 : Nat) : Int) - 1) = (m : Int) := by rw [IntWalk.i64_in _ (by omega)]; omega
 go_wp2_with fail
 have hlen : (t ++ [⟨k, p⟩] : List Ent).length = m + 1 := by simp [Hm.out]
 have hat : at' (t ++ [⟨k, p⟩] : List Ent) m = ⟨k, p⟩ := by rw [← Hm.out]; exact at_append_last t ⟨k, p⟩
 have HR := rise_mem ordE order_does hb g ba cap' n ca m (t ++ [⟨k, p⟩]) A W4 HM4.out (by omega) (by omega) (fun j hj => by
  have h1 : at' (t ++ [⟨k, p⟩] : List Ent) j ∈ (t ++ [⟨k, p⟩] : List Ent) := by rw [at_get hj]; exact List.getElem_mem _
  rcases List.mem_append.1 h1 with h2 | h2
  ·exact HP.out _ h2
  ·rw [List.mem_singleton.1 h2]; exact hpn)
 rw [hat] at HR
 refine HR.mono ?_
 rintro e5 W5 ⟨rfl, m5, sf5⟩
 have hfin : HeapIn W5 hb ba (.slice (some ⟨g, 0, none⟩) (m + 1) cap') n ca (putT ordE ⟨k, p⟩ t) (putA ordE Ent.place ⟨k, p⟩ t A) := by
  have h1 := m5.heapIn
  rw [riseL_length, hlen] at h1
  rw [putT, putA, Hm.out]
  exact h1
 have hst5 : HStep hb ba v (.slice (some ⟨g, 0, none⟩) (m + 1) cap') w W5 := by
  have h1 : HStep hb ba (.slice (some ⟨g, 0, none⟩) (t.length + 1) cap') (.slice (some ⟨g, 0, none⟩) (m + 1) cap') W4 W5 := ⟨sf5.to.mono (fun k _ h => by
   rcases h with h | h
   ·exact .inr (.inr (by rw [h]; rfl))
   ·exact .inr (.inl h)), fun j hj => .inl hj⟩
  exact Hst.out.trans h1
 have Hfin := Lib.hid hfin
 have Hst5 := Lib.hid hst5
 clear HR m5 sf5 hfin hst5 hlen hat hk1
 go_wp2
 go_ret
 exact ⟨rfl, _, Hfin.out, Hst5.out⟩
/-
  The acts that turn a heap: Put, Remove, Take; Least, New.
-/

/-- What Put tells. -/
def putE (n : Nat) (L : List Ent) (p : Int) : Int := if errP n L p = 0 then 81 else if errP n L p = 6 then 0 else errP n L p
def putL (n : Nat) (L : List Ent) (p : Int) (k : Key3) : List Ent := if errP n L p = 6 then insL ⟨k, p.toNat⟩ L else L
theorem errP_cases (n : Nat) (L : List Ent) (p : Int) : errP n L p = 80 ∨ (errP n L p = 6 ∧ 0 ≤ p ∧ p < n ∧ look L p.toNat = none) ∨ (errP n L p = 0 ∧ 0 ≤ p ∧ p < n ∧ ∃ k, look L p.toNat = some k) := by
 unfold errP
 split
 ·exact .inl rfl
 ·next h =>
  split
  ·next h2 => exact .inr (.inl ⟨rfl, by omega, by omega, h2⟩)
  ·next h2 => exact .inr (.inr ⟨rfl, by omega, by omega, Option.ne_none_iff_exists'.1 h2⟩)

set_option maxHeartbeats 1000000 in
theorem Put_no {hb : Nat} {w : World} (p c i : Int) (k : Key3) (hc : c ≠ 6) (HF : ∀ W, Fr none' w W → Calls Tryz.prog 107 #[.pointer (some ⟨hb, 0, none⟩), .int .i64 p] W fun e w' => e = .returned (.tuple #[.int .i64 i, .int .i64 c]) ∧ Fr none' W w') :
  Calls Tryz.prog 85 #[.pointer (some ⟨hb, 0, none⟩), .int .i64 p, keyV k] w fun e w' => e = .returned (.int .i64 (if c = 0 then 81 else c)) ∧ Fr none' w w' := by
 obtain ⟨W0, hW0⟩ : ∃ W0, w.alloc (.cells #[.int .i64 k.time, .int .i64 k.source, .int .i64 k.seq] 28) = W0 := ⟨_, rfl⟩
 have f0 : Fr none' w W0 := by rw [← hW0]; exact (Fr.refl _ _).alloc _
 have F0 := Lib.hid f0
 have HW0 := Lib.hid hW0
 have HF' := Lib.hid HF
 clear f0 hW0 HF
 simp only [keyV]
 by_cases h0 : c = 0
 ·subst h0
  rw [if_pos rfl]
  go_enter Tryz.func85, Tryz.ntmps85
  go_wp2_with fail
  rw [HW0.out]
  refine (HF'.out W0 F0.out).mono ?_
  rintro e w1 ⟨rfl, hf⟩
  have F1 := Lib.hid hf
  clear hf
  go_wp2
  go_ret
  exact ⟨rfl, F0.out.trans F1.out⟩
 ·rw [if_neg h0]
  have h0b : (c == 0) = false := by simpa using h0
  have h6b : (c == 6) = false := by simpa using hc
  go_enter Tryz.func85, Tryz.ntmps85
  go_wp2_with fail
  rw [HW0.out]
  refine (HF'.out W0 F0.out).mono ?_
  rintro e w1 ⟨rfl, hf⟩
  have F1 := Lib.hid hf
  clear hf
  go_wp2
  go_ret
  exact ⟨rfl, F0.out.trans F1.out⟩

theorem Put_is {w : World} {hb ba n : Nat} {v : Value} {L : List Ent} (h : HeapIs w hb ba v n L) (p : Int) (k : Key3) :
  Calls Tryz.prog 85 #[.pointer (some ⟨hb, 0, none⟩), .int .i64 p, keyV k] w fun e w' => e = .returned (.int .i64 (putE n L p)) ∧ ∃ v', HeapIs w' hb ba v' n (putL n L p k) ∧ HStep hb ba v v' w w' := by
 have hLn := h.len
 have h' := h
 obtain ⟨⟨ca, t, A, hIn, hOk, hPe⟩, hSo, hOn, hPl, hNn⟩ := h
 have hF : ∀ W, Fr none' w W → _ := fun W hW => find_is (hIn.fr hW (fun _ _ h => h)) hOk hPe hOn hNn hLn p
 rcases errP_cases n L p with hc | ⟨hc, h0, h1, h2⟩ | ⟨hc, h0, h1, h2⟩
 ·have e1 : putE n L p = if (80 : Int) = 0 then 81 else 80 := by unfold putE; rw [hc]; rfl
  have e2 : putL n L p k = L := by unfold putL; rw [if_neg (by rw [hc]; omega)]
  rw [e1, e2]
  rw [hc] at hF
  exact (Put_no p 80 _ k (by omega) hF).mono fun _ _ h => ⟨h.1, v, h'.later h.2, (HStep.refl _ _ _ _).later h.2⟩
 ·have e1 : putE n L p = 0 := by unfold putE; rw [if_neg (by omega), if_pos hc]
  have e2 : putL n L p k = insL ⟨k, p.toNat⟩ L := by unfold putL; rw [if_pos hc]
  rw [e1, e2]
  obtain ⟨q, rfl⟩ : ∃ q : Nat, p = q := ⟨p.toNat, by omega⟩
  rw [Int.toNat_natCast] at h2 ⊢
  have hn1 : ∀ x ∈ L, x.place ≠ q := look_none.1 h2
  have hmt : ∀ j, j < t.length → (at' t j) ∈ L := fun j hj => hPe.mem_iff.1 (by rw [at_get hj]; exact List.getElem_mem _)
  obtain ⟨_, _, _, hAl, _⟩ := hIn.tb
  have hfr0 : (findR (q : Int) A).1 = 0 := by
   have h3 := (find_tells hIn hOk hPe hOn (q : Int)).1
   rw [hc] at h3
   unfold findR at h3 ⊢
   by_cases c1 : ((q : Int) < 0 ∨ (A.length : Int) ≤ q)
   ·rw [if_pos c1]
   ·rw [if_neg c1] at h3 ⊢
    by_cases c2 : A.getD (q : Int).toNat 0 = 0
    ·rw [if_pos c2]
    ·rw [if_neg c2] at h3; simp at h3
  rw [hc, hfr0] at hF
  have ok := put_ok ordE_ord (f := ordE) (pl := Ent.place) hOk ⟨k, q⟩ (by rw [hAl]; simp; omega) (fun j hj => hn1 _ (hmt j hj))
  refine (Put_in hIn q k hF (by rw [hPe.length_eq]; omega) (fun e he => hPl e (hPe.mem_iff.1 he)) (by omega)).mono ?_
  rintro e w' ⟨rfl, v', hI, hst⟩
  refine ⟨rfl, v', ⟨⟨_, _, _, hI, ok.1, ?_⟩, insL_sorted hSo (fun x hx e => hn1 x hx (by rw [e])), insL_once hOn hn1, fun e he => ?_, hNn⟩, hst⟩
  ·exact (ok.2.1.trans (hPe.append_right _)).trans (insL_perm _ L).symm
  ·rcases insL_mem.1 he with rfl | he
   ·simp; omega
   ·exact hPl e he
 ·have e1 : putE n L p = if (0 : Int) = 0 then 81 else 0 := by unfold putE; rw [if_pos hc]; rfl
  have e2 : putL n L p k = L := by unfold putL; rw [if_neg (by rw [hc]; omega)]
  rw [e1, e2]
  rw [hc] at hF
  exact (Put_no p 0 _ k (by omega) hF).mono fun _ _ h => ⟨h.1, v, h'.later h.2, (HStep.refl _ _ _ _).later h.2⟩

/-- What is cut out of a heap. -/
theorem cut_is {w : World} {hb ba n ca : Nat} {v : Value} {t : List Ent} {A : List Nat} {L : List Ent} (hIn : HeapIn w hb ba v n ca t A) (hOk : HeapOK ordE Ent.place t A) (hPe : t.Perm L) (hSo : Sorted L) (hOn : Once L) (hPl : ∀ e ∈ L, e.place < n) (hNn : n ≤ 4096) (hLn : L.length ≤ n) {i : Nat} (hi : i < t.length) :
  Calls Tryz.prog 163 #[.pointer (some ⟨hb, 0, none⟩), .int .i64 i] w fun e w' => e = .returned (entV (at' t i)) ∧ ∃ v', HeapIs w' hb ba v' n (delL (at' t i).place L) ∧ HStep hb ba v v' w w' := by
 obtain ⟨bt, cap, rfl, hM⟩ := hIn.mem (by intro h; rw [h] at hi; simp at hi)
 have hmt : ∀ j, j < t.length → (at' t j) ∈ L := fun j hj => hPe.mem_iff.1 (by rw [at_get hj]; exact List.getElem_mem _)
 refine (cut_mem hb bt ba cap n ca i t A w hM hOk hi (by rw [hPe.length_eq]; omega) (fun j hj => hPl _ (hmt j hj))).mono ?_
 rintro e w' ⟨rfl, t', A', m', ok', pe', hf⟩
 refine ⟨rfl, _, ⟨⟨_, t', A', m'.heapIn, ok', ?_⟩, delL_sorted hSo, delL_once hOn, fun e he => hPl e (delL_mem.1 he).1, hNn⟩, ⟨hf.mono (fun k _ h => ?_), fun g hg => .inl hg⟩⟩
 ·exact List.Perm.cons_inv ((pe'.trans hPe).trans (del_perm hOn (hmt i hi)))
 ·rcases h with h | h | h
  ·exact .inl h
  ·exact .inr (.inr (by rw [h]; rfl))
  ·exact .inr (.inl h)

theorem fld_key (a b c d : Int) (w : World) : (Go.Instr.field 192 (.agg #[.int .i64 a, .int .i64 b, .int .i64 c, .int .i64 d]) 0).run Tryz.prog w = .ok (.agg #[.int .i64 a, .int .i64 b, .int .i64 c]) w := by kernel_rfl
def delP (n : Nat) (L : List Ent) (p : Int) : List Ent := if errP n L p = 0 then delL p.toNat L else L
set_option maxHeartbeats 1000000 in
theorem Remove_is {w : World} {hb ba n : Nat} {v : Value} {L : List Ent} (h : HeapIs w hb ba v n L) (p : Int) :
  Calls Tryz.prog 160 #[.pointer (some ⟨hb, 0, none⟩), .int .i64 p] w fun e w' => e = .returned (.tuple #[keyV (keyP n L p), .int .i64 (errP n L p)]) ∧ ∃ v', HeapIs w' hb ba v' n (delP n L p) ∧ HStep hb ba v v' w w' := by
 have hLn := h.len
 have h' := h
 obtain ⟨⟨ca, t, A, hIn, hOk, hPe⟩, hSo, hOn, hPl, hNn⟩ := h
 obtain ⟨N, hN⟩ : ∃ N, w.heap.size = N := ⟨_, rfl⟩
 obtain ⟨W0, hW0⟩ : ∃ W0, w.alloc (.cells #[.int .i64 0, .int .i64 0, .int .i64 0] 28) = W0 := ⟨_, rfl⟩
 have f0 : Fr none' w W0 := by rw [← hW0]; exact (Fr.refl _ _).alloc _
 have kz : KeyAt W0 N zeroK := by rw [← hW0, ← hN]; exact World.alloc_heap_new w _
 have hI0 := hIn.fr f0 (fun _ _ h => h)
 have HF := find_is hI0 hOk hPe hOn hNn hLn p
 have Hzero : ∀ W, KeyAt W N zeroK → W.cell? ⟨N, 0, none⟩ = some (.int .i64 0) ∧ W.cell? ⟨N, 1, none⟩ = some (.int .i64 0) ∧ W.cell? ⟨N, 2, none⟩ = some (.int .i64 0) ∧ W.frozen? ⟨N, 0, none⟩ = false ∧ W.frozen? ⟨N, 1, none⟩ = false ∧ W.frozen? ⟨N, 2, none⟩ = false := fun W h => by
  refine ⟨?_, ?_, ?_, frozen_at h 0, frozen_at h 1, frozen_at h 2⟩ <;> rw [cells_at h] <;> rfl
 have HHzero := Lib.hid Hzero
 clear Hzero
 have hft : ∀ k, foot hb ba v k → k < N := fun k hk => hN ▸ hIn.lt k hk
 by_cases hc : errP n L p = 0
 ·obtain ⟨i, hi1, hi2, hi3, hi4⟩ := (find_tells hIn hOk hPe hOn p).2 hc
  have hk : keyP n L p = (at' t i).key := by rw [keyP, if_pos hc, hi4]; rfl
  have hd : delP n L p = delL (at' t i).place L := by rw [delP, if_pos hc, hi3]
  have HC := fun w1 (hf : Fr none' w w1) => cut_is (hIn.fr hf (fun _ _ h => h)) hOk hPe hSo hOn hPl hNn hLn hi2
  obtain ⟨x, hx⟩ : ∃ x, at' t i = x := ⟨_, rfl⟩
  rw [hx] at hk hd HC
  rw [hc, hi1] at HF
  rw [hc, hk, hd]
  simp only [entV] at HC
  have HF' := Lib.hid HF
  have HC' := Lib.hid HC
  have F0 := Lib.hid f0
  have Kz := Lib.hid kz
  have HN := Lib.hid hN
  have HW0 := Lib.hid hW0
  have Hft := Lib.hid hft
  have hfld := fld_key x.key.time x.key.source x.key.seq x.place
  clear HF HC hi1 hi2 hi3 hi4 hk hd hx hc hIn hI0 hOk hPe hSo hOn hPl hNn hLn f0 kz hN hW0 h' hft
  simp only [keyV]
  go_enter Tryz.func160, Tryz.ntmps160
  go_wp2_with fail
  rw [HN.out, HW0.out]
  refine HF'.out.mono ?_
  rintro e w1 ⟨rfl, hf⟩
  have f1 : Fr none' w w1 := F0.out.trans hf
  have F1 := Lib.hid f1
  have Kz1 := Lib.hid (Kz.out.fr hf id)
  clear hf f1
  go_wp2_with fail
  refine (HC'.out w1 F1.out).mono ?_
  rintro e w2 ⟨rfl, v', hI2, hst⟩
  have hlt1 : ∀ k, foot hb ba v k → k < N := Hft.out
  have hNf : ¬ foot hb ba v N := fun h => by have := hlt1 N h; omega
  have kz2 := Kz1.out.fr hst.fr hNf
  have hN2 : N < w2.heap.size := (Array.getElem?_eq_some_iff.1 kz2).1
  have hNv : ¬ foot hb ba v' N := fun h => by
   rcases h with h | h | h
   ·exact hNf (.inl h)
   ·exact hNf (.inr (.inl h))
   ·rcases hst.own N h with h1 | h1
    ·exact hNf (.inr (.inr h1))
    ·have := (Array.getElem?_eq_some_iff.1 Kz1.out).1; omega
  obtain ⟨z0, z1, z2, y0, y1, y2⟩ := HHzero.out w2 kz2
  have zz := set3 kz2 (.int .i64 x.key.time) (.int .i64 x.key.source) (.int .i64 x.key.seq)
  have w0 := cells_of zz 0
  have w1' := cells_of zz 1
  have w2' := cells_of zz 2
  simp at w0 w1' w2'
  have HI2 := Lib.hid hI2
  have Hst := Lib.hid (HStep.before F1.out hst)
  have HNv := Lib.hid hNv
  clear hI2 hst kz2 zz hlt1 hNf hNv
  go_wp2
  refine bodyPost_ret (v := .tuple #[.agg #[.int .i64 x.key.time, .int .i64 x.key.source, .int .i64 x.key.seq], .int .i64 0]) (by simp [results, Tryz.results160, go_sem, w0, w1', w2']) rfl ⟨rfl, v', HI2.out.fr (S := fun k => k = N) ?_ (fun k h e => HNv.out (e ▸ h)), ?_⟩
  ·exact (((Fr.refl (fun k => k = N) w2).setCell (fun _ => rfl) _).setCell (fun _ => rfl) _).setCell (fun _ => rfl) _
  ·have nN : N < w.heap.size → foot hb ba v N := fun h => by rw [HN.out] at h; omega
   exact ⟨((Hst.out.fr.setCell nN _).setCell nN _).setCell nN _, Hst.out.own⟩
 ·have hk : keyP n L p = zeroK := by rw [keyP, if_neg hc]
  have hd : delP n L p = L := by rw [delP, if_neg hc]
  rw [hk, hd]
  obtain ⟨i, hi⟩ : ∃ i, (findR p A).1 = i := ⟨_, rfl⟩
  obtain ⟨c, hcc⟩ : ∃ c, errP n L p = c := ⟨_, rfl⟩
  rw [hi, hcc] at HF
  rw [hcc] at hc ⊢
  have hb' : (c != 0) = true := by simpa using hc
  have HF' := Lib.hid HF
  have F0 := Lib.hid f0
  have Kz := Lib.hid kz
  have HN := Lib.hid hN
  have HW0 := Lib.hid hW0
  have H' := Lib.hid h'
  clear HF hk hd hi hcc hIn hI0 hOk hPe hSo hOn hPl hNn hLn f0 kz hN hW0 h' hft
  simp only [keyV, zeroK]
  go_enter Tryz.func160, Tryz.ntmps160
  go_wp2_with fail
  rw [HN.out, HW0.out]
  refine HF'.out.mono ?_
  rintro e w1 ⟨rfl, hf⟩
  have f1 : Fr none' w w1 := F0.out.trans hf
  have kz1 := Kz.out.fr hf id
  obtain ⟨z0, z1, z2, y0, y1, y2⟩ := HHzero.out w1 kz1
  have zz := set3 kz1 (.int .i64 0) (.int .i64 0) (.int .i64 0)
  have w0 := cells_of zz 0
  have w1' := cells_of zz 1
  have w2 := cells_of zz 2
  simp at w0 w1' w2
  have F1 := Lib.hid f1
  clear hf f1 kz1 zz
  go_wp2
  have nN : N < w.heap.size → False := fun h => by rw [HN.out] at h; omega
  have hfin : Fr none' w _ := ((F1.out.setCell (o := 0) nN (.int .i64 0)).setCell (o := 1) nN (.int .i64 0)).setCell (o := 2) nN (.int .i64 0)
  exact bodyPost_ret (v := .tuple #[.agg #[.int .i64 0, .int .i64 0, .int .i64 0], .int .i64 c]) (by simp [results, Tryz.results160, go_sem, w0, w1', w2]) rfl ⟨rfl, v, H'.out.later hfin, (HStep.refl _ _ _ _).later hfin⟩
/-
  Take, Least, New.
-/

/-- The least comes first. -/
theorem first_is {t : List Ent} {x : Ent} {r : List Ent} (hh : Heap4 ordE t) (hPe : t.Perm (x :: r)) (hSo : Sorted (x :: r)) : 0 < t.length ∧ at' t 0 = x := by
 have hl : 0 < t.length := by rw [hPe.length_eq]; simp
 refine ⟨hl, ?_⟩
 have h1 : at' t 0 ∈ x :: r := hPe.mem_iff.1 (by rw [at_get hl]; exact List.getElem_mem _)
 have h2 : x ∈ t := hPe.mem_iff.2 List.mem_cons_self
 obtain ⟨k, hk, he⟩ := List.getElem_of_mem h2
 have h3 := heap_first ordE_ord hh k hk
 rw [at_get hk, he] at h3
 rcases List.mem_cons.1 h1 with h4 | h4
 ·exact h4
 ·have h5 := (List.pairwise_cons.1 hSo).1 _ h4
  have := ordE_ord.anti x (at' t 0)
  omega

def leastP : List Ent → Int
 | [] => 0
 | x :: _ => x.place
def leastB : List Ent → Bool
 | [] => false
 | _ :: _ => true
set_option maxHeartbeats 1000000 in
theorem Least_is {w : World} {hb ba n : Nat} {v : Value} {L : List Ent} (h : HeapIs w hb ba v n L) :
  Calls Tryz.prog 162 #[.pointer (some ⟨hb, 0, none⟩)] w fun e w' => e = .returned (.tuple #[.int .i64 (leastP L), .bool (leastB L)]) ∧ w = w' := by
 obtain ⟨⟨ca, t, A, hIn, hOk, hPe⟩, hSo, hOn, hPl, hNn⟩ := h
 have hl := once_len hOn hPl
 cases L with
 | nil =>
  obtain ⟨a, cap, rfl⟩ := hIn.nil_or
  have h0 : w.cell? ⟨hb, 0, none⟩ = some (.bool true) := by rw [cells_at hIn.hd]; rfl
  have h1 : w.cell? ⟨hb, 1, none⟩ = some (.slice a 0 cap) := by rw [cells_at hIn.hd, hPe.length_eq]; rfl
  clear hIn hOk hPe hSo hOn hPl hNn hl
  simp only [leastP, leastB]
  go_enter Tryz.func162, Tryz.ntmps162
  go_wp2_with (go_at_call 95; refine (is_made hb true _ h0).mono ?_; rintro e w' ⟨rfl, rfl⟩)
  go_ret2
  exact ⟨rfl, rfl⟩
 | cons x r =>
  obtain ⟨ht, hx⟩ := first_is hOk.heap hPe hSo
  obtain ⟨bt, cap, rfl, hM⟩ := hIn.mem (by intro h; rw [h] at ht; simp at ht)
  obtain ⟨s0, s1, s2, s3⟩ := hM.ent ht
  rw [hx] at s3
  obtain ⟨m, hm⟩ : ∃ m, t.length = m + 1 := ⟨t.length - 1, by omega⟩
  have h0 : w.cell? ⟨hb, 0, none⟩ = some (.bool true) := by rw [cells_at hIn.hd]; rfl
  have h1 : w.cell? ⟨hb, 1, none⟩ = some (.slice (some ⟨bt, 0, none⟩) (m + 1) cap) := by rw [cells_at hIn.hd, hm]; rfl
  have hml : m + 1 ≤ 4096 := by rw [← hm, hPe.length_eq]; omega
  have d1 : (((m + 1 : Nat) : Int) == 0) = false := by simp; omega
  have d2 : (((m : Int) + 1) == 0) = false := by simp; omega
  rw [show 0 * 4 + 3 = 3 by rfl] at s3
  clear hIn hOk hPe hSo hOn hPl hNn hl hM hx ht s0 s1 s2 hm
  simp only [leastP, leastB]
  go_enter Tryz.func162, Tryz.ntmps162
  go_wp2_with (go_at_call 95; refine (is_made hb true _ h0).mono ?_; rintro e w' ⟨rfl, rfl⟩)
  go_ret2
  exact ⟨rfl, rfl⟩

/-
  Change, New.
-/

/-
  Change, New.
-/

theorem info_int : (Tryz.prog.info? 3).map (fun i => (i.zero, i.size, i.bytes)) = some (some (.int .i64 0), 1, 8) := by kernel_rfl
theorem make_ints (n : Nat) (hn : n ≤ 1000000) (w : World) : (Go.Instr.makeSlice 35 (.int .i64 n) (.int .i64 n)).run Tryz.prog w = .ok (.slice (some ⟨w.heap.size, 0, none⟩) n n) (w.alloc (.cells (Array.replicate n (.int .i64 0)) 3)) := by
 obtain ⟨i0, hi, hz0, hz1, hz2⟩ := info_parts info_int
 have := run_make (P := Tryz.prog) w 35 3 i0 (.int .i64 0) Tryz.underlying35 hi hz0 .i64 .i64 (n : Int) (n : Int) (by omega) (Int.le_refl _) (by rw [hz2]; omega) (by omega)
 have he : madeCells (Value.int .i64 0).cells ((n : Int).toNat * 1) = Array.replicate n (.int .i64 0) := by
  simp only [madeCells, Value.cells, Int.toNat_natCast, Nat.mul_one]
  apply Array.ext
  ·simp
  ·intro j h1 h2
   simp [Nat.mod_one]
 rw [this, hz1, he]
 simp
theorem tab_nil (n : Nat) : HeapOK ordE Ent.place [] (List.replicate n 0) :=
 ⟨fun j _ h => by simp at h, ⟨fun k h => by simp at h, fun p hp _ => by simp at hp; simp [hp]⟩⟩
set_option maxHeartbeats 1000000 in
theorem New_is (n : Nat) (w : World) (hn : n ≤ 4096) : Calls Tryz.prog 45 #[.int .i64 n] w fun e w' => ∃ hb ba, e = .returned (.tuple #[.pointer (some ⟨hb, 0, none⟩), .int .i64 0]) ∧ HeapIs w' hb ba (.slice none 0 0) n [] ∧ Fr none' w w' ∧ w.heap.size ≤ hb ∧ w.heap.size ≤ ba := by
 have d1 : decide ((n : Int) < 0) = false := decide_eq_false (by omega)
 have d2 : decide (4096 < (n : Int)) = false := decide_eq_false (by omega)
 have hmk := make_ints n (by omega)
 go_enter Tryz.func45, Tryz.ntmps45
 go_wp2
 go_ret2
 refine ⟨_, w.heap.size, rfl, ⟨⟨n, [], List.replicate n 0, ⟨?_, World.ownsRow_nil _ _ _ _, ⟨Array.replicate n (.int .i64 0), ?_, by simp, by simp, fun p x hx => ?_⟩, (fun g hg => by cases hg), ?_⟩, tab_nil n, List.Perm.refl _⟩, List.Pairwise.nil, List.nodup_nil, (fun e he => by cases he), hn⟩, ?_, ?_, Nat.le_refl _⟩
 ·have := World.alloc_heap_new (w.alloc (.cells (Array.replicate n (.int .i64 0)) 3)) (.cells #[.bool true, .slice none 0 0, .slice (some ⟨w.heap.size, 0, none⟩) n n] 150)
  rw [World.size_alloc] at this
  exact this
 ·exact (Below.heap_alloc _ _ _ (by simp)).trans (World.alloc_heap_new w _)
 ·have hp : p < n := by have := (List.getElem?_eq_some_iff.1 hx).1; simpa using this
  rw [List.getElem?_replicate, if_pos hp] at hx
  injection hx with hx
  subst hx
  simp [hp, natV]
 ·simp
 ·exact ((Fr.refl _ _).alloc _).alloc _
 ·simp
/-
  heap.places, Tree.
-/

def placesV (t : List Ent) : List Value := t.map (fun e => natV e.place)
theorem placesV_take (t : List Ent) (k : Nat) (h : k < t.length) : placesV (t.take (k + 1)) = placesV (t.take k) ++ [natV (at' t k).place] := by
 unfold placesV
 rw [List.take_succ_eq_append_getElem h, List.map_append, at_get h]; rfl
/-- The cells of a row of entries. -/
theorem row_ent {w : World} {base : Nat} {g cap : Nat} {t : List Ent} {n : Nat} (h : w.ownsRow base 192 4 (.slice (some ⟨g, 0, none⟩) n cap) t.length (flatE t)) {i : Nat} (hi : i < t.length) :
  w.cell? ⟨g, i * 4, none⟩ = some (.int .i64 (at' t i).key.time) ∧ w.cell? ⟨g, i * 4 + 1, none⟩ = some (.int .i64 (at' t i).key.source) ∧ w.cell? ⟨g, i * 4 + 2, none⟩ = some (.int .i64 (at' t i).key.seq) ∧ w.cell? ⟨g, i * 4 + 3, none⟩ = some (.int .i64 (at' t i).place) := by
 have hc := h.cells (g := g) rfl
 have key : ∀ c, c < 4 → ∀ u, (entCells (at' t i))[c]? = some u → w.cell? ⟨g, i * 4 + c, none⟩ = some u := fun c h4 u hu => by
  have := hc (4 * i + c) u ((flatE_get t i c hi h4).trans hu)
  unfold Addr.add at this
  split at this
  ·next h0 => rw [show i * 4 + c = 0 by omega]; exact this
  ·simp at this; rw [show i * 4 + c = 4 * i + c by omega]; exact this
 exact ⟨key 0 (by omega) _ rfl, key 1 (by omega) _ rfl, key 2 (by omega) _ rfl, key 3 (by omega) _ rfl⟩

set_option maxHeartbeats 2000000 in
theorem places_any {w : World} {base : Nat} {v : Value} {t : List Ent} (hrow : w.ownsRow base 192 4 v t.length (flatE t)) (hm : t.length ≤ 5000) :
  Calls Tryz.prog 99 #[v] w fun e w' => ∃ v', e = .returned v' ∧ w'.ownsRow w.heap.size 3 1 v' t.length (placesV t) ∧ Fr none' w w' := by
 obtain ⟨m, hm'⟩ : ∃ m, t.length = m := ⟨_, rfl⟩
 obtain ⟨i0, hi, hz0, hz1, hz2⟩ := info_parts info_int
 obtain ⟨a, cap, rfl⟩ : ∃ a cap, v = .slice a m cap := by
  rcases hrow.2 with ⟨h1, h0⟩ | ⟨g, cap, cur, rfl, _⟩
  ·exact ⟨none, 0, by rw [h1, ← hm', h0]⟩
  ·exact ⟨_, _, by rw [hm']⟩
 obtain ⟨N, hN⟩ : ∃ N, w.heap.size = N := ⟨_, rfl⟩
 rw [hm'] at hm
 have Hrow := Lib.hid hrow
 have Hm := Lib.hid hm'
 have HN := Lib.hid hN
 rw [hN, hm']
 clear hrow hm' hN
 go_enter Tryz.func99, Tryz.ntmps99
 go_wp2
 go_loopw [3, 5, 8] (fun out _ i wr => ∃ k : Nat, k ≤ m ∧ i = .int .i64 k ∧ Hid (wr.ownsRow N 3 1 out k (placesV (t.take k))) ∧ Hid (Fr none' w wr)) (fun _ _ i _ => m - (intOf i).toNat)
 case atStart => exact ⟨0, Nat.zero_le _, rfl, World.ownsRow_nil _ _ _ _, Fr.refl _ _⟩
 case round =>
  obtain ⟨k, hk, rfl, hown, hfr⟩ := hrel
  by_cases hlt : k < m
  ·have hkt : k < t.length := by rw [Hm.out]; exact hlt
   obtain ⟨x, hx⟩ : ∃ x, at' t k = x := ⟨_, rfl⟩
   have hrow1 := ownsRow_k_fr Hrow.out hfr.out (fun _ _ h => h)
   obtain ⟨g, rfl⟩ : ∃ g, a = some ⟨g, 0, none⟩ := by
    rcases hrow1.2 with ⟨_, h0⟩ | ⟨g, cap, cur, h, _⟩
    ·omega
    ·injection h with h; exact ⟨g, h⟩
   obtain ⟨s0, s1, s2, s3⟩ := row_ent hrow1 hkt
   rw [hx] at s0 s1 s2 s3
   have hNr : N ≤ wr.heap.size := by rw [← HN.out]; exact hfr.out.size
   obtain ⟨M, hM⟩ : ∃ M, wr.heap.size = M := ⟨_, rfl⟩
   have hgl : g < wr.heap.size := World.block_lt_of_cell? wr _ s0
   have hsrc := Src.newRow (P := Tryz.prog) (size := 1) (tx := 35) (ty := 3) (wr.alloc (.cells #[.int .i64 x.key.time, .int .i64 x.key.source, .int .i64 x.key.seq, .int .i64 x.place] 192)) Tryz.underlying35 1 1 [.int .i64 x.place] rfl (by simp [Value.oneCell'])
   rw [World.size_alloc] at hsrc
   have Hx := Lib.hid hx
   have HM := Lib.hid hM
   have hown2 := (hown.out.alloc (.cells #[.int .i64 x.key.time, .int .i64 x.key.source, .int .i64 x.key.seq, .int .i64 x.place] 192)).alloc (.cells [Value.int .i64 x.place].toArray 3)
   have fr2 : Fr none' w ((wr.alloc (.cells #[.int .i64 x.key.time, .int .i64 x.key.source, .int .i64 x.key.seq, .int .i64 x.place] 192)).alloc (.cells [Value.int .i64 x.place].toArray 3)) := (hfr.out.alloc _).alloc _
   have Fr2 := Lib.hid fr2
   have Hown2 := Lib.hid hown2
   have Hsrc := Lib.hid hsrc
   clear hrow1 hx hM fr2 hown2 hsrc
   go_wp2_with (at_builtin; refine wpList_append_k rfl _ _ 35 35 rfl N 3 i0 (.int .i64 0) 1 8 Tryz.underlying35 hi hz0 hz1 hz2 rfl (by decide) _ k _ rfl Hown2.out (.slice (some ⟨wr.heap.size + 1, 0, none⟩) 1 1) 1 _ rfl Hsrc.out (by unfold maxLen; omega) (by omega) (by simp; omega) ?_; intro v' w1 hown' hgrow hdr hob)
   have hfin : Fr none' w w1 := Fr2.out.grown hgrow hdr (fun j hj hl => by
    have h1 := (Hown2.out.lt j hj).1
    rw [HN.out] at hl; omega)
   have Hfin := Lib.hid hfin
   have Hown' := Lib.hid hown'
   obtain ⟨g', cap', rfl⟩ := ownsRow_k_succ hown'
   clear hgrow hdr hob hfin hown'
   go_wp2
   go_roundw
   case rel =>
    refine ⟨k + 1, by omega, by go_num, ?_, Hfin.out⟩
    have h1 := Hown'.out
    have h2 := placesV_take t k hkt
    rw [Hx.out] at h2
    show World.ownsRow _ _ _ _ _ _ (placesV (List.take (k + 1) t))
    rw [h2]
    exact h1
   case measure => simp [intOf]; omega
  ·have hkm : k = m := by omega
   subst hkm
   have hfin : Hid (wr.ownsRow N 3 1 u3 k (placesV t)) := by
    have h1 := hown.out
    rw [List.take_of_length_le (by rw [Hm.out]; exact Nat.le_refl _)] at h1
    exact h1
   clear hown
   go_wp2
   go_ret
   exact ⟨_, rfl, hfin.out, hfr.out⟩

end Go.Proofs.YtieeloealklkgaaGreat

/-
  A world that has grown.
-/
namespace Go.Proofs.YtieeloealklkgaaGreat
open Go.RowKit Go.Sort

theorem grow_of_below {w w' : World} (h : Below w.heap.size w w') (hd : w.drawn ≤ w'.drawn) : ∃ q os', w' = grow (w.drewN q) os' := by
 obtain ⟨p, hp⟩ := regrown_of_below h
 have h1 : w'.drawn = p.d := by rw [hp]; rfl
 refine ⟨p.d - w.drawn, p.os, ?_⟩
 rw [hp]
 have h2 : redrawn w p.d = w.drewN (p.d - w.drawn) := by
  unfold redrawn
  have : w.drewN (p.d - w.drawn) = { w with drawn := w.drawn + (p.d - w.drawn) } := by
   first | rfl | simp [World.drewN]
  rw [this, show w.drawn + (p.d - w.drawn) = p.d from by omega]
 rw [h2]
end Go.Proofs.YtieeloealklkgaaGreat

/-
  slices.SortFunc(.., order) and slices.Clone at entries; Order, Copy.
-/
namespace Go.Proofs.YtieeloealklkgaaGreat
open Go.RowKit Go.Sort
attribute [local go_sem ↓] Go.wp_at_zero Go.wp_at_succ

theorem swoE : SWO (ltOf ordE) where
 irrefl x := decide_eq_false (by rw [ordE_ord.refl]; omega)
 trans x y z h1 h2 := decide_eq_true (ordE_ord.trans _ _ _ (of_decide_eq_true h1) (of_decide_eq_true h2))
 ntrans x y z h1 h2 := by
  have h1 := of_decide_eq_false h1
  have h2 := of_decide_eq_false h2
  refine decide_eq_false (fun h => ?_)
  have k1 := ordE_ord.anti x y
  have k2 := ordE_ord.anti y z
  have k3 := ordE_ord.anti x z
  have := ordE_ord.le_trans (a := z) (b := y) (c := x) (by omega) (by omega)
  omega
theorem totE (x y : Ent) (h1 : ltOf ordE x y = false) (h2 : ltOf ordE y x = false) : x = y := by
 have h1 := of_decide_eq_false h1
 have h2 := of_decide_eq_false h2
 have k1 := ordE_ord.anti x y
 exact (ordE_ord.eq x y).1 (by omega)
theorem laysE (blk off size : Nat) (w : World) : CmpLays Tryz.prog 98 #[] entCells 4 ordE blk off size w := fun m os dk _ x y =>
 (order_does x y (sortWorldK entCells 4 w blk off m dk os)).mono fun _ _ h => ⟨h.1, grow_of_below h.2.1 h.2.2⟩
theorem flatK_eq (zs : List Ent) : flatK entCells 4 zs.toArray = (flatE zs).toArray := by
 apply Array.ext
 ·simp [flatE_length]
 ·intro j h1 h2
  have hj : j < zs.length * 4 := by simpa [flatE_length] using h2
  have h3 := flatE_get zs (j / 4) (j % 4) (by omega) (by omega)
  rw [show 4 * (j / 4) + j % 4 = j by omega] at h3
  have h4 := get_flatK entCells 4 zs.toArray j (by simpa using hj)
  rw [getElem!_pos _ j h1] at h4
  rw [h4]
  have h5 : zs.toArray[j / 4]! = at' zs (j / 4) := by
   rw [getElem!_pos _ (j / 4) (by simp; omega)]; simp [at', List.getD_eq_getElem?_getD, List.getElem?_eq_getElem (show j / 4 < zs.length by omega)]
  rw [h5]
  have h6 : j % 4 < (entCells (at' zs (j / 4))).length := by simp [entCells]; omega
  rw [getElem!_pos (entCells (at' zs (j / 4))) (j % 4) h6]
  rw [List.getElem?_eq_getElem h6] at h3
  have h7 : (flatE zs)[j]? = some ((flatE zs)[j]'(by rw [flatE_length]; exact hj)) := List.getElem?_eq_getElem _
  rw [h7] at h3
  injection h3 with h3
  simp [h3]
theorem row_put {w : World} {base : Nat} {e : TypeId} {size g n cap q : Nat} {xs ys : List Value} {os : Array Obj} (h : w.ownsRow base e size (.slice (some ⟨g, 0, none⟩) n cap) n xs) (hy : ys.length = xs.length) :
  (grow (putRow id (Sort.ahead w q) g 0 ys.toArray) os).ownsRow base e size (.slice (some ⟨g, 0, none⟩) n cap) n ys := by
 have hxl := h.1
 rcases h.2 with ⟨e0, _⟩ | ⟨g', cap', cur, e0, hb, hg, hn, hm, hs, ht⟩
 ·cases e0
 ·injection e0 with e1 _ e3
  injection e1 with e1
  injection e1 with e1
  subst e1; subst e3
  have hgl : g < w.heap.size := (Array.getElem?_eq_some_iff.1 hg).1
  have hcs : n * size ≤ cur.size := by rw [hs]; exact Nat.mul_le_mul_right _ hn
  refine ⟨hy.trans hxl, .inr ⟨g, cap, putCells id 0 ys.toArray cur, rfl, hb, ?_, hn, hm, by simpa [putCells] using hs, ?_⟩⟩
  ·simp only [grow]
   rw [Array.getElem?_append_left (by simp [putRow, mapBlock, Sort.ahead]; exact hgl)]
   simp [putRow, mapBlock, Sort.ahead, Array.getElem?_modify, hg, onCells]
  ·apply List.ext_getElem?
   intro j
   rw [List.getElem?_take, Array.getElem?_toList]
   by_cases hj : j < n * size
   ·have hjc : j < cur.size := by omega
    simp only [if_pos hj, putCells, Array.getElem?_mapIdx, Array.getElem?_eq_getElem hjc, Option.map_some]
    rw [if_pos (by simp; omega), List.getElem?_eq_getElem (by omega)]
    simp [getElem!_pos, show j < ys.length by omega]
   ·rw [if_neg hj, List.getElem?_eq_none (by omega)]
theorem fr_put {w : World} {g q : Nat} {ys : Array Value} {os : Array Obj} : Fr (fun k => k = g) w (grow (putRow id (Sort.ahead w q) g 0 ys) os) := by
 refine ⟨rfl, rfl, rfl, by simp [grow, putRow, mapBlock, Sort.ahead], fun k hk hs => ?_, by simp [grow, putRow, mapBlock, Sort.ahead]⟩
 simp only [grow]
 rw [Array.getElem?_append_left (by simp [putRow, mapBlock, Sort.ahead]; exact hk)]
 simp [putRow, mapBlock, Sort.ahead, Array.getElem?_modify, show g ≠ k from fun e => hs e.symm]

/-- What slices.SortFunc leaves. -/
theorem sort_ents {base g cap n : Nat} {t : List Ent} {w : World} (h : w.ownsRow base 192 4 (.slice (some ⟨g, 0, none⟩) n cap) n (flatE t)) (hn : t.length = n) (hm : n ≤ 5000) :
  Calls Tryz.prog 97 #[.slice (some ⟨g, 0, none⟩) n cap, .func (.func 98) #[] #[]] w fun e w' => e = .returned (.tuple #[]) ∧
   ∃ zs : List Ent, zs.Perm t ∧ zs.Pairwise (fun a b => ordE a b ≤ 0) ∧ w'.ownsRow base 192 4 (.slice (some ⟨g, 0, none⟩) n cap) n (flatE zs) ∧ Fr (fun k => k = g) w w' := by
 have eg : ∀ args w, (callFunc 98 args).run Tryz.prog w = .ok (.enter 98 args) w := enters_of Tryz.func98 (by kernel_rfl) rfl
 have hg := h.lt g rfl
 have hz := h.cells (g := g) rfl
 have hfr : ∀ o, w.frozen? ⟨g, o, none⟩ = false := fun o => by
  rcases h.2 with ⟨e0, _⟩ | ⟨g', cap', cur, e0, hb, hg', _⟩
  ·cases e0
  ·injection e0 with e1
   injection e1 with e1
   injection e1 with e1
   subst e1
   exact frozen_at hg' o
 have hH : HoldsK entCells 4 w g 0 t.toArray := by
  unfold HoldsK
  rw [flatK_eq]
  intro j hj
  have hj' : j < (flatE t).length := by simpa using hj
  refine ⟨?_, hfr _⟩
  have h1 := hz j ((flatE t)[j]) (List.getElem?_eq_getElem hj')
  have h2 : (flatE t).toArray[j]! = (flatE t)[j] := by rw [getElem!_pos _ j hj]; simp
  rw [h2, Nat.zero_add]
  unfold Addr.add at h1
  split at h1
  ·next h0 => subst h0; exact h1
  ·simpa using h1
 have hS := AnyQ.slices_SortFunc_total Tryz.sortK_f97 4 Tryz.isAgg192 Tryz.sizeOf192 entCells (fun _ => rfl) (fun x v hv => flatE_one [x] v (by simpa [flatE] using hv)) ordE swoE 98 #[] g 0 cap t.toArray w eg (laysE g 0 t.toArray.size w) hH hg.2 (by simp; omega) totE
 rw [show t.toArray.size = n from by simpa using hn] at hS
 refine Calls.mono hS ?_
 rintro e w' ⟨rfl, nn, os, hw⟩
 refine ⟨rfl, t.mergeSort fun x y => !(ltOf ordE) y x, List.mergeSort_perm _ _, ?_, ?_, ?_⟩
 ·have := List.pairwise_mergeSort (le := fun x y : Ent => !(ltOf ordE) y x) (fun a b c h1 h2 => by
   simp only [Bool.not_eq_true'] at h1 h2 ⊢
   exact swoE.ntrans _ _ _ h2 h1) (fun a b => by
   cases h : ltOf ordE b a with
   | false => rfl
   | true =>
    have : ltOf ordE a b = false := decide_eq_false (by have h1 := of_decide_eq_true h; have := ordE_ord.anti a b; omega)
    rw [this]; rfl) t
  refine this.imp fun {a b} h => ?_
  simp only [Bool.not_eq_true'] at h
  have h1 := of_decide_eq_false h
  have h2 := ordE_ord.anti a b
  omega
 ·rw [hw]
  unfold sortWorldK putRowK
  dsimp only
  rw [flatK_eq]
  exact row_put h (by rw [flatE_length, flatE_length, List.length_mergeSort])
 ·rw [hw]
  unfold sortWorldK putRowK
  exact fr_put
/-
  Order, Copy; frames without the count of draws.
-/

theorem HeapIn.fr0 {S : Nat → Prop} {w w' : World} {hb ba n ca : Nat} {v : Value} {t : List Ent} {A : List Nat} (h : HeapIn w hb ba v n ca t A) (hf : Fr0 S w w') (hS : ∀ k, foot hb ba v k → ¬ S k) : HeapIn w' hb ba v n ca t A := by
 obtain ⟨cv, h4, h5⟩ := h.tb
 exact ⟨(hf.block _ (h.lt _ (.inl rfl)) (hS _ (.inl rfl))).trans h.hd, ownsRow_fr0 h.tr hf (fun g hg => hS g (.inr (.inr hg))), ⟨cv, (hf.block _ (h.lt _ (.inr (.inl rfl))) (hS _ (.inr (.inl rfl)))).trans h4, h5⟩, h.n1, h.n2⟩
theorem HeapIs.fr0 {S : Nat → Prop} {w w' : World} {hb ba n : Nat} {v : Value} {L : List Ent} (h : HeapIs w hb ba v n L) (hf : Fr0 S w w') (hS : ∀ k, foot hb ba v k → ¬ S k) : HeapIs w' hb ba v n L := by
 obtain ⟨ca, t, A, h1, h2⟩ := h.some; exact ⟨⟨ca, t, A, h1.fr0 hf hS, h2⟩, h.sorted, h.once, h.place, h.size⟩
theorem HeapIs.later0 {w w' : World} {hb ba n : Nat} {v : Value} {L : List Ent} (h : HeapIs w hb ba v n L) (hf : Fr0 none' w w') : HeapIs w' hb ba v n L := h.fr0 hf (fun _ _ h => h)

theorem ownBlock_base {w : World} {base : Nat} {e : TypeId} {size : Nat} {v : Value} {n : Nat} {xs : List Value} (h : w.ownsRow base e size v n xs) (g : Nat) (hg : v.ownBlock = some g) : base ≤ g ∧ g < w.heap.size := h.lt g hg
theorem clone_ents {w : World} {base : Nat} {v : Value} {t : List Ent} (h : w.ownsRow base 192 4 v t.length (flatE t)) (hm : t.length ≤ 5000) :
  Calls Tryz.prog 96 #[v] w fun e w' => ∃ v', e = .returned v' ∧ w'.ownsRow w.heap.size 192 4 v' t.length (flatE t) ∧ Fr0 none' w w' := by
 obtain ⟨i0, hi, hz0, hz1, hz2⟩ := info_parts info_entry
 have h' := h
 rcases h.2 with ⟨rfl, h0⟩ | ⟨g, cap, cur, rfl, hb, hg, hn, hcm, hs, ht⟩
 ·refine Calls.mono (AnyE.slices_Clone_nil Tryz.cloneK_f96 0 0 w) ?_
  rintro e w' ⟨rfl, rfl⟩
  rw [h0, List.eq_nil_of_length_eq_zero h0]
  exact ⟨_, rfl, World.ownsRow_nil _ _ _ _, Fr0.refl _ _⟩
 ·refine Calls.mono (AnyE.slices_Clone Tryz.cloneK_f96 i0 (.agg #[.int .i64 0, .int .i64 0, .int .i64 0, .int .i64 0]) 4 32 hi hz0 hz1 hz2 rfl (by decide) Tryz.sizeOf192 g 0 t.length cap (flatE t) w (flatE_length t) (by unfold maxLen; omega) (by omega) (fun j u hj => ?_) (flatE_one t)) ?_
  ·have := h'.cells (g := g) rfl j u hj
   unfold Addr.add at this
   split at this
   ·next h0 => subst h0; exact this
   ·simpa using this
  ·rintro e w' ⟨v', rfl, hrow, _, hbe⟩
   exact ⟨v', rfl, hrow, below_to0 hbe⟩
set_option maxHeartbeats 1000000 in
theorem Order_is {w : World} {hb ba n : Nat} {v : Value} {L : List Ent} (h : HeapIs w hb ba v n L) :
  Calls Tryz.prog 76 #[.pointer (some ⟨hb, 0, none⟩)] w fun e w' => ∃ v', e = .returned v' ∧ w'.ownsRow w.heap.size 3 1 v' L.length (placesV L) ∧ Fr0 none' w w' := by
 have hLn := h.len
 obtain ⟨⟨ca, t, A, hIn, hOk, hPe⟩, hSo, hOn, hPl, hNn⟩ := h
 have h0 : w.cell? ⟨hb, 0, none⟩ = some (.bool true) := by rw [cells_at hIn.hd]; rfl
 have h1 : w.cell? ⟨hb, 1, none⟩ = some v := by rw [cells_at hIn.hd]; rfl
 have hml : t.length ≤ 5000 := by rw [hPe.length_eq]; omega
 have HC := clone_ents hIn.tr hml
 have hu : ∀ zs : List Ent, zs.Perm t → zs.Pairwise (fun a b => ordE a b ≤ 0) → zs = L := fun zs h1 h2 => order_one ordE_ord h2 (hSo.imp (fun h => by omega)) (h1.trans hPe)
 have hlen : t.length = L.length := hPe.length_eq
 have HC' := Lib.hid HC
 have Hu := Lib.hid hu
 have Hlen := Lib.hid hlen
 have Hml := Lib.hid hml
 clear HC hu hlen hml hIn hOk hPe hSo hOn hPl hNn hLn
 go_enter Tryz.func76, Tryz.ntmps76
 go_wp2_with fail
 refine (is_made hb true _ h0).mono ?_
 rintro e w' ⟨rfl, rfl⟩
 go_wp2_with fail
 refine HC'.out.mono ?_
 rintro e w1 ⟨v1, rfl, hrow, hf1⟩
 have Hrow := Lib.hid hrow
 have Hf1 := Lib.hid hf1
 clear hrow hf1
 go_wp2_with fail
 rcases Hrow.out.2 with ⟨hv, hz⟩ | ⟨g, cap, cur, hv, _⟩
 ·subst hv
  have ht0 : t = [] := List.eq_nil_of_length_eq_zero hz
  refine Calls.mono (AnyF.slices_SortFunc_none { Tryz.sortK_f97 with } none 0 (.func (.func 98) #[] #[]) w1) ?_
  rintro e w2 ⟨rfl, rfl⟩
  go_wp2_with fail
  have HP := places_any (t := ([] : List Ent)) (World.ownsRow_nil w2 0 192 4) (by simp)
  refine HP.mono ?_
  rintro e w3 ⟨v3, rfl, hown, hf3⟩
  have Hown := Lib.hid hown
  have Hf3 := Lib.hid hf3
  clear hown hf3 HP
  go_wp2
  go_ret
  have hL : L = [] := List.eq_nil_of_length_eq_zero (by rw [← Hlen.out, ht0]; rfl)
  subst hL
  exact ⟨_, rfl, ownsRow_k_mono Hown.out Hf1.out.size, Hf1.out.trans Hf3.out.to0⟩
 ·subst hv
  refine (sort_ents Hrow.out rfl Hml.out).mono ?_
  rintro e w2 ⟨rfl, zs, hz1, hz2, hrow2, hf2⟩
  have hzL := Hu.out zs hz1 hz2
  subst hzL
  rw [Hlen.out] at hrow2
  have hg := ownBlock_base Hrow.out g rfl
  have HP := places_any hrow2 (by rw [← Hlen.out]; exact Hml.out)
  have Hrow2 := Lib.hid hrow2
  have Hf2 := Lib.hid hf2
  have HP' := Lib.hid HP
  clear hrow2 hf2 HP hz1 hz2
  rw [Hlen.out]
  go_wp2_with fail
  refine HP'.out.mono ?_
  rintro e w3 ⟨v3, rfl, hown, hf3⟩
  have Hown := Lib.hid hown
  have Hf3 := Lib.hid hf3
  clear hown hf3
  go_wp2
  go_ret
  have f12 : Fr0 none' w w2 := Hf1.out.trans' Hf2.out.to0 (fun k hk h => by omega)
  exact ⟨_, rfl, ownsRow_k_mono Hown.out f12.size, f12.trans Hf3.out.to0⟩

end Go.Proofs.YtieeloealklkgaaGreat

/-
  slices.Backward at the fields of a key.
-/
namespace Go.Proofs.YtieeloealklkgaaGreat
open Go Go.RowKit
attribute [local go_sem ↓] Go.wp_at_zero Go.wp_at_succ
attribute [local go_sem] Oper.semAt_some wide_fn wide_depth wide_fnR wide_depthR

/-
  key.Next, key.Back.
-/

/-
  key.Ends.
-/

end Go.Proofs.YtieeloealklkgaaGreat

/-
  The order of keys, the next key and the one before: the plain laws.
-/
namespace Go.Proofs.YtieeloealklkgaaGreat
open Go Go.RowKit

end Go.Proofs.YtieeloealklkgaaGreat

/-
  The reference: Less, Right, Compare.
-/
namespace Go.Proofs.YtieeloealklkgaaGreat
open Go Go.RowKit
attribute [local go_sem ↓] Go.wp_at_zero Go.wp_at_succ
attribute [local go_sem] Oper.semAt_some wide_fn wide_depth wide_fnR wide_depthR

set_option maxHeartbeats 2000000 in
theorem rLess_any (a b : Key3) (w : World) : Calls Tryz.prog 90 #[keyV a, keyV b] w fun e w' => e = .returned (.bool (decide (cmpK a b < 0))) ∧ Fr0 none' w w' := by
 simp only [keyV]
 go_enter Tryz.func90, Tryz.ntmps90
 go_wp2_with fail
 all_goals
  go_ret
  refine ⟨congrArg (fun b => Ending.returned (Value.bool b)) (decide_eq_decide.2 ?_), (((Fr0.refl _ _).alloc _).alloc _)⟩
  rw [cmpK_lt]
  try simp only [bne_iff_ne, ne_eq, bne_eq_false_iff_eq, Bool.not_eq_true] at *
  omega
end Go.Proofs.YtieeloealklkgaaGreat

/-
  A region that draws, whatever the order: each operation makes memory at most, and yields a value of which something lasting is known.
-/
namespace Go.Proofs.YtieeloealklkgaaGreat
open Go.RowKit

def upd (us : Nat → Value) (i : Nat) (v : Value) : Nat → Value := fun j => if j = i then v else us j
def depsOk (ops : Array Oper) : Bool := (List.range ops.size).all fun i => ((ops[i]?).map (fun o => o.guard.isNone && o.after.all fun e => !Region.binds .any e || decide (e.on < i))).getD true
def leftN (listed : Array Bool) : Nat := ((List.range listed.size).filter (fun i => !listed.getD i true)).length

theorem leftN_zero {listed : Array Bool} (h : leftN listed = 0) (i : Nat) : listed.getD i true = true := by
 by_cases hi : i < listed.size
 ·have h1 := List.eq_nil_of_length_eq_zero h
  rw [List.filter_eq_nil_iff] at h1
  have := h1 i (List.mem_range.2 hi)
  simpa using this
 ·simp [Array.getD, hi]
theorem leftN_first {listed : Array Bool} {k : Nat} (h : leftN listed = k + 1) : ∃ i, i < listed.size ∧ listed.getD i true = false ∧ ∀ j, j < i → listed.getD j false = true := by
 have hne : ∃ i, i < listed.size ∧ listed.getD i true = false := by
  have h1 : ((List.range listed.size).filter (fun i => !listed.getD i true)) ≠ [] := fun e => by unfold leftN at h; rw [e] at h; cases h
  obtain ⟨i, hi⟩ := List.exists_mem_of_ne_nil _ h1
  rw [List.mem_filter, List.mem_range] at hi
  exact ⟨i, hi.1, by simpa using hi.2⟩
 obtain ⟨i0, hi0, hf0⟩ := hne
 have key : ∀ n i, i < n → i < listed.size → listed.getD i true = false → ∃ i, i < listed.size ∧ listed.getD i true = false ∧ ∀ j, j < i → listed.getD j false = true := by
  intro n
  induction n with
  | zero => intro i h; omega
  | succ n ih =>
   intro i hin hi hf
   by_cases hall : ∀ j, j < i → listed.getD j false = true
   ·exact ⟨i, hi, hf, hall⟩
   ·obtain ⟨j, hj⟩ := Classical.not_forall.1 hall
    obtain ⟨hji, hjf⟩ := Classical.not_imp.1 hj
    refine ih j (by omega) (by omega) ?_
    have hjs : j < listed.size := by omega
    simp [Array.getD, hjs] at hjf ⊢
    exact hjf
 exact key (i0 + 1) i0 (by omega) hi0 hf0
theorem leftN_set {listed : Array Bool} {i k : Nat} (hi : i < listed.size) (hf : listed.getD i true = false) (h : leftN listed = k + 1) : leftN (listed.setIfInBounds i true) = k := by
 unfold leftN at *
 rw [Array.size_setIfInBounds]
 have h1 : ∀ n, n ≤ listed.size → ((List.range n).filter (fun j => !(listed.setIfInBounds i true).getD j true)).length + (if i < n then 1 else 0) = ((List.range n).filter (fun j => !listed.getD j true)).length := by
  intro n
  induction n with
  | zero => intro _; simp
  | succ n ih =>
   intro hn
   have ih := ih (by omega)
   have hns : n < listed.size := by omega
   rw [List.range_succ, List.filter_append, List.filter_append, List.length_append, List.length_append]
   by_cases hni : n = i
   ·subst hni
    have e1 : (listed.setIfInBounds n true).getD n true = true := by simp [Array.getD, hns]
    rw [List.filter_cons_of_neg (by rw [e1]; simp), List.filter_cons_of_pos (by rw [hf]; rfl)]
    simp at ih ⊢
    omega
   ·have e1 : (listed.setIfInBounds i true).getD n true = listed.getD n true := by
     simp only [Array.getD, Array.size_setIfInBounds, hns, dite_true, Array.getInternal_eq_getElem]
     rw [Array.getElem_setIfInBounds_ne hns (fun e => hni e.symm)]
    have e2 : ([n].filter (fun j => !(listed.setIfInBounds i true).getD j true)).length = ([n].filter (fun j => !listed.getD j true)).length := by
     simp only [List.filter_cons, List.filter_nil, e1]
    rw [e2]
    by_cases h2 : i < n
    ·rw [if_pos h2] at ih
     rw [if_pos (by omega)]
     omega
    ·rw [if_neg h2] at ih
     rw [if_neg (by omega)]
     omega
 have := h1 listed.size (Nat.le_refl _)
 rw [if_pos hi] at this
 omega

section
variable {P : Program} {ops : Array Oper} {Q : Exit → Act → World → Prop} {W0 : World} {A : (Nat → Value) → Act} {Φ : Nat → Value → World → Prop}
theorem any_grow (hd : depsOk ops = true) (hst : ∀ j v w w', Fr0 none' W0 w → Fr0 none' w w' → Φ j v w → Φ j v w')
  (step : ∀ i oi, ops[i]? = some oi → ∀ us W, Fr0 none' W0 W → (∀ e ∈ oi.after, Region.binds .any e = true → Φ e.on (us e.on) W) → ∀ K : Act → World → Prop, Shut (∀ v W', Fr0 none' W W' → Φ i v W' → K (A (upd us i v)) W') → Oper.wp P oi (A us) W K Q)
  (fin : ∀ us W, Fr0 none' W0 W → (∀ i, i < ops.size → Φ i (us i) W) → Q .normal (A us) W) :
  ∀ (fuel : Nat) (listed : Array Bool) (us : Nat → Value) (W : World), listed.size = ops.size → leftN listed = fuel → Fr0 none' W0 W → (∀ j, j < ops.size → listed.getD j false = true → Φ j (us j) W) → wpAnyH P .any ops Q (fun _ => True) fuel listed (A us) W := by
 have hdep : ∀ i oi, ops[i]? = some oi → oi.guard = none ∧ ∀ e ∈ oi.after, Region.binds .any e = true → e.on < i := fun i oi hi => by
  have hlt : i < ops.size := (Array.getElem?_eq_some_iff.1 hi).1
  unfold depsOk at hd
  rw [List.all_eq_true] at hd
  have h1 := hd i (List.mem_range.2 hlt)
  rw [hi] at h1
  simp only [Option.map_some, Option.getD_some, Bool.and_eq_true, Array.all_eq_true_iff_forall_mem, Bool.or_eq_true, decide_eq_true_eq, Bool.not_eq_true'] at h1
  refine ⟨by simpa using h1.1, fun e he hb => ?_⟩
  rcases h1.2 e he with h | h
  ·rw [h] at hb; cases hb
  ·exact h
 intro fuel
 induction fuel with
 | zero =>
  intro listed us W hs hl hF hΦ
  have hall := leftN_zero hl
  refine ⟨?_, fin us W hF (fun i hi => hΦ i hi ?_)⟩
  ·unfold Region.ready
   rw [List.filter_eq_nil_iff]
   intro i _
   rw [hall i]
   simp
  ·have := hall i
   have his : i < listed.size := by omega
   simp [Array.getD, his] at this ⊢
   exact this
 | succ fuel ih =>
  intro listed us W hs hl hF hΦ
  refine ⟨fun h0 => ?_, fun i hi => ?_⟩
  ·exfalso
   obtain ⟨i, hi, hf, hb⟩ := leftN_first hl
   have hlt : i < ops.size := by omega
   have : i ∈ Region.ready .any ops listed := by
    unfold Region.ready
    rw [List.mem_filter, List.mem_range]
    refine ⟨hlt, ?_⟩
    have ho : ops[i]? = some ops[i] := Array.getElem?_eq_getElem hlt
    rw [hf, ho]
    simp only [Bool.not_false, Option.map_some, Option.getD_some, Bool.true_and, Array.all_eq_true_iff_forall_mem, Bool.or_eq_true, Bool.not_eq_true']
    intro e he
    cases hbe : Region.binds .any e with
    | false => exact .inl rfl
    | true => exact .inr (hb e.on ((hdep i _ ho).2 e he hbe))
   rw [h0] at this
   cases this
  ·unfold Region.ready at hi
   rw [List.mem_filter, List.mem_range] at hi
   obtain ⟨hlt, hi⟩ := hi
   have ho : ops[i]? = some ops[i] := Array.getElem?_eq_getElem hlt
   rw [ho] at hi
   simp only [Option.map_some, Option.getD_some, Bool.and_eq_true, Bool.not_eq_true', Array.all_eq_true_iff_forall_mem, Bool.or_eq_true] at hi
   obtain ⟨hf, hdo⟩ := hi
   obtain ⟨hg, hdl⟩ := hdep i _ ho
   unfold wpOp
   rw [ho]
   simp only
   have hw : Region.wanted ops[i] (yielded ops (A us).tmps) = true := by unfold Region.wanted; rw [hg]
   rw [if_pos hw]
   refine .inl (step i _ ho us W hF (fun e he hb => ?_) _ (fun v W' hfw hv => ⟨trivial, ?_⟩))
   ·have h1 := hdl e he hb
    refine hΦ e.on (by omega) ?_
    rcases hdo e he with h | h
    ·rw [h] at hb; cases hb
    ·exact h
   ·refine ih _ _ _ (by simpa using hs) (leftN_set (by omega) hf hl) (hF.trans hfw) (fun j hj hjl => ?_)
    unfold upd
    by_cases hji : j = i
    ·rw [if_pos hji, hji]; exact hv
    ·rw [if_neg hji]
     refine hst j _ W W' hF hfw (hΦ j hj ?_)
     have hjs : j < listed.size := by omega
     simp only [Array.getD, Array.size_setIfInBounds, hjs, dite_true, Array.getInternal_eq_getElem] at hjl ⊢
     rw [Array.getElem_setIfInBounds_ne hjs (fun e => hji e.symm)] at hjl
     exact hjl
theorem leftN_new (n : Nat) : leftN (Array.replicate n false) = n := by
 unfold leftN
 rw [List.filter_eq_self.2]
 ·simp
 ·intro i hi
  have hi := List.mem_range.1 hi
  simp only [Array.size_replicate] at hi
  simp [Array.getD, hi]
/-- A region that draws, whatever the order. -/
theorem wp_region_grow {id : Nat} {a : Act} {w : World} (us0 : Nat → Value) (ha : A us0 = a) (hm : P.follows .mixedOrders = true) (hd : depsOk ops = true) (hW : W0 = w.drew) (hst : ∀ j v w w', Fr0 none' W0 w → Fr0 none' w w' → Φ j v w → Φ j v w')
  (step : ∀ i oi, ops[i]? = some oi → ∀ us W, Fr0 none' W0 W → (∀ e ∈ oi.after, Region.binds .any e = true → Φ e.on (us e.on) W) → ∀ K : Act → World → Prop, Shut (∀ v W', Fr0 none' W W' → Φ i v W' → K (A (upd us i v)) W') → Oper.wp P oi (A us) W K Q)
  (fin : ∀ us W, Fr0 none' W0 W → (∀ i, i < ops.size → Φ i (us i) W) → Q .normal (A us) W) : (Code.region id ops true).wp P Q a w := by
 refine wp_region_held_drew (S := fun _ => True) hm trivial (fun _ => ?_)
 rw [← ha, ← hW]
 exact any_grow hd hst step fin _ _ us0 W0 (by simp) (leftN_new _) (Fr0.refl _ _) (fun j hj h => by simp [Array.getD, hj] at h)
end
/-- Values put into slots, one after the other. -/
def putsB : List Nat → Nat → (Nat → Value) → Act → Act
 | [], _, _, a => a
 | t :: ts, k, us, a => putsB ts (k + 1) us (a.put (some t) (us k))
theorem putsB_put {t : Nat} {v : Value} : ∀ {ts : List Nat} {k : Nat} {us : Nat → Value} {a : Act}, t ∉ ts → putsB ts k us (a.put (some t) v) = (putsB ts k us a).put (some t) v
 | [], _, _, _, _ => rfl
 | t0 :: ts, k, us, a, h => by
  rw [List.mem_cons, not_or] at h
  rw [putsB, putsB, Act.put_comm a v (us k) (fun d e e2 => h.1 (by injection e with e; injection e2 with e2; omega)), putsB_put h.2]
theorem putsB_upd_out {i : Nat} {v : Value} : ∀ {ts : List Nat} {k : Nat} {us : Nat → Value} {a : Act}, i < k → putsB ts k (upd us i v) a = putsB ts k us a
 | [], _, _, _, _ => rfl
 | t0 :: ts, k, us, a, h => by
  rw [putsB, putsB, putsB_upd_out (by omega)]
  unfold upd
  rw [if_neg (by omega)]
theorem put_put (a : Act) (t : Nat) (u v : Value) : (a.put (some t) u).put (some t) v = a.put (some t) v := by
 simp [Act.put, Array.setIfInBounds_setIfInBounds]
theorem putsB_upd {v : Value} : ∀ {ts : List Nat} {k i t : Nat} {us : Nat → Value} {a : Act}, ts.Nodup → ts[i]? = some t → (putsB ts k us a).put (some t) v = putsB ts k (upd us (k + i) v) a
 | [], _, _, _, _, _, _, h => by cases h
 | t0 :: ts, k, 0, t, us, a, hn, h => by
  rw [List.nodup_cons] at hn
  have h : t0 = t := by simpa using h
  subst h
  rw [putsB, putsB, ← putsB_put hn.1, put_put, Nat.add_zero, putsB_upd_out (by omega)]
  have : upd us (k + 0) v k = v := by unfold upd; exact if_pos rfl
  rw [this]
 | t0 :: ts, k, i + 1, t, us, a, hn, h => by
  rw [List.nodup_cons] at hn
  have h : ts[i]? = some t := by simpa using h
  rw [putsB, putsB, putsB_upd hn.2 h, show k + 1 + i = k + (i + 1) by omega]
  congr 2
  unfold upd
  rw [if_neg (by omega)]
theorem put_self {a : Act} {t : Nat} {v : Value} (h : v = a.tmps.getD t undef) : a.put (some t) v = a := by
 subst h
 obtain ⟨tm, df⟩ := a
 simp only [Act.put, Act.mk.injEq, and_true]
 apply Array.ext
 ·simp
 ·intro j h1 h2
  rw [Array.getElem_setIfInBounds]
  split
  ·next e => subst e; simp [h2]
  ·rfl
theorem putsB_id : ∀ {ts : List Nat} {k : Nat} {us : Nat → Value} {a : Act}, (∀ i t, ts[i]? = some t → us (k + i) = a.tmps.getD t undef) → putsB ts k us a = a
 | [], _, _, _, _ => rfl
 | t0 :: ts, k, us, a, h => by
  rw [putsB, put_self (show us k = _ from h 0 t0 rfl), putsB_id (fun i t hi => by have := h (i + 1) t (by simpa using hi); rw [← this]; congr 1; omega)]
theorem put_get {a : Act} {t : Nat} {v : Value} (h : t < a.tmps.size) : (a.put (some t) v).tmps.getD t undef = v := by
 simp [Act.put, Array.getD, h]
theorem put_far {a : Act} {t t2 : Nat} {v : Value} (h : t ≠ t2) : (a.put (some t) v).tmps.getD t2 undef = a.tmps.getD t2 undef := by
 obtain ⟨tm, df⟩ := a
 show (tm.setIfInBounds t v).getD t2 undef = tm.getD t2 undef
 rw [Array.getD_eq_getD_getElem?, Array.getD_eq_getD_getElem?, Array.getElem?_setIfInBounds_ne h]
theorem putsB_far {t : Nat} : ∀ {ts : List Nat} {k : Nat} {us : Nat → Value} {a : Act}, t ∉ ts → (putsB ts k us a).tmps.getD t undef = a.tmps.getD t undef
 | [], _, _, _, _ => rfl
 | t0 :: ts, k, us, a, h => by
  rw [List.mem_cons, not_or] at h
  rw [putsB, putsB_far h.2, put_far (fun e => h.1 e.symm)]
theorem putsB_get {t : Nat} : ∀ {ts : List Nat} {k i : Nat} {us : Nat → Value} {a : Act}, ts.Nodup → t < a.tmps.size → ts[i]? = some t → (putsB ts k us a).tmps.getD t undef = us (k + i)
 | [], _, _, _, _, _, _, h => by cases h
 | t0 :: ts, k, 0, us, a, hn, hs, h => by
  rw [List.nodup_cons] at hn
  have h : t0 = t := by simpa using h
  subst h
  rw [putsB, putsB_far hn.1, put_get hs, Nat.add_zero]
 | t0 :: ts, k, i + 1, us, a, hn, hs, h => by
  rw [List.nodup_cons] at hn
  have h : ts[i]? = some t := by simpa using h
  rw [putsB, putsB_get hn.2 (by simpa [Act.put] using hs) h, show k + 1 + i = k + (i + 1) by omega]
def slotsOk (ops : Array Oper) (ts : List Nat) (n : Nat) : Bool := decide ts.Nodup && ts.all (fun t => decide (t < n)) && decide (ts.length = ops.size) && (List.range ops.size).all (fun i => (ops[i]?).bind (·.dst) == ts[i]?)
section
variable {P : Program} {ops : Array Oper} {Q : Exit → Act → World → Prop}
/-- A region that draws: each of its operations makes memory at most; of what it yields something lasting is known. -/
theorem wp_region_anyG {id : Nat} {a : Act} {w : World} (ts : List Nat) (hts : slotsOk ops ts a.tmps.size = true) (hm : P.follows .mixedOrders = true) (hd : depsOk ops = true) (Φ : Nat → Value → World → Prop) (hst : ∀ j v w w', Fr0 none' w w' → Φ j v w → Φ j v w')
  (step : ∀ i oi, ops[i]? = some oi → ∀ (b : Act) (us : Nat → Value) W, (∀ j t, ts[j]? = some t → (b.tmps[t]?).getD undef = us j) → (∀ t, t ∉ ts → (b.tmps[t]?).getD undef = a.tmps.getD t undef) → Fr0 none' w W → (∀ e ∈ oi.after, Region.binds .any e = true → Φ e.on (us e.on) W) →
   ∀ K : Act → World → Prop, Shut (∀ v W', Fr0 none' W W' → Φ i v W' → K (b.put oi.dst v) W') → Oper.wp P oi b W K Q)
  (fin : ∀ us W, Fr0 none' w W → (∀ i, i < ops.size → Φ i (us i) W) → Q .normal (putsB ts 0 us a) W) : (Code.region id ops true).wp P Q a w := by
 have hw : Fr0 none' w w.drew := (Fr0.refl none' w).drew
 unfold slotsOk at hts
 simp only [Bool.and_eq_true, decide_eq_true_eq, List.all_eq_true, beq_iff_eq] at hts
 obtain ⟨⟨⟨hnd, hlt⟩, hlen⟩, hdst⟩ := hts
 refine wp_region_grow (A := fun us => putsB ts 0 us a) (W0 := w.drew) (fun j => a.tmps.getD (ts.getD j 0) undef) (putsB_id (fun i t hi => ?_)) hm hd rfl (fun j v _ _ _ h => hst j v _ _ h) (fun i oi hi us W hF hdp K hK => ?_) (fun us W hF => fin us W (hw.trans hF))
 ·rw [Nat.zero_add]
  simp [List.getD, hi]
 ·have hio : i < ops.size := (Array.getElem?_eq_some_iff.1 hi).1
  obtain ⟨t, ht⟩ : ∃ t, ts[i]? = some t := ⟨_, List.getElem?_eq_getElem (by omega)⟩
  have hdi : oi.dst = some t := by
   have := hdst i (List.mem_range.2 hio)
   rw [hi, ht] at this
   exact this
  refine step i oi hi _ us W (fun j t' hj => ?_) (fun t' h' => by rw [← Array.getD_eq_getD_getElem?]; exact putsB_far h') (hw.trans hF) hdp K (fun v W' hf hv => ?_)
  ·have := putsB_get (k := 0) (us := us) (a := a) hnd (hlt t' (List.mem_of_getElem? hj)) hj
   rw [Nat.zero_add] at this
   rw [← Array.getD_eq_getD_getElem?]
   exact this
  ·have hk := hK.out v W' hf hv
   rw [hdi, putsB_upd hnd ht, Nat.zero_add]
   exact hk
end
end Go.Proofs.YtieeloealklkgaaGreat
