/-
  Heap.sink.
-/
import Derived.Test.YtbpmdhngobdilaaHp4
import Derived.Test.YtbpmdhngobdilaaHp5
import Derived.Test.YtbpmdhngobdilaaScopeIn
import Derived.Outline
namespace Go.Proofs.Ytbpmdhngobdilaa
open Go.RowKit
attribute [local go_sem ↓] Go.wp_at_zero Go.wp_at_succ
attribute [local go_sem] Oper.semAt_some wide_fn wide_depth wide_fnR wide_depthR

theorem Fr.later {w w' : World} (h : Fr none' w w') {p : Addr} {v : Value} (hc : w.cell? p = some v) : w'.cell? p = some v := by
  rw [h.cell (World.block_lt_of_cell? _ _ hc) id]; exact hc
theorem MemH.fr {S : Nat → Prop} {w w' : World} {hb bt ba cap n ca : Nat} {t : List Ent} {A : List Nat} (h : MemH w hb bt ba cap n ca t A) (hf : Fr S w w') (h1 : ¬ S hb) (h2 : ¬ S bt) (h3 : ¬ S ba) : MemH w' hb bt ba cap n ca t A :=
  h.of_heap (hf.block _ h.lt.1 h1) (hf.block _ h.lt.2.1 h2) (hf.block _ h.lt.2.2 h3)
theorem SetFr.fr {S : Nat → Prop} {bt ba : Nat} {w a b : World} (h : SetFr bt ba w a) (k : Fr S a b) (hS : ∀ k, S k → k < w.heap.size → False) : SetFr bt ba w b :=
  ⟨k.os.trans h.os, k.tape.trans h.tape, k.output.trans h.output, Nat.le_trans h.size k.size, fun i hi h1 h2 => (k.block i (Nat.lt_of_lt_of_le hi h.size) (fun hs => hS i hs hi)).trans (h.block i hi h1 h2), Nat.le_trans h.drawn k.drawn⟩
theorem SetFr.to {bt ba : Nat} {w w' : World} (h : SetFr bt ba w w') : Fr (fun k => k = bt ∨ k = ba) w w' :=
  ⟨h.os, h.tape, h.output, h.size, fun k hk hs => h.block k hk (fun e => hs (.inl e)) (fun e => hs (.inr e)), h.drawn⟩
theorem EntAt.fr {S : Nat → Prop} {w w' : World} {B : Nat} {x : Ent} (h : EntAt w B x) (hf : Fr S w w') (hs : ¬ S B) : EntAt w' B x := (hf.block B h.lt hs).trans h
/-- A region is left in one way. -/
def OnlyN (Q : Exit → Act → World → Prop) : Exit → Act → World → Prop
  | .normal, a, w => Q .normal a w
  | _, _, _ => False
theorem OnlyN_normal (Q : Exit → Act → World → Prop) (a : Act) (w : World) : OnlyN Q .normal a w = Q .normal a w := rfl
theorem wpIn_regionW {P : Program} {c : Code} {Q : Exit → Act → World → Prop} {a : Act} {w : World} (h : c.wp P (OnlyN Q) a w) : c.wpIn Fence.wide 0 P Q a w :=
  wpIn_mono (wpIn_wide.2 h) (fun e a w hq => by cases e <;> first | exact hq | exact hq.elim)
/-- The least below, as a number. -/
def lv : Option Nat → Int
  | none => -1
  | some m => m

set_option maxRecDepth 100000 in
set_option maxHeartbeats 4000000 in
theorem sink_in (hb bt ba cap n ca i0 : Nat) (t : List Ent) (A : List Nat) (w : World) (h : MemH w hb bt ba cap n ca t A) (hi : i0 < t.length) (hm : t.length ≤ 10000) (hp : ∀ k, k < t.length → (at' t k).place < n) :
    CallsIn Fence.wide 0 Try.prog 31 #[.pointer (some ⟨hb, 0, none⟩), .int .i64 i0] w fun e' w' => e' = .returned (.tuple #[]) ∧ MemH w' hb bt ba cap n ca (sinkL ordE (at' t i0) t i0).1 (sinkA ordE Ent.place (at' t i0) t A i0) ∧ SetFr bt ba w w' := by
  have q1 : (0 : Int) ≤ (i0 : Int) := by omega
  obtain ⟨x, hx⟩ : ∃ x, at' t i0 = x := ⟨_, rfl⟩
  have hxp : x.place < n := by rw [← hx]; exact hp i0 hi
  rw [hx]
  have hl := h.lt
  obtain ⟨m, hm'⟩ : ∃ m, t.length = m := ⟨_, rfl⟩
  obtain ⟨R, hR⟩ : ∃ R, (sinkL ordE x t i0).1 = R := ⟨_, rfl⟩
  obtain ⟨RA, hRA⟩ : ∃ RA, sinkA ordE Ent.place x t A i0 = RA := ⟨_, rfl⟩
  obtain ⟨B, hB⟩ : ∃ B, w.heap.size = B := ⟨_, rfl⟩
  obtain ⟨V0, hV0⟩ : ∃ V0, w.alloc (.cells #[.pointer (some ⟨hb, 0, none⟩)] 24) = V0 := ⟨_, rfl⟩
  have frV : Fr none' w V0 := by rw [← hV0]; exact (Fr.refl _ _).alloc _
  have hV := h.on (frV.below (Nat.le_refl _) (fun _ _ => id))
  have hVs : V0.heap.size = B + 1 := by rw [← hV0, ← hB]; simp
  have bV : Box V0 B (.pointer (some ⟨hb, 0, none⟩)) := by rw [← hV0, ← hB]; exact Box.new _ _ _
  obtain ⟨e0, e1, e2, e3⟩ := hV.ent hi
  rw [hx] at e0 e1 e2 e3
  have k1 : V0.cell? ⟨hb, 1, none⟩ = some (.slice (some ⟨bt, 0, none⟩) t.length cap) := by rw [cells_at hV.hd]; rfl
  have b1 := bV.cell
  obtain ⟨W0, hW0⟩ : ∃ W0, V0.alloc (.cells #[.int .i64 x.key.time, .int .i64 x.key.source, .int .i64 x.key.seq, .int .i64 x.place] 70) = W0 := ⟨_, rfl⟩
  have fr0 : Fr none' w W0 := by rw [← hW0]; exact frV.alloc _
  have hst : MemH W0 hb bt ba cap n ca t A ∧ t.length = m ∧ (sinkL ordE x t i0).1 = R ∧ sinkA ordE Ent.place x t A i0 = RA ∧ ∀ k, k < m → (at' t k).place < n :=
    ⟨h.on (fr0.below (Nat.le_refl _) (fun _ _ => id)), hm', hR, hRA, hm' ▸ hp⟩
  have hEB : EntAt W0 (B + 1) x := by
    rw [← hW0, ← hVs]
    exact EntAt.new V0 x
  have hBox : Box W0 B (.pointer (some ⟨hb, 0, none⟩)) := by rw [← hW0]; exact bV.alloc _
  have hsz0 : W0.heap.size = B + 2 := by rw [← hW0, World.size_alloc, hVs]
  have hne : bt < B ∧ ba < B ∧ hb < B := by omega
  have hmb : hb ≠ bt ∧ hb ≠ ba ∧ bt ≠ ba := ⟨h.ne1, h.ne2, h.ne3⟩
  rw [hR, hRA]
  rw [hm'] at k1 hi hm
  have q2 : (i0 : Int) < (m : Int) := by omega
  have Hst := Lib.hid hst
  have HV0 := Lib.hid hV0
  have HVs := Lib.hid hVs
  have HW0 := Lib.hid hW0
  have HEB := Lib.hid hEB
  have HBox := Lib.hid hBox
  have HB := Lib.hid hB
  have Hne := Lib.hid hne
  have Hmb := Lib.hid hmb
  have Fr0 := Lib.hid fr0
  have Hsz0 := Lib.hid hsz0
  clear hB h hp hm' hR hRA hst hEB hx hl hne hBox hmb fr0 hsz0 hV0 frV hV hVs bV hW0
  refine callsIn_of_wp_marks Try.func31 rfl trivial ?_ rfl
  simp only [Try.ntmps31, List.size_toArray, List.length_cons, List.length_nil, Nat.reduceAdd, Nat.reduceSub, Array.replicate_succ, Array.replicate_zero, List.push_toArray, List.append_toArray, List.nil_append, List.cons_append]
  gi_wp2_with fail
  rw [HB.out, HV0.out]
  apply wpIn_scope_straight
  gi_wp2_with fail
  rw [HVs.out, HW0.out]
  apply wpIn_label
  gi_wp2_with fail
  clear k1 e0 e1 e2 e3 b1
  refine wpIn_loop (fun a' w' => ∃ (u1 u5 u14 u15 u16 u39 u40 u41 u42 u43 u44 u45 u46 u47 u48 u49 u50 u51 u52 u53 u54 u55 u56 u57 u58 u59 u60 u61 u62 u63 : Value) (ds : List Deferred), (∃ (j : Nat) (t' : List Ent) (A' : List Nat), u1 = .int .i64 j ∧ j < m ∧ Hid (MemH w' hb bt ba cap n ca t' A' ∧ t'.length = m ∧ (sinkL ordE x t' j).1 = R ∧ sinkA ordE Ent.place x t' A' j = RA ∧ ∀ k, k < m → (at' t' k).place < n) ∧ Hid (EntAt w' (B + 1) x) ∧ Hid (Box w' B (.pointer (some ⟨hb, 0, none⟩))) ∧ Hid (SetFr bt ba w w') ∧ Hid (Marks B ds w') ∧ B + 1 < w'.heap.size) ∧ a' = { tmps := #[.pointer (some ⟨hb, 0, none⟩), u1, .pointer (some ⟨B, 0, none⟩), undef, .pointer (some ⟨B + 1, 0, none⟩), u5, undef, .pointer (some ⟨hb, 0, none⟩), .pointer (some ⟨hb, 0, none⟩), .pointer (some ⟨hb, 1, none⟩), .slice (some ⟨bt, 0, none⟩) m cap, .int .i64 i0, .pointer (some ⟨bt, i0 * 4, none⟩), .agg #[.int .i64 x.key.time, .int .i64 x.key.source, .int .i64 x.key.seq, .int .i64 x.place], u14, u15, u16, undef, undef, undef, undef, undef, undef, undef, undef, undef, undef, undef, undef, undef, undef, undef, undef, undef, undef, undef, undef, undef, undef, u39, u40, u41, u42, u43, u44, u45, u46, u47, u48, u49, u50, u51, u52, u53, u54, u55, u56, u57, u58, u59, u60, u61, u62, u63, undef, undef, undef, undef], defers := ds }) (fun a' _ => m - (intOf (a'.tmps.getD 1 undef)).toNat) ?start ?round
  case start =>
    repeat (apply Exists.intro)
    refine ⟨⟨i0, t, A, rfl, hi, Hst, HEB, HBox, ?_, Marks.nil _ _, by rw [Hsz0.out]; omega⟩, rfl⟩
    exact (SetFr.refl bt ba w).fr Fr0.out (fun _ h _ => h)
  case round =>
    rintro a' wr ⟨u1, u5, u14, u15, u16, u39, u40, u41, u42, u43, u44, u45, u46, u47, u48, u49, u50, u51, u52, u53, u54, u55, u56, u57, u58, u59, u60, u61, u62, u63, ds, ⟨j, t', A', rfl, hj, hinv, hE, hbx, hfr, hds, hBs⟩, rfl⟩
    obtain ⟨im, ilen, iR, iA, ip⟩ := hinv.out
    have z0 : (0 : Int) ≤ (j : Int) := by omega
    have z1 : (j : Int) < (m : Int) := by omega
    obtain ⟨hn1, hn2, hn3⟩ := Hne.out
    have Him := Lib.hid im
    have hbl := im.lt
    obtain ⟨L, hL⟩ : ∃ L, wr.heap.size = L := ⟨_, rfl⟩
    have hbxc := hbx.out.cell
    have hB0 : B < wr.heap.size := by omega
    have HL := Lib.hid hL
    clear im hinv hL
    gi_wp2_with fail
    refine (callsIn_wide.2 (below_any hb j _)).mono ?_
    rintro e w1 ⟨rfl, rfl⟩
    gi_wp2_with fail
    rw [HL.out] at hbl hBs hB0
    obtain ⟨Wl, hWl⟩ : ∃ Wl, ((wr.alloc (.cells #[.int .i64 (-1)] 3)).alloc (.cells #[.pointer (some ⟨hb, 0, none⟩)] 24)).alloc (.cells #[.int .i64 j] 3) = Wl := ⟨_, rfl⟩
    simp only [HL.out, hWl]
    have frl : Fr none' wr Wl := by rw [← hWl]; exact (((Fr.refl _ _).alloc _).alloc _).alloc _
    have lsz : Wl.heap.size = L + 3 := by rw [← hWl]; simp [HL.out]
    have bL : Box Wl L (.int .i64 (-1)) := by rw [← hWl, ← HL.out]; exact ((Box.new _ _ _).alloc _).alloc _
    have bH : Box Wl (L + 1) (.pointer (some ⟨hb, 0, none⟩)) := by
      rw [← hWl, ← HL.out]
      have := Box.new (wr.alloc (.cells #[.int .i64 (-1)] 3)) (.pointer (some ⟨hb, 0, none⟩)) 24
      rw [World.size_alloc] at this
      exact this.alloc _
    have bI : Box Wl (L + 1 + 1) (.int .i64 j) := by
      rw [← hWl, ← HL.out]
      have := Box.new ((wr.alloc (.cells #[.int .i64 (-1)] 3)).alloc (.cells #[.pointer (some ⟨hb, 0, none⟩)] 24)) (.int .i64 j) 3
      rwa [World.size_alloc, World.size_alloc] at this
    have mL : MemH Wl hb bt ba cap n ca t' A' := Him.out.fr frl id id id
    have hHd : Header Wl hb bt m cap := by unfold Header; rw [cells_at mL.hd, ilen]; rfl
    have it := (below_iter hb bt cap m j (L + 1 + 1) (L + 1) Wl hj hm bI bH hHd).x
    have Frl := Lib.hid frl
    have Lsz := Lib.hid lsz
    have BL := Lib.hid bL
    have ML := Lib.hid mL
    have Ilen := Lib.hid ilen
    have IR := Lib.hid iR
    have IA := Lib.hid iA
    have Ip := Lib.hid ip
    have IP2 := ip
    clear hWl frl lsz bL bH bI mL hHd ilen iR iA ip IP2 hbxc
    have hkn : min (4 * j + 5) m - (4 * j + 1) = kids t' j := by unfold kids; rw [Ilen.out]
    rw [hkn] at it
    have Hkn := Lib.hid hkn
    clear hkn
    trace_state
    refine wpIn_iterF (gf := 60) rfl (by intro args w; rfl) it (Keep.refl _ _) (fun _ => rfl) (fun k hk => hk.elim) (fun k hk => by rw [Lsz.out]; omega)
      (fun q X W => Fr (fun k => k = L) Wl W ∧ Box W L (.int .i64 (lv (leastC ordE t' j q)))) (fun _ _ => False) ?hI (fun _ _ _ h _ => h.elim) ?h0
      (fun k T => (T.setIfInBounds 17 (.int .i64 k)).setIfInBounds 6 (.int .i64 k)) ?assign ?body ?done (fun _ _ _ _ h _ => h.elim)
    case hI =>
      rintro q X Y W4 W5 ⟨h1, h2⟩ hX hf hY
      rw [Lsz.out] at hX hf
      have hlt : ∀ k, k < L + 3 → ¬ (none' k ∨ X k ∨ k = L + 3 ∨ k = L + 3 + 1) := fun k hk h => by
        rcases h with h | h | h | h
        · exact h
        · have := hX k h; omega
        · omega
        · omega
      exact ⟨h1.trans' hf (fun k hk h => absurd h (hlt k (by rw [Lsz.out] at hk; exact hk))), h2.fr hf (hlt _ (by omega))⟩
    case h0 => exact ⟨Fr.refl _ _, BL.out⟩
    case assign =>
      intro l k W K hlt hK
      have HK := Lib.hid hK
      clear hK
      gi_wp2
      exact HK.out _ (Fr.refl _ _)
    case body =>
      rintro l q k X W r hxi ⟨hfr', hbL⟩ hXb hD hLo
      obtain ⟨hq, hk⟩ : q < kids t' j ∧ k = 4 * j + 1 + q := by
        have h1 := (List.getElem?_eq_some_iff.1 hxi).1
        rw [List.length_range'] at h1
        rw [List.getElem?_range' h1] at hxi
        injection hxi with hxi
        exact ⟨h1, by omega⟩
      have hkm : k < m := by have := hk; unfold kids at hq; rw [Ilen.out] at hq; omega
      have mW : MemH W hb bt ba cap n ca t' A' := ML.out.fr hfr' (by omega) (by omega) (by omega)
      have ew := mW.ent (i := k) (by rw [Ilen.out]; exact hkm)
      obtain ⟨s0, s1, s2, s3⟩ := ew
      obtain ⟨y, hy⟩ : ∃ y, at' t' k = y := ⟨_, rfl⟩
      rw [hy] at s0 s1 s2 s3
      have k1 : W.cell? ⟨hb, 1, none⟩ = some (.slice (some ⟨bt, 0, none⟩) m cap) := by rw [cells_at mW.hd, Ilen.out]; rfl
      have hbB : Box W B (.pointer (some ⟨hb, 0, none⟩)) := (hbx.out.fr Frl.out id).fr hfr' (by omega)
      have b1 := hbB.cell
      have c1 := hbL.cell
      have z2 : (0 : Int) ≤ (k : Int) := by omega
      have z3 : (k : Int) < (m : Int) := by omega
      have Hk := Lib.hid hk
      have Hy := Lib.hid hy
      have MW := Lib.hid mW
      have HXb := Lib.hid hXb
      clear hxi hD hLo hk hy mW hXb
      simp only [List.setIfInBounds_toArray, List.set_cons_zero, List.set_cons_succ]
      rcases hle : leastC ordE t' j q with _ | l
      · rw [hle] at c1
        simp only [lv] at c1
        have Hle := Lib.hid hle
        clear hle s0 s1 s2 s3
        gi_wp2
        refine wpIn_round_held (S := fun W' => W' = W.drew) (by kernel_rfl) (by kernel_rfl) (by intro a w h; exact h) rfl (fun hHeld => ?_)
        refine take_on (i := 0) (v := .int .i64 (-1)) rfl (by kernel_rfl) (by kernel_rfl) (by kernel_rfl) (fun _ _ _ h => h) (by kernel_rfl) (fun W' hSW => ?_) (by assumption) ?_
        · (try dsimp only at hSW); (try subst hSW)
          first | (go_simp; done) | exact rfl | (go_simp; rfl) | (go_simp; omega)
        try simp only [Act.put, List.setIfInBounds_toArray, List.set_cons_zero, List.set_cons_succ]
        refine take_on (i := 1) (v := .bool true) rfl (by kernel_rfl) (by kernel_rfl) (by kernel_rfl) (fun _ _ _ h => h) (by kernel_rfl) (fun W' hSW => ?_) (by assumption) ?_
        · (try dsimp only at hSW); (try subst hSW)
          first | (go_simp; done) | exact rfl | (go_simp; rfl) | (go_simp; omega)
        try simp only [Act.put, List.setIfInBounds_toArray, List.set_cons_zero, List.set_cons_succ]
        refine take_on (i := 2) (v := .bool true) rfl (by kernel_rfl) (by kernel_rfl) (by kernel_rfl) (fun _ _ _ h => h) (by kernel_rfl) (fun W' hSW => ?_) (by assumption) ?_
        · (try dsimp only at hSW); (try subst hSW)
          first | (go_simp; done) | exact rfl | (go_simp; rfl) | (go_simp; omega)
        try simp only [Act.put, List.setIfInBounds_toArray, List.set_cons_zero, List.set_cons_succ]
        refine take_off (i := 3) rfl (by kernel_rfl) (by kernel_rfl) (by kernel_rfl) (fun _ _ _ h => h) (by kernel_rfl) (by assumption) ?_
        try simp only [Act.put, List.setIfInBounds_toArray, List.set_cons_zero, List.set_cons_succ]
        refine take_off (i := 4) rfl (by kernel_rfl) (by kernel_rfl) (by kernel_rfl) (fun _ _ _ h => h) (by kernel_rfl) (by assumption) ?_
        try simp only [Act.put, List.setIfInBounds_toArray, List.set_cons_zero, List.set_cons_succ]
        refine take_off (i := 5) rfl (by kernel_rfl) (by kernel_rfl) (by kernel_rfl) (fun _ _ _ h => h) (by kernel_rfl) (by assumption) ?_
        try simp only [Act.put, List.setIfInBounds_toArray, List.set_cons_zero, List.set_cons_succ]
        refine take_off (i := 6) rfl (by kernel_rfl) (by kernel_rfl) (by kernel_rfl) (fun _ _ _ h => h) (by kernel_rfl) (by assumption) ?_
        try simp only [Act.put, List.setIfInBounds_toArray, List.set_cons_zero, List.set_cons_succ]
        refine take_off (i := 7) rfl (by kernel_rfl) (by kernel_rfl) (by kernel_rfl) (fun _ _ _ h => h) (by kernel_rfl) (by assumption) ?_
        try simp only [Act.put, List.setIfInBounds_toArray, List.set_cons_zero, List.set_cons_succ]
        refine take_off (i := 8) rfl (by kernel_rfl) (by kernel_rfl) (by kernel_rfl) (fun _ _ _ h => h) (by kernel_rfl) (by assumption) ?_
        try simp only [Act.put, List.setIfInBounds_toArray, List.set_cons_zero, List.set_cons_succ]
        refine take_off (i := 9) rfl (by kernel_rfl) (by kernel_rfl) (by kernel_rfl) (fun _ _ _ h => h) (by kernel_rfl) (by assumption) ?_
        try simp only [Act.put, List.setIfInBounds_toArray, List.set_cons_zero, List.set_cons_succ]
        refine take_off (i := 10) rfl (by kernel_rfl) (by kernel_rfl) (by kernel_rfl) (fun _ _ _ h => h) (by kernel_rfl) (by assumption) ?_
        try simp only [Act.put, List.setIfInBounds_toArray, List.set_cons_zero, List.set_cons_succ]
        refine take_off (i := 11) rfl (by kernel_rfl) (by kernel_rfl) (by kernel_rfl) (fun _ _ _ h => h) (by kernel_rfl) (by assumption) ?_
        try simp only [Act.put, List.setIfInBounds_toArray, List.set_cons_zero, List.set_cons_succ]
        refine take_off (i := 12) rfl (by kernel_rfl) (by kernel_rfl) (by kernel_rfl) (fun _ _ _ h => h) (by kernel_rfl) (by assumption) ?_
        try simp only [Act.put, List.setIfInBounds_toArray, List.set_cons_zero, List.set_cons_succ]
        refine take_off (i := 13) rfl (by kernel_rfl) (by kernel_rfl) (by kernel_rfl) (fun _ _ _ h => h) (by kernel_rfl) (by assumption) ?_
        try simp only [Act.put, List.setIfInBounds_toArray, List.set_cons_zero, List.set_cons_succ]
        refine take_off (i := 14) rfl (by kernel_rfl) (by kernel_rfl) (by kernel_rfl) (fun _ _ _ h => h) (by kernel_rfl) (by assumption) ?_
        try simp only [Act.put, List.setIfInBounds_toArray, List.set_cons_zero, List.set_cons_succ]
        refine take_off (i := 15) rfl (by kernel_rfl) (by kernel_rfl) (by kernel_rfl) (fun _ _ _ h => h) (by kernel_rfl) (by assumption) ?_
        try simp only [Act.put, List.setIfInBounds_toArray, List.set_cons_zero, List.set_cons_succ]
        refine take_off (i := 16) rfl (by kernel_rfl) (by kernel_rfl) (by kernel_rfl) (fun _ _ _ h => h) (by kernel_rfl) (by assumption) ?_
        try simp only [Act.put, List.setIfInBounds_toArray, List.set_cons_zero, List.set_cons_succ]
        refine take_off (i := 17) rfl (by kernel_rfl) (by kernel_rfl) (by kernel_rfl) (fun _ _ _ h => h) (by kernel_rfl) (by assumption) ?_
        try simp only [Act.put, List.setIfInBounds_toArray, List.set_cons_zero, List.set_cons_succ]
        refine take_off (i := 18) rfl (by kernel_rfl) (by kernel_rfl) (by kernel_rfl) (fun _ _ _ h => h) (by kernel_rfl) (by assumption) ?_
        try simp only [Act.put, List.setIfInBounds_toArray, List.set_cons_zero, List.set_cons_succ]
        refine take_on (i := 19) (v := .bool true) rfl (by kernel_rfl) (by kernel_rfl) (by kernel_rfl) (fun _ _ _ h => h) (by kernel_rfl) (fun W' hSW => ?_) (by assumption) ?_
        · (try dsimp only at hSW); (try subst hSW)
          first | (go_simp; done) | exact rfl | (go_simp; rfl) | (go_simp; omega)
        try simp only [Act.put, List.setIfInBounds_toArray, List.set_cons_zero, List.set_cons_succ]
        refine wpAnyH_done (by kernel_rfl) ?_ _
        clear hHeld
        have hfz := hbL.frozen
        gi_wp2
        refine ⟨fun k => k = L, ((Fr.refl (fun k => k = L) W).drew).setCell (fun _ => rfl) _, ?_, (hfr'.drew).setCell (fun _ => rfl) _, ?_⟩
        · intro k' hk' h
          subst hk'
          rw [Lsz.out] at h HXb
          rcases h with h | h | h | h
          · omega
          · have := HXb.out _ h; omega
          · omega
          · omega
        · rw [leastC_succ, Hle.out]
          simp only [pickC, lv]
          rw [← Hk.out]
          exact hbL.set _
      · rw [hle] at c1
        simp only [lv] at c1
        have hls := leastC_spec ordE_ord t' j q
        rw [hle] at hls
        obtain ⟨hl1, hl2⟩ : 4 * j + 1 ≤ l ∧ l < 4 * j + 1 + q := by
          rcases hls with ⟨h, _⟩ | ⟨l', h, h1, h2, _⟩
          · cases h
          · injection h with h; subst h; exact ⟨h1, h2⟩
        have hlm : l < m := by have := Hk.out; omega
        obtain ⟨v0, v1, v2, v3⟩ := MW.out.ent (i := l) (by rw [Ilen.out]; exact hlm)
        obtain ⟨u, hu⟩ : ∃ u, at' t' l = u := ⟨_, rfl⟩
        rw [hu] at v0 v1 v2 v3
        have Hu := Lib.hid hu
        have Hle := Lib.hid hle
        have z4 : (0 : Int) ≤ (l : Int) := by omega
        have z5 : (l : Int) < (m : Int) := by omega
        have d1 : decide ((l : Int) < 0) = false := decide_eq_false (by omega)
        clear hu hle hls
        gi_wp2
        refine wpIn_round_held (S := fun W' => W'.cell? ⟨L, 0, none⟩ = some (.int .i64 l) ∧ W'.cell? ⟨B, 0, none⟩ = some (.pointer (some ⟨hb, 0, none⟩)) ∧ W'.cell? ⟨hb, 1, none⟩ = some (.slice (some ⟨bt, 0, none⟩) m cap) ∧
          W'.cell? ⟨bt, k * 4, none⟩ = some (.int .i64 y.key.time) ∧ W'.cell? ⟨bt, k * 4 + 1, none⟩ = some (.int .i64 y.key.source) ∧ W'.cell? ⟨bt, k * 4 + 2, none⟩ = some (.int .i64 y.key.seq) ∧ W'.cell? ⟨bt, k * 4 + 3, none⟩ = some (.int .i64 y.place) ∧
          W'.cell? ⟨bt, l * 4, none⟩ = some (.int .i64 u.key.time) ∧ W'.cell? ⟨bt, l * 4 + 1, none⟩ = some (.int .i64 u.key.source) ∧ W'.cell? ⟨bt, l * 4 + 2, none⟩ = some (.int .i64 u.key.seq) ∧ W'.cell? ⟨bt, l * 4 + 3, none⟩ = some (.int .i64 u.place)) (by kernel_rfl) (by kernel_rfl) (by intro a w h; exact h) ⟨c1, b1, k1, s0, s1, s2, s3, v0, v1, v2, v3⟩ (fun hHeld => ?_)
        refine take_on (i := 0) (v := .int .i64 l) rfl (by kernel_rfl) (by kernel_rfl) (by kernel_rfl) (fun _ _ _ h => h) (by kernel_rfl) (fun W' hSW => ?_) (by assumption) ?_
        · (try dsimp only at hSW)
          first | (go_simp; done) | exact rfl | (go_simp; rfl) | (go_simp; omega)
        try simp only [Act.put, List.setIfInBounds_toArray, List.set_cons_zero, List.set_cons_succ]
        refine take_on (i := 1) (v := .bool false) rfl (by kernel_rfl) (by kernel_rfl) (by kernel_rfl) (fun _ _ _ h => h) (by kernel_rfl) (fun W' hSW => ?_) (by assumption) ?_
        · (try dsimp only at hSW)
          first | (go_simp; done) | exact rfl | (go_simp; rfl) | (go_simp; omega)
        try simp only [Act.put, List.setIfInBounds_toArray, List.set_cons_zero, List.set_cons_succ]
        refine take_on (i := 2) (v := .bool false) rfl (by kernel_rfl) (by kernel_rfl) (by kernel_rfl) (fun _ _ _ h => h) (by kernel_rfl) (fun W' hSW => ?_) (by assumption) ?_
        · (try dsimp only at hSW)
          first | (go_simp; done) | exact rfl | (go_simp; rfl) | (go_simp; omega)
        try simp only [Act.put, List.setIfInBounds_toArray, List.set_cons_zero, List.set_cons_succ]
        refine take_on (i := 3) (v := .pointer (some ⟨hb, 0, none⟩)) rfl (by kernel_rfl) (by kernel_rfl) (by kernel_rfl) (fun _ _ _ h => h) (by kernel_rfl) (fun W' hSW => ?_) (by assumption) ?_
        · (try dsimp only at hSW)
          first | (go_simp; done) | exact rfl | (go_simp; rfl) | (go_simp; omega)
        try simp only [Act.put, List.setIfInBounds_toArray, List.set_cons_zero, List.set_cons_succ]
        refine take_on (i := 4) (v := .pointer (some ⟨hb, 0, none⟩)) rfl (by kernel_rfl) (by kernel_rfl) (by kernel_rfl) (fun _ _ _ h => h) (by kernel_rfl) (fun W' hSW => ?_) (by assumption) ?_
        · (try dsimp only at hSW)
          first | (go_simp; done) | exact rfl | (go_simp; rfl) | (go_simp; omega)
        try simp only [Act.put, List.setIfInBounds_toArray, List.set_cons_zero, List.set_cons_succ]
        refine take_on (i := 5) (v := .pointer (some ⟨hb, 1, none⟩)) rfl (by kernel_rfl) (by kernel_rfl) (by kernel_rfl) (fun _ _ _ h => h) (by kernel_rfl) (fun W' hSW => ?_) (by assumption) ?_
        · (try dsimp only at hSW)
          first | (go_simp; done) | exact rfl | (go_simp; rfl) | (go_simp; omega)
        try simp only [Act.put, List.setIfInBounds_toArray, List.set_cons_zero, List.set_cons_succ]
        refine take_on (i := 6) (v := .slice (some ⟨bt, 0, none⟩) m cap) rfl (by kernel_rfl) (by kernel_rfl) (by kernel_rfl) (fun _ _ _ h => h) (by kernel_rfl) (fun W' hSW => ?_) (by assumption) ?_
        · (try dsimp only at hSW)
          first | (go_simp; done) | exact rfl | (go_simp; rfl) | (go_simp; omega)
        try simp only [Act.put, List.setIfInBounds_toArray, List.set_cons_zero, List.set_cons_succ]
        refine take_on (i := 7) (v := .int .i64 k) rfl (by kernel_rfl) (by kernel_rfl) (by kernel_rfl) (fun _ _ _ h => h) (by kernel_rfl) (fun W' hSW => ?_) (by assumption) ?_
        · (try dsimp only at hSW)
          first | (go_simp; done) | exact rfl | (go_simp; rfl) | (go_simp; omega)
        try simp only [Act.put, List.setIfInBounds_toArray, List.set_cons_zero, List.set_cons_succ]
        refine take_on (i := 8) (v := .pointer (some ⟨bt, k * 4, none⟩)) rfl (by kernel_rfl) (by kernel_rfl) (by kernel_rfl) (fun _ _ _ h => h) (by kernel_rfl) (fun W' hSW => ?_) (by assumption) ?_
        · (try dsimp only at hSW)
          first | (go_simp; done) | exact rfl | (go_simp; rfl) | (go_simp; omega)
        try simp only [Act.put, List.setIfInBounds_toArray, List.set_cons_zero, List.set_cons_succ]
        refine take_on (i := 9) (v := .agg #[.int .i64 y.key.time, .int .i64 y.key.source, .int .i64 y.key.seq, .int .i64 y.place]) rfl (by kernel_rfl) (by kernel_rfl) (by kernel_rfl) (fun _ _ _ h => h) (by kernel_rfl) (fun W' hSW => ?_) (by assumption) ?_
        · (try dsimp only at hSW)
          first | (go_simp; done) | exact rfl | (go_simp; rfl) | (go_simp; omega)
        try simp only [Act.put, List.setIfInBounds_toArray, List.set_cons_zero, List.set_cons_succ]
        refine take_on (i := 10) (v := .pointer (some ⟨hb, 0, none⟩)) rfl (by kernel_rfl) (by kernel_rfl) (by kernel_rfl) (fun _ _ _ h => h) (by kernel_rfl) (fun W' hSW => ?_) (by assumption) ?_
        · (try dsimp only at hSW)
          first | (go_simp; done) | exact rfl | (go_simp; rfl) | (go_simp; omega)
        try simp only [Act.put, List.setIfInBounds_toArray, List.set_cons_zero, List.set_cons_succ]
        refine take_on (i := 11) (v := .pointer (some ⟨hb, 0, none⟩)) rfl (by kernel_rfl) (by kernel_rfl) (by kernel_rfl) (fun _ _ _ h => h) (by kernel_rfl) (fun W' hSW => ?_) (by assumption) ?_
        · (try dsimp only at hSW)
          first | (go_simp; done) | exact rfl | (go_simp; rfl) | (go_simp; omega)
        try simp only [Act.put, List.setIfInBounds_toArray, List.set_cons_zero, List.set_cons_succ]
        refine take_on (i := 12) (v := .pointer (some ⟨hb, 1, none⟩)) rfl (by kernel_rfl) (by kernel_rfl) (by kernel_rfl) (fun _ _ _ h => h) (by kernel_rfl) (fun W' hSW => ?_) (by assumption) ?_
        · (try dsimp only at hSW)
          first | (go_simp; done) | exact rfl | (go_simp; rfl) | (go_simp; omega)
        try simp only [Act.put, List.setIfInBounds_toArray, List.set_cons_zero, List.set_cons_succ]
        refine take_on (i := 13) (v := .slice (some ⟨bt, 0, none⟩) m cap) rfl (by kernel_rfl) (by kernel_rfl) (by kernel_rfl) (fun _ _ _ h => h) (by kernel_rfl) (fun W' hSW => ?_) (by assumption) ?_
        · (try dsimp only at hSW)
          first | (go_simp; done) | exact rfl | (go_simp; rfl) | (go_simp; omega)
        try simp only [Act.put, List.setIfInBounds_toArray, List.set_cons_zero, List.set_cons_succ]
        refine take_on (i := 14) (v := .int .i64 l) rfl (by kernel_rfl) (by kernel_rfl) (by kernel_rfl) (fun _ _ _ h => h) (by kernel_rfl) (fun W' hSW => ?_) (by assumption) ?_
        · (try dsimp only at hSW)
          first | (go_simp; done) | exact rfl | (go_simp; rfl) | (go_simp; omega)
        try simp only [Act.put, List.setIfInBounds_toArray, List.set_cons_zero, List.set_cons_succ]
        refine take_on (i := 15) (v := .pointer (some ⟨bt, l * 4, none⟩)) rfl (by kernel_rfl) (by kernel_rfl) (by kernel_rfl) (fun _ _ _ h => h) (by kernel_rfl) (fun W' hSW => ?_) (by assumption) ?_
        · (try dsimp only at hSW)
          first | (go_simp; done) | exact rfl | (go_simp; rfl) | (go_simp; omega)
        try simp only [Act.put, List.setIfInBounds_toArray, List.set_cons_zero, List.set_cons_succ]
        refine take_on (i := 16) (v := .agg #[.int .i64 u.key.time, .int .i64 u.key.source, .int .i64 u.key.seq, .int .i64 u.place]) rfl (by kernel_rfl) (by kernel_rfl) (by kernel_rfl) (fun _ _ _ h => h) (by kernel_rfl) (fun W' hSW => ?_) (by assumption) ?_
        · (try dsimp only at hSW)
          first | (go_simp; done) | exact rfl | (go_simp; rfl) | (go_simp; omega)
        try simp only [Act.put, List.setIfInBounds_toArray, List.set_cons_zero, List.set_cons_succ]
        obtain ⟨c, hc⟩ : ∃ c, ordE y u = c := ⟨_, rfl⟩
        have HO := order_any y u W.drew
        rw [hc] at HO
        simp only [entV] at HO
        refine take_call (i := 17) rfl (by kernel_rfl) (by kernel_rfl) (fun K hK => ?_)
        go_simp
        refine HO.mono ?_
        rintro e1 w1 ⟨rfl, hf1⟩
        go_wp2_with fail
        refine hK.out _ _ ⟨hf1.later c1, hf1.later b1, hf1.later k1, hf1.later s0, hf1.later s1, hf1.later s2, hf1.later s3, hf1.later v0, hf1.later v1, hf1.later v2, hf1.later v3⟩ (fun hHeld2 => ?_)
        clear hK K HO
        have hbL1 : Box w1 L (.int .i64 l) := by
          have := (hbL.of_block rfl : Box W.drew L _).fr hf1 id
          rwa [Hle.out] at this
        have fr1 : Fr (fun k => k = L) Wl w1 := (hfr'.drew).trans' hf1 (fun _ _ h => h.elim)
        have frW : Fr none' W w1 := ((Fr.refl _ _).drew).trans hf1
        have Hc := Lib.hid hc
        have Fr1 := Lib.hid fr1
        have FrW := Lib.hid frW
        clear hc hf1 fr1 frW c1 b1 k1 s0 s1 s2 s3 v0 v1 v2 v3 hHeld
        try simp only [Act.put, List.setIfInBounds_toArray, List.set_cons_zero, List.set_cons_succ]
        have hbn := hbL1.frozen
        have hbc := hbL1.cell
        by_cases hc0 : c < 0
        · have d0 : decide (c < 0) = true := decide_eq_true hc0
          refine take_on (i := 18) (v := .bool true) rfl (by kernel_rfl) (by kernel_rfl) (by kernel_rfl) (fun _ _ _ h => h) (by kernel_rfl) (fun W' hSW => ?_) (by assumption) ?_
          · (try dsimp only at hSW)
            first | (go_simp; done) | exact rfl | (go_simp; rfl) | (go_simp; omega)
          try simp only [Act.put, List.setIfInBounds_toArray, List.set_cons_zero, List.set_cons_succ]
          refine take_on (i := 19) (v := .bool true) rfl (by kernel_rfl) (by kernel_rfl) (by kernel_rfl) (fun _ _ _ h => h) (by kernel_rfl) (fun W' hSW => ?_) (by assumption) ?_
          · (try dsimp only at hSW)
            first | (go_simp; done) | exact rfl | (go_simp; rfl) | (go_simp; omega)
          try simp only [Act.put, List.setIfInBounds_toArray, List.set_cons_zero, List.set_cons_succ]
          refine wpAnyH_done (by kernel_rfl) ?_ _
          clear hHeld2 d1
          gi_wp2
          refine ⟨fun k => k = L, Fr.setCell (S := fun k => k = L) (FrW.out.mono (fun _ _ h => h.elim)) (fun _ => rfl) _, ?_, Fr1.out.setCell (fun _ => rfl) _, ?_⟩
          · intro k' hk' h
            subst hk'
            rw [Lsz.out] at h HXb
            rcases h with h | h | h | h
            · omega
            · have := HXb.out _ h; omega
            · omega
            · omega
          · rw [leastC_succ, Hle.out]
            simp only [pickC]
            rw [← Hk.out, Hy.out, Hu.out, Hc.out, if_pos hc0]
            simp only [lv]
            exact hbL1.set _
        · have d0 : decide (c < 0) = false := decide_eq_false hc0
          refine take_on (i := 18) (v := .bool false) rfl (by kernel_rfl) (by kernel_rfl) (by kernel_rfl) (fun _ _ _ h => h) (by kernel_rfl) (fun W' hSW => ?_) (by assumption) ?_
          · (try dsimp only at hSW)
            first | (go_simp; done) | exact rfl | (go_simp; rfl) | (go_simp; omega)
          try simp only [Act.put, List.setIfInBounds_toArray, List.set_cons_zero, List.set_cons_succ]
          refine take_on (i := 19) (v := .bool false) rfl (by kernel_rfl) (by kernel_rfl) (by kernel_rfl) (fun _ _ _ h => h) (by kernel_rfl) (fun W' hSW => ?_) (by assumption) ?_
          · (try dsimp only at hSW)
            first | (go_simp; done) | exact rfl | (go_simp; rfl) | (go_simp; omega)
          try simp only [Act.put, List.setIfInBounds_toArray, List.set_cons_zero, List.set_cons_succ]
          refine wpAnyH_done (by kernel_rfl) ?_ _
          clear hHeld2 d1
          gi_wp2
          refine ⟨none', FrW.out, fun _ h => h.elim, Fr1.out, ?_⟩
          rw [leastC_succ, Hle.out]
          simp only [pickC]
          rw [← Hk.out, Hy.out, Hu.out, Hc.out, if_neg (by omega)]
          exact hbL1
    case done =>
      rintro D X W hDe ⟨hfr', hbL⟩ hK
      rw [Lsz.out] at hDe
      subst hDe
      rw [List.length_range'] at hbL
      have hDs : L + 3 < W.heap.size := (Array.getElem?_eq_some_iff.1 hK).1
      have frr : Fr none' wr W := Frl.out.trans' hfr' (fun k hk h => by rw [HL.out] at hk; omega)
      have hmk : Marks B ({ target := .collected (L + 3), args := #[] } :: ds) W :=
        hds.out.cons (D := L + 3) frr (fun _ h _ => h.elim) (by omega) (by rw [HL.out]; omega) hK
      have hsf : SetFr bt ba w W := hfr.out.fr frr (fun _ h _ => h)
      have mW : MemH W hb bt ba cap n ca t' A' := ML.out.fr hfr' (by omega) (by omega) (by omega)
      have hEW : EntAt W (B + 1) x := (hE.out.fr Frl.out id).fr hfr' (by omega)
      have hbB : Box W B (.pointer (some ⟨hb, 0, none⟩)) := (hbx.out.fr Frl.out id).fr hfr' (by omega)
      obtain ⟨g1, g2, g3, g4⟩ := hEW.ent
      have k1 : W.cell? ⟨hb, 1, none⟩ = some (.slice (some ⟨bt, 0, none⟩) m cap) := by rw [cells_at mW.hd, Ilen.out]; rfl
      have b1 := hbB.cell
      have c1 := hbL.cell
      have Hmk := Lib.hid hmk
      have Hsf := Lib.hid hsf
      have MW := Lib.hid mW
      have HEW := Lib.hid hEW
      have HbB := Lib.hid hbB
      have HbL := Lib.hid hbL
      clear hK frr hmk hsf mW hEW hbB it
      rcases hle : leastC ordE t' j (kids t' j) with _ | l
      · have hR1 : t'.set j x = R := by rw [← IR.out, sinkL, hle]
        have hA1 : A'.set x.place (j + 1) = RA := by rw [← IA.out, sinkA, hle]
        rw [hle] at c1
        simp only [lv] at c1
        have HR1 := Lib.hid hR1
        have HA1 := Lib.hid hA1
        clear hR1 hA1 hle hbL g1 g2 g3 g4
        gi_wp2
        refine wpIn_regionW ?_
        refine wp_region_held_drew (S := fun W' => W' = W.drew) (by kernel_rfl) rfl (fun hHeld => ?_)
        refine take_on (i := 0) (v := .int .i64 (-1)) rfl (by kernel_rfl) (by kernel_rfl) (by kernel_rfl) (fun _ _ _ h => h) (by kernel_rfl) (fun W' hSW => ?_) (by assumption) ?_
        · (try dsimp only at hSW); (try subst hSW)
          first | (go_simp; done) | exact rfl | (go_simp; rfl) | (go_simp; omega)
        try simp only [Act.put, List.setIfInBounds_toArray, List.set_cons_zero, List.set_cons_succ]
        refine take_on (i := 1) (v := .bool true) rfl (by kernel_rfl) (by kernel_rfl) (by kernel_rfl) (fun _ _ _ h => h) (by kernel_rfl) (fun W' hSW => ?_) (by assumption) ?_
        · (try dsimp only at hSW); (try subst hSW)
          first | (go_simp; done) | exact rfl | (go_simp; rfl) | (go_simp; omega)
        try simp only [Act.put, List.setIfInBounds_toArray, List.set_cons_zero, List.set_cons_succ]
        refine take_on (i := 2) (v := .bool true) rfl (by kernel_rfl) (by kernel_rfl) (by kernel_rfl) (fun _ _ _ h => h) (by kernel_rfl) (fun W' hSW => ?_) (by assumption) ?_
        · (try dsimp only at hSW); (try subst hSW)
          first | (go_simp; done) | exact rfl | (go_simp; rfl) | (go_simp; omega)
        try simp only [Act.put, List.setIfInBounds_toArray, List.set_cons_zero, List.set_cons_succ]
        refine take_off (i := 3) rfl (by kernel_rfl) (by kernel_rfl) (by kernel_rfl) (fun _ _ _ h => h) (by kernel_rfl) (by assumption) ?_
        try simp only [Act.put, List.setIfInBounds_toArray, List.set_cons_zero, List.set_cons_succ]
        refine take_off (i := 4) rfl (by kernel_rfl) (by kernel_rfl) (by kernel_rfl) (fun _ _ _ h => h) (by kernel_rfl) (by assumption) ?_
        try simp only [Act.put, List.setIfInBounds_toArray, List.set_cons_zero, List.set_cons_succ]
        refine take_off (i := 5) rfl (by kernel_rfl) (by kernel_rfl) (by kernel_rfl) (fun _ _ _ h => h) (by kernel_rfl) (by assumption) ?_
        try simp only [Act.put, List.setIfInBounds_toArray, List.set_cons_zero, List.set_cons_succ]
        refine take_off (i := 6) rfl (by kernel_rfl) (by kernel_rfl) (by kernel_rfl) (fun _ _ _ h => h) (by kernel_rfl) (by assumption) ?_
        try simp only [Act.put, List.setIfInBounds_toArray, List.set_cons_zero, List.set_cons_succ]
        refine take_off (i := 7) rfl (by kernel_rfl) (by kernel_rfl) (by kernel_rfl) (fun _ _ _ h => h) (by kernel_rfl) (by assumption) ?_
        try simp only [Act.put, List.setIfInBounds_toArray, List.set_cons_zero, List.set_cons_succ]
        refine take_off (i := 8) rfl (by kernel_rfl) (by kernel_rfl) (by kernel_rfl) (fun _ _ _ h => h) (by kernel_rfl) (by assumption) ?_
        try simp only [Act.put, List.setIfInBounds_toArray, List.set_cons_zero, List.set_cons_succ]
        refine take_off (i := 9) rfl (by kernel_rfl) (by kernel_rfl) (by kernel_rfl) (fun _ _ _ h => h) (by kernel_rfl) (by assumption) ?_
        try simp only [Act.put, List.setIfInBounds_toArray, List.set_cons_zero, List.set_cons_succ]
        refine take_off (i := 10) rfl (by kernel_rfl) (by kernel_rfl) (by kernel_rfl) (fun _ _ _ h => h) (by kernel_rfl) (by assumption) ?_
        try simp only [Act.put, List.setIfInBounds_toArray, List.set_cons_zero, List.set_cons_succ]
        refine take_off (i := 11) rfl (by kernel_rfl) (by kernel_rfl) (by kernel_rfl) (fun _ _ _ h => h) (by kernel_rfl) (by assumption) ?_
        try simp only [Act.put, List.setIfInBounds_toArray, List.set_cons_zero, List.set_cons_succ]
        refine take_off (i := 12) rfl (by kernel_rfl) (by kernel_rfl) (by kernel_rfl) (fun _ _ _ h => h) (by kernel_rfl) (by assumption) ?_
        try simp only [Act.put, List.setIfInBounds_toArray, List.set_cons_zero, List.set_cons_succ]
        refine take_on (i := 13) (v := .bool true) rfl (by kernel_rfl) (by kernel_rfl) (by kernel_rfl) (fun _ _ _ h => h) (by kernel_rfl) (fun W' hSW => ?_) (by assumption) ?_
        · (try dsimp only at hSW); (try subst hSW)
          first | (go_simp; done) | exact rfl | (go_simp; rfl) | (go_simp; omega)
        try simp only [Act.put, List.setIfInBounds_toArray, List.set_cons_zero, List.set_cons_succ]
        refine wpAnyH_done (by kernel_rfl) ?_ _
        rw [OnlyN_normal]
        clear hHeld
        obtain ⟨g1, g2, g3, g4⟩ := HEW.out.ent
        gi_wp2_with fail
        have HS := set_mem hb bt ba cap n ca j t' A' x _ (MW.out.fr (Fr.refl none' W).drew id id id) (by rw [Ilen.out]; exact hj) (by rw [Ilen.out]; exact hm) hxp
        simp only [entV] at HS
        refine (callsIn_wide.2 HS).mono ?_
        rintro e2 w2 ⟨rfl, m2, sf2⟩
        have hfin : MemH w2 hb bt ba cap n ca R RA := by rw [← HR1.out, ← HA1.out]; exact m2
        have hmk2 := (Hmk.out.fr (Fr.refl none' W).drew (fun _ h _ => h.elim)).fr sf2.to (fun k h _ => by rcases h with h | h <;> omega)
        have hsf2 := (Hsf.out.fr (Fr.refl none' W).drew (fun _ h _ => h)).trans sf2
        have Hmk2 := Lib.hid hmk2
        have Hsf2 := Lib.hid hsf2
        have Hfin := Lib.hid hfin
        clear HS m2 sf2 hfin hmk2 hsf2
        gi_wp2
        refine leaves_marks _ _ Hmk2.out (fun w' hf => ⟨_, results_none rfl _ _ _, rfl, ?_, ?_⟩)
        · exact Hfin.out.fr hf (by omega) (by omega) (by omega)
        · exact Hsf2.out.fr hf (fun k h1 h2 => by rw [HB.out] at h2; omega)
      · have hls := leastC_spec ordE_ord t' j (kids t' j)
        rw [hle] at hls
        obtain ⟨hl1, hl2⟩ : 4 * j + 1 ≤ l ∧ l < 4 * j + 1 + kids t' j := by
          rcases hls with ⟨h, _⟩ | ⟨l', h, h1, h2, _⟩
          · cases h
          · injection h with h; subst h; exact ⟨h1, h2⟩
        obtain ⟨hp1, hp2, hp3⟩ := par_kids hl1 hl2
        rw [Ilen.out] at hp2
        obtain ⟨v0, v1, v2, v3⟩ := MW.out.ent (i := l) (by rw [Ilen.out]; exact hp2)
        obtain ⟨u, hu⟩ : ∃ u, at' t' l = u := ⟨_, rfl⟩
        rw [hu] at v0 v1 v2 v3
        have hup : u.place < n := by rw [← hu]; exact Ip.out l hp2
        rw [hle] at c1
        simp only [lv] at c1
        obtain ⟨c, hc⟩ : ∃ c, ordE x u = c := ⟨_, rfl⟩
        have hR1 : (if c < 0 then (t'.set j x, j) else sinkL ordE x (t'.set j u) l).1 = R := by
          rw [← IR.out, sinkL.eq_def ordE x t' j, hle]
          simp only [dif_pos (show j < l ∧ l < t'.length from ⟨hp3, by rw [Ilen.out]; exact hp2⟩), hu, hc]
        have hA1 : (if c < 0 then A'.set x.place (j + 1) else sinkA ordE Ent.place x (t'.set j u) (A'.set u.place (j + 1)) l) = RA := by
          rw [← IA.out, sinkA.eq_def ordE Ent.place x t' A' j, hle]
          simp only [dif_pos (show j < l ∧ l < t'.length from ⟨hp3, by rw [Ilen.out]; exact hp2⟩), hu, hc]
        have HR1 := Lib.hid hR1
        have HA1 := Lib.hid hA1
        have Hu := Lib.hid hu
        have Hc := Lib.hid hc
        have hbL' := hbL
        rw [hle] at hbL'
        simp only [lv] at hbL'
        have HbL' := Lib.hid hbL'
        clear hR1 hA1 hle hbL hbL' hls hu hp1 hl1 hl2
        have z4 : (0 : Int) ≤ (l : Int) := by omega
        have z5 : (l : Int) < (m : Int) := by omega
        have d1 : decide ((l : Int) < 0) = false := decide_eq_false (by omega)
        have HO := order_any x u W.drew
        rw [hc] at HO
        simp only [entV] at HO
        clear hc
        gi_wp2
        refine wpIn_regionW ?_
        refine wp_region_held_drew (S := fun W' => W'.cell? ⟨L, 0, none⟩ = some (.int .i64 l) ∧ W'.cell? ⟨B, 0, none⟩ = some (.pointer (some ⟨hb, 0, none⟩)) ∧ W'.cell? ⟨hb, 1, none⟩ = some (.slice (some ⟨bt, 0, none⟩) m cap) ∧
          W'.cell? ⟨B + 1, 0, none⟩ = some (.int .i64 x.key.time) ∧ W'.cell? ⟨B + 1, 1, none⟩ = some (.int .i64 x.key.source) ∧ W'.cell? ⟨B + 1, 2, none⟩ = some (.int .i64 x.key.seq) ∧ W'.cell? ⟨B + 1, 3, none⟩ = some (.int .i64 x.place) ∧
          W'.cell? ⟨bt, l * 4, none⟩ = some (.int .i64 u.key.time) ∧ W'.cell? ⟨bt, l * 4 + 1, none⟩ = some (.int .i64 u.key.source) ∧ W'.cell? ⟨bt, l * 4 + 2, none⟩ = some (.int .i64 u.key.seq) ∧ W'.cell? ⟨bt, l * 4 + 3, none⟩ = some (.int .i64 u.place)) (by kernel_rfl) ⟨c1, b1, k1, g1, g2, g3, g4, v0, v1, v2, v3⟩ (fun hHeld => ?_)
        refine take_on (i := 0) (v := .int .i64 l) rfl (by kernel_rfl) (by kernel_rfl) (by kernel_rfl) (fun _ _ _ h => h) (by kernel_rfl) (fun W' hSW => ?_) (by assumption) ?_
        · (try dsimp only at hSW)
          first | (go_simp; done) | exact rfl | (go_simp; rfl) | (go_simp; omega)
        try simp only [Act.put, List.setIfInBounds_toArray, List.set_cons_zero, List.set_cons_succ]
        refine take_on (i := 1) (v := .bool false) rfl (by kernel_rfl) (by kernel_rfl) (by kernel_rfl) (fun _ _ _ h => h) (by kernel_rfl) (fun W' hSW => ?_) (by assumption) ?_
        · (try dsimp only at hSW)
          first | (go_simp; done) | exact rfl | (go_simp; rfl) | (go_simp; omega)
        try simp only [Act.put, List.setIfInBounds_toArray, List.set_cons_zero, List.set_cons_succ]
        refine take_on (i := 2) (v := .bool false) rfl (by kernel_rfl) (by kernel_rfl) (by kernel_rfl) (fun _ _ _ h => h) (by kernel_rfl) (fun W' hSW => ?_) (by assumption) ?_
        · (try dsimp only at hSW)
          first | (go_simp; done) | exact rfl | (go_simp; rfl) | (go_simp; omega)
        try simp only [Act.put, List.setIfInBounds_toArray, List.set_cons_zero, List.set_cons_succ]
        refine take_on (i := 3) (v := .agg #[.int .i64 x.key.time, .int .i64 x.key.source, .int .i64 x.key.seq, .int .i64 x.place]) rfl (by kernel_rfl) (by kernel_rfl) (by kernel_rfl) (fun _ _ _ h => h) (by kernel_rfl) (fun W' hSW => ?_) (by assumption) ?_
        · (try dsimp only at hSW)
          first | (go_simp; done) | exact rfl | (go_simp; rfl) | (go_simp; omega)
        try simp only [Act.put, List.setIfInBounds_toArray, List.set_cons_zero, List.set_cons_succ]
        refine take_on (i := 4) (v := .pointer (some ⟨hb, 0, none⟩)) rfl (by kernel_rfl) (by kernel_rfl) (by kernel_rfl) (fun _ _ _ h => h) (by kernel_rfl) (fun W' hSW => ?_) (by assumption) ?_
        · (try dsimp only at hSW)
          first | (go_simp; done) | exact rfl | (go_simp; rfl) | (go_simp; omega)
        try simp only [Act.put, List.setIfInBounds_toArray, List.set_cons_zero, List.set_cons_succ]
        refine take_on (i := 5) (v := .pointer (some ⟨hb, 0, none⟩)) rfl (by kernel_rfl) (by kernel_rfl) (by kernel_rfl) (fun _ _ _ h => h) (by kernel_rfl) (fun W' hSW => ?_) (by assumption) ?_
        · (try dsimp only at hSW)
          first | (go_simp; done) | exact rfl | (go_simp; rfl) | (go_simp; omega)
        try simp only [Act.put, List.setIfInBounds_toArray, List.set_cons_zero, List.set_cons_succ]
        refine take_on (i := 6) (v := .pointer (some ⟨hb, 1, none⟩)) rfl (by kernel_rfl) (by kernel_rfl) (by kernel_rfl) (fun _ _ _ h => h) (by kernel_rfl) (fun W' hSW => ?_) (by assumption) ?_
        · (try dsimp only at hSW)
          first | (go_simp; done) | exact rfl | (go_simp; rfl) | (go_simp; omega)
        try simp only [Act.put, List.setIfInBounds_toArray, List.set_cons_zero, List.set_cons_succ]
        refine take_on (i := 7) (v := .slice (some ⟨bt, 0, none⟩) m cap) rfl (by kernel_rfl) (by kernel_rfl) (by kernel_rfl) (fun _ _ _ h => h) (by kernel_rfl) (fun W' hSW => ?_) (by assumption) ?_
        · (try dsimp only at hSW)
          first | (go_simp; done) | exact rfl | (go_simp; rfl) | (go_simp; omega)
        try simp only [Act.put, List.setIfInBounds_toArray, List.set_cons_zero, List.set_cons_succ]
        refine take_on (i := 8) (v := .int .i64 l) rfl (by kernel_rfl) (by kernel_rfl) (by kernel_rfl) (fun _ _ _ h => h) (by kernel_rfl) (fun W' hSW => ?_) (by assumption) ?_
        · (try dsimp only at hSW)
          first | (go_simp; done) | exact rfl | (go_simp; rfl) | (go_simp; omega)
        try simp only [Act.put, List.setIfInBounds_toArray, List.set_cons_zero, List.set_cons_succ]
        refine take_on (i := 9) (v := .pointer (some ⟨bt, l * 4, none⟩)) rfl (by kernel_rfl) (by kernel_rfl) (by kernel_rfl) (fun _ _ _ h => h) (by kernel_rfl) (fun W' hSW => ?_) (by assumption) ?_
        · (try dsimp only at hSW)
          first | (go_simp; done) | exact rfl | (go_simp; rfl) | (go_simp; omega)
        try simp only [Act.put, List.setIfInBounds_toArray, List.set_cons_zero, List.set_cons_succ]
        refine take_on (i := 10) (v := .agg #[.int .i64 u.key.time, .int .i64 u.key.source, .int .i64 u.key.seq, .int .i64 u.place]) rfl (by kernel_rfl) (by kernel_rfl) (by kernel_rfl) (fun _ _ _ h => h) (by kernel_rfl) (fun W' hSW => ?_) (by assumption) ?_
        · (try dsimp only at hSW)
          first | (go_simp; done) | exact rfl | (go_simp; rfl) | (go_simp; omega)
        try simp only [Act.put, List.setIfInBounds_toArray, List.set_cons_zero, List.set_cons_succ]
        refine take_call (i := 11) rfl (by kernel_rfl) (by kernel_rfl) (fun K hK => ?_)
        go_simp
        refine HO.mono ?_
        rintro e1 w1 ⟨rfl, hf1⟩
        go_wp2_with fail
        refine hK.out _ _ ⟨hf1.later c1, hf1.later b1, hf1.later k1, hf1.later g1, hf1.later g2, hf1.later g3, hf1.later g4, hf1.later v0, hf1.later v1, hf1.later v2, hf1.later v3⟩ (fun hHeld2 => ?_)
        clear hK K HO
        have frW : Fr none' W w1 := ((Fr.refl _ _).drew).trans hf1
        have FrW := Lib.hid frW
        clear hf1 frW c1 b1 k1 g1 g2 g3 g4 v0 v1 v2 v3 hHeld
        try simp only [Act.put, List.setIfInBounds_toArray, List.set_cons_zero, List.set_cons_succ]
        by_cases hc0 : c < 0
        · have d0 : decide (c < 0) = true := decide_eq_true hc0
          refine take_on (i := 12) (v := .bool true) rfl (by kernel_rfl) (by kernel_rfl) (by kernel_rfl) (fun _ _ _ h => h) (by kernel_rfl) (fun W' hSW => ?_) (by assumption) ?_
          · (try dsimp only at hSW)
            first | (go_simp; done) | exact rfl | (go_simp; rfl) | (go_simp; omega)
          try simp only [Act.put, List.setIfInBounds_toArray, List.set_cons_zero, List.set_cons_succ]
          refine take_on (i := 13) (v := .bool true) rfl (by kernel_rfl) (by kernel_rfl) (by kernel_rfl) (fun _ _ _ h => h) (by kernel_rfl) (fun W' hSW => ?_) (by assumption) ?_
          · (try dsimp only at hSW)
            first | (go_simp; done) | exact rfl | (go_simp; rfl) | (go_simp; omega)
          try simp only [Act.put, List.setIfInBounds_toArray, List.set_cons_zero, List.set_cons_succ]
          refine wpAnyH_done (by kernel_rfl) ?_ _
          rw [OnlyN_normal]
          have HR2 := Lib.hid (by have := HR1.out; rw [if_pos hc0] at this; exact this : t'.set j x = R)
          have HA2 := Lib.hid (by have := HA1.out; rw [if_pos hc0] at this; exact this : A'.set x.place (j + 1) = RA)
          clear hHeld2 d1 HR1 HA1
          have HR1 := HR2
          have HA1 := HA2
          obtain ⟨g1, g2, g3, g4⟩ := (HEW.out.fr FrW.out id).ent
          have b1 := (HbB.out.fr FrW.out id).cell
          gi_wp2_with fail
          have HS := set_mem hb bt ba cap n ca j t' A' x _ (MW.out.fr FrW.out id id id) (by rw [Ilen.out]; exact hj) (by rw [Ilen.out]; exact hm) hxp
          simp only [entV] at HS
          refine (callsIn_wide.2 HS).mono ?_
          rintro e2 w2 ⟨rfl, m2, sf2⟩
          have hfin : MemH w2 hb bt ba cap n ca R RA := by rw [← HR1.out, ← HA1.out]; exact m2
          have hmk2 := (Hmk.out.fr FrW.out (fun _ h _ => h.elim)).fr sf2.to (fun k h _ => by rcases h with h | h <;> omega)
          have hsf2 := (Hsf.out.fr FrW.out (fun _ h _ => h)).trans sf2
          have Hmk2 := Lib.hid hmk2
          have Hsf2 := Lib.hid hsf2
          have Hfin := Lib.hid hfin
          clear HS m2 sf2 hfin hmk2 hsf2
          gi_wp2
          refine leaves_marks _ _ Hmk2.out (fun w' hf => ⟨_, results_none rfl _ _ _, rfl, ?_, ?_⟩)
          · exact Hfin.out.fr hf (by omega) (by omega) (by omega)
          · exact Hsf2.out.fr hf (fun k h1 h2 => by rw [HB.out] at h2; omega)
        · have d0 : decide (c < 0) = false := decide_eq_false hc0
          refine take_on (i := 12) (v := .bool false) rfl (by kernel_rfl) (by kernel_rfl) (by kernel_rfl) (fun _ _ _ h => h) (by kernel_rfl) (fun W' hSW => ?_) (by assumption) ?_
          · (try dsimp only at hSW)
            first | (go_simp; done) | exact rfl | (go_simp; rfl) | (go_simp; omega)
          try simp only [Act.put, List.setIfInBounds_toArray, List.set_cons_zero, List.set_cons_succ]
          refine take_on (i := 13) (v := .bool false) rfl (by kernel_rfl) (by kernel_rfl) (by kernel_rfl) (fun _ _ _ h => h) (by kernel_rfl) (fun W' hSW => ?_) (by assumption) ?_
          · (try dsimp only at hSW)
            first | (go_simp; done) | exact rfl | (go_simp; rfl) | (go_simp; omega)
          try simp only [Act.put, List.setIfInBounds_toArray, List.set_cons_zero, List.set_cons_succ]
          refine wpAnyH_done (by kernel_rfl) ?_ _
          rw [OnlyN_normal]
          have HR2 := Lib.hid (by have := HR1.out; rw [if_neg (by omega)] at this; exact this : (sinkL ordE x (t'.set j u) l).1 = R)
          have HA2 := Lib.hid (by have := HA1.out; rw [if_neg (by omega)] at this; exact this : sinkA ordE Ent.place x (t'.set j u) (A'.set u.place (j + 1)) l = RA)
          clear hHeld2 d1 HR1 HA1
          have m1 := MW.out.fr FrW.out id id id
          obtain ⟨v0, v1, v2, v3⟩ := m1.ent (i := l) (by rw [Ilen.out]; exact hp2)
          rw [Hu.out] at v0 v1 v2 v3
          have k1 : w1.cell? ⟨hb, 1, none⟩ = some (.slice (some ⟨bt, 0, none⟩) m cap) := by rw [cells_at m1.hd, Ilen.out]; rfl
          have b1 := (HbB.out.fr FrW.out id).cell
          have c1 := (HbL'.out.fr FrW.out id).cell
          have M1 := Lib.hid m1
          clear m1
          gi_wp2
          refine wpIn_regionW ?_
          refine wp_region_held_drew (S := fun W' => W'.cell? ⟨L, 0, none⟩ = some (.int .i64 l) ∧ W'.cell? ⟨B, 0, none⟩ = some (.pointer (some ⟨hb, 0, none⟩)) ∧ W'.cell? ⟨hb, 1, none⟩ = some (.slice (some ⟨bt, 0, none⟩) m cap) ∧
            W'.cell? ⟨bt, l * 4, none⟩ = some (.int .i64 u.key.time) ∧ W'.cell? ⟨bt, l * 4 + 1, none⟩ = some (.int .i64 u.key.source) ∧ W'.cell? ⟨bt, l * 4 + 2, none⟩ = some (.int .i64 u.key.seq) ∧ W'.cell? ⟨bt, l * 4 + 3, none⟩ = some (.int .i64 u.place)) (by kernel_rfl) ⟨c1, b1, k1, v0, v1, v2, v3⟩ (fun hHeld => ?_)
          refine take_on (i := 0) (v := .pointer (some ⟨hb, 0, none⟩)) rfl (by kernel_rfl) (by kernel_rfl) (by kernel_rfl) (fun _ _ _ h => h) (by kernel_rfl) (fun W' hSW => ?_) (by assumption) ?_
          · (try dsimp only at hSW)
            first | (go_simp; done) | exact rfl | (go_simp; rfl) | (go_simp; omega)
          try simp only [Act.put, List.setIfInBounds_toArray, List.set_cons_zero, List.set_cons_succ]
          refine take_on (i := 1) (v := .int .i64 j) rfl (by kernel_rfl) (by kernel_rfl) (by kernel_rfl) (fun _ _ _ h => h) (by kernel_rfl) (fun W' hSW => ?_) (by assumption) ?_
          · (try dsimp only at hSW)
            first | (go_simp; done) | exact rfl | (go_simp; rfl) | (go_simp; omega)
          try simp only [Act.put, List.setIfInBounds_toArray, List.set_cons_zero, List.set_cons_succ]
          refine take_on (i := 2) (v := .pointer (some ⟨hb, 0, none⟩)) rfl (by kernel_rfl) (by kernel_rfl) (by kernel_rfl) (fun _ _ _ h => h) (by kernel_rfl) (fun W' hSW => ?_) (by assumption) ?_
          · (try dsimp only at hSW)
            first | (go_simp; done) | exact rfl | (go_simp; rfl) | (go_simp; omega)
          try simp only [Act.put, List.setIfInBounds_toArray, List.set_cons_zero, List.set_cons_succ]
          refine take_on (i := 3) (v := .pointer (some ⟨hb, 0, none⟩)) rfl (by kernel_rfl) (by kernel_rfl) (by kernel_rfl) (fun _ _ _ h => h) (by kernel_rfl) (fun W' hSW => ?_) (by assumption) ?_
          · (try dsimp only at hSW)
            first | (go_simp; done) | exact rfl | (go_simp; rfl) | (go_simp; omega)
          try simp only [Act.put, List.setIfInBounds_toArray, List.set_cons_zero, List.set_cons_succ]
          refine take_on (i := 4) (v := .pointer (some ⟨hb, 1, none⟩)) rfl (by kernel_rfl) (by kernel_rfl) (by kernel_rfl) (fun _ _ _ h => h) (by kernel_rfl) (fun W' hSW => ?_) (by assumption) ?_
          · (try dsimp only at hSW)
            first | (go_simp; done) | exact rfl | (go_simp; rfl) | (go_simp; omega)
          try simp only [Act.put, List.setIfInBounds_toArray, List.set_cons_zero, List.set_cons_succ]
          refine take_on (i := 5) (v := .slice (some ⟨bt, 0, none⟩) m cap) rfl (by kernel_rfl) (by kernel_rfl) (by kernel_rfl) (fun _ _ _ h => h) (by kernel_rfl) (fun W' hSW => ?_) (by assumption) ?_
          · (try dsimp only at hSW)
            first | (go_simp; done) | exact rfl | (go_simp; rfl) | (go_simp; omega)
          try simp only [Act.put, List.setIfInBounds_toArray, List.set_cons_zero, List.set_cons_succ]
          refine take_on (i := 6) (v := .int .i64 l) rfl (by kernel_rfl) (by kernel_rfl) (by kernel_rfl) (fun _ _ _ h => h) (by kernel_rfl) (fun W' hSW => ?_) (by assumption) ?_
          · (try dsimp only at hSW)
            first | (go_simp; done) | exact rfl | (go_simp; rfl) | (go_simp; omega)
          try simp only [Act.put, List.setIfInBounds_toArray, List.set_cons_zero, List.set_cons_succ]
          refine take_on (i := 7) (v := .pointer (some ⟨bt, l * 4, none⟩)) rfl (by kernel_rfl) (by kernel_rfl) (by kernel_rfl) (fun _ _ _ h => h) (by kernel_rfl) (fun W' hSW => ?_) (by assumption) ?_
          · (try dsimp only at hSW)
            first | (go_simp; done) | exact rfl | (go_simp; rfl) | (go_simp; omega)
          try simp only [Act.put, List.setIfInBounds_toArray, List.set_cons_zero, List.set_cons_succ]
          refine take_on (i := 8) (v := .agg #[.int .i64 u.key.time, .int .i64 u.key.source, .int .i64 u.key.seq, .int .i64 u.place]) rfl (by kernel_rfl) (by kernel_rfl) (by kernel_rfl) (fun _ _ _ h => h) (by kernel_rfl) (fun W' hSW => ?_) (by assumption) ?_
          · (try dsimp only at hSW)
            first | (go_simp; done) | exact rfl | (go_simp; rfl) | (go_simp; omega)
          try simp only [Act.put, List.setIfInBounds_toArray, List.set_cons_zero, List.set_cons_succ]
          have HS := set_mem hb bt ba cap n ca j t' A' u w1.drew (M1.out.fr (Fr.refl none' w1).drew id id id) (by rw [Ilen.out]; exact hj) (by rw [Ilen.out]; exact hm) hup
          simp only [entV] at HS
          refine take_call (i := 9) rfl (by kernel_rfl) (by kernel_rfl) (fun K hK => ?_)
          go_simp
          refine HS.mono ?_
          rintro e1 w2 ⟨rfl, m2, sf2⟩
          go_wp2_with fail
          have hlt1 : L + 3 < w1.heap.size := Nat.lt_of_lt_of_le hDs FrW.out.size
          have l2 : Box w2 L (.int .i64 l) := ((HbL'.out.fr FrW.out id).fr (Fr.refl none' w1).drew id).fr sf2.to (by omega)
          have b2 : Box w2 B (.pointer (some ⟨hb, 0, none⟩)) := ((HbB.out.fr FrW.out id).fr (Fr.refl none' w1).drew id).fr sf2.to (by omega)
          have x2 : EntAt w2 (B + 1) x := ((HEW.out.fr FrW.out id).fr (Fr.refl none' w1).drew id).fr sf2.to (by omega)
          have k2 : w2.cell? ⟨hb, 1, none⟩ = some (.slice (some ⟨bt, 0, none⟩) m cap) := by rw [cells_at m2.hd, List.length_set, Ilen.out]; rfl
          obtain ⟨y0, y1, y2, y3⟩ := m2.ent (i := l) (by rw [List.length_set, Ilen.out]; exact hp2)
          rw [at_set_ne (t := t') u (by omega : j ≠ l), Hu.out] at y0 y1 y2 y3
          refine hK.out _ _ ⟨l2.cell, b2.cell, k2, y0, y1, y2, y3⟩ (fun hHeld2 => ?_)
          clear hK K HS c1 b1 k1 v0 v1 v2 v3 hHeld
          try simp only [Act.put, List.setIfInBounds_toArray, List.set_cons_zero, List.set_cons_succ]
          refine wpAnyH_done (by kernel_rfl) ?_ _
          rw [OnlyN_normal]
          have c1 := l2.cell
          have frw2 : Fr (fun k => k = bt ∨ k = ba) W w2 := ((FrW.out.drew).mono (fun _ _ h => h.elim)).trans sf2.to
          have hmk2 := Hmk.out.fr frw2 (fun k h _ => by rcases h with h | h <;> omega)
          have hsf2 : SetFr bt ba w w2 := (Hsf.out.fr (FrW.out.drew) (fun _ h _ => h)).trans sf2
          have Hmk2 := Lib.hid hmk2
          have Hsf2 := Lib.hid hsf2
          have M2 := Lib.hid m2
          have X2 := Lib.hid x2
          have B2 := Lib.hid b2
          have hlw : B + 1 < w2.heap.size := by have := frw2.size; omega
          clear hHeld2 k2 y0 y1 y2 y3 m2 sf2 x2 b2 frw2 hmk2 hsf2
          gi_wp2
          refine ⟨?_, ?_⟩
          · repeat (apply Exists.intro)
            refine ⟨⟨l, t'.set j u, A'.set u.place (j + 1), rfl, hp2, ⟨M2.out, by rw [List.length_set]; exact Ilen.out, HR2.out, HA2.out, fun k hk => ?_⟩, X2, B2, Hsf2, Hmk2, hlw⟩, rfl⟩
            by_cases hkj : k = j
            · subst hkj; rw [at_set_same u (by rw [Ilen.out]; exact hj)]; exact hup
            · rw [at_set_ne (t := t') u (fun e => hkj e.symm)]; exact Ip.out k hk
          · simp [intOf]; omega
end Go.Proofs.Ytbpmdhngobdilaa
