/-
  Heap.rise, over a contract of the order.
-/
import Derived.Test.YtbpmdhngobdilaaHp2
import Derived.WalkMore
import Derived.WalkSpells
namespace Go.Proofs.Ytbpmdhngobdilaa
open Go.RowKit
attribute [local go_sem ↓] Go.wp_at_zero Go.wp_at_succ

/-- What is asked of the order of entries. -/
def OrderDoes (f : Ent → Ent → Int) : Prop := ∀ (a b : Ent) (W : World), Calls Try.prog 36 #[entV a, entV b] W fun e' W' => e' = .returned (.int .i64 (f a b)) ∧ Below W.heap.size W W' ∧ W.drawn ≤ W'.drawn
/-- An entry's cells in memory. -/
theorem MemH.ent {w : World} {hb bt ba cap n ca : Nat} {t : List Ent} {A : List Nat} (h : MemH w hb bt ba cap n ca t A) {i : Nat} (hi : i < t.length) :
    w.cell? ⟨bt, i * 4, none⟩ = some (.int .i64 (at' t i).key.time) ∧ w.cell? ⟨bt, i * 4 + 1, none⟩ = some (.int .i64 (at' t i).key.source) ∧ w.cell? ⟨bt, i * 4 + 2, none⟩ = some (.int .i64 (at' t i).key.seq) ∧ w.cell? ⟨bt, i * 4 + 3, none⟩ = some (.int .i64 (at' t i).place) := by
  obtain ⟨cu, hcu, _, hct⟩ := h.tr
  rw [Nat.mul_comm i 4]
  refine ⟨?_, ?_, ?_, ?_⟩
  · rw [cells_at hcu]; exact hct i hi 0 (by omega)
  · rw [cells_at hcu]; exact hct i hi 1 (by omega)
  · rw [cells_at hcu]; exact hct i hi 2 (by omega)
  · rw [cells_at hcu]; exact hct i hi 3 (by omega)

theorem MemH.lt {w : World} {hb bt ba cap n ca : Nat} {t : List Ent} {A : List Nat} (h : MemH w hb bt ba cap n ca t A) : hb < w.heap.size ∧ bt < w.heap.size ∧ ba < w.heap.size := by
  obtain ⟨cu, hcu, _⟩ := h.tr
  obtain ⟨cv, hcv, _⟩ := h.tb
  exact ⟨(Array.getElem?_eq_some_iff.1 h.hd).1, (Array.getElem?_eq_some_iff.1 hcu).1, (Array.getElem?_eq_some_iff.1 hcv).1⟩
theorem MemH.below {w w' : World} {hb bt ba cap n ca B : Nat} {t : List Ent} {A : List Nat} (h : MemH w hb bt ba cap n ca t A) (k : Below B w w') (h1 : hb < B) (h2 : bt < B) (h3 : ba < B) : MemH w' hb bt ba cap n ca t A :=
  h.of_heap (k.block _ h1) (k.block _ h2) (k.block _ h3)
theorem MemH.on {w w' : World} {hb bt ba cap n ca : Nat} {t : List Ent} {A : List Nat} (h : MemH w hb bt ba cap n ca t A) (k : Below w.heap.size w w') : MemH w' hb bt ba cap n ca t A :=
  h.below k h.lt.1 h.lt.2.1 h.lt.2.2
theorem SetFr.below {bt ba : Nat} {w a b : World} (h : SetFr bt ba w a) (k : Below a.heap.size a b) (hd : a.drawn ≤ b.drawn) : SetFr bt ba w b :=
  h.trans ⟨k.os, k.tape, k.output, k.size, fun i hi _ _ => k.block i hi, hd⟩
theorem SetFr.alloc (bt ba : Nat) (w : World) (o : Obj) : SetFr bt ba w (w.alloc o) :=
  ⟨rfl, rfl, rfl, by simp, fun k hk _ _ => Below.heap_alloc w _ k hk, Nat.le_refl _⟩
theorem SetFr.drew (bt ba : Nat) (w : World) : SetFr bt ba w w.drew := ⟨rfl, rfl, rfl, Nat.le_refl _, fun _ _ _ _ => rfl, Nat.le_succ _⟩
/-- An entry's own block. -/
def EntAt (w : World) (B : Nat) (x : Ent) : Prop := w.heap[B]? = some (.cells #[.int .i64 x.key.time, .int .i64 x.key.source, .int .i64 x.key.seq, .int .i64 x.place] 70 (0, 0))
theorem EntAt.ent {w : World} {B : Nat} {x : Ent} (h : EntAt w B x) : w.cell? ⟨B, 0, none⟩ = some (.int .i64 x.key.time) ∧ w.cell? ⟨B, 1, none⟩ = some (.int .i64 x.key.source) ∧ w.cell? ⟨B, 2, none⟩ = some (.int .i64 x.key.seq) ∧ w.cell? ⟨B, 3, none⟩ = some (.int .i64 x.place) := by
  refine ⟨?_, ?_, ?_, ?_⟩ <;> rw [cells_at h] <;> rfl
theorem EntAt.lt {w : World} {B : Nat} {x : Ent} (h : EntAt w B x) : B < w.heap.size := (Array.getElem?_eq_some_iff.1 h).1
theorem EntAt.new (w : World) (x : Ent) : EntAt (w.alloc (.cells #[.int .i64 x.key.time, .int .i64 x.key.source, .int .i64 x.key.seq, .int .i64 x.place] 70)) w.heap.size x := World.alloc_heap_new w _

set_option maxRecDepth 100000 in
set_option maxHeartbeats 4000000 in
theorem rise_mem (f : Ent → Ent → Int) (HO : OrderDoes f) (hb bt ba cap n ca i : Nat) (t : List Ent) (A : List Nat) (w : World) (h : MemH w hb bt ba cap n ca t A) (hi : i < t.length) (hm : t.length ≤ 10000) (hp : ∀ k, k < t.length → (at' t k).place < n) :
    Calls Try.prog 30 #[.pointer (some ⟨hb, 0, none⟩), .int .i64 i] w fun e' w' => e' = .returned (.tuple #[]) ∧ MemH w' hb bt ba cap n ca (riseL f (at' t i) t i) (riseA f Ent.place (at' t i) t A i) ∧ SetFr bt ba w w' := by
  obtain ⟨e0, e1, e2, e3⟩ := h.ent hi
  have k1 : w.cell? ⟨hb, 1, none⟩ = some (.slice (some ⟨bt, 0, none⟩) t.length cap) := by rw [cells_at h.hd]; rfl
  have q1 : (0 : Int) ≤ (i : Int) := by omega
  obtain ⟨x, hx⟩ : ∃ x, at' t i = x := ⟨_, rfl⟩
  have hxp : x.place < n := by rw [← hx]; exact hp i hi
  rw [hx] at e0 e1 e2 e3 ⊢
  have HO' := Lib.hid HO
  have hl := h.lt
  obtain ⟨m, hm'⟩ : ∃ m, t.length = m := ⟨_, rfl⟩
  obtain ⟨R, hR⟩ : ∃ R, riseL f x t i = R := ⟨_, rfl⟩
  obtain ⟨RA, hRA⟩ : ∃ RA, riseA f Ent.place x t A i = RA := ⟨_, rfl⟩
  obtain ⟨B, hB⟩ : ∃ B, w.heap.size = B := ⟨_, rfl⟩
  have hst : MemH (w.alloc (.cells #[.int .i64 x.key.time, .int .i64 x.key.source, .int .i64 x.key.seq, .int .i64 x.place] 70)) hb bt ba cap n ca t A ∧ t.length = m ∧ riseL f x t i = R ∧ riseA f Ent.place x t A i = RA ∧ ∀ k, k < m → (at' t k).place < n :=
    ⟨(h.on ((Below.refl _ w).alloc (Nat.le_refl _) _)), hm', hR, hRA, hm' ▸ hp⟩
  have hEB : EntAt (w.alloc (.cells #[.int .i64 x.key.time, .int .i64 x.key.source, .int .i64 x.key.seq, .int .i64 x.place] 70)) B x := hB ▸ EntAt.new w x
  have hne : B ≠ bt ∧ B ≠ ba ∧ B ≠ hb := by omega
  rw [hR, hRA]
  rw [hm'] at k1 hi hm
  have q2 : (i : Int) < (m : Int) := by omega
  have Hst := Lib.hid hst
  have HEB := Lib.hid hEB
  have HB := Lib.hid hB
  have Hne := Lib.hid hne
  clear h HO hp hm' hR hRA hst hEB hB hx hl hne
  go_enter Try.func30, Try.ntmps30
  apply wp_scope_straight
  go_wp2
  apply wp_label
  rw [HB.out]
  go_wp2
  clear k1 e0 e1 e2 e3
  go_loopw [1, 5] (fun i _ wr => ∃ (j : Nat) (t' : List Ent) (A' : List Nat), i = .int .i64 j ∧ j < m ∧ Hid (MemH wr hb bt ba cap n ca t' A' ∧ t'.length = m ∧ riseL f x t' j = R ∧ riseA f Ent.place x t' A' j = RA ∧ ∀ k, k < m → (at' t' k).place < n) ∧ Hid (EntAt wr B x) ∧ SetFr bt ba w wr) (fun i _ _ => (intOf i).toNat)
  case atStart => exact ⟨i, t, A, rfl, hi, Hst, HEB, SetFr.alloc _ _ _ _⟩
  case round =>
    obtain ⟨j, t', A', rfl, hj, hinv, hE, hfr⟩ := hrel
    obtain ⟨g1, g2, g3, g4⟩ := hE.out.ent
    have q1 : (0 : Int) ≤ (j : Int) := by omega
    by_cases hj0 : 0 < j
    · have q2 : (0 : Int) < (j : Int) := by omega
      obtain ⟨p, hp⟩ : ∃ p, par j = p := ⟨_, rfl⟩
      have q3 : IntKind.i64.wrap ((j : Int) - 1) = (j : Int) - 1 := IntWalk.i64_in _ (by omega)
      have q4 : ((j : Int) - 1) / 4 = (p : Int) := by rw [← hp]; unfold par; omega
      obtain ⟨im, ilen, iR, iA, ip⟩ := hinv.out
      have hpj : p < j := by rw [← hp]; exact par_lt hj0
      obtain ⟨y, hy⟩ : ∃ y, at' t' p = y := ⟨_, rfl⟩
      obtain ⟨s0, s1, s2, s3⟩ := im.ent (i := p) (by omega)
      rw [hy] at s0 s1 s2 s3
      have k1 : wr.cell? ⟨hb, 1, none⟩ = some (.slice (some ⟨bt, 0, none⟩) m cap) := by rw [cells_at im.hd, ilen]; rfl
      have hyp : y.place < n := by rw [← hy]; exact ip p (by omega)
      have q5 : (p : Int) < (m : Int) := by omega
      have q6 : (0 : Int) ≤ (p : Int) := by omega
      have Him := Lib.hid im
      clear im
      go_wp2
      rw [q4]
      refine wp_region_held_drew (S := fun W => W.cell? ⟨B, 0, none⟩ = some (.int .i64 x.key.time) ∧ W.cell? ⟨B, 1, none⟩ = some (.int .i64 x.key.source) ∧ W.cell? ⟨B, 2, none⟩ = some (.int .i64 x.key.seq) ∧ W.cell? ⟨B, 3, none⟩ = some (.int .i64 x.place) ∧ W.cell? ⟨hb, 1, none⟩ = some (.slice (some ⟨bt, 0, none⟩) m cap) ∧ W.cell? ⟨bt, p * 4, none⟩ = some (.int .i64 y.key.time) ∧ W.cell? ⟨bt, p * 4 + 1, none⟩ = some (.int .i64 y.key.source) ∧ W.cell? ⟨bt, p * 4 + 2, none⟩ = some (.int .i64 y.key.seq) ∧ W.cell? ⟨bt, p * 4 + 3, none⟩ = some (.int .i64 y.place)) (by kernel_rfl) ⟨g1, g2, g3, g4, k1, s0, s1, s2, s3⟩ (fun hHeld => ?_)
      refine take_on (i := 0) (v := .agg #[.int .i64 x.key.time, .int .i64 x.key.source, .int .i64 x.key.seq, .int .i64 x.place]) rfl (by kernel_rfl) (by kernel_rfl) (by kernel_rfl) (fun _ _ _ h => h) (by kernel_rfl) (fun W hSW => ?_) (by assumption) ?_
      · (try dsimp only at hSW)
        first | (go_simp; done) | exact rfl | (go_simp; rfl) | (go_simp; omega)
      try simp only [Act.put, List.setIfInBounds_toArray, List.set_cons_zero, List.set_cons_succ]
      refine take_on (i := 1) (v := .pointer (some ⟨hb, 0, none⟩)) rfl (by kernel_rfl) (by kernel_rfl) (by kernel_rfl) (fun _ _ _ h => h) (by kernel_rfl) (fun W hSW => ?_) (by assumption) ?_
      · (try dsimp only at hSW)
        first | (go_simp; done) | exact rfl | (go_simp; rfl) | (go_simp; omega)
      try simp only [Act.put, List.setIfInBounds_toArray, List.set_cons_zero, List.set_cons_succ]
      refine take_on (i := 2) (v := .pointer (some ⟨hb, 0, none⟩)) rfl (by kernel_rfl) (by kernel_rfl) (by kernel_rfl) (fun _ _ _ h => h) (by kernel_rfl) (fun W hSW => ?_) (by assumption) ?_
      · (try dsimp only at hSW)
        first | (go_simp; done) | exact rfl | (go_simp; rfl) | (go_simp; omega)
      try simp only [Act.put, List.setIfInBounds_toArray, List.set_cons_zero, List.set_cons_succ]
      refine take_on (i := 3) (v := .pointer (some ⟨hb, 1, none⟩)) rfl (by kernel_rfl) (by kernel_rfl) (by kernel_rfl) (fun _ _ _ h => h) (by kernel_rfl) (fun W hSW => ?_) (by assumption) ?_
      · (try dsimp only at hSW)
        first | (go_simp; done) | exact rfl | (go_simp; rfl) | (go_simp; omega)
      try simp only [Act.put, List.setIfInBounds_toArray, List.set_cons_zero, List.set_cons_succ]
      refine take_on (i := 4) (v := .slice (some ⟨bt, 0, none⟩) m cap) rfl (by kernel_rfl) (by kernel_rfl) (by kernel_rfl) (fun _ _ _ h => h) (by kernel_rfl) (fun W hSW => ?_) (by assumption) ?_
      · (try dsimp only at hSW)
        first | (go_simp; done) | exact rfl | (go_simp; rfl) | (go_simp; omega)
      try simp only [Act.put, List.setIfInBounds_toArray, List.set_cons_zero, List.set_cons_succ]
      refine take_on (i := 5) (v := .int .i64 p) rfl (by kernel_rfl) (by kernel_rfl) (by kernel_rfl) (fun _ _ _ h => h) (by kernel_rfl) (fun W hSW => ?_) (by assumption) ?_
      · (try dsimp only at hSW)
        first | (go_simp; done) | exact rfl | (go_simp; rfl) | (go_simp; omega)
      try simp only [Act.put, List.setIfInBounds_toArray, List.set_cons_zero, List.set_cons_succ]
      refine take_on (i := 6) (v := .pointer (some ⟨bt, p * 4, none⟩)) rfl (by kernel_rfl) (by kernel_rfl) (by kernel_rfl) (fun _ _ _ h => h) (by kernel_rfl) (fun W hSW => ?_) (by assumption) ?_
      · (try dsimp only at hSW)
        first | (go_simp; done) | exact rfl | (go_simp; rfl) | (go_simp; omega)
      try simp only [Act.put, List.setIfInBounds_toArray, List.set_cons_zero, List.set_cons_succ]
      refine take_on (i := 7) (v := .agg #[.int .i64 y.key.time, .int .i64 y.key.source, .int .i64 y.key.seq, .int .i64 y.place]) rfl (by kernel_rfl) (by kernel_rfl) (by kernel_rfl) (fun _ _ _ h => h) (by kernel_rfl) (fun W hSW => ?_) (by assumption) ?_
      · (try dsimp only at hSW)
        first | (go_simp; done) | exact rfl | (go_simp; rfl) | (go_simp; omega)
      try simp only [Act.put, List.setIfInBounds_toArray, List.set_cons_zero, List.set_cons_succ]
      obtain ⟨c, hc⟩ : ∃ c, f x y = c := ⟨_, rfl⟩
      have HOxy : Calls Try.prog 36 #[entV x, entV y] wr.drew fun e' W' => e' = .returned (.int .i64 c) ∧ Below wr.drew.heap.size wr.drew W' ∧ wr.drew.drawn ≤ W'.drawn := hc ▸ HO'.out x y wr.drew
      refine take_call (i := 8) rfl (by kernel_rfl) (by kernel_rfl) (fun K hK => ?_)
      go_simp
      refine HOxy.mono ?_
      rintro e1 w1 ⟨rfl, hb1, hd1⟩
      go_wp2_with fail
      refine hK.out _ _ ⟨cell_later hb1 g1, cell_later hb1 g2, cell_later hb1 g3, cell_later hb1 g4, cell_later hb1 k1, cell_later hb1 s0, cell_later hb1 s1, cell_later hb1 s2, cell_later hb1 s3⟩ (fun hHeld => ?_)
      clear hK K HOxy
      have im1 : MemH w1 hb bt ba cap n ca t' A' := (Him.out.of_heap rfl rfl rfl : MemH wr.drew hb bt ba cap n ca t' A').on hb1
      have iE1 : EntAt w1 B x := (hb1.block B hE.out.lt).trans hE.out
      have fr1 : SetFr bt ba w w1 := (hfr.trans (SetFr.drew _ _ _)).below hb1 hd1
      have Hc := Lib.hid hc
      clear hc hb1 hd1 g1 g2 g3 g4 k1 s0 s1 s2 s3 hfr hE hinv Him
      try simp only [Act.put, List.setIfInBounds_toArray, List.set_cons_zero, List.set_cons_succ]
      obtain ⟨g1, g2, g3, g4⟩ := iE1.ent
      obtain ⟨s0, s1, s2, s3⟩ := im1.ent (i := p) (by omega)
      rw [hy] at s0 s1 s2 s3
      have k1 : w1.cell? ⟨hb, 1, none⟩ = some (.slice (some ⟨bt, 0, none⟩) m cap) := by rw [cells_at im1.hd, ilen]; rfl
      have Him := Lib.hid im1
      have HiE := Lib.hid iE1
      have Hfr := Lib.hid fr1
      clear im1 iE1 fr1
      by_cases hc0 : c > 0
      · have d0 : decide (0 < c) = true := decide_eq_true hc0
        refine take_on (i := 9) (v := .bool true) rfl (by kernel_rfl) (by kernel_rfl) (by kernel_rfl) (fun _ _ _ h => h) (by kernel_rfl) (fun W hSW => ?_) (by assumption) ?_
        · (try dsimp only at hSW)
          first | (go_simp; done) | exact rfl | (go_simp; rfl) | (go_simp; omega)
        try simp only [Act.put, List.setIfInBounds_toArray, List.set_cons_zero, List.set_cons_succ]
        refine wpAnyH_done (by kernel_rfl) ?_ _
        have hR1 : t'.set j x = R := by rw [← iR, riseL, dif_pos hj0, if_pos (by rw [hp, hy, Hc.out]; exact hc0)]
        have hA1 : A'.set x.place (j + 1) = RA := by rw [← iA, riseA, dif_pos hj0, if_pos (by rw [hp, hy, Hc.out]; exact hc0)]
        have HR1 := Lib.hid hR1
        have HA1 := Lib.hid hA1
        clear hR1 hA1 iR iA d0
        go_wp2_with (go_at_call 47; refine (set_mem hb bt ba cap n ca j t' A' x _ Him.out (by omega) (by omega) hxp).mono ?_; rintro e2 w2 ⟨rfl, hm2, hf2⟩)
        rw [Exit.noGoto_normal]
        go_end0
        exact ⟨rfl, HR1.out ▸ HA1.out ▸ hm2, Hfr.out.trans hf2⟩
      · have d0 : decide (0 < c) = false := decide_eq_false hc0
        refine take_on (i := 9) (v := .bool false) rfl (by kernel_rfl) (by kernel_rfl) (by kernel_rfl) (fun _ _ _ h => h) (by kernel_rfl) (fun W hSW => ?_) (by assumption) ?_
        · (try dsimp only at hSW)
          first | (go_simp; done) | exact rfl | (go_simp; rfl) | (go_simp; omega)
        try simp only [Act.put, List.setIfInBounds_toArray, List.set_cons_zero, List.set_cons_succ]
        refine wpAnyH_done (by kernel_rfl) ?_ _
        have hR1 : riseL f x (t'.set j y) p = R := by rw [← iR, riseL.eq_def f x t' j, dif_pos hj0, if_neg (by rw [hp, hy, Hc.out]; exact hc0), hp, hy]
        have hA1 : riseA f Ent.place x (t'.set j y) (A'.set y.place (j + 1)) p = RA := by rw [← iA, riseA.eq_def f Ent.place x t' A' j, dif_pos hj0, if_neg (by rw [hp, hy, Hc.out]; exact hc0), hp, hy]
        have HR1 := Lib.hid hR1
        have HA1 := Lib.hid hA1
        clear hR1 hA1 iR iA d0
        go_wp2_with (go_at_call 47; refine (set_mem hb bt ba cap n ca j t' A' y _ Him.out (by omega) (by omega) hyp).mono ?_; rintro e2 w2 ⟨rfl, hm2, hf2⟩)
        refine ⟨⟨p, t'.set j y, A'.set y.place (j + 1), rfl, by omega, ⟨hm2, by simpa using ilen, HR1.out, HA1.out, fun k hk => ?_⟩, (hf2.block B HiE.out.lt Hne.out.1 Hne.out.2.1).trans HiE.out, Hfr.out.trans hf2⟩, by simp [intOf]; omega⟩
        by_cases hkj : k = j
        · subst hkj; rw [at_set_same y (by omega)]; exact hyp
        · rw [at_set_ne (t := t') y (fun e => hkj e.symm)]; exact ip k hk
    · have q2 : ¬ (0 : Int) < (j : Int) := by omega
      have hjz : j = 0 := by omega
      subst hjz
      obtain ⟨im, ilen, iR, iA, ip⟩ := hinv.out
      have hR1 : t'.set 0 x = R := by rw [← iR, riseL, dif_neg (by omega)]
      have hA1 : A'.set x.place (0 + 1) = RA := by rw [← iA, riseA, dif_neg (by omega)]
      have HR1 := Lib.hid hR1
      have HA1 := Lib.hid hA1
      have Him := Lib.hid im
      clear hR1 hA1 iR iA im hinv
      go_wp2_with (go_at_call 47; refine (set_mem hb bt ba cap n ca 0 t' A' x _ Him.out (by omega) (by omega) hxp).mono ?_; rintro e2 w2 ⟨rfl, hm2, hf2⟩)
      rw [Exit.noGoto_normal]
      go_end0
      exact ⟨rfl, HR1.out ▸ HA1.out ▸ hm2, hfr.trans hf2⟩
end Go.Proofs.Ytbpmdhngobdilaa
