/- KeyBytes: the statement, and its tied card: for any arguments the law returns true, and the arguments read as before. -/
import Derived.Test.YtkohmodnjcoapaaDoorJb2
import Derived.Test.YtkohmodnjcoapaaDoorCards
import Derived.Test.YtkohmodnjcoapaaDoorTie
set_option linter.unusedSimpArgs false
set_option linter.unusedVariables false

/-
  KeyBytes.
-/
namespace Go.Proofs.YtkohmodnjcoapaaDoor
open Go Go.RowKit
attribute [local go_sem ↓] Go.wp_at_zero Go.wp_at_succ
attribute [local go_sem] Oper.semAt_some wide_fn wide_depth wide_fnR wide_depthR
attribute [local go_sem high] run_neq_k run_eql_k

theorem Right_drew (k : Key3) (hk : RightK k) (w : World) : Calls Tryd.prog 19 #[keyV k] w fun e w' => e = .returned (.bool true) ∧ Fr0 none' w w' := by
  have h := Right_any k w
  rw [decide_eq_true hk] at h
  exact h
theorem row_caps {w : World} {base g n cap : Nat} {e : TypeId} {xs : List Value} (h : w.ownsRow base e 1 (.slice (some ⟨g, 0, none⟩) n cap) n xs) : n ≤ cap ∧ cap ≤ maxLen := by
  rcases h.2 with ⟨h0, _⟩ | ⟨g', cap', cur, h1, hb, hg, hn, hm, _⟩
  · cases h0
  · cases h1; exact ⟨hn, hm⟩
theorem text_small {k : Key3} (h : RightK k) : (⟨(textK k).toArray⟩ : ByteArray).size ≤ 1000 := by
  have h1 : (textK k).length ≤ 70 := preT_len h (i := 3) (by omega)
  show (textK k).toArray.size ≤ 1000
  rw [List.size_toArray]
  omega
theorem text_eq {x y : Key3} (hx : RightK x) (hy : RightK y) : (textK x == textK y) = sameK x y := by
  rw [Bool.eq_iff_iff]
  unfold sameK
  simp only [beq_iff_eq, decide_eq_true_eq]
  exact ⟨fun h => by have := parseK_text hx; rw [h, parseK_text hy] at this; exact (Option.some.inj this).symm, fun h => by rw [h]⟩
set_option maxRecDepth 100000 in
set_option maxHeartbeats 8000000 in
theorem KeyBytes_any (x y : Num3) (w : World) (hL : Laid7 w) :
    Calls Tryd.prog 5 #[smallV x, smallV y] w fun e w' => e = .returned (.bool true) ∧ Fr0 none' w w' := by
  have HM := Lib.hid Made_any
  simp only [smallV, keyV] at HM ⊢
  go_enter Tryd.func5, Tryd.ntmps5
  go_wp2_with fail
  have f0 : Fr0 none' w ((w.alloc (.cells #[.int .u64 x.t, .int .u32 x.s, .int .u32 x.q] 30)).alloc (.cells #[.int .u64 y.t, .int .u32 y.s, .int .u32 y.q] 30)) := ((Fr0.refl _ _).alloc _).alloc _
  refine (awake_any _ (hL.later f0)).mono ?_
  rintro e w1 ⟨rfl, hf⟩
  have sx := Lib.hid (SmAt.later (SmAt.of_block ((Below.heap_alloc (w.alloc (.cells #[.int .u64 x.t, .int .u32 x.s, .int .u32 x.q] 30)) (.cells #[.int .u64 y.t, .int .u32 y.s, .int .u32 y.q] 30) w.heap.size (by simp)).trans (World.alloc_heap_new w _))) hf)
  have sy := Lib.hid (show SmAt w1 (w.heap.size + 1) y from SmAt.later (SmAt.of_block (by
    have := World.alloc_heap_new (w.alloc (.cells #[.int .u64 x.t, .int .u32 x.s, .int .u32 x.q] 30)) (.cells #[.int .u64 y.t, .int .u32 y.s, .int .u32 y.q] 30)
    rw [World.size_alloc] at this
    exact this)) hf)
  have L := Lib.hid (hL.later (f0.trans hf))
  have F := Lib.hid (f0.trans hf)
  obtain ⟨b, hb⟩ : ∃ b, w.heap.size = b := ⟨_, rfl⟩
  rw [hb] at sx sy ⊢
  clear f0 hf hb
  go_wp2_with fail
  refine via (fun pa pb W => NewK w1 W pa x.key ∧ NewK w1 W pb y.key ∧ Fr0 none' w1 W) 5 6 21 22 23 24 (smallV x) (keyV x.key) (smallV y) (keyV y.key) (fun pa pb W hF => ?_) (fun hT => ?_)
  · simp only [Act.put, List.setIfInBounds_toArray, List.set_cons_zero, List.set_cons_succ, smallV, keyV]
    obtain ⟨hx, hy, hf⟩ := hF
    have Hx := Lib.hid (x.right)
    have Hy := Lib.hid (y.right)
    have F := Lib.hid (F.out.trans hf)
    have L := Lib.hid (L.out.later hf)
    obtain ⟨p, hp⟩ : ∃ p, x.key = p := ⟨_, rfl⟩
    obtain ⟨q, hq⟩ : ∃ p, y.key = p := ⟨_, rfl⟩
    rw [hp] at hx Hx ⊢
    rw [hq] at hy Hy ⊢
    have A := Lib.hid hx
    have B := Lib.hid hy
    have S := Lib.hid (show Aw [(pa, p), (pb, q)] w W from ⟨fun z hz => by
      simp only [List.mem_cons, List.not_mem_nil, or_false] at hz
      rcases hz with rfl | rfl
      · exact A.out.key
      · exact B.out.key, L.out, F.out⟩)
    clear hp hq hf sx sy HM hx hy A B L F
    have ⟨a0, a1, a2⟩ := S.out.cell (b := pa) (k := p) (by simp)
    go_wp2_with fail
    refine (Bytes_any p Hx.out _).mono ?_
    rintro e w2 ⟨v1, rfl, hr, hf⟩
    have R1 := Lib.hid hr
    have S := Lib.hid (S.out.later hf)
    clear hf a0 a1 a2
    have ⟨a0, a1, a2⟩ := S.out.cell (b := pb) (k := q) (by simp)
    go_wp2_with fail
    refine (Bytes_any q Hy.out _).mono ?_
    rintro e w3 ⟨v2, rfl, hr, hf⟩
    have R1 := Lib.hid (ownsRow_fr0 R1.out hf (fun _ _ => id))
    have R2 := Lib.hid hr
    clear hr
    obtain ⟨g1, c1, rfl⟩ := Joins.ownsRow_form R1.out (by omega)
    obtain ⟨g2, c2, rfl⟩ := Joins.ownsRow_form R2.out (by omega)
    have hcap := row_caps R1.out
    have P1 := Lib.hid (BsIn.of_row R1.out)
    have P2 := Lib.hid (BsIn.of_row R2.out)
    clear R1 R2
    have S := Lib.hid (S.out.later hf)
    clear hf a0 a1 a2
    have ⟨a0, a1, a2⟩ := S.out.cell (b := pa) (k := p) (by simp)
    go_wp2_with fail
    refine (Text_any p Hx.out _ S.out.laid).mono ?_
    rintro e w4 ⟨rfl, hf⟩
    have P1 := Lib.hid (P1.out.later hf)
    have P2 := Lib.hid (P2.out.later hf)
    have S := Lib.hid (S.out.later hf)
    clear hf a0 a1 a2
    have ⟨a0, a1, a2⟩ := S.out.cell (b := pb) (k := q) (by simp)
    go_wp2_with fail
    refine (Text_any q Hy.out _ S.out.laid).mono ?_
    rintro e w5 ⟨rfl, hf⟩
    have P1 := Lib.hid (P1.out.later hf)
    have P2 := Lib.hid (P2.out.later hf)
    have S := Lib.hid (S.out.later hf)
    clear hf a0 a1 a2
    go_wp2_with fail
    refine (Read_any _ 12 c1 (bytesK p) (bytesK_length p) hcap.1 hcap.2 _ P1.out).mono ?_
    rintro e w6 ⟨rfl, hf⟩
    rw [show readV (bytesK p) = .tuple #[.agg #[.int .i64 p.time, .int .i64 p.source, .int .i64 p.seq], .int .i64 0] from by unfold readV; rw [readK_bytes Hx.out]; rfl]
    have P1 := Lib.hid (P1.out.later (hf.alloc (.cells #[.int .i64 p.time, .int .i64 p.source, .int .i64 p.seq] 24)))
    have P2 := Lib.hid (P2.out.later (hf.alloc (.cells #[.int .i64 p.time, .int .i64 p.source, .int .i64 p.seq] 24)))
    have S := Lib.hid ((S.out.later hf).new p)
    obtain ⟨rb, hrb⟩ : ∃ rb, w6.heap.size = rb := ⟨_, rfl⟩
    rw [hrb] at S
    clear hf
    go_wp2_with fail
    try rw [hrb]
    obtain ⟨w7, hw7⟩ : ∃ W, w6.alloc (.cells #[.int .i64 p.time, .int .i64 p.source, .int .i64 p.seq] 24) = W := ⟨_, rfl⟩
    rw [hw7] at S P1 P2 ⊢
    clear hw7 hrb
    refine (Parse_any _ (text_small Hx.out) _ S.out.laid).mono ?_
    rintro e w8 ⟨rfl, hf⟩
    rw [show parseV (⟨(textK p).toArray⟩ : ByteArray).data.toList = .tuple #[.agg #[.int .i64 p.time, .int .i64 p.source, .int .i64 p.seq], .int .i64 0] from by show parseV (textK p).toArray.toList = _; rw [List.toList_toArray]; unfold parseV; rw [parseK_text Hx.out]; rfl]
    have P1 := Lib.hid (P1.out.later (hf.alloc (.cells #[.int .i64 p.time, .int .i64 p.source, .int .i64 p.seq] 24)))
    have P2 := Lib.hid (P2.out.later (hf.alloc (.cells #[.int .i64 p.time, .int .i64 p.source, .int .i64 p.seq] 24)))
    have S := Lib.hid ((S.out.later hf).new p)
    clear hf
    obtain ⟨D, hD⟩ : ∃ D, sameK p q = D := ⟨_, rfl⟩
    have d1 : sameK ⟨p.time, p.source, p.seq⟩ ⟨q.time, q.source, q.seq⟩ = D := hD
    have d2 : (textK p == textK q) = D := by rw [← hD]; exact text_eq Hx.out Hy.out
    have ⟨a0, a1, a2⟩ := S.out.cell (b := pa) (k := p) (by simp)
    have ⟨b0, b1, b2⟩ := S.out.cell (b := pb) (k := q) (by simp)
    have ⟨r0, r1, r2⟩ := S.out.cell (b := rb) (k := p) (by simp)
    have d3 : (D != D) = false := by cases D <;> rfl
    clear hD
    go_wp2_with fail
    obtain ⟨W9, hW9⟩ : ∃ W, w8.alloc (.cells #[.int .i64 p.time, .int .i64 p.source, .int .i64 p.seq] 24) = W := ⟨_, rfl⟩
    rw [hW9] at S P1 P2 ⊢
    clear hW9 a0 a1 a2 b0 b1 b2 r0 r1 r2 d1 d2 d3
    have HO := Lib.hid order_any
    refine wp_region_held_drew (S := fun W' => C3 W' pa p ∧ C3 W' pb q) (by kernel_rfl) ⟨S.out.cell (by simp), S.out.cell (by simp)⟩ (fun hHeld => ?_)
    refine take_on (i := 0) (v := .agg #[.int .i64 p.time, .int .i64 p.source, .int .i64 p.seq]) rfl (by kernel_rfl) (by kernel_rfl) (by kernel_rfl) (fun _ _ _ h => h) (by kernel_rfl) (fun W' hSW => ?_) (by assumption) ?_
    · obtain ⟨⟨x0, x1, x2⟩, ⟨y0, y1, y2⟩⟩ := hSW
      first | (go_simp; done) | exact rfl | (go_simp; rfl) | (go_simp; omega)
    try simp only [Act.put, List.setIfInBounds_toArray, List.set_cons_zero, List.set_cons_succ]
    refine take_call (i := 1) rfl (by kernel_rfl) (by kernel_rfl) (fun K hK => ?_)
    go_simp
    refine (Right_drew p Hx.out _).mono ?_
    rintro e u1 ⟨rfl, hf⟩
    have P1 := Lib.hid (P1.out.later ((Fr0.refl none' W9).drew.trans hf))
    have P2 := Lib.hid (P2.out.later ((Fr0.refl none' W9).drew.trans hf))
    have S := Lib.hid (S.out.later ((Fr0.refl none' W9).drew.trans hf))
    clear hf
    go_wp2_with fail
    refine hK.out _ _ ⟨S.out.cell (by simp), S.out.cell (by simp)⟩ (fun hHeld => ?_)
    clear hK K
    try simp only [Act.put, List.setIfInBounds_toArray, List.set_cons_zero, List.set_cons_succ]
    refine take_on (i := 2) (v := .bool true) rfl (by kernel_rfl) (by kernel_rfl) (by kernel_rfl) (fun _ _ _ h => h) (by kernel_rfl) (fun W' hSW => ?_) (by assumption) ?_
    · obtain ⟨⟨x0, x1, x2⟩, ⟨y0, y1, y2⟩⟩ := hSW
      first | (go_simp; done) | exact rfl | (go_simp; rfl) | (go_simp; omega)
    try simp only [Act.put, List.setIfInBounds_toArray, List.set_cons_zero, List.set_cons_succ]
    refine take_on (i := 3) (v := .slice (some ⟨g1, 0, none⟩) 12 c1) rfl (by kernel_rfl) (by kernel_rfl) (by kernel_rfl) (fun _ _ _ h => h) (by kernel_rfl) (fun W' hSW => ?_) (by assumption) ?_
    · obtain ⟨⟨x0, x1, x2⟩, ⟨y0, y1, y2⟩⟩ := hSW
      first | (go_simp; done) | exact rfl | (go_simp; rfl) | (go_simp; omega)
    try simp only [Act.put, List.setIfInBounds_toArray, List.set_cons_zero, List.set_cons_succ]
    refine take_on (i := 4) (v := .slice (some ⟨g2, 0, none⟩) 12 c2) rfl (by kernel_rfl) (by kernel_rfl) (by kernel_rfl) (fun _ _ _ h => h) (by kernel_rfl) (fun W' hSW => ?_) (by assumption) ?_
    · obtain ⟨⟨x0, x1, x2⟩, ⟨y0, y1, y2⟩⟩ := hSW
      first | (go_simp; done) | exact rfl | (go_simp; rfl) | (go_simp; omega)
    try simp only [Act.put, List.setIfInBounds_toArray, List.set_cons_zero, List.set_cons_succ]
    refine take_on (i := 6) (v := .agg #[.int .i64 p.time, .int .i64 p.source, .int .i64 p.seq]) rfl (by kernel_rfl) (by kernel_rfl) (by kernel_rfl) (fun _ _ _ h => h) (by kernel_rfl) (fun W' hSW => ?_) (by assumption) ?_
    · obtain ⟨⟨x0, x1, x2⟩, ⟨y0, y1, y2⟩⟩ := hSW
      first | (go_simp; done) | exact rfl | (go_simp; rfl) | (go_simp; omega)
    try simp only [Act.put, List.setIfInBounds_toArray, List.set_cons_zero, List.set_cons_succ]
    refine take_on (i := 7) (v := .agg #[.int .i64 q.time, .int .i64 q.source, .int .i64 q.seq]) rfl (by kernel_rfl) (by kernel_rfl) (by kernel_rfl) (fun _ _ _ h => h) (by kernel_rfl) (fun W' hSW => ?_) (by assumption) ?_
    · obtain ⟨⟨x0, x1, x2⟩, ⟨y0, y1, y2⟩⟩ := hSW
      first | (go_simp; done) | exact rfl | (go_simp; rfl) | (go_simp; omega)
    try simp only [Act.put, List.setIfInBounds_toArray, List.set_cons_zero, List.set_cons_succ]
    refine take_call (i := 5) rfl (by kernel_rfl) (by kernel_rfl) (fun K hK => ?_)
    go_simp
    refine (bytesCompare_any P1.out (bytesK_length p) P2.out (bytesK_length q)).mono ?_
    rintro e u2 ⟨rfl, hu⟩
    rw [compareBytes_key Hx.out Hy.out]
    have hf : Fr0 none' u1 u2 := by rw [hu]; exact Fr0.refl _ _
    clear hu
    obtain ⟨c, hc⟩ : ∃ c, cmpK p q = c := ⟨_, rfl⟩
    have Hc := Lib.hid hc
    rw [hc]
    clear hc
    have P1 := Lib.hid (P1.out.later hf)
    have P2 := Lib.hid (P2.out.later hf)
    have S := Lib.hid (S.out.later hf)
    clear hf
    go_wp2_with fail
    refine hK.out _ _ ⟨S.out.cell (by simp), S.out.cell (by simp)⟩ (fun hHeld => ?_)
    clear hK K
    try simp only [Act.put, List.setIfInBounds_toArray, List.set_cons_zero, List.set_cons_succ]
    refine take_call (i := 8) rfl (by kernel_rfl) (by kernel_rfl) (fun K hK => ?_)
    go_simp
    refine (HO.out p q _).mono ?_
    rintro e u3 ⟨rfl, hf⟩
    rw [Hc.out]
    have P1 := Lib.hid (P1.out.later hf)
    have P2 := Lib.hid (P2.out.later hf)
    have S := Lib.hid (S.out.later hf)
    clear hf
    go_wp2_with fail
    refine hK.out _ _ ⟨S.out.cell (by simp), S.out.cell (by simp)⟩ (fun hHeld => ?_)
    clear hK K
    try simp only [Act.put, List.setIfInBounds_toArray, List.set_cons_zero, List.set_cons_succ]
    refine take_on (i := 9) (v := .bool true) rfl (by kernel_rfl) (by kernel_rfl) (by kernel_rfl) (fun _ _ _ h => h) (by kernel_rfl) (fun W' hSW => ?_) (by assumption) ?_
    · obtain ⟨⟨x0, x1, x2⟩, ⟨y0, y1, y2⟩⟩ := hSW
      first | (go_simp; done) | exact rfl | (go_simp; rfl) | (go_simp; omega)
    try simp only [Act.put, List.setIfInBounds_toArray, List.set_cons_zero, List.set_cons_succ]
    refine take_on (i := 10) (v := .bool true) rfl (by kernel_rfl) (by kernel_rfl) (by kernel_rfl) (fun _ _ _ h => h) (by kernel_rfl) (fun W' hSW => ?_) (by assumption) ?_
    · obtain ⟨⟨x0, x1, x2⟩, ⟨y0, y1, y2⟩⟩ := hSW
      first | (go_simp; done) | exact rfl | (go_simp; rfl) | (go_simp; omega)
    try simp only [Act.put, List.setIfInBounds_toArray, List.set_cons_zero, List.set_cons_succ]
    refine take_on (i := 11) (v := .bool true) rfl (by kernel_rfl) (by kernel_rfl) (by kernel_rfl) (fun _ _ _ h => h) (by kernel_rfl) (fun W' hSW => ?_) (by assumption) ?_
    · obtain ⟨⟨x0, x1, x2⟩, ⟨y0, y1, y2⟩⟩ := hSW
      first | (go_simp; done) | exact rfl | (go_simp; rfl) | (go_simp; omega)
    try simp only [Act.put, List.setIfInBounds_toArray, List.set_cons_zero, List.set_cons_succ]
    refine take_on (i := 12) (v := .agg #[.int .i64 q.time, .int .i64 q.source, .int .i64 q.seq]) rfl (by kernel_rfl) (by kernel_rfl) (by kernel_rfl) (fun _ _ _ h => h) (by kernel_rfl) (fun W' hSW => ?_) (by assumption) ?_
    · obtain ⟨⟨x0, x1, x2⟩, ⟨y0, y1, y2⟩⟩ := hSW
      first | (go_simp; done) | exact rfl | (go_simp; rfl) | (go_simp; omega)
    try simp only [Act.put, List.setIfInBounds_toArray, List.set_cons_zero, List.set_cons_succ]
    refine take_on (i := 13) (v := .agg #[.int .i64 p.time, .int .i64 p.source, .int .i64 p.seq]) rfl (by kernel_rfl) (by kernel_rfl) (by kernel_rfl) (fun _ _ _ h => h) (by kernel_rfl) (fun W' hSW => ?_) (by assumption) ?_
    · obtain ⟨⟨x0, x1, x2⟩, ⟨y0, y1, y2⟩⟩ := hSW
      first | (go_simp; done) | exact rfl | (go_simp; rfl) | (go_simp; omega)
    try simp only [Act.put, List.setIfInBounds_toArray, List.set_cons_zero, List.set_cons_succ]
    refine take_on (i := 15) (v := .agg #[.int .i64 p.time, .int .i64 p.source, .int .i64 p.seq]) rfl (by kernel_rfl) (by kernel_rfl) (by kernel_rfl) (fun _ _ _ h => h) (by kernel_rfl) (fun W' hSW => ?_) (by assumption) ?_
    · obtain ⟨⟨x0, x1, x2⟩, ⟨y0, y1, y2⟩⟩ := hSW
      first | (go_simp; done) | exact rfl | (go_simp; rfl) | (go_simp; omega)
    try simp only [Act.put, List.setIfInBounds_toArray, List.set_cons_zero, List.set_cons_succ]
    refine take_on (i := 16) (v := .agg #[.int .i64 q.time, .int .i64 q.source, .int .i64 q.seq]) rfl (by kernel_rfl) (by kernel_rfl) (by kernel_rfl) (fun _ _ _ h => h) (by kernel_rfl) (fun W' hSW => ?_) (by assumption) ?_
    · obtain ⟨⟨x0, x1, x2⟩, ⟨y0, y1, y2⟩⟩ := hSW
      first | (go_simp; done) | exact rfl | (go_simp; rfl) | (go_simp; omega)
    try simp only [Act.put, List.setIfInBounds_toArray, List.set_cons_zero, List.set_cons_succ]
    refine take_call (i := 14) rfl (by kernel_rfl) (by kernel_rfl) (fun K hK => ?_)
    go_simp
    refine (HO.out q p _).mono ?_
    rintro e u4 ⟨rfl, hf⟩
    rw [show cmpK q p = -c from by rw [← Hc.out, cmpK_anti]]
    have P1 := Lib.hid (P1.out.later hf)
    have P2 := Lib.hid (P2.out.later hf)
    have S := Lib.hid (S.out.later hf)
    clear hf
    go_wp2_with fail
    refine hK.out _ _ ⟨S.out.cell (by simp), S.out.cell (by simp)⟩ (fun hHeld => ?_)
    clear hK K
    try simp only [Act.put, List.setIfInBounds_toArray, List.set_cons_zero, List.set_cons_succ]
    refine take_call (i := 17) rfl (by kernel_rfl) (by kernel_rfl) (fun K hK => ?_)
    go_simp
    refine (HO.out p q _).mono ?_
    rintro e u5 ⟨rfl, hf⟩
    rw [Hc.out]
    have P1 := Lib.hid (P1.out.later hf)
    have P2 := Lib.hid (P2.out.later hf)
    have S := Lib.hid (S.out.later hf)
    clear hf
    go_wp2_with fail
    refine hK.out _ _ ⟨S.out.cell (by simp), S.out.cell (by simp)⟩ (fun hHeld => ?_)
    clear hK K
    try simp only [Act.put, List.setIfInBounds_toArray, List.set_cons_zero, List.set_cons_succ]
    have hw : wrap64 (-c) = -c := by have := cmpK_in p q; rw [Hc.out] at this; unfold wrap64; omega
    have hw' : IntKind.i64.wrap (-c) = -c := IntWalk.i64_in _ (by have := cmpK_in p q; rw [Hc.out] at this; omega)
    refine take_on (i := 18) (v := .int .i64 (-c)) rfl (by kernel_rfl) (by kernel_rfl) (by kernel_rfl) (fun _ _ _ h => h) (by kernel_rfl) (fun W' hSW => ?_) (by assumption) ?_
    · obtain ⟨⟨x0, x1, x2⟩, ⟨y0, y1, y2⟩⟩ := hSW
      first | (go_simp; done) | exact rfl | (go_simp; rfl) | (go_simp; omega)
    try simp only [Act.put, List.setIfInBounds_toArray, List.set_cons_zero, List.set_cons_succ]
    refine take_on (i := 19) (v := .bool true) rfl (by kernel_rfl) (by kernel_rfl) (by kernel_rfl) (fun _ _ _ h => h) (by kernel_rfl) (fun W' hSW => ?_) (by assumption) ?_
    · obtain ⟨⟨x0, x1, x2⟩, ⟨y0, y1, y2⟩⟩ := hSW
      first | (go_simp; done) | exact rfl | (go_simp; rfl) | (go_simp; omega)
    try simp only [Act.put, List.setIfInBounds_toArray, List.set_cons_zero, List.set_cons_succ]
    refine take_on (i := 20) (v := .bool true) rfl (by kernel_rfl) (by kernel_rfl) (by kernel_rfl) (fun _ _ _ h => h) (by kernel_rfl) (fun W' hSW => ?_) (by assumption) ?_
    · obtain ⟨⟨x0, x1, x2⟩, ⟨y0, y1, y2⟩⟩ := hSW
      first | (go_simp; done) | exact rfl | (go_simp; rfl) | (go_simp; omega)
    try simp only [Act.put, List.setIfInBounds_toArray, List.set_cons_zero, List.set_cons_succ]
    refine take_on (i := 21) (v := .bool true) rfl (by kernel_rfl) (by kernel_rfl) (by kernel_rfl) (fun _ _ _ h => h) (by kernel_rfl) (fun W' hSW => ?_) (by assumption) ?_
    · obtain ⟨⟨x0, x1, x2⟩, ⟨y0, y1, y2⟩⟩ := hSW
      first | (go_simp; done) | exact rfl | (go_simp; rfl) | (go_simp; omega)
    try simp only [Act.put, List.setIfInBounds_toArray, List.set_cons_zero, List.set_cons_succ]
    refine wpAnyH_done (by kernel_rfl) ?_ _
    go_wp2
    go_ret
    exact ⟨rfl, S.out.fr⟩
  · simp only [Act.put, List.setIfInBounds_toArray, List.set_cons_zero, List.set_cons_succ, smallV, keyV] at hT
    have HT := Lib.hid hT
    clear hT
    refine wp_region_held_drew (S := fun W' => SmAt W' b x ∧ SmAt W' (b + 1) y) (by kernel_rfl) ⟨sx.out, sy.out⟩ (fun hHeld => ?_)
    refine take_on (i := 0) (v := .agg #[.int .u64 x.t, .int .u32 x.s, .int .u32 x.q]) rfl (by kernel_rfl) (by kernel_rfl) (by kernel_rfl) (fun _ _ _ h => h) (by kernel_rfl) (fun W' hSW => ?_) (by assumption) ?_
    · obtain ⟨⟨x0, x1, x2⟩, ⟨y0, y1, y2⟩⟩ := hSW
      first | (go_simp; done) | exact rfl | (go_simp; rfl) | (go_simp; omega)
    try simp only [Act.put, List.setIfInBounds_toArray, List.set_cons_zero, List.set_cons_succ]
    refine take_on (i := 2) (v := .agg #[.int .u64 y.t, .int .u32 y.s, .int .u32 y.q]) rfl (by kernel_rfl) (by kernel_rfl) (by kernel_rfl) (fun _ _ _ h => h) (by kernel_rfl) (fun W' hSW => ?_) (by assumption) ?_
    · obtain ⟨⟨x0, x1, x2⟩, ⟨y0, y1, y2⟩⟩ := hSW
      first | (go_simp; done) | exact rfl | (go_simp; rfl) | (go_simp; omega)
    try simp only [Act.put, List.setIfInBounds_toArray, List.set_cons_zero, List.set_cons_succ]
    have S := Lib.hid (show St2 x y b w1 w1 from ⟨sx.out, sy.out, Fr0.refl _ _, sx.out, sy.out⟩)
    refine wpAnyH_ready (rs := [1, 4, 5]) (by kernel_rfl) (by simp) (AllReadyH.cons (op_at rfl) (fun K hK => ?_) (AllReadyH.cons (op_at rfl) (fun K hK => ?_) (AllReadyH.cons (op_at rfl) (fun K hK => ?_) AllReadyH.nil)))
    · rw [if_pos (by kernel_rfl)]
      go_simp
      refine (HM.out _ _).mono ?_
      rintro e v1 ⟨rfl, hf⟩
      have hf := ((Fr0.refl none' w1).drew).trans hf
      have S := Lib.hid (S.out.later hf)
      try have A4 := Lib.hid (A4.out.later hf)
      try have A5 := Lib.hid (A5.out.later hf)
      clear hf
      go_wp2_with fail
      refine hK.out _ _ S.out.both (fun _ => ?_)
      clear hK K
      try simp only [Act.put, List.setIfInBounds_toArray, List.set_cons_zero, List.set_cons_succ]
      refine wpAnyH_ready (rs := [3, 4, 5]) (by kernel_rfl) (by simp) (AllReadyH.cons (op_at rfl) (fun K hK => ?_) (AllReadyH.cons (op_at rfl) (fun K hK => ?_) (AllReadyH.cons (op_at rfl) (fun K hK => ?_) AllReadyH.nil)))
      · rw [if_pos (by kernel_rfl)]
        go_simp
        refine (HM.out _ _).mono ?_
        rintro e v2 ⟨rfl, hf⟩
        have hf := ((Fr0.refl none' v1)).trans hf
        have S := Lib.hid (S.out.later hf)
        try have A4 := Lib.hid (A4.out.later hf)
        try have A5 := Lib.hid (A5.out.later hf)
        clear hf
        go_wp2_with fail
        refine hK.out _ _ S.out.both (fun _ => ?_)
        clear hK K
        try simp only [Act.put, List.setIfInBounds_toArray, List.set_cons_zero, List.set_cons_succ]
        refine wpAnyH_ready (rs := [4, 5]) (by kernel_rfl) (by simp) (AllReadyH.cons (op_at rfl) (fun K hK => ?_) (AllReadyH.cons (op_at rfl) (fun K hK => ?_) AllReadyH.nil))
        · rw [if_pos (by kernel_rfl)]
          go_simp
          obtain ⟨pa, hpa⟩ : ∃ pa, v2.heap.size = pa := ⟨_, rfl⟩
          obtain ⟨v3, hW2⟩ : ∃ W2, (v2.alloc (.cells #[.int .i64 0, .int .i64 0, .int .i64 0] 24)) = W2 := ⟨_, rfl⟩
          have hf : Fr0 none' v2 v3 := by rw [← hW2]; exact ((Fr0.refl _ _).alloc _)
          have hpq := Lib.hid (show v2.heap.size = pa from hpa)
          try have hl4 := A4.out.lt
          try have hl5 := A5.out.lt
          try have A4 := Lib.hid (A4.out.later hf)
          try have A5 := Lib.hid (A5.out.later hf)
          have A4 := Lib.hid (show NewK w1 v3 pa zeroK from by rw [← hW2, ← hpa]; exact ⟨World.alloc_heap_new v2 _, S.out.fr.size⟩)
          rw [hW2, hpa]
          have S := Lib.hid (S.out.later hf)
          clear hf hW2 hpa
          refine hK.out _ _ S.out.both (fun _ => ?_)
          clear hK K
          try simp only [Act.put, List.setIfInBounds_toArray, List.set_cons_zero, List.set_cons_succ]
          refine take_call (i := 5) rfl (by kernel_rfl) (by kernel_rfl) (fun K hK => ?_)
          go_simp
          obtain ⟨pb, hpa⟩ : ∃ pa, v3.heap.size = pa := ⟨_, rfl⟩
          obtain ⟨v4, hW2⟩ : ∃ W2, (v3.alloc (.cells #[.int .i64 0, .int .i64 0, .int .i64 0] 24)) = W2 := ⟨_, rfl⟩
          have hf : Fr0 none' v3 v4 := by rw [← hW2]; exact ((Fr0.refl _ _).alloc _)
          have hpq := Lib.hid (show v3.heap.size = pb from hpa)
          try have hl4 := A4.out.lt
          try have hl5 := A5.out.lt
          try have A4 := Lib.hid (A4.out.later hf)
          try have A5 := Lib.hid (A5.out.later hf)
          have A5 := Lib.hid (show NewK w1 v4 pb zeroK from by rw [← hW2, ← hpa]; exact ⟨World.alloc_heap_new v3 _, S.out.fr.size⟩)
          rw [hW2, hpa]
          have S := Lib.hid (S.out.later hf)
          clear hf hW2 hpa
          refine hK.out _ _ S.out.both (fun _ => ?_)
          clear hK K
          try simp only [Act.put, List.setIfInBounds_toArray, List.set_cons_zero, List.set_cons_succ]
          have hne := Lib.hid (show pa ≠ pb from fun h => by have := hl4; have := hpq.out; omega)
          have ⟨a0, a1, a2⟩ := A4.out.cells
          have ⟨b0, b1, b2⟩ := A4.out.frozen
          refine take_call (i := 6) rfl (by kernel_rfl) (by kernel_rfl) (fun K hK => ?_)
          go_simp
          clear a0 a1 a2 b0 b1 b2
          obtain ⟨u1, hu⟩ : ∃ u, put3 v4 pa x.key = u := ⟨_, rfl⟩
          rw [show ((v4.setCell ⟨pa, 0, none⟩ (.int .i64 (x.key).time)).setCell ⟨pa, 1, none⟩ (.int .i64 (x.key).source)).setCell ⟨pa, 2, none⟩ (.int .i64 (x.key).seq) = u1 from hu]
          have S := Lib.hid (S.out.put A4.out.ge x.key)
          have A5 := Lib.hid (A5.out.other hne.out.symm x.key)
          have A4 := Lib.hid (A4.out.put x.key)
          rw [hu] at S A4 A5
          clear hu
          refine hK.out _ _ S.out.both (fun _ => ?_)
          clear hK K
          try simp only [Act.put, List.setIfInBounds_toArray, List.set_cons_zero, List.set_cons_succ]
          have ⟨a0, a1, a2⟩ := A5.out.cells
          have ⟨b0, b1, b2⟩ := A5.out.frozen
          refine take_call (i := 7) rfl (by kernel_rfl) (by kernel_rfl) (fun K hK => ?_)
          go_simp
          clear a0 a1 a2 b0 b1 b2
          obtain ⟨u2, hu⟩ : ∃ u, put3 u1 pb y.key = u := ⟨_, rfl⟩
          rw [show ((u1.setCell ⟨pb, 0, none⟩ (.int .i64 (y.key).time)).setCell ⟨pb, 1, none⟩ (.int .i64 (y.key).source)).setCell ⟨pb, 2, none⟩ (.int .i64 (y.key).seq) = u2 from hu]
          have S := Lib.hid (S.out.put A5.out.ge y.key)
          have A4 := Lib.hid (A4.out.other hne.out y.key)
          have A5 := Lib.hid (A5.out.put y.key)
          rw [hu] at S A4 A5
          clear hu
          refine hK.out _ _ S.out.both (fun _ => ?_)
          clear hK K
          try simp only [Act.put, List.setIfInBounds_toArray, List.set_cons_zero, List.set_cons_succ]
          refine wpAnyH_done (by kernel_rfl) ?_ _
          exact HT.out pa pb _ ⟨A4.out, A5.out, S.out.fr⟩
        · rw [if_pos (by kernel_rfl)]
          go_simp
          obtain ⟨pb, hpa⟩ : ∃ pa, v2.heap.size = pa := ⟨_, rfl⟩
          obtain ⟨v5, hW2⟩ : ∃ W2, (v2.alloc (.cells #[.int .i64 0, .int .i64 0, .int .i64 0] 24)) = W2 := ⟨_, rfl⟩
          have hf : Fr0 none' v2 v5 := by rw [← hW2]; exact ((Fr0.refl _ _).alloc _)
          have hpq := Lib.hid (show v2.heap.size = pb from hpa)
          try have hl4 := A4.out.lt
          try have hl5 := A5.out.lt
          try have A4 := Lib.hid (A4.out.later hf)
          try have A5 := Lib.hid (A5.out.later hf)
          have A5 := Lib.hid (show NewK w1 v5 pb zeroK from by rw [← hW2, ← hpa]; exact ⟨World.alloc_heap_new v2 _, S.out.fr.size⟩)
          rw [hW2, hpa]
          have S := Lib.hid (S.out.later hf)
          clear hf hW2 hpa
          refine hK.out _ _ S.out.both (fun _ => ?_)
          clear hK K
          try simp only [Act.put, List.setIfInBounds_toArray, List.set_cons_zero, List.set_cons_succ]
          refine take_call (i := 4) rfl (by kernel_rfl) (by kernel_rfl) (fun K hK => ?_)
          go_simp
          obtain ⟨pa, hpa⟩ : ∃ pa, v5.heap.size = pa := ⟨_, rfl⟩
          obtain ⟨v6, hW2⟩ : ∃ W2, (v5.alloc (.cells #[.int .i64 0, .int .i64 0, .int .i64 0] 24)) = W2 := ⟨_, rfl⟩
          have hf : Fr0 none' v5 v6 := by rw [← hW2]; exact ((Fr0.refl _ _).alloc _)
          have hpq := Lib.hid (show v5.heap.size = pa from hpa)
          try have hl4 := A4.out.lt
          try have hl5 := A5.out.lt
          try have A4 := Lib.hid (A4.out.later hf)
          try have A5 := Lib.hid (A5.out.later hf)
          have A4 := Lib.hid (show NewK w1 v6 pa zeroK from by rw [← hW2, ← hpa]; exact ⟨World.alloc_heap_new v5 _, S.out.fr.size⟩)
          rw [hW2, hpa]
          have S := Lib.hid (S.out.later hf)
          clear hf hW2 hpa
          refine hK.out _ _ S.out.both (fun _ => ?_)
          clear hK K
          try simp only [Act.put, List.setIfInBounds_toArray, List.set_cons_zero, List.set_cons_succ]
          have hne := Lib.hid (show pa ≠ pb from fun h => by have := hl5; have := hpq.out; omega)
          have ⟨a0, a1, a2⟩ := A4.out.cells
          have ⟨b0, b1, b2⟩ := A4.out.frozen
          refine take_call (i := 6) rfl (by kernel_rfl) (by kernel_rfl) (fun K hK => ?_)
          go_simp
          clear a0 a1 a2 b0 b1 b2
          obtain ⟨u1, hu⟩ : ∃ u, put3 v6 pa x.key = u := ⟨_, rfl⟩
          rw [show ((v6.setCell ⟨pa, 0, none⟩ (.int .i64 (x.key).time)).setCell ⟨pa, 1, none⟩ (.int .i64 (x.key).source)).setCell ⟨pa, 2, none⟩ (.int .i64 (x.key).seq) = u1 from hu]
          have S := Lib.hid (S.out.put A4.out.ge x.key)
          have A5 := Lib.hid (A5.out.other hne.out.symm x.key)
          have A4 := Lib.hid (A4.out.put x.key)
          rw [hu] at S A4 A5
          clear hu
          refine hK.out _ _ S.out.both (fun _ => ?_)
          clear hK K
          try simp only [Act.put, List.setIfInBounds_toArray, List.set_cons_zero, List.set_cons_succ]
          have ⟨a0, a1, a2⟩ := A5.out.cells
          have ⟨b0, b1, b2⟩ := A5.out.frozen
          refine take_call (i := 7) rfl (by kernel_rfl) (by kernel_rfl) (fun K hK => ?_)
          go_simp
          clear a0 a1 a2 b0 b1 b2
          obtain ⟨u2, hu⟩ : ∃ u, put3 u1 pb y.key = u := ⟨_, rfl⟩
          rw [show ((u1.setCell ⟨pb, 0, none⟩ (.int .i64 (y.key).time)).setCell ⟨pb, 1, none⟩ (.int .i64 (y.key).source)).setCell ⟨pb, 2, none⟩ (.int .i64 (y.key).seq) = u2 from hu]
          have S := Lib.hid (S.out.put A5.out.ge y.key)
          have A4 := Lib.hid (A4.out.other hne.out y.key)
          have A5 := Lib.hid (A5.out.put y.key)
          rw [hu] at S A4 A5
          clear hu
          refine hK.out _ _ S.out.both (fun _ => ?_)
          clear hK K
          try simp only [Act.put, List.setIfInBounds_toArray, List.set_cons_zero, List.set_cons_succ]
          refine wpAnyH_done (by kernel_rfl) ?_ _
          exact HT.out pa pb _ ⟨A4.out, A5.out, S.out.fr⟩
      · rw [if_pos (by kernel_rfl)]
        go_simp
        obtain ⟨pa, hpa⟩ : ∃ pa, v1.heap.size = pa := ⟨_, rfl⟩
        obtain ⟨v7, hW2⟩ : ∃ W2, (v1.alloc (.cells #[.int .i64 0, .int .i64 0, .int .i64 0] 24)) = W2 := ⟨_, rfl⟩
        have hf : Fr0 none' v1 v7 := by rw [← hW2]; exact ((Fr0.refl _ _).alloc _)
        have hpq := Lib.hid (show v1.heap.size = pa from hpa)
        try have hl4 := A4.out.lt
        try have hl5 := A5.out.lt
        try have A4 := Lib.hid (A4.out.later hf)
        try have A5 := Lib.hid (A5.out.later hf)
        have A4 := Lib.hid (show NewK w1 v7 pa zeroK from by rw [← hW2, ← hpa]; exact ⟨World.alloc_heap_new v1 _, S.out.fr.size⟩)
        rw [hW2, hpa]
        have S := Lib.hid (S.out.later hf)
        clear hf hW2 hpa
        refine hK.out _ _ S.out.both (fun _ => ?_)
        clear hK K
        try simp only [Act.put, List.setIfInBounds_toArray, List.set_cons_zero, List.set_cons_succ]
        refine wpAnyH_ready (rs := [3, 5]) (by kernel_rfl) (by simp) (AllReadyH.cons (op_at rfl) (fun K hK => ?_) (AllReadyH.cons (op_at rfl) (fun K hK => ?_) AllReadyH.nil))
        · rw [if_pos (by kernel_rfl)]
          go_simp
          refine (HM.out _ _).mono ?_
          rintro e v8 ⟨rfl, hf⟩
          have hf := ((Fr0.refl none' v7)).trans hf
          have S := Lib.hid (S.out.later hf)
          try have A4 := Lib.hid (A4.out.later hf)
          try have A5 := Lib.hid (A5.out.later hf)
          clear hf
          go_wp2_with fail
          refine hK.out _ _ S.out.both (fun _ => ?_)
          clear hK K
          try simp only [Act.put, List.setIfInBounds_toArray, List.set_cons_zero, List.set_cons_succ]
          refine take_call (i := 5) rfl (by kernel_rfl) (by kernel_rfl) (fun K hK => ?_)
          go_simp
          obtain ⟨pb, hpa⟩ : ∃ pa, v8.heap.size = pa := ⟨_, rfl⟩
          obtain ⟨v9, hW2⟩ : ∃ W2, (v8.alloc (.cells #[.int .i64 0, .int .i64 0, .int .i64 0] 24)) = W2 := ⟨_, rfl⟩
          have hf : Fr0 none' v8 v9 := by rw [← hW2]; exact ((Fr0.refl _ _).alloc _)
          have hpq := Lib.hid (show v8.heap.size = pb from hpa)
          try have hl4 := A4.out.lt
          try have hl5 := A5.out.lt
          try have A4 := Lib.hid (A4.out.later hf)
          try have A5 := Lib.hid (A5.out.later hf)
          have A5 := Lib.hid (show NewK w1 v9 pb zeroK from by rw [← hW2, ← hpa]; exact ⟨World.alloc_heap_new v8 _, S.out.fr.size⟩)
          rw [hW2, hpa]
          have S := Lib.hid (S.out.later hf)
          clear hf hW2 hpa
          refine hK.out _ _ S.out.both (fun _ => ?_)
          clear hK K
          try simp only [Act.put, List.setIfInBounds_toArray, List.set_cons_zero, List.set_cons_succ]
          have hne := Lib.hid (show pa ≠ pb from fun h => by have := hl4; have := hpq.out; omega)
          have ⟨a0, a1, a2⟩ := A4.out.cells
          have ⟨b0, b1, b2⟩ := A4.out.frozen
          refine take_call (i := 6) rfl (by kernel_rfl) (by kernel_rfl) (fun K hK => ?_)
          go_simp
          clear a0 a1 a2 b0 b1 b2
          obtain ⟨u1, hu⟩ : ∃ u, put3 v9 pa x.key = u := ⟨_, rfl⟩
          rw [show ((v9.setCell ⟨pa, 0, none⟩ (.int .i64 (x.key).time)).setCell ⟨pa, 1, none⟩ (.int .i64 (x.key).source)).setCell ⟨pa, 2, none⟩ (.int .i64 (x.key).seq) = u1 from hu]
          have S := Lib.hid (S.out.put A4.out.ge x.key)
          have A5 := Lib.hid (A5.out.other hne.out.symm x.key)
          have A4 := Lib.hid (A4.out.put x.key)
          rw [hu] at S A4 A5
          clear hu
          refine hK.out _ _ S.out.both (fun _ => ?_)
          clear hK K
          try simp only [Act.put, List.setIfInBounds_toArray, List.set_cons_zero, List.set_cons_succ]
          have ⟨a0, a1, a2⟩ := A5.out.cells
          have ⟨b0, b1, b2⟩ := A5.out.frozen
          refine take_call (i := 7) rfl (by kernel_rfl) (by kernel_rfl) (fun K hK => ?_)
          go_simp
          clear a0 a1 a2 b0 b1 b2
          obtain ⟨u2, hu⟩ : ∃ u, put3 u1 pb y.key = u := ⟨_, rfl⟩
          rw [show ((u1.setCell ⟨pb, 0, none⟩ (.int .i64 (y.key).time)).setCell ⟨pb, 1, none⟩ (.int .i64 (y.key).source)).setCell ⟨pb, 2, none⟩ (.int .i64 (y.key).seq) = u2 from hu]
          have S := Lib.hid (S.out.put A5.out.ge y.key)
          have A4 := Lib.hid (A4.out.other hne.out y.key)
          have A5 := Lib.hid (A5.out.put y.key)
          rw [hu] at S A4 A5
          clear hu
          refine hK.out _ _ S.out.both (fun _ => ?_)
          clear hK K
          try simp only [Act.put, List.setIfInBounds_toArray, List.set_cons_zero, List.set_cons_succ]
          refine wpAnyH_done (by kernel_rfl) ?_ _
          exact HT.out pa pb _ ⟨A4.out, A5.out, S.out.fr⟩
        · rw [if_pos (by kernel_rfl)]
          go_simp
          obtain ⟨pb, hpa⟩ : ∃ pa, v7.heap.size = pa := ⟨_, rfl⟩
          obtain ⟨v10, hW2⟩ : ∃ W2, (v7.alloc (.cells #[.int .i64 0, .int .i64 0, .int .i64 0] 24)) = W2 := ⟨_, rfl⟩
          have hf : Fr0 none' v7 v10 := by rw [← hW2]; exact ((Fr0.refl _ _).alloc _)
          have hpq := Lib.hid (show v7.heap.size = pb from hpa)
          try have hl4 := A4.out.lt
          try have hl5 := A5.out.lt
          try have A4 := Lib.hid (A4.out.later hf)
          try have A5 := Lib.hid (A5.out.later hf)
          have A5 := Lib.hid (show NewK w1 v10 pb zeroK from by rw [← hW2, ← hpa]; exact ⟨World.alloc_heap_new v7 _, S.out.fr.size⟩)
          rw [hW2, hpa]
          have S := Lib.hid (S.out.later hf)
          clear hf hW2 hpa
          refine hK.out _ _ S.out.both (fun _ => ?_)
          clear hK K
          try simp only [Act.put, List.setIfInBounds_toArray, List.set_cons_zero, List.set_cons_succ]
          have hne := Lib.hid (show pa ≠ pb from fun h => by have := hl4; have := hpq.out; omega)
          refine take_call (i := 3) rfl (by kernel_rfl) (by kernel_rfl) (fun K hK => ?_)
          go_simp
          refine (HM.out _ _).mono ?_
          rintro e v11 ⟨rfl, hf⟩
          have hf := ((Fr0.refl none' v10)).trans hf
          have S := Lib.hid (S.out.later hf)
          try have A4 := Lib.hid (A4.out.later hf)
          try have A5 := Lib.hid (A5.out.later hf)
          clear hf
          go_wp2_with fail
          refine hK.out _ _ S.out.both (fun _ => ?_)
          clear hK K
          try simp only [Act.put, List.setIfInBounds_toArray, List.set_cons_zero, List.set_cons_succ]
          have ⟨a0, a1, a2⟩ := A4.out.cells
          have ⟨b0, b1, b2⟩ := A4.out.frozen
          refine take_call (i := 6) rfl (by kernel_rfl) (by kernel_rfl) (fun K hK => ?_)
          go_simp
          clear a0 a1 a2 b0 b1 b2
          obtain ⟨u1, hu⟩ : ∃ u, put3 v11 pa x.key = u := ⟨_, rfl⟩
          rw [show ((v11.setCell ⟨pa, 0, none⟩ (.int .i64 (x.key).time)).setCell ⟨pa, 1, none⟩ (.int .i64 (x.key).source)).setCell ⟨pa, 2, none⟩ (.int .i64 (x.key).seq) = u1 from hu]
          have S := Lib.hid (S.out.put A4.out.ge x.key)
          have A5 := Lib.hid (A5.out.other hne.out.symm x.key)
          have A4 := Lib.hid (A4.out.put x.key)
          rw [hu] at S A4 A5
          clear hu
          refine hK.out _ _ S.out.both (fun _ => ?_)
          clear hK K
          try simp only [Act.put, List.setIfInBounds_toArray, List.set_cons_zero, List.set_cons_succ]
          have ⟨a0, a1, a2⟩ := A5.out.cells
          have ⟨b0, b1, b2⟩ := A5.out.frozen
          refine take_call (i := 7) rfl (by kernel_rfl) (by kernel_rfl) (fun K hK => ?_)
          go_simp
          clear a0 a1 a2 b0 b1 b2
          obtain ⟨u2, hu⟩ : ∃ u, put3 u1 pb y.key = u := ⟨_, rfl⟩
          rw [show ((u1.setCell ⟨pb, 0, none⟩ (.int .i64 (y.key).time)).setCell ⟨pb, 1, none⟩ (.int .i64 (y.key).source)).setCell ⟨pb, 2, none⟩ (.int .i64 (y.key).seq) = u2 from hu]
          have S := Lib.hid (S.out.put A5.out.ge y.key)
          have A4 := Lib.hid (A4.out.other hne.out y.key)
          have A5 := Lib.hid (A5.out.put y.key)
          rw [hu] at S A4 A5
          clear hu
          refine hK.out _ _ S.out.both (fun _ => ?_)
          clear hK K
          try simp only [Act.put, List.setIfInBounds_toArray, List.set_cons_zero, List.set_cons_succ]
          refine wpAnyH_done (by kernel_rfl) ?_ _
          exact HT.out pa pb _ ⟨A4.out, A5.out, S.out.fr⟩
      · rw [if_pos (by kernel_rfl)]
        go_simp
        obtain ⟨pb, hpa⟩ : ∃ pa, v1.heap.size = pa := ⟨_, rfl⟩
        obtain ⟨v12, hW2⟩ : ∃ W2, (v1.alloc (.cells #[.int .i64 0, .int .i64 0, .int .i64 0] 24)) = W2 := ⟨_, rfl⟩
        have hf : Fr0 none' v1 v12 := by rw [← hW2]; exact ((Fr0.refl _ _).alloc _)
        have hpq := Lib.hid (show v1.heap.size = pb from hpa)
        try have hl4 := A4.out.lt
        try have hl5 := A5.out.lt
        try have A4 := Lib.hid (A4.out.later hf)
        try have A5 := Lib.hid (A5.out.later hf)
        have A5 := Lib.hid (show NewK w1 v12 pb zeroK from by rw [← hW2, ← hpa]; exact ⟨World.alloc_heap_new v1 _, S.out.fr.size⟩)
        rw [hW2, hpa]
        have S := Lib.hid (S.out.later hf)
        clear hf hW2 hpa
        refine hK.out _ _ S.out.both (fun _ => ?_)
        clear hK K
        try simp only [Act.put, List.setIfInBounds_toArray, List.set_cons_zero, List.set_cons_succ]
        refine wpAnyH_ready (rs := [3, 4]) (by kernel_rfl) (by simp) (AllReadyH.cons (op_at rfl) (fun K hK => ?_) (AllReadyH.cons (op_at rfl) (fun K hK => ?_) AllReadyH.nil))
        · rw [if_pos (by kernel_rfl)]
          go_simp
          refine (HM.out _ _).mono ?_
          rintro e v13 ⟨rfl, hf⟩
          have hf := ((Fr0.refl none' v12)).trans hf
          have S := Lib.hid (S.out.later hf)
          try have A4 := Lib.hid (A4.out.later hf)
          try have A5 := Lib.hid (A5.out.later hf)
          clear hf
          go_wp2_with fail
          refine hK.out _ _ S.out.both (fun _ => ?_)
          clear hK K
          try simp only [Act.put, List.setIfInBounds_toArray, List.set_cons_zero, List.set_cons_succ]
          refine take_call (i := 4) rfl (by kernel_rfl) (by kernel_rfl) (fun K hK => ?_)
          go_simp
          obtain ⟨pa, hpa⟩ : ∃ pa, v13.heap.size = pa := ⟨_, rfl⟩
          obtain ⟨v14, hW2⟩ : ∃ W2, (v13.alloc (.cells #[.int .i64 0, .int .i64 0, .int .i64 0] 24)) = W2 := ⟨_, rfl⟩
          have hf : Fr0 none' v13 v14 := by rw [← hW2]; exact ((Fr0.refl _ _).alloc _)
          have hpq := Lib.hid (show v13.heap.size = pa from hpa)
          try have hl4 := A4.out.lt
          try have hl5 := A5.out.lt
          try have A4 := Lib.hid (A4.out.later hf)
          try have A5 := Lib.hid (A5.out.later hf)
          have A4 := Lib.hid (show NewK w1 v14 pa zeroK from by rw [← hW2, ← hpa]; exact ⟨World.alloc_heap_new v13 _, S.out.fr.size⟩)
          rw [hW2, hpa]
          have S := Lib.hid (S.out.later hf)
          clear hf hW2 hpa
          refine hK.out _ _ S.out.both (fun _ => ?_)
          clear hK K
          try simp only [Act.put, List.setIfInBounds_toArray, List.set_cons_zero, List.set_cons_succ]
          have hne := Lib.hid (show pa ≠ pb from fun h => by have := hl5; have := hpq.out; omega)
          have ⟨a0, a1, a2⟩ := A4.out.cells
          have ⟨b0, b1, b2⟩ := A4.out.frozen
          refine take_call (i := 6) rfl (by kernel_rfl) (by kernel_rfl) (fun K hK => ?_)
          go_simp
          clear a0 a1 a2 b0 b1 b2
          obtain ⟨u1, hu⟩ : ∃ u, put3 v14 pa x.key = u := ⟨_, rfl⟩
          rw [show ((v14.setCell ⟨pa, 0, none⟩ (.int .i64 (x.key).time)).setCell ⟨pa, 1, none⟩ (.int .i64 (x.key).source)).setCell ⟨pa, 2, none⟩ (.int .i64 (x.key).seq) = u1 from hu]
          have S := Lib.hid (S.out.put A4.out.ge x.key)
          have A5 := Lib.hid (A5.out.other hne.out.symm x.key)
          have A4 := Lib.hid (A4.out.put x.key)
          rw [hu] at S A4 A5
          clear hu
          refine hK.out _ _ S.out.both (fun _ => ?_)
          clear hK K
          try simp only [Act.put, List.setIfInBounds_toArray, List.set_cons_zero, List.set_cons_succ]
          have ⟨a0, a1, a2⟩ := A5.out.cells
          have ⟨b0, b1, b2⟩ := A5.out.frozen
          refine take_call (i := 7) rfl (by kernel_rfl) (by kernel_rfl) (fun K hK => ?_)
          go_simp
          clear a0 a1 a2 b0 b1 b2
          obtain ⟨u2, hu⟩ : ∃ u, put3 u1 pb y.key = u := ⟨_, rfl⟩
          rw [show ((u1.setCell ⟨pb, 0, none⟩ (.int .i64 (y.key).time)).setCell ⟨pb, 1, none⟩ (.int .i64 (y.key).source)).setCell ⟨pb, 2, none⟩ (.int .i64 (y.key).seq) = u2 from hu]
          have S := Lib.hid (S.out.put A5.out.ge y.key)
          have A4 := Lib.hid (A4.out.other hne.out y.key)
          have A5 := Lib.hid (A5.out.put y.key)
          rw [hu] at S A4 A5
          clear hu
          refine hK.out _ _ S.out.both (fun _ => ?_)
          clear hK K
          try simp only [Act.put, List.setIfInBounds_toArray, List.set_cons_zero, List.set_cons_succ]
          refine wpAnyH_done (by kernel_rfl) ?_ _
          exact HT.out pa pb _ ⟨A4.out, A5.out, S.out.fr⟩
        · rw [if_pos (by kernel_rfl)]
          go_simp
          obtain ⟨pa, hpa⟩ : ∃ pa, v12.heap.size = pa := ⟨_, rfl⟩
          obtain ⟨v15, hW2⟩ : ∃ W2, (v12.alloc (.cells #[.int .i64 0, .int .i64 0, .int .i64 0] 24)) = W2 := ⟨_, rfl⟩
          have hf : Fr0 none' v12 v15 := by rw [← hW2]; exact ((Fr0.refl _ _).alloc _)
          have hpq := Lib.hid (show v12.heap.size = pa from hpa)
          try have hl4 := A4.out.lt
          try have hl5 := A5.out.lt
          try have A4 := Lib.hid (A4.out.later hf)
          try have A5 := Lib.hid (A5.out.later hf)
          have A4 := Lib.hid (show NewK w1 v15 pa zeroK from by rw [← hW2, ← hpa]; exact ⟨World.alloc_heap_new v12 _, S.out.fr.size⟩)
          rw [hW2, hpa]
          have S := Lib.hid (S.out.later hf)
          clear hf hW2 hpa
          refine hK.out _ _ S.out.both (fun _ => ?_)
          clear hK K
          try simp only [Act.put, List.setIfInBounds_toArray, List.set_cons_zero, List.set_cons_succ]
          have hne := Lib.hid (show pa ≠ pb from fun h => by have := hl5; have := hpq.out; omega)
          refine take_call (i := 3) rfl (by kernel_rfl) (by kernel_rfl) (fun K hK => ?_)
          go_simp
          refine (HM.out _ _).mono ?_
          rintro e v16 ⟨rfl, hf⟩
          have hf := ((Fr0.refl none' v15)).trans hf
          have S := Lib.hid (S.out.later hf)
          try have A4 := Lib.hid (A4.out.later hf)
          try have A5 := Lib.hid (A5.out.later hf)
          clear hf
          go_wp2_with fail
          refine hK.out _ _ S.out.both (fun _ => ?_)
          clear hK K
          try simp only [Act.put, List.setIfInBounds_toArray, List.set_cons_zero, List.set_cons_succ]
          have ⟨a0, a1, a2⟩ := A4.out.cells
          have ⟨b0, b1, b2⟩ := A4.out.frozen
          refine take_call (i := 6) rfl (by kernel_rfl) (by kernel_rfl) (fun K hK => ?_)
          go_simp
          clear a0 a1 a2 b0 b1 b2
          obtain ⟨u1, hu⟩ : ∃ u, put3 v16 pa x.key = u := ⟨_, rfl⟩
          rw [show ((v16.setCell ⟨pa, 0, none⟩ (.int .i64 (x.key).time)).setCell ⟨pa, 1, none⟩ (.int .i64 (x.key).source)).setCell ⟨pa, 2, none⟩ (.int .i64 (x.key).seq) = u1 from hu]
          have S := Lib.hid (S.out.put A4.out.ge x.key)
          have A5 := Lib.hid (A5.out.other hne.out.symm x.key)
          have A4 := Lib.hid (A4.out.put x.key)
          rw [hu] at S A4 A5
          clear hu
          refine hK.out _ _ S.out.both (fun _ => ?_)
          clear hK K
          try simp only [Act.put, List.setIfInBounds_toArray, List.set_cons_zero, List.set_cons_succ]
          have ⟨a0, a1, a2⟩ := A5.out.cells
          have ⟨b0, b1, b2⟩ := A5.out.frozen
          refine take_call (i := 7) rfl (by kernel_rfl) (by kernel_rfl) (fun K hK => ?_)
          go_simp
          clear a0 a1 a2 b0 b1 b2
          obtain ⟨u2, hu⟩ : ∃ u, put3 u1 pb y.key = u := ⟨_, rfl⟩
          rw [show ((u1.setCell ⟨pb, 0, none⟩ (.int .i64 (y.key).time)).setCell ⟨pb, 1, none⟩ (.int .i64 (y.key).source)).setCell ⟨pb, 2, none⟩ (.int .i64 (y.key).seq) = u2 from hu]
          have S := Lib.hid (S.out.put A5.out.ge y.key)
          have A4 := Lib.hid (A4.out.other hne.out y.key)
          have A5 := Lib.hid (A5.out.put y.key)
          rw [hu] at S A4 A5
          clear hu
          refine hK.out _ _ S.out.both (fun _ => ?_)
          clear hK K
          try simp only [Act.put, List.setIfInBounds_toArray, List.set_cons_zero, List.set_cons_succ]
          refine wpAnyH_done (by kernel_rfl) ?_ _
          exact HT.out pa pb _ ⟨A4.out, A5.out, S.out.fr⟩
    · rw [if_pos (by kernel_rfl)]
      go_simp
      obtain ⟨pa, hpa⟩ : ∃ pa, w1.heap.size = pa := ⟨_, rfl⟩
      obtain ⟨v17, hW2⟩ : ∃ W2, (w1.alloc (.cells #[.int .i64 0, .int .i64 0, .int .i64 0] 24)).drew = W2 := ⟨_, rfl⟩
      have hf : Fr0 none' w1 v17 := by rw [← hW2]; exact ((Fr0.refl _ _).alloc _).drew
      have hpq := Lib.hid (show w1.heap.size = pa from hpa)
      try have hl4 := A4.out.lt
      try have hl5 := A5.out.lt
      try have A4 := Lib.hid (A4.out.later hf)
      try have A5 := Lib.hid (A5.out.later hf)
      have A4 := Lib.hid (show NewK w1 v17 pa zeroK from by rw [← hW2, ← hpa]; exact ⟨World.alloc_heap_new w1 _, S.out.fr.size⟩)
      rw [hW2, hpa]
      have S := Lib.hid (S.out.later hf)
      clear hf hW2 hpa
      refine hK.out _ _ S.out.both (fun _ => ?_)
      clear hK K
      try simp only [Act.put, List.setIfInBounds_toArray, List.set_cons_zero, List.set_cons_succ]
      refine wpAnyH_ready (rs := [1, 5]) (by kernel_rfl) (by simp) (AllReadyH.cons (op_at rfl) (fun K hK => ?_) (AllReadyH.cons (op_at rfl) (fun K hK => ?_) AllReadyH.nil))
      · rw [if_pos (by kernel_rfl)]
        go_simp
        refine (HM.out _ _).mono ?_
        rintro e v18 ⟨rfl, hf⟩
        have hf := ((Fr0.refl none' v17)).trans hf
        have S := Lib.hid (S.out.later hf)
        try have A4 := Lib.hid (A4.out.later hf)
        try have A5 := Lib.hid (A5.out.later hf)
        clear hf
        go_wp2_with fail
        refine hK.out _ _ S.out.both (fun _ => ?_)
        clear hK K
        try simp only [Act.put, List.setIfInBounds_toArray, List.set_cons_zero, List.set_cons_succ]
        refine wpAnyH_ready (rs := [3, 5]) (by kernel_rfl) (by simp) (AllReadyH.cons (op_at rfl) (fun K hK => ?_) (AllReadyH.cons (op_at rfl) (fun K hK => ?_) AllReadyH.nil))
        · rw [if_pos (by kernel_rfl)]
          go_simp
          refine (HM.out _ _).mono ?_
          rintro e v19 ⟨rfl, hf⟩
          have hf := ((Fr0.refl none' v18)).trans hf
          have S := Lib.hid (S.out.later hf)
          try have A4 := Lib.hid (A4.out.later hf)
          try have A5 := Lib.hid (A5.out.later hf)
          clear hf
          go_wp2_with fail
          refine hK.out _ _ S.out.both (fun _ => ?_)
          clear hK K
          try simp only [Act.put, List.setIfInBounds_toArray, List.set_cons_zero, List.set_cons_succ]
          refine take_call (i := 5) rfl (by kernel_rfl) (by kernel_rfl) (fun K hK => ?_)
          go_simp
          obtain ⟨pb, hpa⟩ : ∃ pa, v19.heap.size = pa := ⟨_, rfl⟩
          obtain ⟨v20, hW2⟩ : ∃ W2, (v19.alloc (.cells #[.int .i64 0, .int .i64 0, .int .i64 0] 24)) = W2 := ⟨_, rfl⟩
          have hf : Fr0 none' v19 v20 := by rw [← hW2]; exact ((Fr0.refl _ _).alloc _)
          have hpq := Lib.hid (show v19.heap.size = pb from hpa)
          try have hl4 := A4.out.lt
          try have hl5 := A5.out.lt
          try have A4 := Lib.hid (A4.out.later hf)
          try have A5 := Lib.hid (A5.out.later hf)
          have A5 := Lib.hid (show NewK w1 v20 pb zeroK from by rw [← hW2, ← hpa]; exact ⟨World.alloc_heap_new v19 _, S.out.fr.size⟩)
          rw [hW2, hpa]
          have S := Lib.hid (S.out.later hf)
          clear hf hW2 hpa
          refine hK.out _ _ S.out.both (fun _ => ?_)
          clear hK K
          try simp only [Act.put, List.setIfInBounds_toArray, List.set_cons_zero, List.set_cons_succ]
          have hne := Lib.hid (show pa ≠ pb from fun h => by have := hl4; have := hpq.out; omega)
          have ⟨a0, a1, a2⟩ := A4.out.cells
          have ⟨b0, b1, b2⟩ := A4.out.frozen
          refine take_call (i := 6) rfl (by kernel_rfl) (by kernel_rfl) (fun K hK => ?_)
          go_simp
          clear a0 a1 a2 b0 b1 b2
          obtain ⟨u1, hu⟩ : ∃ u, put3 v20 pa x.key = u := ⟨_, rfl⟩
          rw [show ((v20.setCell ⟨pa, 0, none⟩ (.int .i64 (x.key).time)).setCell ⟨pa, 1, none⟩ (.int .i64 (x.key).source)).setCell ⟨pa, 2, none⟩ (.int .i64 (x.key).seq) = u1 from hu]
          have S := Lib.hid (S.out.put A4.out.ge x.key)
          have A5 := Lib.hid (A5.out.other hne.out.symm x.key)
          have A4 := Lib.hid (A4.out.put x.key)
          rw [hu] at S A4 A5
          clear hu
          refine hK.out _ _ S.out.both (fun _ => ?_)
          clear hK K
          try simp only [Act.put, List.setIfInBounds_toArray, List.set_cons_zero, List.set_cons_succ]
          have ⟨a0, a1, a2⟩ := A5.out.cells
          have ⟨b0, b1, b2⟩ := A5.out.frozen
          refine take_call (i := 7) rfl (by kernel_rfl) (by kernel_rfl) (fun K hK => ?_)
          go_simp
          clear a0 a1 a2 b0 b1 b2
          obtain ⟨u2, hu⟩ : ∃ u, put3 u1 pb y.key = u := ⟨_, rfl⟩
          rw [show ((u1.setCell ⟨pb, 0, none⟩ (.int .i64 (y.key).time)).setCell ⟨pb, 1, none⟩ (.int .i64 (y.key).source)).setCell ⟨pb, 2, none⟩ (.int .i64 (y.key).seq) = u2 from hu]
          have S := Lib.hid (S.out.put A5.out.ge y.key)
          have A4 := Lib.hid (A4.out.other hne.out y.key)
          have A5 := Lib.hid (A5.out.put y.key)
          rw [hu] at S A4 A5
          clear hu
          refine hK.out _ _ S.out.both (fun _ => ?_)
          clear hK K
          try simp only [Act.put, List.setIfInBounds_toArray, List.set_cons_zero, List.set_cons_succ]
          refine wpAnyH_done (by kernel_rfl) ?_ _
          exact HT.out pa pb _ ⟨A4.out, A5.out, S.out.fr⟩
        · rw [if_pos (by kernel_rfl)]
          go_simp
          obtain ⟨pb, hpa⟩ : ∃ pa, v18.heap.size = pa := ⟨_, rfl⟩
          obtain ⟨v21, hW2⟩ : ∃ W2, (v18.alloc (.cells #[.int .i64 0, .int .i64 0, .int .i64 0] 24)) = W2 := ⟨_, rfl⟩
          have hf : Fr0 none' v18 v21 := by rw [← hW2]; exact ((Fr0.refl _ _).alloc _)
          have hpq := Lib.hid (show v18.heap.size = pb from hpa)
          try have hl4 := A4.out.lt
          try have hl5 := A5.out.lt
          try have A4 := Lib.hid (A4.out.later hf)
          try have A5 := Lib.hid (A5.out.later hf)
          have A5 := Lib.hid (show NewK w1 v21 pb zeroK from by rw [← hW2, ← hpa]; exact ⟨World.alloc_heap_new v18 _, S.out.fr.size⟩)
          rw [hW2, hpa]
          have S := Lib.hid (S.out.later hf)
          clear hf hW2 hpa
          refine hK.out _ _ S.out.both (fun _ => ?_)
          clear hK K
          try simp only [Act.put, List.setIfInBounds_toArray, List.set_cons_zero, List.set_cons_succ]
          have hne := Lib.hid (show pa ≠ pb from fun h => by have := hl4; have := hpq.out; omega)
          refine take_call (i := 3) rfl (by kernel_rfl) (by kernel_rfl) (fun K hK => ?_)
          go_simp
          refine (HM.out _ _).mono ?_
          rintro e v22 ⟨rfl, hf⟩
          have hf := ((Fr0.refl none' v21)).trans hf
          have S := Lib.hid (S.out.later hf)
          try have A4 := Lib.hid (A4.out.later hf)
          try have A5 := Lib.hid (A5.out.later hf)
          clear hf
          go_wp2_with fail
          refine hK.out _ _ S.out.both (fun _ => ?_)
          clear hK K
          try simp only [Act.put, List.setIfInBounds_toArray, List.set_cons_zero, List.set_cons_succ]
          have ⟨a0, a1, a2⟩ := A4.out.cells
          have ⟨b0, b1, b2⟩ := A4.out.frozen
          refine take_call (i := 6) rfl (by kernel_rfl) (by kernel_rfl) (fun K hK => ?_)
          go_simp
          clear a0 a1 a2 b0 b1 b2
          obtain ⟨u1, hu⟩ : ∃ u, put3 v22 pa x.key = u := ⟨_, rfl⟩
          rw [show ((v22.setCell ⟨pa, 0, none⟩ (.int .i64 (x.key).time)).setCell ⟨pa, 1, none⟩ (.int .i64 (x.key).source)).setCell ⟨pa, 2, none⟩ (.int .i64 (x.key).seq) = u1 from hu]
          have S := Lib.hid (S.out.put A4.out.ge x.key)
          have A5 := Lib.hid (A5.out.other hne.out.symm x.key)
          have A4 := Lib.hid (A4.out.put x.key)
          rw [hu] at S A4 A5
          clear hu
          refine hK.out _ _ S.out.both (fun _ => ?_)
          clear hK K
          try simp only [Act.put, List.setIfInBounds_toArray, List.set_cons_zero, List.set_cons_succ]
          have ⟨a0, a1, a2⟩ := A5.out.cells
          have ⟨b0, b1, b2⟩ := A5.out.frozen
          refine take_call (i := 7) rfl (by kernel_rfl) (by kernel_rfl) (fun K hK => ?_)
          go_simp
          clear a0 a1 a2 b0 b1 b2
          obtain ⟨u2, hu⟩ : ∃ u, put3 u1 pb y.key = u := ⟨_, rfl⟩
          rw [show ((u1.setCell ⟨pb, 0, none⟩ (.int .i64 (y.key).time)).setCell ⟨pb, 1, none⟩ (.int .i64 (y.key).source)).setCell ⟨pb, 2, none⟩ (.int .i64 (y.key).seq) = u2 from hu]
          have S := Lib.hid (S.out.put A5.out.ge y.key)
          have A4 := Lib.hid (A4.out.other hne.out y.key)
          have A5 := Lib.hid (A5.out.put y.key)
          rw [hu] at S A4 A5
          clear hu
          refine hK.out _ _ S.out.both (fun _ => ?_)
          clear hK K
          try simp only [Act.put, List.setIfInBounds_toArray, List.set_cons_zero, List.set_cons_succ]
          refine wpAnyH_done (by kernel_rfl) ?_ _
          exact HT.out pa pb _ ⟨A4.out, A5.out, S.out.fr⟩
      · rw [if_pos (by kernel_rfl)]
        go_simp
        obtain ⟨pb, hpa⟩ : ∃ pa, v17.heap.size = pa := ⟨_, rfl⟩
        obtain ⟨v23, hW2⟩ : ∃ W2, (v17.alloc (.cells #[.int .i64 0, .int .i64 0, .int .i64 0] 24)) = W2 := ⟨_, rfl⟩
        have hf : Fr0 none' v17 v23 := by rw [← hW2]; exact ((Fr0.refl _ _).alloc _)
        have hpq := Lib.hid (show v17.heap.size = pb from hpa)
        try have hl4 := A4.out.lt
        try have hl5 := A5.out.lt
        try have A4 := Lib.hid (A4.out.later hf)
        try have A5 := Lib.hid (A5.out.later hf)
        have A5 := Lib.hid (show NewK w1 v23 pb zeroK from by rw [← hW2, ← hpa]; exact ⟨World.alloc_heap_new v17 _, S.out.fr.size⟩)
        rw [hW2, hpa]
        have S := Lib.hid (S.out.later hf)
        clear hf hW2 hpa
        refine hK.out _ _ S.out.both (fun _ => ?_)
        clear hK K
        try simp only [Act.put, List.setIfInBounds_toArray, List.set_cons_zero, List.set_cons_succ]
        have hne := Lib.hid (show pa ≠ pb from fun h => by have := hl4; have := hpq.out; omega)
        refine take_call (i := 1) rfl (by kernel_rfl) (by kernel_rfl) (fun K hK => ?_)
        go_simp
        refine (HM.out _ _).mono ?_
        rintro e v24 ⟨rfl, hf⟩
        have hf := ((Fr0.refl none' v23)).trans hf
        have S := Lib.hid (S.out.later hf)
        try have A4 := Lib.hid (A4.out.later hf)
        try have A5 := Lib.hid (A5.out.later hf)
        clear hf
        go_wp2_with fail
        refine hK.out _ _ S.out.both (fun _ => ?_)
        clear hK K
        try simp only [Act.put, List.setIfInBounds_toArray, List.set_cons_zero, List.set_cons_succ]
        refine take_call (i := 3) rfl (by kernel_rfl) (by kernel_rfl) (fun K hK => ?_)
        go_simp
        refine (HM.out _ _).mono ?_
        rintro e v25 ⟨rfl, hf⟩
        have hf := ((Fr0.refl none' v24)).trans hf
        have S := Lib.hid (S.out.later hf)
        try have A4 := Lib.hid (A4.out.later hf)
        try have A5 := Lib.hid (A5.out.later hf)
        clear hf
        go_wp2_with fail
        refine hK.out _ _ S.out.both (fun _ => ?_)
        clear hK K
        try simp only [Act.put, List.setIfInBounds_toArray, List.set_cons_zero, List.set_cons_succ]
        have ⟨a0, a1, a2⟩ := A4.out.cells
        have ⟨b0, b1, b2⟩ := A4.out.frozen
        refine take_call (i := 6) rfl (by kernel_rfl) (by kernel_rfl) (fun K hK => ?_)
        go_simp
        clear a0 a1 a2 b0 b1 b2
        obtain ⟨u1, hu⟩ : ∃ u, put3 v25 pa x.key = u := ⟨_, rfl⟩
        rw [show ((v25.setCell ⟨pa, 0, none⟩ (.int .i64 (x.key).time)).setCell ⟨pa, 1, none⟩ (.int .i64 (x.key).source)).setCell ⟨pa, 2, none⟩ (.int .i64 (x.key).seq) = u1 from hu]
        have S := Lib.hid (S.out.put A4.out.ge x.key)
        have A5 := Lib.hid (A5.out.other hne.out.symm x.key)
        have A4 := Lib.hid (A4.out.put x.key)
        rw [hu] at S A4 A5
        clear hu
        refine hK.out _ _ S.out.both (fun _ => ?_)
        clear hK K
        try simp only [Act.put, List.setIfInBounds_toArray, List.set_cons_zero, List.set_cons_succ]
        have ⟨a0, a1, a2⟩ := A5.out.cells
        have ⟨b0, b1, b2⟩ := A5.out.frozen
        refine take_call (i := 7) rfl (by kernel_rfl) (by kernel_rfl) (fun K hK => ?_)
        go_simp
        clear a0 a1 a2 b0 b1 b2
        obtain ⟨u2, hu⟩ : ∃ u, put3 u1 pb y.key = u := ⟨_, rfl⟩
        rw [show ((u1.setCell ⟨pb, 0, none⟩ (.int .i64 (y.key).time)).setCell ⟨pb, 1, none⟩ (.int .i64 (y.key).source)).setCell ⟨pb, 2, none⟩ (.int .i64 (y.key).seq) = u2 from hu]
        have S := Lib.hid (S.out.put A5.out.ge y.key)
        have A4 := Lib.hid (A4.out.other hne.out y.key)
        have A5 := Lib.hid (A5.out.put y.key)
        rw [hu] at S A4 A5
        clear hu
        refine hK.out _ _ S.out.both (fun _ => ?_)
        clear hK K
        try simp only [Act.put, List.setIfInBounds_toArray, List.set_cons_zero, List.set_cons_succ]
        refine wpAnyH_done (by kernel_rfl) ?_ _
        exact HT.out pa pb _ ⟨A4.out, A5.out, S.out.fr⟩
    · rw [if_pos (by kernel_rfl)]
      go_simp
      obtain ⟨pb, hpa⟩ : ∃ pa, w1.heap.size = pa := ⟨_, rfl⟩
      obtain ⟨v26, hW2⟩ : ∃ W2, (w1.alloc (.cells #[.int .i64 0, .int .i64 0, .int .i64 0] 24)).drew = W2 := ⟨_, rfl⟩
      have hf : Fr0 none' w1 v26 := by rw [← hW2]; exact ((Fr0.refl _ _).alloc _).drew
      have hpq := Lib.hid (show w1.heap.size = pb from hpa)
      try have hl4 := A4.out.lt
      try have hl5 := A5.out.lt
      try have A4 := Lib.hid (A4.out.later hf)
      try have A5 := Lib.hid (A5.out.later hf)
      have A5 := Lib.hid (show NewK w1 v26 pb zeroK from by rw [← hW2, ← hpa]; exact ⟨World.alloc_heap_new w1 _, S.out.fr.size⟩)
      rw [hW2, hpa]
      have S := Lib.hid (S.out.later hf)
      clear hf hW2 hpa
      refine hK.out _ _ S.out.both (fun _ => ?_)
      clear hK K
      try simp only [Act.put, List.setIfInBounds_toArray, List.set_cons_zero, List.set_cons_succ]
      refine wpAnyH_ready (rs := [1, 4]) (by kernel_rfl) (by simp) (AllReadyH.cons (op_at rfl) (fun K hK => ?_) (AllReadyH.cons (op_at rfl) (fun K hK => ?_) AllReadyH.nil))
      · rw [if_pos (by kernel_rfl)]
        go_simp
        refine (HM.out _ _).mono ?_
        rintro e v27 ⟨rfl, hf⟩
        have hf := ((Fr0.refl none' v26)).trans hf
        have S := Lib.hid (S.out.later hf)
        try have A4 := Lib.hid (A4.out.later hf)
        try have A5 := Lib.hid (A5.out.later hf)
        clear hf
        go_wp2_with fail
        refine hK.out _ _ S.out.both (fun _ => ?_)
        clear hK K
        try simp only [Act.put, List.setIfInBounds_toArray, List.set_cons_zero, List.set_cons_succ]
        refine wpAnyH_ready (rs := [3, 4]) (by kernel_rfl) (by simp) (AllReadyH.cons (op_at rfl) (fun K hK => ?_) (AllReadyH.cons (op_at rfl) (fun K hK => ?_) AllReadyH.nil))
        · rw [if_pos (by kernel_rfl)]
          go_simp
          refine (HM.out _ _).mono ?_
          rintro e v28 ⟨rfl, hf⟩
          have hf := ((Fr0.refl none' v27)).trans hf
          have S := Lib.hid (S.out.later hf)
          try have A4 := Lib.hid (A4.out.later hf)
          try have A5 := Lib.hid (A5.out.later hf)
          clear hf
          go_wp2_with fail
          refine hK.out _ _ S.out.both (fun _ => ?_)
          clear hK K
          try simp only [Act.put, List.setIfInBounds_toArray, List.set_cons_zero, List.set_cons_succ]
          refine take_call (i := 4) rfl (by kernel_rfl) (by kernel_rfl) (fun K hK => ?_)
          go_simp
          obtain ⟨pa, hpa⟩ : ∃ pa, v28.heap.size = pa := ⟨_, rfl⟩
          obtain ⟨v29, hW2⟩ : ∃ W2, (v28.alloc (.cells #[.int .i64 0, .int .i64 0, .int .i64 0] 24)) = W2 := ⟨_, rfl⟩
          have hf : Fr0 none' v28 v29 := by rw [← hW2]; exact ((Fr0.refl _ _).alloc _)
          have hpq := Lib.hid (show v28.heap.size = pa from hpa)
          try have hl4 := A4.out.lt
          try have hl5 := A5.out.lt
          try have A4 := Lib.hid (A4.out.later hf)
          try have A5 := Lib.hid (A5.out.later hf)
          have A4 := Lib.hid (show NewK w1 v29 pa zeroK from by rw [← hW2, ← hpa]; exact ⟨World.alloc_heap_new v28 _, S.out.fr.size⟩)
          rw [hW2, hpa]
          have S := Lib.hid (S.out.later hf)
          clear hf hW2 hpa
          refine hK.out _ _ S.out.both (fun _ => ?_)
          clear hK K
          try simp only [Act.put, List.setIfInBounds_toArray, List.set_cons_zero, List.set_cons_succ]
          have hne := Lib.hid (show pa ≠ pb from fun h => by have := hl5; have := hpq.out; omega)
          have ⟨a0, a1, a2⟩ := A4.out.cells
          have ⟨b0, b1, b2⟩ := A4.out.frozen
          refine take_call (i := 6) rfl (by kernel_rfl) (by kernel_rfl) (fun K hK => ?_)
          go_simp
          clear a0 a1 a2 b0 b1 b2
          obtain ⟨u1, hu⟩ : ∃ u, put3 v29 pa x.key = u := ⟨_, rfl⟩
          rw [show ((v29.setCell ⟨pa, 0, none⟩ (.int .i64 (x.key).time)).setCell ⟨pa, 1, none⟩ (.int .i64 (x.key).source)).setCell ⟨pa, 2, none⟩ (.int .i64 (x.key).seq) = u1 from hu]
          have S := Lib.hid (S.out.put A4.out.ge x.key)
          have A5 := Lib.hid (A5.out.other hne.out.symm x.key)
          have A4 := Lib.hid (A4.out.put x.key)
          rw [hu] at S A4 A5
          clear hu
          refine hK.out _ _ S.out.both (fun _ => ?_)
          clear hK K
          try simp only [Act.put, List.setIfInBounds_toArray, List.set_cons_zero, List.set_cons_succ]
          have ⟨a0, a1, a2⟩ := A5.out.cells
          have ⟨b0, b1, b2⟩ := A5.out.frozen
          refine take_call (i := 7) rfl (by kernel_rfl) (by kernel_rfl) (fun K hK => ?_)
          go_simp
          clear a0 a1 a2 b0 b1 b2
          obtain ⟨u2, hu⟩ : ∃ u, put3 u1 pb y.key = u := ⟨_, rfl⟩
          rw [show ((u1.setCell ⟨pb, 0, none⟩ (.int .i64 (y.key).time)).setCell ⟨pb, 1, none⟩ (.int .i64 (y.key).source)).setCell ⟨pb, 2, none⟩ (.int .i64 (y.key).seq) = u2 from hu]
          have S := Lib.hid (S.out.put A5.out.ge y.key)
          have A4 := Lib.hid (A4.out.other hne.out y.key)
          have A5 := Lib.hid (A5.out.put y.key)
          rw [hu] at S A4 A5
          clear hu
          refine hK.out _ _ S.out.both (fun _ => ?_)
          clear hK K
          try simp only [Act.put, List.setIfInBounds_toArray, List.set_cons_zero, List.set_cons_succ]
          refine wpAnyH_done (by kernel_rfl) ?_ _
          exact HT.out pa pb _ ⟨A4.out, A5.out, S.out.fr⟩
        · rw [if_pos (by kernel_rfl)]
          go_simp
          obtain ⟨pa, hpa⟩ : ∃ pa, v27.heap.size = pa := ⟨_, rfl⟩
          obtain ⟨v30, hW2⟩ : ∃ W2, (v27.alloc (.cells #[.int .i64 0, .int .i64 0, .int .i64 0] 24)) = W2 := ⟨_, rfl⟩
          have hf : Fr0 none' v27 v30 := by rw [← hW2]; exact ((Fr0.refl _ _).alloc _)
          have hpq := Lib.hid (show v27.heap.size = pa from hpa)
          try have hl4 := A4.out.lt
          try have hl5 := A5.out.lt
          try have A4 := Lib.hid (A4.out.later hf)
          try have A5 := Lib.hid (A5.out.later hf)
          have A4 := Lib.hid (show NewK w1 v30 pa zeroK from by rw [← hW2, ← hpa]; exact ⟨World.alloc_heap_new v27 _, S.out.fr.size⟩)
          rw [hW2, hpa]
          have S := Lib.hid (S.out.later hf)
          clear hf hW2 hpa
          refine hK.out _ _ S.out.both (fun _ => ?_)
          clear hK K
          try simp only [Act.put, List.setIfInBounds_toArray, List.set_cons_zero, List.set_cons_succ]
          have hne := Lib.hid (show pa ≠ pb from fun h => by have := hl5; have := hpq.out; omega)
          refine take_call (i := 3) rfl (by kernel_rfl) (by kernel_rfl) (fun K hK => ?_)
          go_simp
          refine (HM.out _ _).mono ?_
          rintro e v31 ⟨rfl, hf⟩
          have hf := ((Fr0.refl none' v30)).trans hf
          have S := Lib.hid (S.out.later hf)
          try have A4 := Lib.hid (A4.out.later hf)
          try have A5 := Lib.hid (A5.out.later hf)
          clear hf
          go_wp2_with fail
          refine hK.out _ _ S.out.both (fun _ => ?_)
          clear hK K
          try simp only [Act.put, List.setIfInBounds_toArray, List.set_cons_zero, List.set_cons_succ]
          have ⟨a0, a1, a2⟩ := A4.out.cells
          have ⟨b0, b1, b2⟩ := A4.out.frozen
          refine take_call (i := 6) rfl (by kernel_rfl) (by kernel_rfl) (fun K hK => ?_)
          go_simp
          clear a0 a1 a2 b0 b1 b2
          obtain ⟨u1, hu⟩ : ∃ u, put3 v31 pa x.key = u := ⟨_, rfl⟩
          rw [show ((v31.setCell ⟨pa, 0, none⟩ (.int .i64 (x.key).time)).setCell ⟨pa, 1, none⟩ (.int .i64 (x.key).source)).setCell ⟨pa, 2, none⟩ (.int .i64 (x.key).seq) = u1 from hu]
          have S := Lib.hid (S.out.put A4.out.ge x.key)
          have A5 := Lib.hid (A5.out.other hne.out.symm x.key)
          have A4 := Lib.hid (A4.out.put x.key)
          rw [hu] at S A4 A5
          clear hu
          refine hK.out _ _ S.out.both (fun _ => ?_)
          clear hK K
          try simp only [Act.put, List.setIfInBounds_toArray, List.set_cons_zero, List.set_cons_succ]
          have ⟨a0, a1, a2⟩ := A5.out.cells
          have ⟨b0, b1, b2⟩ := A5.out.frozen
          refine take_call (i := 7) rfl (by kernel_rfl) (by kernel_rfl) (fun K hK => ?_)
          go_simp
          clear a0 a1 a2 b0 b1 b2
          obtain ⟨u2, hu⟩ : ∃ u, put3 u1 pb y.key = u := ⟨_, rfl⟩
          rw [show ((u1.setCell ⟨pb, 0, none⟩ (.int .i64 (y.key).time)).setCell ⟨pb, 1, none⟩ (.int .i64 (y.key).source)).setCell ⟨pb, 2, none⟩ (.int .i64 (y.key).seq) = u2 from hu]
          have S := Lib.hid (S.out.put A5.out.ge y.key)
          have A4 := Lib.hid (A4.out.other hne.out y.key)
          have A5 := Lib.hid (A5.out.put y.key)
          rw [hu] at S A4 A5
          clear hu
          refine hK.out _ _ S.out.both (fun _ => ?_)
          clear hK K
          try simp only [Act.put, List.setIfInBounds_toArray, List.set_cons_zero, List.set_cons_succ]
          refine wpAnyH_done (by kernel_rfl) ?_ _
          exact HT.out pa pb _ ⟨A4.out, A5.out, S.out.fr⟩
      · rw [if_pos (by kernel_rfl)]
        go_simp
        obtain ⟨pa, hpa⟩ : ∃ pa, v26.heap.size = pa := ⟨_, rfl⟩
        obtain ⟨v32, hW2⟩ : ∃ W2, (v26.alloc (.cells #[.int .i64 0, .int .i64 0, .int .i64 0] 24)) = W2 := ⟨_, rfl⟩
        have hf : Fr0 none' v26 v32 := by rw [← hW2]; exact ((Fr0.refl _ _).alloc _)
        have hpq := Lib.hid (show v26.heap.size = pa from hpa)
        try have hl4 := A4.out.lt
        try have hl5 := A5.out.lt
        try have A4 := Lib.hid (A4.out.later hf)
        try have A5 := Lib.hid (A5.out.later hf)
        have A4 := Lib.hid (show NewK w1 v32 pa zeroK from by rw [← hW2, ← hpa]; exact ⟨World.alloc_heap_new v26 _, S.out.fr.size⟩)
        rw [hW2, hpa]
        have S := Lib.hid (S.out.later hf)
        clear hf hW2 hpa
        refine hK.out _ _ S.out.both (fun _ => ?_)
        clear hK K
        try simp only [Act.put, List.setIfInBounds_toArray, List.set_cons_zero, List.set_cons_succ]
        have hne := Lib.hid (show pa ≠ pb from fun h => by have := hl5; have := hpq.out; omega)
        refine take_call (i := 1) rfl (by kernel_rfl) (by kernel_rfl) (fun K hK => ?_)
        go_simp
        refine (HM.out _ _).mono ?_
        rintro e v33 ⟨rfl, hf⟩
        have hf := ((Fr0.refl none' v32)).trans hf
        have S := Lib.hid (S.out.later hf)
        try have A4 := Lib.hid (A4.out.later hf)
        try have A5 := Lib.hid (A5.out.later hf)
        clear hf
        go_wp2_with fail
        refine hK.out _ _ S.out.both (fun _ => ?_)
        clear hK K
        try simp only [Act.put, List.setIfInBounds_toArray, List.set_cons_zero, List.set_cons_succ]
        refine take_call (i := 3) rfl (by kernel_rfl) (by kernel_rfl) (fun K hK => ?_)
        go_simp
        refine (HM.out _ _).mono ?_
        rintro e v34 ⟨rfl, hf⟩
        have hf := ((Fr0.refl none' v33)).trans hf
        have S := Lib.hid (S.out.later hf)
        try have A4 := Lib.hid (A4.out.later hf)
        try have A5 := Lib.hid (A5.out.later hf)
        clear hf
        go_wp2_with fail
        refine hK.out _ _ S.out.both (fun _ => ?_)
        clear hK K
        try simp only [Act.put, List.setIfInBounds_toArray, List.set_cons_zero, List.set_cons_succ]
        have ⟨a0, a1, a2⟩ := A4.out.cells
        have ⟨b0, b1, b2⟩ := A4.out.frozen
        refine take_call (i := 6) rfl (by kernel_rfl) (by kernel_rfl) (fun K hK => ?_)
        go_simp
        clear a0 a1 a2 b0 b1 b2
        obtain ⟨u1, hu⟩ : ∃ u, put3 v34 pa x.key = u := ⟨_, rfl⟩
        rw [show ((v34.setCell ⟨pa, 0, none⟩ (.int .i64 (x.key).time)).setCell ⟨pa, 1, none⟩ (.int .i64 (x.key).source)).setCell ⟨pa, 2, none⟩ (.int .i64 (x.key).seq) = u1 from hu]
        have S := Lib.hid (S.out.put A4.out.ge x.key)
        have A5 := Lib.hid (A5.out.other hne.out.symm x.key)
        have A4 := Lib.hid (A4.out.put x.key)
        rw [hu] at S A4 A5
        clear hu
        refine hK.out _ _ S.out.both (fun _ => ?_)
        clear hK K
        try simp only [Act.put, List.setIfInBounds_toArray, List.set_cons_zero, List.set_cons_succ]
        have ⟨a0, a1, a2⟩ := A5.out.cells
        have ⟨b0, b1, b2⟩ := A5.out.frozen
        refine take_call (i := 7) rfl (by kernel_rfl) (by kernel_rfl) (fun K hK => ?_)
        go_simp
        clear a0 a1 a2 b0 b1 b2
        obtain ⟨u2, hu⟩ : ∃ u, put3 u1 pb y.key = u := ⟨_, rfl⟩
        rw [show ((u1.setCell ⟨pb, 0, none⟩ (.int .i64 (y.key).time)).setCell ⟨pb, 1, none⟩ (.int .i64 (y.key).source)).setCell ⟨pb, 2, none⟩ (.int .i64 (y.key).seq) = u2 from hu]
        have S := Lib.hid (S.out.put A5.out.ge y.key)
        have A4 := Lib.hid (A4.out.other hne.out y.key)
        have A5 := Lib.hid (A5.out.put y.key)
        rw [hu] at S A4 A5
        clear hu
        refine hK.out _ _ S.out.both (fun _ => ?_)
        clear hK K
        try simp only [Act.put, List.setIfInBounds_toArray, List.set_cons_zero, List.set_cons_succ]
        refine wpAnyH_done (by kernel_rfl) ?_ _
        exact HT.out pa pb _ ⟨A4.out, A5.out, S.out.fr⟩
end Go.Proofs.YtkohmodnjcoapaaDoor

namespace Go.Proofs.YtkohmodnjcoapaaDoor.keyBytes
open Go Go.ChangeShapes Go.WideShapes Go.ChangeAt Go.RowKit Go.Proofs.YtkohmodnjcoapaaDoor

set_option maxRecDepth 100000 in
theorem lifted (os : Os) (started : os.Started) (H : Type) (enc : TypeId × Value → H) :
    ReturnsInHanded {} Tryd.checked os 5 .any (fun w args => (Rows.keyBytesSpec.pre enc Tryd.prog Tryd.f5 Rows.keyBytesRow.domain false w args ∧ laidMet Tryd.prog laidK w) ∧ sizedMet enc Tryd.prog Tryd.f5 (OpenSpec.ofChange Rows.keyBytesSpec) false w args)
      (Rows.keyBytesSpec.post enc Tryd.prog Tryd.f5 false true false false) := by
  refine returnsInHanded_of_change_and (C := Tryd.checked) (X := fun w _ => laidMet Tryd.prog laidK w) (fun _ _ _ hh h => h.of_heap hh) own_knob started (by kernel_rfl) Tryd.func5
    (ChangeSpec.witness_at (enc := enc) (C := Tryd.checked) (os := os) (X := fun w _ => laidMet Tryd.prog laidK w) false (laidWorld os) #[.agg #[.int .u64 0, .int .u32 0, .int .u32 0], .agg #[.int .u64 0, .int .u32 0, .int .u32 0]] 8 rfl (by kernel_rfl) (by kernel_rfl) (by kernel_rfl) (by kernel_rfl) (by kernel_rfl) (laidWorld_met os _)) ?_
  intro W base args ds gs before hval0 hW _ hsz0 hL _
  have hval : ∀ (j : Nat) t v, Tryd.f5.params[j]? = some t → args[j]? = some v → Value.okWide Tryd.prog W .any base t v := hval0
  have hW' := hW
  obtain ⟨p, q, hA0, hV, rfl, hfz, hnd⟩ := hW
  have hA : DataW.TrodAll enc Tryd.prog W 0 (fun _ => true) true Tryd.f5.params.toList args.toList ds p := hA0
  rw [Tryd.params5] at hA hval
  obtain ⟨v0, vs0, d0, ds0, p0, q0, hargs, rfl, rfl, h0, r0⟩ := trodAll_cons hA
  obtain ⟨v1, vs1, d1, ds1, p1, q1, rfl, rfl, rfl, h1, r1⟩ := trodAll_cons r0
  obtain ⟨rfl, rfl, rfl⟩ := trodAll_nil r1
  obtain rfl : args = #[v0, v1] := by cases args; simp_all
  obtain ⟨rfl, rfl⟩ := trodVars_none hV
  clear hA0 hval0
  simp only [List.append_nil] at hW'
  have l0 : ∀ x ∈ p0, x.block < W.heap.size := fun x hx => hW'.lt x (by simp [hx])
  have t0 := fun W' (hb : Below W.heap.size W W') => Below.trod laid_own (by kernel_rfl) (of_decide_eq_true (by kernel_rfl)) h0 hb l0
  have l1 : ∀ x ∈ p1, x.block < W.heap.size := fun x hx => hW'.lt x (by simp [hx])
  have t1 := fun W' (hb : Below W.heap.size W W') => Below.trod laid_own (by kernel_rfl) (of_decide_eq_true (by kernel_rfl)) h1 hb l1
  obtain ⟨x0, rfl⟩ := num3_arg (hval 0 30 v0 rfl rfl) h0
  obtain ⟨x1, rfl⟩ := num3_arg (hval 1 30 v1 rfl rfl) h1
  refine (KeyBytes_any x0 x1 W (laid7_of hL)).mono fun e W' ⟨he, hg0⟩ => ?_
  have hg := hg0.below (Nat.le_refl _) (fun _ _ h => h)
  subst he
  exact ⟨_, rfl, post_belowK (pa := (p0 ++ (p1 ++ []))) (pv := []) hW' (fun _ _ _ => (trodAll_cons_mk (shut_bool Tryd.underlying4 _) trodAll_mk0)) (trodAll_cons_mk (t0 _ hg) (trodAll_cons_mk (t1 _ hg) trodAll_mk0)) (fun _ _ => rfl) hg⟩

theorem over : Rows.keyBytesRow.holds Tryd.pinned (OpenSpec.ofChange Rows.keyBytesSpec) :=
  OpenClaim.holds_of_wide 5 Tryd.f5 rfl rfl rfl rfl rfl rfl rfl ⟨rfl, rfl, rfl, rfl, rfl⟩ rfl rfl rfl rfl rfl (by kernel_rfl) Tryd.func5 (by kernel_rfl)
    (of_decide_eq_true (by kernel_rfl)) (by unfold Func.isWrapper; first | (rw [if_pos (by decide +kernel)]; kernel_rfl) | (rw [if_neg (by decide +kernel)]; exact ⟨rfl, rfl⟩))
    (fun os started H enc _ => lifted os started H enc)

theorem proved : Rows.KeyBytesCardSaid :=
  Claim7.holds_tied_plain_at .later [] [.data, .data, .data, .sentinel, .sentinel] true _ true
    over (fun _ h => by cases h) (by kernel_rfl) (fun _ h => by cases h) keyBytes_row_tie rfl ⟨rfl, rfl⟩ (by kernel_rfl) rfl
    (fun f fn hf hfn => by
      obtain rfl : f = 5 := Option.some.inj ((show Tryd.prog.funcNamed "fermata/fermatalaw07.KeyBytes" = some 5 by kernel_rfl).symm.trans hf) |>.symm
      obtain rfl : fn = Tryd.f5 := (Option.some.inj (Tryd.func5.symm.trans hfn)).symm
      exact ⟨by kernel_rfl, fun j t ht => by
        rw [Tryd.params5] at ht
        have sS : Tryd.prog.wantsStandIn 30 = false := by kernel_rfl
        have hm : t ∈ [30, 30] := by
          have := Array.mem_of_getElem? ht
          simpa using this
        simp only [List.mem_cons, List.not_mem_nil, or_false, or_self] at hm
        subst hm
        exact sS⟩)
    (by kernel_rfl)
#print axioms proved
end Go.Proofs.YtkohmodnjcoapaaDoor.keyBytes
