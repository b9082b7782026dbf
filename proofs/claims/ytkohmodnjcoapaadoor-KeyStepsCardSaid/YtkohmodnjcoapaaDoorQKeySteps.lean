/- KeySteps: the statement, and its tied card: for any arguments the law returns true, and the arguments read as before. -/
import Derived.Test.YtkohmodnjcoapaaDoorJb2
import Derived.Test.YtkohmodnjcoapaaDoorCards
import Derived.Test.YtkohmodnjcoapaaDoorTie
set_option linter.unusedSimpArgs false
set_option linter.unusedVariables false

/-
  KeySteps.
-/
namespace Go.Proofs.YtkohmodnjcoapaaDoor
open Go Go.RowKit
attribute [local go_sem ↓] Go.wp_at_zero Go.wp_at_succ
attribute [local go_sem] Oper.semAt_some wide_fn wide_depth wide_fnR wide_depthR
attribute [local go_sem high] run_neq_k

theorem next_lit0 (k : Key3) (hk : RightK k) (hn : nextK k = none) (w : World) : Calls Tryd.prog 11 #[keyV k] w fun e w' => e = .returned (.tuple #[.agg #[.int .i64 0, .int .i64 0, .int .i64 0], .int .i64 6]) ∧ Fr0 none' w w' := by
  have h := Next_any k w
  rw [if_pos hk, hn] at h
  exact h
theorem back_lit0 (k : Key3) (hk : RightK k) (hn : backK k = none) (w : World) : Calls Tryd.prog 13 #[keyV k] w fun e w' => e = .returned (.tuple #[.agg #[.int .i64 0, .int .i64 0, .int .i64 0], .int .i64 6]) ∧ Fr0 none' w w' := by
  have h := Back_any k w
  rw [if_pos hk, hn] at h
  exact h
def C3 (W : World) (b : Nat) (k : Key3) : Prop := W.cell? ⟨b, 0, none⟩ = some (.int .i64 k.time) ∧ W.cell? ⟨b, 1, none⟩ = some (.int .i64 k.source) ∧ W.cell? ⟨b, 2, none⟩ = some (.int .i64 k.seq)
/-- The cells of a small key. -/
def SmAt (W : World) (b : Nat) (x : Num3) : Prop := W.cell? ⟨b, 0, none⟩ = some (.int .u64 x.t) ∧ W.cell? ⟨b, 1, none⟩ = some (.int .u32 x.s) ∧ W.cell? ⟨b, 2, none⟩ = some (.int .u32 x.q)
theorem SmAt.later {W W' : World} {b : Nat} {x : Num3} (h : SmAt W b x) (hf : Fr0 none' W W') : SmAt W' b x := ⟨hf.later h.1, hf.later h.2.1, hf.later h.2.2⟩
theorem SmAt.of_block {W : World} {b : Nat} {x : Num3} {ty : TypeId} (h : W.heap[b]? = some (.cells #[.int .u64 x.t, .int .u32 x.s, .int .u32 x.q] ty (0, 0))) : SmAt W b x := by
  refine ⟨?_, ?_, ?_⟩ <;> rw [cellsK_at h] <;> rfl
/-- What is kept while two keys are made. -/
structure St2 (x y : Num3) (b : Nat) (w W : World) : Prop where
  sx : SmAt W b x
  sy : SmAt W (b + 1) y
  fr : Fr0 none' w W
  sx0 : SmAt w b x
  sy0 : SmAt w (b + 1) y
theorem St2.later {x y : Num3} {b : Nat} {w W W' : World} (h : St2 x y b w W) (hf : Fr0 none' W W') : St2 x y b w W' := ⟨h.sx.later hf, h.sy.later hf, h.fr.trans hf, h.sx0, h.sy0⟩
theorem St2.both {x y : Num3} {b : Nat} {w W : World} (h : St2 x y b w W) : SmAt W b x ∧ SmAt W (b + 1) y := ⟨h.sx, h.sy⟩
structure NewK (w W : World) (b : Nat) (k : Key3) : Prop where
  key : KeyAt W b k
  ge : w.heap.size ≤ b
theorem NewK.lt {w W : World} {b : Nat} {k : Key3} (h : NewK w W b k) : b < W.heap.size := (Array.getElem?_eq_some_iff.1 h.key).1
theorem NewK.cells {w W : World} {b : Nat} {k : Key3} (h : NewK w W b k) : W.cell? ⟨b, 0, none⟩ = some (.int .i64 k.time) ∧ W.cell? ⟨b, 1, none⟩ = some (.int .i64 k.source) ∧ W.cell? ⟨b, 2, none⟩ = some (.int .i64 k.seq) :=
  ⟨h.key.cell (i := 0) (by omega), h.key.cell (i := 1) (by omega), h.key.cell (i := 2) (by omega)⟩
theorem NewK.frozen {w W : World} {b : Nat} {k : Key3} (h : NewK w W b k) : W.frozen? ⟨b, 0, none⟩ = false ∧ W.frozen? ⟨b, 1, none⟩ = false ∧ W.frozen? ⟨b, 2, none⟩ = false := ⟨h.key.frozen _, h.key.frozen _, h.key.frozen _⟩
theorem NewK.later {w W W' : World} {b : Nat} {k : Key3} (h : NewK w W b k) (hf : Fr0 none' W W') : NewK w W' b k := ⟨h.key.fr0 hf id, h.ge⟩
def put3 (W : World) (b : Nat) (k : Key3) : World := ((W.setCell ⟨b, 0, none⟩ (.int .i64 k.time)).setCell ⟨b, 1, none⟩ (.int .i64 k.source)).setCell ⟨b, 2, none⟩ (.int .i64 k.seq)
theorem NewK.put {w W : World} {b : Nat} {k : Key3} (h : NewK w W b k) (x : Key3) : NewK w (put3 W b x) b x := ⟨((h.key.set0 x.time).set1 x.source).set2 x.seq, h.ge⟩
theorem NewK.other {w W : World} {a b : Nat} {k : Key3} (h : NewK w W a k) (hne : a ≠ b) (x : Key3) : NewK w (put3 W b x) a k := ⟨((h.key.setOther hne _).setOther hne _).setOther hne _, h.ge⟩
theorem St2.put {x y : Num3} {b c : Nat} {w W : World} (h : St2 x y b w W) (hc : w.heap.size ≤ c) (k : Key3) : St2 x y b w (put3 W c k) := by
  have hf : Fr0 none' w (put3 W c k) := ((h.fr.setCell (fun h => absurd h (by omega)) _).setCell (fun h => absurd h (by omega)) _).setCell (fun h => absurd h (by omega)) _
  exact ⟨h.sx0.later hf, h.sy0.later hf, hf, h.sx0, h.sy0⟩
theorem via {P : Program} {c : Code} {K : Act → World → Prop} {Q : Exit → Act → World → Prop} {a : Act} {w : World} (F : Nat → Nat → World → Prop) (d1 d2 s1 s2 s3 s4 : Nat) (v1 v2 v3 v4 : Value)
    (t : ∀ pa pb W, F pa pb W → K ((((((a.put (some s1) v1).put (some s2) v2).put (some s3) v3).put (some s4) v4).put (some d1) (.pointer (some ⟨pa, 0, none⟩))).put (some d2) (.pointer (some ⟨pb, 0, none⟩))) W)
    (h : (∀ pa pb W, F pa pb W → K ((((((a.put (some s1) v1).put (some s2) v2).put (some s3) v3).put (some s4) v4).put (some d1) (.pointer (some ⟨pa, 0, none⟩))).put (some d2) (.pointer (some ⟨pb, 0, none⟩))) W) → c.wp P (Exit.then K Q) a w) : c.wp P (Exit.then K Q) a w := h t
set_option maxRecDepth 100000 in
set_option maxHeartbeats 8000000 in
theorem KeySteps_any (x y : Num3) (w : World) (hL : Laid7 w) :
    Calls Tryd.prog 4 #[smallV x, smallV y] w fun e w' => e = .returned (.bool true) ∧ Fr0 none' w w' := by
  have HM := Lib.hid Made_any
  simp only [smallV, keyV] at HM ⊢
  go_enter Tryd.func4, Tryd.ntmps4
  go_wp2_with fail
  have f0 : Fr0 none' w ((w.alloc (.cells #[.int .u64 x.t, .int .u32 x.s, .int .u32 x.q] 30)).alloc (.cells #[.int .u64 y.t, .int .u32 y.s, .int .u32 y.q] 30)) := ((Fr0.refl _ _).alloc _).alloc _
  refine (awake_any _ (hL.later f0)).mono ?_
  rintro e w1 ⟨rfl, hf⟩
  have sx := Lib.hid (SmAt.later (SmAt.of_block ((Below.heap_alloc (w.alloc (.cells #[.int .u64 x.t, .int .u32 x.s, .int .u32 x.q] 30)) (.cells #[.int .u64 y.t, .int .u32 y.s, .int .u32 y.q] 30) w.heap.size (by simp)).trans (World.alloc_heap_new w _))) hf)
  have sy := Lib.hid (show SmAt w1 (w.heap.size + 1) y from SmAt.later (SmAt.of_block (by
    have := World.alloc_heap_new (w.alloc (.cells #[.int .u64 x.t, .int .u32 x.s, .int .u32 x.q] 30)) (.cells #[.int .u64 y.t, .int .u32 y.s, .int .u32 y.q] 30)
    rw [World.size_alloc] at this
    exact this)) hf)
  have L := Lib.hid (hL.later (f0.trans hf))
  have F := Lib.hid (f0.trans hf)
  obtain ⟨b, hb⟩ : ∃ b, w.heap.size = b := ⟨_, rfl⟩
  rw [hb] at sx sy ⊢
  clear f0 hf hb
  go_wp2_with fail
  refine via (fun pa pb W => NewK w1 W pa x.key ∧ NewK w1 W pb y.key ∧ Fr0 none' w1 W) 5 6 18 19 20 21 (smallV x) (keyV x.key) (smallV y) (keyV y.key) (fun pa pb W hF => ?_) (fun hT => ?_)
  · simp only [Act.put, List.setIfInBounds_toArray, List.set_cons_zero, List.set_cons_succ, smallV, keyV]
    obtain ⟨hx, hy, hf⟩ := hF
    have Hx := Lib.hid (x.right)
    have Hy := Lib.hid (y.right)
    have F := Lib.hid (F.out.trans hf)
    have L := Lib.hid (L.out.later hf)
    obtain ⟨p, hp⟩ : ∃ p, x.key = p := ⟨_, rfl⟩
    obtain ⟨q, hq⟩ : ∃ p, y.key = p := ⟨_, rfl⟩
    rw [hp] at hx Hx ⊢
    rw [hq] at hy Hy ⊢
    have A := Lib.hid hx
    have B := Lib.hid hy
    have S := Lib.hid (show Aw [(pa, p), (pb, q)] w W from ⟨fun z hz => by
      simp only [List.mem_cons, List.not_mem_nil, or_false] at hz
      rcases hz with rfl | rfl
      · exact A.out.key
      · exact B.out.key, L.out, F.out⟩)
    clear hp hq hf sx sy HM hx hy A B L F
    have ⟨a0, a1, a2⟩ := S.out.cell (b := pa) (k := p) (by simp)
    go_wp2_with fail
    clear a0 a1 a2
    cases hn : nextK p with
    | none =>
      have hlt := nextK_none Hx.out hn q Hy.out
      refine (next_lit0 p Hx.out hn _).mono ?_
      rintro e w2 ⟨rfl, hf⟩
      have S := Lib.hid ((S.out.later hf).new ⟨0, 0, 0⟩)
      have Hlt := Lib.hid (show decide (cmpK p q < 0) = false from decide_eq_false hlt)
      clear hlt hf hn
      have ⟨a0, a1, a2⟩ := S.out.cell (b := pa) (k := p) (by simp)
      have ⟨b0, b1, b2⟩ := S.out.cell (b := pb) (k := q) (by simp)
      dsimp only at a0 a1 a2 b0 b1 b2
      go_wp2_with fail
      refine (order_any p q _).mono ?_
      rintro e w3 ⟨rfl, hf⟩
      have S := Lib.hid (S.out.later hf)
      have d := Hlt.out
      clear a0 a1 a2 b0 b1 b2 hf
      have ⟨a0, a1, a2⟩ := S.out.cell (b := pa) (k := p) (by simp)
      go_wp2_with fail
      clear d a0 a1 a2 Hlt
      cases hn : backK p with
      | none =>
        have hlt := backK_none Hx.out hn q Hy.out
        refine (back_lit0 p Hx.out hn _).mono ?_
        rintro e z2 ⟨rfl, hf⟩
        have S := Lib.hid ((S.out.later hf).new ⟨0, 0, 0⟩)
        have Hlt := Lib.hid (show decide (0 < cmpK p q) = false from decide_eq_false hlt)
        clear hlt hf hn
        have ⟨a0, a1, a2⟩ := S.out.cell (b := pa) (k := p) (by simp)
        have ⟨b0, b1, b2⟩ := S.out.cell (b := pb) (k := q) (by simp)
        dsimp only at a0 a1 a2 b0 b1 b2
        go_wp2_with fail
        refine (order_any p q _).mono ?_
        rintro e z3 ⟨rfl, hf⟩
        have S := Lib.hid (S.out.later hf)
        have d := Hlt.out
        clear a0 a1 a2 b0 b1 b2 hf
        have ⟨a0, a1, a2⟩ := S.out.cell (b := pa) (k := p) (by simp)
        go_wp2_with fail
        clear d a0 a1 a2 Hlt
        refine (Ends_any p.time _).mono ?_
        rintro e e1 ⟨rfl, hf⟩
        rw [show endsV p.time = (⟨p.time, 0, 0⟩, ⟨p.time, 16, 4294967295⟩, 0) from if_pos ⟨Hx.out.1, Hx.out.2.1⟩]
        simp only [keyV]
        have S := Lib.hid ((S.out.later hf).new ⟨p.time, 0, 0⟩)
        clear hf
        go_wp2_with fail
        have S := Lib.hid (S.out.new ⟨p.time, 16, 4294967295⟩)
        obtain ⟨fb, hfb⟩ : ∃ fb, e1.heap.size = fb := ⟨_, rfl⟩
        have hs : (e1.alloc (.cells #[.int .i64 p.time, .int .i64 0, .int .i64 0] 24)).heap.size = fb + 1 := by rw [← hfb]; simp
        obtain ⟨E, hE⟩ : ∃ E, (e1.alloc (.cells #[.int .i64 p.time, .int .i64 0, .int .i64 0] 24)).alloc (.cells #[.int .i64 p.time, .int .i64 16, .int .i64 4294967295] 24) = E := ⟨_, rfl⟩
        dsimp only at S
        rw [hs, hfb, hE] at S
        rw [hE, hfb]
        clear hs hfb hE
        have HLW := Lib.hid (ends_time (x := p) Hy.out)
        have HO := Lib.hid order_any
        obtain ⟨Bq, hq⟩ : ∃ B, (p.time == q.time) = B := ⟨_, rfl⟩
        refine wp_region_held_drew (S := fun W' => C3 W' fb ⟨p.time, 0, 0⟩ ∧ C3 W' (fb + 1) ⟨p.time, 16, 4294967295⟩ ∧ C3 W' pa p ∧ C3 W' pb q) (by kernel_rfl) ⟨S.out.cell (by simp), S.out.cell (by simp), S.out.cell (by simp), S.out.cell (by simp)⟩ (fun hHeld => ?_)
        refine take_on (i := 0) (v := .int .i64 0) rfl (by kernel_rfl) (by kernel_rfl) (by kernel_rfl) (fun _ _ _ h => h) (by kernel_rfl) (fun W' hSW => ?_) (by assumption) ?_
        · obtain ⟨⟨x0, x1, x2⟩, ⟨y0, y1, y2⟩, ⟨z0, z1, z2⟩, ⟨v0, v1, v2⟩⟩ := hSW
          first | (go_simp; done) | exact rfl | (go_simp; rfl) | (go_simp; omega)
        try simp only [Act.put, List.setIfInBounds_toArray, List.set_cons_zero, List.set_cons_succ]
        refine take_on (i := 1) (v := .bool true) rfl (by kernel_rfl) (by kernel_rfl) (by kernel_rfl) (fun _ _ _ h => h) (by kernel_rfl) (fun W' hSW => ?_) (by assumption) ?_
        · obtain ⟨⟨x0, x1, x2⟩, ⟨y0, y1, y2⟩, ⟨z0, z1, z2⟩, ⟨v0, v1, v2⟩⟩ := hSW
          first | (go_simp; done) | exact rfl | (go_simp; rfl) | (go_simp; omega)
        try simp only [Act.put, List.setIfInBounds_toArray, List.set_cons_zero, List.set_cons_succ]
        refine take_on (i := 2) (v := .bool true) rfl (by kernel_rfl) (by kernel_rfl) (by kernel_rfl) (fun _ _ _ h => h) (by kernel_rfl) (fun W' hSW => ?_) (by assumption) ?_
        · obtain ⟨⟨x0, x1, x2⟩, ⟨y0, y1, y2⟩, ⟨z0, z1, z2⟩, ⟨v0, v1, v2⟩⟩ := hSW
          first | (go_simp; done) | exact rfl | (go_simp; rfl) | (go_simp; omega)
        try simp only [Act.put, List.setIfInBounds_toArray, List.set_cons_zero, List.set_cons_succ]
        refine take_on (i := 13) (v := .pointer (some ⟨pa, 0, none⟩)) rfl (by kernel_rfl) (by kernel_rfl) (by kernel_rfl) (fun _ _ _ h => h) (by kernel_rfl) (fun W' hSW => ?_) (by assumption) ?_
        · obtain ⟨⟨x0, x1, x2⟩, ⟨y0, y1, y2⟩, ⟨z0, z1, z2⟩, ⟨v0, v1, v2⟩⟩ := hSW
          first | (go_simp; done) | exact rfl | (go_simp; rfl) | (go_simp; omega)
        try simp only [Act.put, List.setIfInBounds_toArray, List.set_cons_zero, List.set_cons_succ]
        refine take_on (i := 14) (v := .int .i64 p.time) rfl (by kernel_rfl) (by kernel_rfl) (by kernel_rfl) (fun _ _ _ h => h) (by kernel_rfl) (fun W' hSW => ?_) (by assumption) ?_
        · obtain ⟨⟨x0, x1, x2⟩, ⟨y0, y1, y2⟩, ⟨z0, z1, z2⟩, ⟨v0, v1, v2⟩⟩ := hSW
          first | (go_simp; done) | exact rfl | (go_simp; rfl) | (go_simp; omega)
        try simp only [Act.put, List.setIfInBounds_toArray, List.set_cons_zero, List.set_cons_succ]
        refine take_on (i := 15) (v := .pointer (some ⟨pb, 0, none⟩)) rfl (by kernel_rfl) (by kernel_rfl) (by kernel_rfl) (fun _ _ _ h => h) (by kernel_rfl) (fun W' hSW => ?_) (by assumption) ?_
        · obtain ⟨⟨x0, x1, x2⟩, ⟨y0, y1, y2⟩, ⟨z0, z1, z2⟩, ⟨v0, v1, v2⟩⟩ := hSW
          first | (go_simp; done) | exact rfl | (go_simp; rfl) | (go_simp; omega)
        try simp only [Act.put, List.setIfInBounds_toArray, List.set_cons_zero, List.set_cons_succ]
        refine take_on (i := 16) (v := .int .i64 q.time) rfl (by kernel_rfl) (by kernel_rfl) (by kernel_rfl) (fun _ _ _ h => h) (by kernel_rfl) (fun W' hSW => ?_) (by assumption) ?_
        · obtain ⟨⟨x0, x1, x2⟩, ⟨y0, y1, y2⟩, ⟨z0, z1, z2⟩, ⟨v0, v1, v2⟩⟩ := hSW
          first | (go_simp; done) | exact rfl | (go_simp; rfl) | (go_simp; omega)
        try simp only [Act.put, List.setIfInBounds_toArray, List.set_cons_zero, List.set_cons_succ]
        refine take_on (i := 17) (v := .bool Bq) rfl (by kernel_rfl) (by kernel_rfl) (by kernel_rfl) (fun _ _ _ h => h) (by kernel_rfl) (fun W' hSW => ?_) (by assumption) ?_
        · obtain ⟨⟨x0, x1, x2⟩, ⟨y0, y1, y2⟩, ⟨z0, z1, z2⟩, ⟨v0, v1, v2⟩⟩ := hSW
          first | (go_simp; done) | exact rfl | (go_simp; rfl) | (go_simp; omega)
        try simp only [Act.put, List.setIfInBounds_toArray, List.set_cons_zero, List.set_cons_succ]
        refine take_on (i := 3) (v := .agg #[.int .i64 p.time, .int .i64 0, .int .i64 0]) rfl (by kernel_rfl) (by kernel_rfl) (by kernel_rfl) (fun _ _ _ h => h) (by kernel_rfl) (fun W' hSW => ?_) (by assumption) ?_
        · obtain ⟨⟨x0, x1, x2⟩, ⟨y0, y1, y2⟩, ⟨z0, z1, z2⟩, ⟨v0, v1, v2⟩⟩ := hSW
          first | (go_simp; done) | exact rfl | (go_simp; rfl) | (go_simp; omega)
        try simp only [Act.put, List.setIfInBounds_toArray, List.set_cons_zero, List.set_cons_succ]
        refine take_on (i := 4) (v := .agg #[.int .i64 q.time, .int .i64 q.source, .int .i64 q.seq]) rfl (by kernel_rfl) (by kernel_rfl) (by kernel_rfl) (fun _ _ _ h => h) (by kernel_rfl) (fun W' hSW => ?_) (by assumption) ?_
        · obtain ⟨⟨x0, x1, x2⟩, ⟨y0, y1, y2⟩, ⟨z0, z1, z2⟩, ⟨v0, v1, v2⟩⟩ := hSW
          first | (go_simp; done) | exact rfl | (go_simp; rfl) | (go_simp; omega)
        try simp only [Act.put, List.setIfInBounds_toArray, List.set_cons_zero, List.set_cons_succ]
        refine take_call (i := 5) rfl (by kernel_rfl) (by kernel_rfl) (fun K hK => ?_)
        go_simp
        refine (HO.out ⟨p.time, 0, 0⟩ q _).mono ?_
        rintro e e2 ⟨rfl, hf⟩
        obtain ⟨c, hc⟩ : ∃ c, cmpK ⟨p.time, 0, 0⟩ q = c := ⟨_, rfl⟩
        rw [hc] at HLW ⊢
        have S := Lib.hid ((S.out.later (Fr0.refl none' E).drew).later hf)
        clear hf hc
        go_wp2_with fail
        refine hK.out _ _ ⟨S.out.cell (by simp), S.out.cell (by simp), S.out.cell (by simp), S.out.cell (by simp)⟩ (fun hHeld => ?_)
        clear hK K
        try simp only [Act.put, List.setIfInBounds_toArray, List.set_cons_zero, List.set_cons_succ]
        by_cases h1 : c ≤ 0
        · have d1 : decide (c ≤ 0) = true := decide_eq_true h1
          refine take_on (i := 6) (v := .bool true) rfl (by kernel_rfl) (by kernel_rfl) (by kernel_rfl) (fun _ _ _ h => h) (by kernel_rfl) (fun W' hSW => ?_) (by assumption) ?_
          · obtain ⟨⟨x0, x1, x2⟩, ⟨y0, y1, y2⟩, ⟨z0, z1, z2⟩, ⟨v0, v1, v2⟩⟩ := hSW
            first | (go_simp; done) | exact rfl | (go_simp; rfl) | (go_simp; omega)
          try simp only [Act.put, List.setIfInBounds_toArray, List.set_cons_zero, List.set_cons_succ]
          refine take_on (i := 7) (v := .bool true) rfl (by kernel_rfl) (by kernel_rfl) (by kernel_rfl) (fun _ _ _ h => h) (by kernel_rfl) (fun W' hSW => ?_) (by assumption) ?_
          · obtain ⟨⟨x0, x1, x2⟩, ⟨y0, y1, y2⟩, ⟨z0, z1, z2⟩, ⟨v0, v1, v2⟩⟩ := hSW
            first | (go_simp; done) | exact rfl | (go_simp; rfl) | (go_simp; omega)
          try simp only [Act.put, List.setIfInBounds_toArray, List.set_cons_zero, List.set_cons_succ]
          refine take_on (i := 8) (v := .agg #[.int .i64 q.time, .int .i64 q.source, .int .i64 q.seq]) rfl (by kernel_rfl) (by kernel_rfl) (by kernel_rfl) (fun _ _ _ h => h) (by kernel_rfl) (fun W' hSW => ?_) (by assumption) ?_
          · obtain ⟨⟨x0, x1, x2⟩, ⟨y0, y1, y2⟩, ⟨z0, z1, z2⟩, ⟨v0, v1, v2⟩⟩ := hSW
            first | (go_simp; done) | exact rfl | (go_simp; rfl) | (go_simp; omega)
          try simp only [Act.put, List.setIfInBounds_toArray, List.set_cons_zero, List.set_cons_succ]
          refine take_on (i := 9) (v := .agg #[.int .i64 p.time, .int .i64 16, .int .i64 4294967295]) rfl (by kernel_rfl) (by kernel_rfl) (by kernel_rfl) (fun _ _ _ h => h) (by kernel_rfl) (fun W' hSW => ?_) (by assumption) ?_
          · obtain ⟨⟨x0, x1, x2⟩, ⟨y0, y1, y2⟩, ⟨z0, z1, z2⟩, ⟨v0, v1, v2⟩⟩ := hSW
            first | (go_simp; done) | exact rfl | (go_simp; rfl) | (go_simp; omega)
          try simp only [Act.put, List.setIfInBounds_toArray, List.set_cons_zero, List.set_cons_succ]
          refine take_call (i := 10) rfl (by kernel_rfl) (by kernel_rfl) (fun K hK => ?_)
          go_simp
          refine (HO.out q ⟨p.time, 16, 4294967295⟩ _).mono ?_
          rintro e e3 ⟨rfl, hf⟩
          obtain ⟨c', hc⟩ : ∃ c, cmpK q ⟨p.time, 16, 4294967295⟩ = c := ⟨_, rfl⟩
          rw [hc] at HLW ⊢
          have S := Lib.hid (S.out.later hf)
          clear hf hc
          go_wp2_with fail
          refine hK.out _ _ ⟨S.out.cell (by simp), S.out.cell (by simp), S.out.cell (by simp), S.out.cell (by simp)⟩ (fun hHeld => ?_)
          clear hK K
          try simp only [Act.put, List.setIfInBounds_toArray, List.set_cons_zero, List.set_cons_succ]
          have hB : decide (c' ≤ 0) = Bq := by
            rw [← hq]
            by_cases h2 : c' ≤ 0
            · rw [decide_eq_true h2]; simpa using HLW.out.1 ⟨h1, h2⟩
            · rw [decide_eq_false h2]
              have : ¬ p.time = q.time := fun h => h2 (HLW.out.2 h).2
              simpa using this
          clear h1 HLW hq
          refine take_on (i := 11) (v := .bool Bq) rfl (by kernel_rfl) (by kernel_rfl) (by kernel_rfl) (fun _ _ _ h => h) (by kernel_rfl) (fun W' hSW => ?_) (by assumption) ?_
          · obtain ⟨⟨x0, x1, x2⟩, ⟨y0, y1, y2⟩, ⟨z0, z1, z2⟩, ⟨v0, v1, v2⟩⟩ := hSW
            first | (go_simp; done) | exact rfl | (go_simp; rfl) | (go_simp; omega)
          try simp only [Act.put, List.setIfInBounds_toArray, List.set_cons_zero, List.set_cons_succ]
          refine take_on (i := 12) (v := .bool Bq) rfl (by kernel_rfl) (by kernel_rfl) (by kernel_rfl) (fun _ _ _ h => h) (by kernel_rfl) (fun W' hSW => ?_) (by assumption) ?_
          · obtain ⟨⟨x0, x1, x2⟩, ⟨y0, y1, y2⟩, ⟨z0, z1, z2⟩, ⟨v0, v1, v2⟩⟩ := hSW
            first | (go_simp; done) | exact rfl | (go_simp; rfl) | (go_simp; omega)
          try simp only [Act.put, List.setIfInBounds_toArray, List.set_cons_zero, List.set_cons_succ]
          refine take_on (i := 18) (v := .bool true) rfl (by kernel_rfl) (by kernel_rfl) (by kernel_rfl) (fun _ _ _ h => h) (by kernel_rfl) (fun W' hSW => ?_) (by assumption) ?_
          · obtain ⟨⟨x0, x1, x2⟩, ⟨y0, y1, y2⟩, ⟨z0, z1, z2⟩, ⟨v0, v1, v2⟩⟩ := hSW
            first | (go_simp; done) | exact rfl | (go_simp; rfl) | (go_simp; omega)
          try simp only [Act.put, List.setIfInBounds_toArray, List.set_cons_zero, List.set_cons_succ]
          refine take_on (i := 19) (v := .bool true) rfl (by kernel_rfl) (by kernel_rfl) (by kernel_rfl) (fun _ _ _ h => h) (by kernel_rfl) (fun W' hSW => ?_) (by assumption) ?_
          · obtain ⟨⟨x0, x1, x2⟩, ⟨y0, y1, y2⟩, ⟨z0, z1, z2⟩, ⟨v0, v1, v2⟩⟩ := hSW
            first | (go_simp; done) | exact rfl | (go_simp; rfl) | (go_simp; omega)
          try simp only [Act.put, List.setIfInBounds_toArray, List.set_cons_zero, List.set_cons_succ]
          refine take_on (i := 20) (v := .bool true) rfl (by kernel_rfl) (by kernel_rfl) (by kernel_rfl) (fun _ _ _ h => h) (by kernel_rfl) (fun W' hSW => ?_) (by assumption) ?_
          · obtain ⟨⟨x0, x1, x2⟩, ⟨y0, y1, y2⟩, ⟨z0, z1, z2⟩, ⟨v0, v1, v2⟩⟩ := hSW
            first | (go_simp; done) | exact rfl | (go_simp; rfl) | (go_simp; omega)
          try simp only [Act.put, List.setIfInBounds_toArray, List.set_cons_zero, List.set_cons_succ]
          refine wpAnyH_done (by kernel_rfl) ?_ _
          go_wp2
          go_ret
          exact ⟨rfl, S.out.fr⟩
        · have d1 : decide (c ≤ 0) = false := decide_eq_false h1
          have hB : Bq = false := by
            rw [← hq]
            have : ¬ p.time = q.time := fun h => h1 (HLW.out.2 h).1
            simpa using this
          subst hB
          clear h1 HLW hq
          refine take_on (i := 6) (v := .bool false) rfl (by kernel_rfl) (by kernel_rfl) (by kernel_rfl) (fun _ _ _ h => h) (by kernel_rfl) (fun W' hSW => ?_) (by assumption) ?_
          · obtain ⟨⟨x0, x1, x2⟩, ⟨y0, y1, y2⟩, ⟨z0, z1, z2⟩, ⟨v0, v1, v2⟩⟩ := hSW
            first | (go_simp; done) | exact rfl | (go_simp; rfl) | (go_simp; omega)
          try simp only [Act.put, List.setIfInBounds_toArray, List.set_cons_zero, List.set_cons_succ]
          refine take_on (i := 7) (v := .bool false) rfl (by kernel_rfl) (by kernel_rfl) (by kernel_rfl) (fun _ _ _ h => h) (by kernel_rfl) (fun W' hSW => ?_) (by assumption) ?_
          · obtain ⟨⟨x0, x1, x2⟩, ⟨y0, y1, y2⟩, ⟨z0, z1, z2⟩, ⟨v0, v1, v2⟩⟩ := hSW
            first | (go_simp; done) | exact rfl | (go_simp; rfl) | (go_simp; omega)
          try simp only [Act.put, List.setIfInBounds_toArray, List.set_cons_zero, List.set_cons_succ]
          refine take_off (i := 8) rfl (by kernel_rfl) (by kernel_rfl) (by kernel_rfl) (fun _ _ _ h => h) (by kernel_rfl) (by assumption) ?_
          try simp only [Act.put, List.setIfInBounds_toArray, List.set_cons_zero, List.set_cons_succ]
          refine take_off (i := 9) rfl (by kernel_rfl) (by kernel_rfl) (by kernel_rfl) (fun _ _ _ h => h) (by kernel_rfl) (by assumption) ?_
          try simp only [Act.put, List.setIfInBounds_toArray, List.set_cons_zero, List.set_cons_succ]
          refine take_off (i := 10) rfl (by kernel_rfl) (by kernel_rfl) (by kernel_rfl) (fun _ _ _ h => h) (by kernel_rfl) (by assumption) ?_
          try simp only [Act.put, List.setIfInBounds_toArray, List.set_cons_zero, List.set_cons_succ]
          refine take_off (i := 11) rfl (by kernel_rfl) (by kernel_rfl) (by kernel_rfl) (fun _ _ _ h => h) (by kernel_rfl) (by assumption) ?_
          try simp only [Act.put, List.setIfInBounds_toArray, List.set_cons_zero, List.set_cons_succ]
          refine take_on (i := 12) (v := .bool false) rfl (by kernel_rfl) (by kernel_rfl) (by kernel_rfl) (fun _ _ _ h => h) (by kernel_rfl) (fun W' hSW => ?_) (by assumption) ?_
          · obtain ⟨⟨x0, x1, x2⟩, ⟨y0, y1, y2⟩, ⟨z0, z1, z2⟩, ⟨v0, v1, v2⟩⟩ := hSW
            first | (go_simp; done) | exact rfl | (go_simp; rfl) | (go_simp; omega)
          try simp only [Act.put, List.setIfInBounds_toArray, List.set_cons_zero, List.set_cons_succ]
          refine take_on (i := 18) (v := .bool true) rfl (by kernel_rfl) (by kernel_rfl) (by kernel_rfl) (fun _ _ _ h => h) (by kernel_rfl) (fun W' hSW => ?_) (by assumption) ?_
          · obtain ⟨⟨x0, x1, x2⟩, ⟨y0, y1, y2⟩, ⟨z0, z1, z2⟩, ⟨v0, v1, v2⟩⟩ := hSW
            first | (go_simp; done) | exact rfl | (go_simp; rfl) | (go_simp; omega)
          try simp only [Act.put, List.setIfInBounds_toArray, List.set_cons_zero, List.set_cons_succ]
          refine take_on (i := 19) (v := .bool true) rfl (by kernel_rfl) (by kernel_rfl) (by kernel_rfl) (fun _ _ _ h => h) (by kernel_rfl) (fun W' hSW => ?_) (by assumption) ?_
          · obtain ⟨⟨x0, x1, x2⟩, ⟨y0, y1, y2⟩, ⟨z0, z1, z2⟩, ⟨v0, v1, v2⟩⟩ := hSW
            first | (go_simp; done) | exact rfl | (go_simp; rfl) | (go_simp; omega)
          try simp only [Act.put, List.setIfInBounds_toArray, List.set_cons_zero, List.set_cons_succ]
          refine take_on (i := 20) (v := .bool true) rfl (by kernel_rfl) (by kernel_rfl) (by kernel_rfl) (fun _ _ _ h => h) (by kernel_rfl) (fun W' hSW => ?_) (by assumption) ?_
          · obtain ⟨⟨x0, x1, x2⟩, ⟨y0, y1, y2⟩, ⟨z0, z1, z2⟩, ⟨v0, v1, v2⟩⟩ := hSW
            first | (go_simp; done) | exact rfl | (go_simp; rfl) | (go_simp; omega)
          try simp only [Act.put, List.setIfInBounds_toArray, List.set_cons_zero, List.set_cons_succ]
          refine wpAnyH_done (by kernel_rfl) ?_ _
          go_wp2
          go_ret
          exact ⟨rfl, S.out.fr⟩
      | some n =>
        obtain ⟨hnr, hback, hone, hbet⟩ := backK_some Hx.out hn
        refine (back_lit p n Hx.out hn _).mono ?_
        rintro e z2 ⟨rfl, hf⟩
        have Hn := Lib.hid hnr
        have Hb := Lib.hid hback
        have H1 := Lib.hid hone
        have H2 := Lib.hid (show 0 < cmpK p q → 0 ≤ cmpK n q from hbet q Hy.out)
        have S := Lib.hid ((S.out.later hf).new n)
        simp only [keyV]
        clear hn hnr hback hone hbet hf
        go_wp2_with fail
        refine (next_lit n p Hn.out Hb.out _).mono ?_
        rintro e z3 ⟨rfl, hf⟩
        simp only [keyV]
        have S := Lib.hid ((S.out.later hf).new p)
        obtain ⟨nb, hnb⟩ : ∃ nb, z2.heap.size = nb := ⟨_, rfl⟩
        rw [hnb] at S ⊢
        clear hf hnb
        have ⟨a0, a1, a2⟩ := S.out.cell (b := pa) (k := p) (by simp)
        have ⟨b0, b1, b2⟩ := S.out.cell (b := nb) (k := n) (by simp)
        go_wp2_with fail
        refine (order_any n p _).mono ?_
        rintro e z4 ⟨rfl, hf⟩
        rw [H1.out]
        have S := Lib.hid (S.out.later hf)
        clear hf a0 a1 a2 b0 b1 b2
        have ⟨a0, a1, a2⟩ := S.out.cell (b := pa) (k := p) (by simp)
        have ⟨b0, b1, b2⟩ := S.out.cell (b := pb) (k := q) (by simp)
        go_wp2_with fail
        refine (order_any p q _).mono ?_
        rintro e z5 ⟨rfl, hf⟩
        have S := Lib.hid (S.out.later hf)
        clear hf a0 a1 a2 b0 b1 b2
        have ⟨a0, a1, a2⟩ := S.out.cell (b := pa) (k := p) (by simp)
        by_cases hlt : 0 < cmpK p q
        · have d : decide (0 < cmpK p q) = true := decide_eq_true hlt
          have H3 := Lib.hid (show decide (cmpK n q < 0) = false from decide_eq_false (by have := H2.out hlt; omega))
          have ⟨b0, b1, b2⟩ := S.out.cell (b := pb) (k := q) (by simp)
          have ⟨c0, c1, c2⟩ := S.out.cell (b := nb) (k := n) (by simp)
          clear hlt
          go_wp2_with fail
          refine (order_any n q _).mono ?_
          rintro e z6 ⟨rfl, hf⟩
          have S := Lib.hid (S.out.later hf)
          clear hf a0 a1 a2 b0 b1 b2 c0 c1 c2
          have ⟨a0, a1, a2⟩ := S.out.cell (b := pa) (k := p) (by simp)
          have d2 := H3.out
          go_wp2_with fail
          clear d d2 a0 a1 a2 H1 H2 H3 Hn Hb
          refine (Ends_any p.time _).mono ?_
          rintro e e1 ⟨rfl, hf⟩
          rw [show endsV p.time = (⟨p.time, 0, 0⟩, ⟨p.time, 16, 4294967295⟩, 0) from if_pos ⟨Hx.out.1, Hx.out.2.1⟩]
          simp only [keyV]
          have S := Lib.hid ((S.out.later hf).new ⟨p.time, 0, 0⟩)
          clear hf
          go_wp2_with fail
          have S := Lib.hid (S.out.new ⟨p.time, 16, 4294967295⟩)
          obtain ⟨fb, hfb⟩ : ∃ fb, e1.heap.size = fb := ⟨_, rfl⟩
          have hs : (e1.alloc (.cells #[.int .i64 p.time, .int .i64 0, .int .i64 0] 24)).heap.size = fb + 1 := by rw [← hfb]; simp
          obtain ⟨E, hE⟩ : ∃ E, (e1.alloc (.cells #[.int .i64 p.time, .int .i64 0, .int .i64 0] 24)).alloc (.cells #[.int .i64 p.time, .int .i64 16, .int .i64 4294967295] 24) = E := ⟨_, rfl⟩
          dsimp only at S
          rw [hs, hfb, hE] at S
          rw [hE, hfb]
          clear hs hfb hE
          have HLW := Lib.hid (ends_time (x := p) Hy.out)
          have HO := Lib.hid order_any
          obtain ⟨Bq, hq⟩ : ∃ B, (p.time == q.time) = B := ⟨_, rfl⟩
          refine wp_region_held_drew (S := fun W' => C3 W' fb ⟨p.time, 0, 0⟩ ∧ C3 W' (fb + 1) ⟨p.time, 16, 4294967295⟩ ∧ C3 W' pa p ∧ C3 W' pb q) (by kernel_rfl) ⟨S.out.cell (by simp), S.out.cell (by simp), S.out.cell (by simp), S.out.cell (by simp)⟩ (fun hHeld => ?_)
          refine take_on (i := 0) (v := .int .i64 0) rfl (by kernel_rfl) (by kernel_rfl) (by kernel_rfl) (fun _ _ _ h => h) (by kernel_rfl) (fun W' hSW => ?_) (by assumption) ?_
          · obtain ⟨⟨x0, x1, x2⟩, ⟨y0, y1, y2⟩, ⟨z0, z1, z2⟩, ⟨v0, v1, v2⟩⟩ := hSW
            first | (go_simp; done) | exact rfl | (go_simp; rfl) | (go_simp; omega)
          try simp only [Act.put, List.setIfInBounds_toArray, List.set_cons_zero, List.set_cons_succ]
          refine take_on (i := 1) (v := .bool true) rfl (by kernel_rfl) (by kernel_rfl) (by kernel_rfl) (fun _ _ _ h => h) (by kernel_rfl) (fun W' hSW => ?_) (by assumption) ?_
          · obtain ⟨⟨x0, x1, x2⟩, ⟨y0, y1, y2⟩, ⟨z0, z1, z2⟩, ⟨v0, v1, v2⟩⟩ := hSW
            first | (go_simp; done) | exact rfl | (go_simp; rfl) | (go_simp; omega)
          try simp only [Act.put, List.setIfInBounds_toArray, List.set_cons_zero, List.set_cons_succ]
          refine take_on (i := 2) (v := .bool true) rfl (by kernel_rfl) (by kernel_rfl) (by kernel_rfl) (fun _ _ _ h => h) (by kernel_rfl) (fun W' hSW => ?_) (by assumption) ?_
          · obtain ⟨⟨x0, x1, x2⟩, ⟨y0, y1, y2⟩, ⟨z0, z1, z2⟩, ⟨v0, v1, v2⟩⟩ := hSW
            first | (go_simp; done) | exact rfl | (go_simp; rfl) | (go_simp; omega)
          try simp only [Act.put, List.setIfInBounds_toArray, List.set_cons_zero, List.set_cons_succ]
          refine take_on (i := 13) (v := .pointer (some ⟨pa, 0, none⟩)) rfl (by kernel_rfl) (by kernel_rfl) (by kernel_rfl) (fun _ _ _ h => h) (by kernel_rfl) (fun W' hSW => ?_) (by assumption) ?_
          · obtain ⟨⟨x0, x1, x2⟩, ⟨y0, y1, y2⟩, ⟨z0, z1, z2⟩, ⟨v0, v1, v2⟩⟩ := hSW
            first | (go_simp; done) | exact rfl | (go_simp; rfl) | (go_simp; omega)
          try simp only [Act.put, List.setIfInBounds_toArray, List.set_cons_zero, List.set_cons_succ]
          refine take_on (i := 14) (v := .int .i64 p.time) rfl (by kernel_rfl) (by kernel_rfl) (by kernel_rfl) (fun _ _ _ h => h) (by kernel_rfl) (fun W' hSW => ?_) (by assumption) ?_
          · obtain ⟨⟨x0, x1, x2⟩, ⟨y0, y1, y2⟩, ⟨z0, z1, z2⟩, ⟨v0, v1, v2⟩⟩ := hSW
            first | (go_simp; done) | exact rfl | (go_simp; rfl) | (go_simp; omega)
          try simp only [Act.put, List.setIfInBounds_toArray, List.set_cons_zero, List.set_cons_succ]
          refine take_on (i := 15) (v := .pointer (some ⟨pb, 0, none⟩)) rfl (by kernel_rfl) (by kernel_rfl) (by kernel_rfl) (fun _ _ _ h => h) (by kernel_rfl) (fun W' hSW => ?_) (by assumption) ?_
          · obtain ⟨⟨x0, x1, x2⟩, ⟨y0, y1, y2⟩, ⟨z0, z1, z2⟩, ⟨v0, v1, v2⟩⟩ := hSW
            first | (go_simp; done) | exact rfl | (go_simp; rfl) | (go_simp; omega)
          try simp only [Act.put, List.setIfInBounds_toArray, List.set_cons_zero, List.set_cons_succ]
          refine take_on (i := 16) (v := .int .i64 q.time) rfl (by kernel_rfl) (by kernel_rfl) (by kernel_rfl) (fun _ _ _ h => h) (by kernel_rfl) (fun W' hSW => ?_) (by assumption) ?_
          · obtain ⟨⟨x0, x1, x2⟩, ⟨y0, y1, y2⟩, ⟨z0, z1, z2⟩, ⟨v0, v1, v2⟩⟩ := hSW
            first | (go_simp; done) | exact rfl | (go_simp; rfl) | (go_simp; omega)
          try simp only [Act.put, List.setIfInBounds_toArray, List.set_cons_zero, List.set_cons_succ]
          refine take_on (i := 17) (v := .bool Bq) rfl (by kernel_rfl) (by kernel_rfl) (by kernel_rfl) (fun _ _ _ h => h) (by kernel_rfl) (fun W' hSW => ?_) (by assumption) ?_
          · obtain ⟨⟨x0, x1, x2⟩, ⟨y0, y1, y2⟩, ⟨z0, z1, z2⟩, ⟨v0, v1, v2⟩⟩ := hSW
            first | (go_simp; done) | exact rfl | (go_simp; rfl) | (go_simp; omega)
          try simp only [Act.put, List.setIfInBounds_toArray, List.set_cons_zero, List.set_cons_succ]
          refine take_on (i := 3) (v := .agg #[.int .i64 p.time, .int .i64 0, .int .i64 0]) rfl (by kernel_rfl) (by kernel_rfl) (by kernel_rfl) (fun _ _ _ h => h) (by kernel_rfl) (fun W' hSW => ?_) (by assumption) ?_
          · obtain ⟨⟨x0, x1, x2⟩, ⟨y0, y1, y2⟩, ⟨z0, z1, z2⟩, ⟨v0, v1, v2⟩⟩ := hSW
            first | (go_simp; done) | exact rfl | (go_simp; rfl) | (go_simp; omega)
          try simp only [Act.put, List.setIfInBounds_toArray, List.set_cons_zero, List.set_cons_succ]
          refine take_on (i := 4) (v := .agg #[.int .i64 q.time, .int .i64 q.source, .int .i64 q.seq]) rfl (by kernel_rfl) (by kernel_rfl) (by kernel_rfl) (fun _ _ _ h => h) (by kernel_rfl) (fun W' hSW => ?_) (by assumption) ?_
          · obtain ⟨⟨x0, x1, x2⟩, ⟨y0, y1, y2⟩, ⟨z0, z1, z2⟩, ⟨v0, v1, v2⟩⟩ := hSW
            first | (go_simp; done) | exact rfl | (go_simp; rfl) | (go_simp; omega)
          try simp only [Act.put, List.setIfInBounds_toArray, List.set_cons_zero, List.set_cons_succ]
          refine take_call (i := 5) rfl (by kernel_rfl) (by kernel_rfl) (fun K hK => ?_)
          go_simp
          refine (HO.out ⟨p.time, 0, 0⟩ q _).mono ?_
          rintro e e2 ⟨rfl, hf⟩
          obtain ⟨c, hc⟩ : ∃ c, cmpK ⟨p.time, 0, 0⟩ q = c := ⟨_, rfl⟩
          rw [hc] at HLW ⊢
          have S := Lib.hid ((S.out.later (Fr0.refl none' E).drew).later hf)
          clear hf hc
          go_wp2_with fail
          refine hK.out _ _ ⟨S.out.cell (by simp), S.out.cell (by simp), S.out.cell (by simp), S.out.cell (by simp)⟩ (fun hHeld => ?_)
          clear hK K
          try simp only [Act.put, List.setIfInBounds_toArray, List.set_cons_zero, List.set_cons_succ]
          by_cases h1 : c ≤ 0
          · have d1 : decide (c ≤ 0) = true := decide_eq_true h1
            refine take_on (i := 6) (v := .bool true) rfl (by kernel_rfl) (by kernel_rfl) (by kernel_rfl) (fun _ _ _ h => h) (by kernel_rfl) (fun W' hSW => ?_) (by assumption) ?_
            · obtain ⟨⟨x0, x1, x2⟩, ⟨y0, y1, y2⟩, ⟨z0, z1, z2⟩, ⟨v0, v1, v2⟩⟩ := hSW
              first | (go_simp; done) | exact rfl | (go_simp; rfl) | (go_simp; omega)
            try simp only [Act.put, List.setIfInBounds_toArray, List.set_cons_zero, List.set_cons_succ]
            refine take_on (i := 7) (v := .bool true) rfl (by kernel_rfl) (by kernel_rfl) (by kernel_rfl) (fun _ _ _ h => h) (by kernel_rfl) (fun W' hSW => ?_) (by assumption) ?_
            · obtain ⟨⟨x0, x1, x2⟩, ⟨y0, y1, y2⟩, ⟨z0, z1, z2⟩, ⟨v0, v1, v2⟩⟩ := hSW
              first | (go_simp; done) | exact rfl | (go_simp; rfl) | (go_simp; omega)
            try simp only [Act.put, List.setIfInBounds_toArray, List.set_cons_zero, List.set_cons_succ]
            refine take_on (i := 8) (v := .agg #[.int .i64 q.time, .int .i64 q.source, .int .i64 q.seq]) rfl (by kernel_rfl) (by kernel_rfl) (by kernel_rfl) (fun _ _ _ h => h) (by kernel_rfl) (fun W' hSW => ?_) (by assumption) ?_
            · obtain ⟨⟨x0, x1, x2⟩, ⟨y0, y1, y2⟩, ⟨z0, z1, z2⟩, ⟨v0, v1, v2⟩⟩ := hSW
              first | (go_simp; done) | exact rfl | (go_simp; rfl) | (go_simp; omega)
            try simp only [Act.put, List.setIfInBounds_toArray, List.set_cons_zero, List.set_cons_succ]
            refine take_on (i := 9) (v := .agg #[.int .i64 p.time, .int .i64 16, .int .i64 4294967295]) rfl (by kernel_rfl) (by kernel_rfl) (by kernel_rfl) (fun _ _ _ h => h) (by kernel_rfl) (fun W' hSW => ?_) (by assumption) ?_
            · obtain ⟨⟨x0, x1, x2⟩, ⟨y0, y1, y2⟩, ⟨z0, z1, z2⟩, ⟨v0, v1, v2⟩⟩ := hSW
              first | (go_simp; done) | exact rfl | (go_simp; rfl) | (go_simp; omega)
            try simp only [Act.put, List.setIfInBounds_toArray, List.set_cons_zero, List.set_cons_succ]
            refine take_call (i := 10) rfl (by kernel_rfl) (by kernel_rfl) (fun K hK => ?_)
            go_simp
            refine (HO.out q ⟨p.time, 16, 4294967295⟩ _).mono ?_
            rintro e e3 ⟨rfl, hf⟩
            obtain ⟨c', hc⟩ : ∃ c, cmpK q ⟨p.time, 16, 4294967295⟩ = c := ⟨_, rfl⟩
            rw [hc] at HLW ⊢
            have S := Lib.hid (S.out.later hf)
            clear hf hc
            go_wp2_with fail
            refine hK.out _ _ ⟨S.out.cell (by simp), S.out.cell (by simp), S.out.cell (by simp), S.out.cell (by simp)⟩ (fun hHeld => ?_)
            clear hK K
            try simp only [Act.put, List.setIfInBounds_toArray, List.set_cons_zero, List.set_cons_succ]
            have hB : decide (c' ≤ 0) = Bq := by
              rw [← hq]
              by_cases h2 : c' ≤ 0
              · rw [decide_eq_true h2]; simpa using HLW.out.1 ⟨h1, h2⟩
              · rw [decide_eq_false h2]
                have : ¬ p.time = q.time := fun h => h2 (HLW.out.2 h).2
                simpa using this
            clear h1 HLW hq
            refine take_on (i := 11) (v := .bool Bq) rfl (by kernel_rfl) (by kernel_rfl) (by kernel_rfl) (fun _ _ _ h => h) (by kernel_rfl) (fun W' hSW => ?_) (by assumption) ?_
            · obtain ⟨⟨x0, x1, x2⟩, ⟨y0, y1, y2⟩, ⟨z0, z1, z2⟩, ⟨v0, v1, v2⟩⟩ := hSW
              first | (go_simp; done) | exact rfl | (go_simp; rfl) | (go_simp; omega)
            try simp only [Act.put, List.setIfInBounds_toArray, List.set_cons_zero, List.set_cons_succ]
            refine take_on (i := 12) (v := .bool Bq) rfl (by kernel_rfl) (by kernel_rfl) (by kernel_rfl) (fun _ _ _ h => h) (by kernel_rfl) (fun W' hSW => ?_) (by assumption) ?_
            · obtain ⟨⟨x0, x1, x2⟩, ⟨y0, y1, y2⟩, ⟨z0, z1, z2⟩, ⟨v0, v1, v2⟩⟩ := hSW
              first | (go_simp; done) | exact rfl | (go_simp; rfl) | (go_simp; omega)
            try simp only [Act.put, List.setIfInBounds_toArray, List.set_cons_zero, List.set_cons_succ]
            refine take_on (i := 18) (v := .bool true) rfl (by kernel_rfl) (by kernel_rfl) (by kernel_rfl) (fun _ _ _ h => h) (by kernel_rfl) (fun W' hSW => ?_) (by assumption) ?_
            · obtain ⟨⟨x0, x1, x2⟩, ⟨y0, y1, y2⟩, ⟨z0, z1, z2⟩, ⟨v0, v1, v2⟩⟩ := hSW
              first | (go_simp; done) | exact rfl | (go_simp; rfl) | (go_simp; omega)
            try simp only [Act.put, List.setIfInBounds_toArray, List.set_cons_zero, List.set_cons_succ]
            refine take_on (i := 19) (v := .bool true) rfl (by kernel_rfl) (by kernel_rfl) (by kernel_rfl) (fun _ _ _ h => h) (by kernel_rfl) (fun W' hSW => ?_) (by assumption) ?_
            · obtain ⟨⟨x0, x1, x2⟩, ⟨y0, y1, y2⟩, ⟨z0, z1, z2⟩, ⟨v0, v1, v2⟩⟩ := hSW
              first | (go_simp; done) | exact rfl | (go_simp; rfl) | (go_simp; omega)
            try simp only [Act.put, List.setIfInBounds_toArray, List.set_cons_zero, List.set_cons_succ]
            refine take_on (i := 20) (v := .bool true) rfl (by kernel_rfl) (by kernel_rfl) (by kernel_rfl) (fun _ _ _ h => h) (by kernel_rfl) (fun W' hSW => ?_) (by assumption) ?_
            · obtain ⟨⟨x0, x1, x2⟩, ⟨y0, y1, y2⟩, ⟨z0, z1, z2⟩, ⟨v0, v1, v2⟩⟩ := hSW
              first | (go_simp; done) | exact rfl | (go_simp; rfl) | (go_simp; omega)
            try simp only [Act.put, List.setIfInBounds_toArray, List.set_cons_zero, List.set_cons_succ]
            refine wpAnyH_done (by kernel_rfl) ?_ _
            go_wp2
            go_ret
            exact ⟨rfl, S.out.fr⟩
          · have d1 : decide (c ≤ 0) = false := decide_eq_false h1
            have hB : Bq = false := by
              rw [← hq]
              have : ¬ p.time = q.time := fun h => h1 (HLW.out.2 h).1
              simpa using this
            subst hB
            clear h1 HLW hq
            refine take_on (i := 6) (v := .bool false) rfl (by kernel_rfl) (by kernel_rfl) (by kernel_rfl) (fun _ _ _ h => h) (by kernel_rfl) (fun W' hSW => ?_) (by assumption) ?_
            · obtain ⟨⟨x0, x1, x2⟩, ⟨y0, y1, y2⟩, ⟨z0, z1, z2⟩, ⟨v0, v1, v2⟩⟩ := hSW
              first | (go_simp; done) | exact rfl | (go_simp; rfl) | (go_simp; omega)
            try simp only [Act.put, List.setIfInBounds_toArray, List.set_cons_zero, List.set_cons_succ]
            refine take_on (i := 7) (v := .bool false) rfl (by kernel_rfl) (by kernel_rfl) (by kernel_rfl) (fun _ _ _ h => h) (by kernel_rfl) (fun W' hSW => ?_) (by assumption) ?_
            · obtain ⟨⟨x0, x1, x2⟩, ⟨y0, y1, y2⟩, ⟨z0, z1, z2⟩, ⟨v0, v1, v2⟩⟩ := hSW
              first | (go_simp; done) | exact rfl | (go_simp; rfl) | (go_simp; omega)
            try simp only [Act.put, List.setIfInBounds_toArray, List.set_cons_zero, List.set_cons_succ]
            refine take_off (i := 8) rfl (by kernel_rfl) (by kernel_rfl) (by kernel_rfl) (fun _ _ _ h => h) (by kernel_rfl) (by assumption) ?_
            try simp only [Act.put, List.setIfInBounds_toArray, List.set_cons_zero, List.set_cons_succ]
            refine take_off (i := 9) rfl (by kernel_rfl) (by kernel_rfl) (by kernel_rfl) (fun _ _ _ h => h) (by kernel_rfl) (by assumption) ?_
            try simp only [Act.put, List.setIfInBounds_toArray, List.set_cons_zero, List.set_cons_succ]
            refine take_off (i := 10) rfl (by kernel_rfl) (by kernel_rfl) (by kernel_rfl) (fun _ _ _ h => h) (by kernel_rfl) (by assumption) ?_
            try simp only [Act.put, List.setIfInBounds_toArray, List.set_cons_zero, List.set_cons_succ]
            refine take_off (i := 11) rfl (by kernel_rfl) (by kernel_rfl) (by kernel_rfl) (fun _ _ _ h => h) (by kernel_rfl) (by assumption) ?_
            try simp only [Act.put, List.setIfInBounds_toArray, List.set_cons_zero, List.set_cons_succ]
            refine take_on (i := 12) (v := .bool false) rfl (by kernel_rfl) (by kernel_rfl) (by kernel_rfl) (fun _ _ _ h => h) (by kernel_rfl) (fun W' hSW => ?_) (by assumption) ?_
            · obtain ⟨⟨x0, x1, x2⟩, ⟨y0, y1, y2⟩, ⟨z0, z1, z2⟩, ⟨v0, v1, v2⟩⟩ := hSW
              first | (go_simp; done) | exact rfl | (go_simp; rfl) | (go_simp; omega)
            try simp only [Act.put, List.setIfInBounds_toArray, List.set_cons_zero, List.set_cons_succ]
            refine take_on (i := 18) (v := .bool true) rfl (by kernel_rfl) (by kernel_rfl) (by kernel_rfl) (fun _ _ _ h => h) (by kernel_rfl) (fun W' hSW => ?_) (by assumption) ?_
            · obtain ⟨⟨x0, x1, x2⟩, ⟨y0, y1, y2⟩, ⟨z0, z1, z2⟩, ⟨v0, v1, v2⟩⟩ := hSW
              first | (go_simp; done) | exact rfl | (go_simp; rfl) | (go_simp; omega)
            try simp only [Act.put, List.setIfInBounds_toArray, List.set_cons_zero, List.set_cons_succ]
            refine take_on (i := 19) (v := .bool true) rfl (by kernel_rfl) (by kernel_rfl) (by kernel_rfl) (fun _ _ _ h => h) (by kernel_rfl) (fun W' hSW => ?_) (by assumption) ?_
            · obtain ⟨⟨x0, x1, x2⟩, ⟨y0, y1, y2⟩, ⟨z0, z1, z2⟩, ⟨v0, v1, v2⟩⟩ := hSW
              first | (go_simp; done) | exact rfl | (go_simp; rfl) | (go_simp; omega)
            try simp only [Act.put, List.setIfInBounds_toArray, List.set_cons_zero, List.set_cons_succ]
            refine take_on (i := 20) (v := .bool true) rfl (by kernel_rfl) (by kernel_rfl) (by kernel_rfl) (fun _ _ _ h => h) (by kernel_rfl) (fun W' hSW => ?_) (by assumption) ?_
            · obtain ⟨⟨x0, x1, x2⟩, ⟨y0, y1, y2⟩, ⟨z0, z1, z2⟩, ⟨v0, v1, v2⟩⟩ := hSW
              first | (go_simp; done) | exact rfl | (go_simp; rfl) | (go_simp; omega)
            try simp only [Act.put, List.setIfInBounds_toArray, List.set_cons_zero, List.set_cons_succ]
            refine wpAnyH_done (by kernel_rfl) ?_ _
            go_wp2
            go_ret
            exact ⟨rfl, S.out.fr⟩
        · have d : decide (0 < cmpK p q) = false := decide_eq_false hlt
          clear hlt
          go_wp2_with fail
          clear d a0 a1 a2 H1 H2 Hn Hb
          refine (Ends_any p.time _).mono ?_
          rintro e e1 ⟨rfl, hf⟩
          rw [show endsV p.time = (⟨p.time, 0, 0⟩, ⟨p.time, 16, 4294967295⟩, 0) from if_pos ⟨Hx.out.1, Hx.out.2.1⟩]
          simp only [keyV]
          have S := Lib.hid ((S.out.later hf).new ⟨p.time, 0, 0⟩)
          clear hf
          go_wp2_with fail
          have S := Lib.hid (S.out.new ⟨p.time, 16, 4294967295⟩)
          obtain ⟨fb, hfb⟩ : ∃ fb, e1.heap.size = fb := ⟨_, rfl⟩
          have hs : (e1.alloc (.cells #[.int .i64 p.time, .int .i64 0, .int .i64 0] 24)).heap.size = fb + 1 := by rw [← hfb]; simp
          obtain ⟨E, hE⟩ : ∃ E, (e1.alloc (.cells #[.int .i64 p.time, .int .i64 0, .int .i64 0] 24)).alloc (.cells #[.int .i64 p.time, .int .i64 16, .int .i64 4294967295] 24) = E := ⟨_, rfl⟩
          dsimp only at S
          rw [hs, hfb, hE] at S
          rw [hE, hfb]
          clear hs hfb hE
          have HLW := Lib.hid (ends_time (x := p) Hy.out)
          have HO := Lib.hid order_any
          obtain ⟨Bq, hq⟩ : ∃ B, (p.time == q.time) = B := ⟨_, rfl⟩
          refine wp_region_held_drew (S := fun W' => C3 W' fb ⟨p.time, 0, 0⟩ ∧ C3 W' (fb + 1) ⟨p.time, 16, 4294967295⟩ ∧ C3 W' pa p ∧ C3 W' pb q) (by kernel_rfl) ⟨S.out.cell (by simp), S.out.cell (by simp), S.out.cell (by simp), S.out.cell (by simp)⟩ (fun hHeld => ?_)
          refine take_on (i := 0) (v := .int .i64 0) rfl (by kernel_rfl) (by kernel_rfl) (by kernel_rfl) (fun _ _ _ h => h) (by kernel_rfl) (fun W' hSW => ?_) (by assumption) ?_
          · obtain ⟨⟨x0, x1, x2⟩, ⟨y0, y1, y2⟩, ⟨z0, z1, z2⟩, ⟨v0, v1, v2⟩⟩ := hSW
            first | (go_simp; done) | exact rfl | (go_simp; rfl) | (go_simp; omega)
          try simp only [Act.put, List.setIfInBounds_toArray, List.set_cons_zero, List.set_cons_succ]
          refine take_on (i := 1) (v := .bool true) rfl (by kernel_rfl) (by kernel_rfl) (by kernel_rfl) (fun _ _ _ h => h) (by kernel_rfl) (fun W' hSW => ?_) (by assumption) ?_
          · obtain ⟨⟨x0, x1, x2⟩, ⟨y0, y1, y2⟩, ⟨z0, z1, z2⟩, ⟨v0, v1, v2⟩⟩ := hSW
            first | (go_simp; done) | exact rfl | (go_simp; rfl) | (go_simp; omega)
          try simp only [Act.put, List.setIfInBounds_toArray, List.set_cons_zero, List.set_cons_succ]
          refine take_on (i := 2) (v := .bool true) rfl (by kernel_rfl) (by kernel_rfl) (by kernel_rfl) (fun _ _ _ h => h) (by kernel_rfl) (fun W' hSW => ?_) (by assumption) ?_
          · obtain ⟨⟨x0, x1, x2⟩, ⟨y0, y1, y2⟩, ⟨z0, z1, z2⟩, ⟨v0, v1, v2⟩⟩ := hSW
            first | (go_simp; done) | exact rfl | (go_simp; rfl) | (go_simp; omega)
          try simp only [Act.put, List.setIfInBounds_toArray, List.set_cons_zero, List.set_cons_succ]
          refine take_on (i := 13) (v := .pointer (some ⟨pa, 0, none⟩)) rfl (by kernel_rfl) (by kernel_rfl) (by kernel_rfl) (fun _ _ _ h => h) (by kernel_rfl) (fun W' hSW => ?_) (by assumption) ?_
          · obtain ⟨⟨x0, x1, x2⟩, ⟨y0, y1, y2⟩, ⟨z0, z1, z2⟩, ⟨v0, v1, v2⟩⟩ := hSW
            first | (go_simp; done) | exact rfl | (go_simp; rfl) | (go_simp; omega)
          try simp only [Act.put, List.setIfInBounds_toArray, List.set_cons_zero, List.set_cons_succ]
          refine take_on (i := 14) (v := .int .i64 p.time) rfl (by kernel_rfl) (by kernel_rfl) (by kernel_rfl) (fun _ _ _ h => h) (by kernel_rfl) (fun W' hSW => ?_) (by assumption) ?_
          · obtain ⟨⟨x0, x1, x2⟩, ⟨y0, y1, y2⟩, ⟨z0, z1, z2⟩, ⟨v0, v1, v2⟩⟩ := hSW
            first | (go_simp; done) | exact rfl | (go_simp; rfl) | (go_simp; omega)
          try simp only [Act.put, List.setIfInBounds_toArray, List.set_cons_zero, List.set_cons_succ]
          refine take_on (i := 15) (v := .pointer (some ⟨pb, 0, none⟩)) rfl (by kernel_rfl) (by kernel_rfl) (by kernel_rfl) (fun _ _ _ h => h) (by kernel_rfl) (fun W' hSW => ?_) (by assumption) ?_
          · obtain ⟨⟨x0, x1, x2⟩, ⟨y0, y1, y2⟩, ⟨z0, z1, z2⟩, ⟨v0, v1, v2⟩⟩ := hSW
            first | (go_simp; done) | exact rfl | (go_simp; rfl) | (go_simp; omega)
          try simp only [Act.put, List.setIfInBounds_toArray, List.set_cons_zero, List.set_cons_succ]
          refine take_on (i := 16) (v := .int .i64 q.time) rfl (by kernel_rfl) (by kernel_rfl) (by kernel_rfl) (fun _ _ _ h => h) (by kernel_rfl) (fun W' hSW => ?_) (by assumption) ?_
          · obtain ⟨⟨x0, x1, x2⟩, ⟨y0, y1, y2⟩, ⟨z0, z1, z2⟩, ⟨v0, v1, v2⟩⟩ := hSW
            first | (go_simp; done) | exact rfl | (go_simp; rfl) | (go_simp; omega)
          try simp only [Act.put, List.setIfInBounds_toArray, List.set_cons_zero, List.set_cons_succ]
          refine take_on (i := 17) (v := .bool Bq) rfl (by kernel_rfl) (by kernel_rfl) (by kernel_rfl) (fun _ _ _ h => h) (by kernel_rfl) (fun W' hSW => ?_) (by assumption) ?_
          · obtain ⟨⟨x0, x1, x2⟩, ⟨y0, y1, y2⟩, ⟨z0, z1, z2⟩, ⟨v0, v1, v2⟩⟩ := hSW
            first | (go_simp; done) | exact rfl | (go_simp; rfl) | (go_simp; omega)
          try simp only [Act.put, List.setIfInBounds_toArray, List.set_cons_zero, List.set_cons_succ]
          refine take_on (i := 3) (v := .agg #[.int .i64 p.time, .int .i64 0, .int .i64 0]) rfl (by kernel_rfl) (by kernel_rfl) (by kernel_rfl) (fun _ _ _ h => h) (by kernel_rfl) (fun W' hSW => ?_) (by assumption) ?_
          · obtain ⟨⟨x0, x1, x2⟩, ⟨y0, y1, y2⟩, ⟨z0, z1, z2⟩, ⟨v0, v1, v2⟩⟩ := hSW
            first | (go_simp; done) | exact rfl | (go_simp; rfl) | (go_simp; omega)
          try simp only [Act.put, List.setIfInBounds_toArray, List.set_cons_zero, List.set_cons_succ]
          refine take_on (i := 4) (v := .agg #[.int .i64 q.time, .int .i64 q.source, .int .i64 q.seq]) rfl (by kernel_rfl) (by kernel_rfl) (by kernel_rfl) (fun _ _ _ h => h) (by kernel_rfl) (fun W' hSW => ?_) (by assumption) ?_
          · obtain ⟨⟨x0, x1, x2⟩, ⟨y0, y1, y2⟩, ⟨z0, z1, z2⟩, ⟨v0, v1, v2⟩⟩ := hSW
            first | (go_simp; done) | exact rfl | (go_simp; rfl) | (go_simp; omega)
          try simp only [Act.put, List.setIfInBounds_toArray, List.set_cons_zero, List.set_cons_succ]
          refine take_call (i := 5) rfl (by kernel_rfl) (by kernel_rfl) (fun K hK => ?_)
          go_simp
          refine (HO.out ⟨p.time, 0, 0⟩ q _).mono ?_
          rintro e e2 ⟨rfl, hf⟩
          obtain ⟨c, hc⟩ : ∃ c, cmpK ⟨p.time, 0, 0⟩ q = c := ⟨_, rfl⟩
          rw [hc] at HLW ⊢
          have S := Lib.hid ((S.out.later (Fr0.refl none' E).drew).later hf)
          clear hf hc
          go_wp2_with fail
          refine hK.out _ _ ⟨S.out.cell (by simp), S.out.cell (by simp), S.out.cell (by simp), S.out.cell (by simp)⟩ (fun hHeld => ?_)
          clear hK K
          try simp only [Act.put, List.setIfInBounds_toArray, List.set_cons_zero, List.set_cons_succ]
          by_cases h1 : c ≤ 0
          · have d1 : decide (c ≤ 0) = true := decide_eq_true h1
            refine take_on (i := 6) (v := .bool true) rfl (by kernel_rfl) (by kernel_rfl) (by kernel_rfl) (fun _ _ _ h => h) (by kernel_rfl) (fun W' hSW => ?_) (by assumption) ?_
            · obtain ⟨⟨x0, x1, x2⟩, ⟨y0, y1, y2⟩, ⟨z0, z1, z2⟩, ⟨v0, v1, v2⟩⟩ := hSW
              first | (go_simp; done) | exact rfl | (go_simp; rfl) | (go_simp; omega)
            try simp only [Act.put, List.setIfInBounds_toArray, List.set_cons_zero, List.set_cons_succ]
            refine take_on (i := 7) (v := .bool true) rfl (by kernel_rfl) (by kernel_rfl) (by kernel_rfl) (fun _ _ _ h => h) (by kernel_rfl) (fun W' hSW => ?_) (by assumption) ?_
            · obtain ⟨⟨x0, x1, x2⟩, ⟨y0, y1, y2⟩, ⟨z0, z1, z2⟩, ⟨v0, v1, v2⟩⟩ := hSW
              first | (go_simp; done) | exact rfl | (go_simp; rfl) | (go_simp; omega)
            try simp only [Act.put, List.setIfInBounds_toArray, List.set_cons_zero, List.set_cons_succ]
            refine take_on (i := 8) (v := .agg #[.int .i64 q.time, .int .i64 q.source, .int .i64 q.seq]) rfl (by kernel_rfl) (by kernel_rfl) (by kernel_rfl) (fun _ _ _ h => h) (by kernel_rfl) (fun W' hSW => ?_) (by assumption) ?_
            · obtain ⟨⟨x0, x1, x2⟩, ⟨y0, y1, y2⟩, ⟨z0, z1, z2⟩, ⟨v0, v1, v2⟩⟩ := hSW
              first | (go_simp; done) | exact rfl | (go_simp; rfl) | (go_simp; omega)
            try simp only [Act.put, List.setIfInBounds_toArray, List.set_cons_zero, List.set_cons_succ]
            refine take_on (i := 9) (v := .agg #[.int .i64 p.time, .int .i64 16, .int .i64 4294967295]) rfl (by kernel_rfl) (by kernel_rfl) (by kernel_rfl) (fun _ _ _ h => h) (by kernel_rfl) (fun W' hSW => ?_) (by assumption) ?_
            · obtain ⟨⟨x0, x1, x2⟩, ⟨y0, y1, y2⟩, ⟨z0, z1, z2⟩, ⟨v0, v1, v2⟩⟩ := hSW
              first | (go_simp; done) | exact rfl | (go_simp; rfl) | (go_simp; omega)
            try simp only [Act.put, List.setIfInBounds_toArray, List.set_cons_zero, List.set_cons_succ]
            refine take_call (i := 10) rfl (by kernel_rfl) (by kernel_rfl) (fun K hK => ?_)
            go_simp
            refine (HO.out q ⟨p.time, 16, 4294967295⟩ _).mono ?_
            rintro e e3 ⟨rfl, hf⟩
            obtain ⟨c', hc⟩ : ∃ c, cmpK q ⟨p.time, 16, 4294967295⟩ = c := ⟨_, rfl⟩
            rw [hc] at HLW ⊢
            have S := Lib.hid (S.out.later hf)
            clear hf hc
            go_wp2_with fail
            refine hK.out _ _ ⟨S.out.cell (by simp), S.out.cell (by simp), S.out.cell (by simp), S.out.cell (by simp)⟩ (fun hHeld => ?_)
            clear hK K
            try simp only [Act.put, List.setIfInBounds_toArray, List.set_cons_zero, List.set_cons_succ]
            have hB : decide (c' ≤ 0) = Bq := by
              rw [← hq]
              by_cases h2 : c' ≤ 0
              · rw [decide_eq_true h2]; simpa using HLW.out.1 ⟨h1, h2⟩
              · rw [decide_eq_false h2]
                have : ¬ p.time = q.time := fun h => h2 (HLW.out.2 h).2
                simpa using this
            clear h1 HLW hq
            refine take_on (i := 11) (v := .bool Bq) rfl (by kernel_rfl) (by kernel_rfl) (by kernel_rfl) (fun _ _ _ h => h) (by kernel_rfl) (fun W' hSW => ?_) (by assumption) ?_
            · obtain ⟨⟨x0, x1, x2⟩, ⟨y0, y1, y2⟩, ⟨z0, z1, z2⟩, ⟨v0, v1, v2⟩⟩ := hSW
              first | (go_simp; done) | exact rfl | (go_simp; rfl) | (go_simp; omega)
            try simp only [Act.put, List.setIfInBounds_toArray, List.set_cons_zero, List.set_cons_succ]
            refine take_on (i := 12) (v := .bool Bq) rfl (by kernel_rfl) (by kernel_rfl) (by kernel_rfl) (fun _ _ _ h => h) (by kernel_rfl) (fun W' hSW => ?_) (by assumption) ?_
            · obtain ⟨⟨x0, x1, x2⟩, ⟨y0, y1, y2⟩, ⟨z0, z1, z2⟩, ⟨v0, v1, v2⟩⟩ := hSW
              first | (go_simp; done) | exact rfl | (go_simp; rfl) | (go_simp; omega)
            try simp only [Act.put, List.setIfInBounds_toArray, List.set_cons_zero, List.set_cons_succ]
            refine take_on (i := 18) (v := .bool true) rfl (by kernel_rfl) (by kernel_rfl) (by kernel_rfl) (fun _ _ _ h => h) (by kernel_rfl) (fun W' hSW => ?_) (by assumption) ?_
            · obtain ⟨⟨x0, x1, x2⟩, ⟨y0, y1, y2⟩, ⟨z0, z1, z2⟩, ⟨v0, v1, v2⟩⟩ := hSW
              first | (go_simp; done) | exact rfl | (go_simp; rfl) | (go_simp; omega)
            try simp only [Act.put, List.setIfInBounds_toArray, List.set_cons_zero, List.set_cons_succ]
            refine take_on (i := 19) (v := .bool true) rfl (by kernel_rfl) (by kernel_rfl) (by kernel_rfl) (fun _ _ _ h => h) (by kernel_rfl) (fun W' hSW => ?_) (by assumption) ?_
            · obtain ⟨⟨x0, x1, x2⟩, ⟨y0, y1, y2⟩, ⟨z0, z1, z2⟩, ⟨v0, v1, v2⟩⟩ := hSW
              first | (go_simp; done) | exact rfl | (go_simp; rfl) | (go_simp; omega)
            try simp only [Act.put, List.setIfInBounds_toArray, List.set_cons_zero, List.set_cons_succ]
            refine take_on (i := 20) (v := .bool true) rfl (by kernel_rfl) (by kernel_rfl) (by kernel_rfl) (fun _ _ _ h => h) (by kernel_rfl) (fun W' hSW => ?_) (by assumption) ?_
            · obtain ⟨⟨x0, x1, x2⟩, ⟨y0, y1, y2⟩, ⟨z0, z1, z2⟩, ⟨v0, v1, v2⟩⟩ := hSW
              first | (go_simp; done) | exact rfl | (go_simp; rfl) | (go_simp; omega)
            try simp only [Act.put, List.setIfInBounds_toArray, List.set_cons_zero, List.set_cons_succ]
            refine wpAnyH_done (by kernel_rfl) ?_ _
            go_wp2
            go_ret
            exact ⟨rfl, S.out.fr⟩
          · have d1 : decide (c ≤ 0) = false := decide_eq_false h1
            have hB : Bq = false := by
              rw [← hq]
              have : ¬ p.time = q.time := fun h => h1 (HLW.out.2 h).1
              simpa using this
            subst hB
            clear h1 HLW hq
            refine take_on (i := 6) (v := .bool false) rfl (by kernel_rfl) (by kernel_rfl) (by kernel_rfl) (fun _ _ _ h => h) (by kernel_rfl) (fun W' hSW => ?_) (by assumption) ?_
            · obtain ⟨⟨x0, x1, x2⟩, ⟨y0, y1, y2⟩, ⟨z0, z1, z2⟩, ⟨v0, v1, v2⟩⟩ := hSW
              first | (go_simp; done) | exact rfl | (go_simp; rfl) | (go_simp; omega)
            try simp only [Act.put, List.setIfInBounds_toArray, List.set_cons_zero, List.set_cons_succ]
            refine take_on (i := 7) (v := .bool false) rfl (by kernel_rfl) (by kernel_rfl) (by kernel_rfl) (fun _ _ _ h => h) (by kernel_rfl) (fun W' hSW => ?_) (by assumption) ?_
            · obtain ⟨⟨x0, x1, x2⟩, ⟨y0, y1, y2⟩, ⟨z0, z1, z2⟩, ⟨v0, v1, v2⟩⟩ := hSW
              first | (go_simp; done) | exact rfl | (go_simp; rfl) | (go_simp; omega)
            try simp only [Act.put, List.setIfInBounds_toArray, List.set_cons_zero, List.set_cons_succ]
            refine take_off (i := 8) rfl (by kernel_rfl) (by kernel_rfl) (by kernel_rfl) (fun _ _ _ h => h) (by kernel_rfl) (by assumption) ?_
            try simp only [Act.put, List.setIfInBounds_toArray, List.set_cons_zero, List.set_cons_succ]
            refine take_off (i := 9) rfl (by kernel_rfl) (by kernel_rfl) (by kernel_rfl) (fun _ _ _ h => h) (by kernel_rfl) (by assumption) ?_
            try simp only [Act.put, List.setIfInBounds_toArray, List.set_cons_zero, List.set_cons_succ]
            refine take_off (i := 10) rfl (by kernel_rfl) (by kernel_rfl) (by kernel_rfl) (fun _ _ _ h => h) (by kernel_rfl) (by assumption) ?_
            try simp only [Act.put, List.setIfInBounds_toArray, List.set_cons_zero, List.set_cons_succ]
            refine take_off (i := 11) rfl (by kernel_rfl) (by kernel_rfl) (by kernel_rfl) (fun _ _ _ h => h) (by kernel_rfl) (by assumption) ?_
            try simp only [Act.put, List.setIfInBounds_toArray, List.set_cons_zero, List.set_cons_succ]
            refine take_on (i := 12) (v := .bool false) rfl (by kernel_rfl) (by kernel_rfl) (by kernel_rfl) (fun _ _ _ h => h) (by kernel_rfl) (fun W' hSW => ?_) (by assumption) ?_
            · obtain ⟨⟨x0, x1, x2⟩, ⟨y0, y1, y2⟩, ⟨z0, z1, z2⟩, ⟨v0, v1, v2⟩⟩ := hSW
              first | (go_simp; done) | exact rfl | (go_simp; rfl) | (go_simp; omega)
            try simp only [Act.put, List.setIfInBounds_toArray, List.set_cons_zero, List.set_cons_succ]
            refine take_on (i := 18) (v := .bool true) rfl (by kernel_rfl) (by kernel_rfl) (by kernel_rfl) (fun _ _ _ h => h) (by kernel_rfl) (fun W' hSW => ?_) (by assumption) ?_
            · obtain ⟨⟨x0, x1, x2⟩, ⟨y0, y1, y2⟩, ⟨z0, z1, z2⟩, ⟨v0, v1, v2⟩⟩ := hSW
              first | (go_simp; done) | exact rfl | (go_simp; rfl) | (go_simp; omega)
            try simp only [Act.put, List.setIfInBounds_toArray, List.set_cons_zero, List.set_cons_succ]
            refine take_on (i := 19) (v := .bool true) rfl (by kernel_rfl) (by kernel_rfl) (by kernel_rfl) (fun _ _ _ h => h) (by kernel_rfl) (fun W' hSW => ?_) (by assumption) ?_
            · obtain ⟨⟨x0, x1, x2⟩, ⟨y0, y1, y2⟩, ⟨z0, z1, z2⟩, ⟨v0, v1, v2⟩⟩ := hSW
              first | (go_simp; done) | exact rfl | (go_simp; rfl) | (go_simp; omega)
            try simp only [Act.put, List.setIfInBounds_toArray, List.set_cons_zero, List.set_cons_succ]
            refine take_on (i := 20) (v := .bool true) rfl (by kernel_rfl) (by kernel_rfl) (by kernel_rfl) (fun _ _ _ h => h) (by kernel_rfl) (fun W' hSW => ?_) (by assumption) ?_
            · obtain ⟨⟨x0, x1, x2⟩, ⟨y0, y1, y2⟩, ⟨z0, z1, z2⟩, ⟨v0, v1, v2⟩⟩ := hSW
              first | (go_simp; done) | exact rfl | (go_simp; rfl) | (go_simp; omega)
            try simp only [Act.put, List.setIfInBounds_toArray, List.set_cons_zero, List.set_cons_succ]
            refine wpAnyH_done (by kernel_rfl) ?_ _
            go_wp2
            go_ret
            exact ⟨rfl, S.out.fr⟩
    | some n =>
      obtain ⟨hnr, hback, hone, hbet⟩ := nextK_some Hx.out hn
      refine (next_lit p n Hx.out hn _).mono ?_
      rintro e w2 ⟨rfl, hf⟩
      have Hn := Lib.hid hnr
      have Hb := Lib.hid hback
      have H1 := Lib.hid hone
      have H2 := Lib.hid (show cmpK p q < 0 → cmpK n q ≤ 0 from hbet q Hy.out)
      have S := Lib.hid ((S.out.later hf).new n)
      simp only [keyV]
      clear hn hnr hback hone hbet hf
      go_wp2_with fail
      refine (back_lit n p Hn.out Hb.out _).mono ?_
      rintro e w3 ⟨rfl, hf⟩
      simp only [keyV]
      have S := Lib.hid ((S.out.later hf).new p)
      obtain ⟨nb, hnb⟩ : ∃ nb, w2.heap.size = nb := ⟨_, rfl⟩
      rw [hnb] at S ⊢
      clear hf hnb
      have ⟨a0, a1, a2⟩ := S.out.cell (b := pa) (k := p) (by simp)
      have ⟨b0, b1, b2⟩ := S.out.cell (b := nb) (k := n) (by simp)
      go_wp2_with fail
      refine (order_any p n _).mono ?_
      rintro e w4 ⟨rfl, hf⟩
      rw [H1.out]
      have S := Lib.hid (S.out.later hf)
      clear hf a0 a1 a2 b0 b1 b2
      have ⟨a0, a1, a2⟩ := S.out.cell (b := pa) (k := p) (by simp)
      have ⟨b0, b1, b2⟩ := S.out.cell (b := pb) (k := q) (by simp)
      go_wp2_with fail
      refine (order_any p q _).mono ?_
      rintro e w5 ⟨rfl, hf⟩
      have S := Lib.hid (S.out.later hf)
      clear hf a0 a1 a2 b0 b1 b2
      have ⟨a0, a1, a2⟩ := S.out.cell (b := pa) (k := p) (by simp)
      by_cases hlt : cmpK p q < 0
      · have d : decide (cmpK p q < 0) = true := decide_eq_true hlt
        have H3 := Lib.hid (show decide (0 < cmpK n q) = false from decide_eq_false (by have := H2.out hlt; omega))
        have ⟨b0, b1, b2⟩ := S.out.cell (b := pb) (k := q) (by simp)
        have ⟨c0, c1, c2⟩ := S.out.cell (b := nb) (k := n) (by simp)
        clear hlt
        go_wp2_with fail
        refine (order_any n q _).mono ?_
        rintro e w6 ⟨rfl, hf⟩
        have S := Lib.hid (S.out.later hf)
        clear hf a0 a1 a2 b0 b1 b2 c0 c1 c2
        have ⟨a0, a1, a2⟩ := S.out.cell (b := pa) (k := p) (by simp)
        have d2 := H3.out
        go_wp2_with fail
        clear d d2 a0 a1 a2 H1 H2 H3 Hn Hb
        cases hn : backK p with
        | none =>
          have hlt := backK_none Hx.out hn q Hy.out
          refine (back_lit0 p Hx.out hn _).mono ?_
          rintro e z2 ⟨rfl, hf⟩
          have S := Lib.hid ((S.out.later hf).new ⟨0, 0, 0⟩)
          have Hlt := Lib.hid (show decide (0 < cmpK p q) = false from decide_eq_false hlt)
          clear hlt hf hn
          have ⟨a0, a1, a2⟩ := S.out.cell (b := pa) (k := p) (by simp)
          have ⟨b0, b1, b2⟩ := S.out.cell (b := pb) (k := q) (by simp)
          dsimp only at a0 a1 a2 b0 b1 b2
          go_wp2_with fail
          refine (order_any p q _).mono ?_
          rintro e z3 ⟨rfl, hf⟩
          have S := Lib.hid (S.out.later hf)
          have d := Hlt.out
          clear a0 a1 a2 b0 b1 b2 hf
          have ⟨a0, a1, a2⟩ := S.out.cell (b := pa) (k := p) (by simp)
          go_wp2_with fail
          clear d a0 a1 a2 Hlt
          refine (Ends_any p.time _).mono ?_
          rintro e e1 ⟨rfl, hf⟩
          rw [show endsV p.time = (⟨p.time, 0, 0⟩, ⟨p.time, 16, 4294967295⟩, 0) from if_pos ⟨Hx.out.1, Hx.out.2.1⟩]
          simp only [keyV]
          have S := Lib.hid ((S.out.later hf).new ⟨p.time, 0, 0⟩)
          clear hf
          go_wp2_with fail
          have S := Lib.hid (S.out.new ⟨p.time, 16, 4294967295⟩)
          obtain ⟨fb, hfb⟩ : ∃ fb, e1.heap.size = fb := ⟨_, rfl⟩
          have hs : (e1.alloc (.cells #[.int .i64 p.time, .int .i64 0, .int .i64 0] 24)).heap.size = fb + 1 := by rw [← hfb]; simp
          obtain ⟨E, hE⟩ : ∃ E, (e1.alloc (.cells #[.int .i64 p.time, .int .i64 0, .int .i64 0] 24)).alloc (.cells #[.int .i64 p.time, .int .i64 16, .int .i64 4294967295] 24) = E := ⟨_, rfl⟩
          dsimp only at S
          rw [hs, hfb, hE] at S
          rw [hE, hfb]
          clear hs hfb hE
          have HLW := Lib.hid (ends_time (x := p) Hy.out)
          have HO := Lib.hid order_any
          obtain ⟨Bq, hq⟩ : ∃ B, (p.time == q.time) = B := ⟨_, rfl⟩
          refine wp_region_held_drew (S := fun W' => C3 W' fb ⟨p.time, 0, 0⟩ ∧ C3 W' (fb + 1) ⟨p.time, 16, 4294967295⟩ ∧ C3 W' pa p ∧ C3 W' pb q) (by kernel_rfl) ⟨S.out.cell (by simp), S.out.cell (by simp), S.out.cell (by simp), S.out.cell (by simp)⟩ (fun hHeld => ?_)
          refine take_on (i := 0) (v := .int .i64 0) rfl (by kernel_rfl) (by kernel_rfl) (by kernel_rfl) (fun _ _ _ h => h) (by kernel_rfl) (fun W' hSW => ?_) (by assumption) ?_
          · obtain ⟨⟨x0, x1, x2⟩, ⟨y0, y1, y2⟩, ⟨z0, z1, z2⟩, ⟨v0, v1, v2⟩⟩ := hSW
            first | (go_simp; done) | exact rfl | (go_simp; rfl) | (go_simp; omega)
          try simp only [Act.put, List.setIfInBounds_toArray, List.set_cons_zero, List.set_cons_succ]
          refine take_on (i := 1) (v := .bool true) rfl (by kernel_rfl) (by kernel_rfl) (by kernel_rfl) (fun _ _ _ h => h) (by kernel_rfl) (fun W' hSW => ?_) (by assumption) ?_
          · obtain ⟨⟨x0, x1, x2⟩, ⟨y0, y1, y2⟩, ⟨z0, z1, z2⟩, ⟨v0, v1, v2⟩⟩ := hSW
            first | (go_simp; done) | exact rfl | (go_simp; rfl) | (go_simp; omega)
          try simp only [Act.put, List.setIfInBounds_toArray, List.set_cons_zero, List.set_cons_succ]
          refine take_on (i := 2) (v := .bool true) rfl (by kernel_rfl) (by kernel_rfl) (by kernel_rfl) (fun _ _ _ h => h) (by kernel_rfl) (fun W' hSW => ?_) (by assumption) ?_
          · obtain ⟨⟨x0, x1, x2⟩, ⟨y0, y1, y2⟩, ⟨z0, z1, z2⟩, ⟨v0, v1, v2⟩⟩ := hSW
            first | (go_simp; done) | exact rfl | (go_simp; rfl) | (go_simp; omega)
          try simp only [Act.put, List.setIfInBounds_toArray, List.set_cons_zero, List.set_cons_succ]
          refine take_on (i := 13) (v := .pointer (some ⟨pa, 0, none⟩)) rfl (by kernel_rfl) (by kernel_rfl) (by kernel_rfl) (fun _ _ _ h => h) (by kernel_rfl) (fun W' hSW => ?_) (by assumption) ?_
          · obtain ⟨⟨x0, x1, x2⟩, ⟨y0, y1, y2⟩, ⟨z0, z1, z2⟩, ⟨v0, v1, v2⟩⟩ := hSW
            first | (go_simp; done) | exact rfl | (go_simp; rfl) | (go_simp; omega)
          try simp only [Act.put, List.setIfInBounds_toArray, List.set_cons_zero, List.set_cons_succ]
          refine take_on (i := 14) (v := .int .i64 p.time) rfl (by kernel_rfl) (by kernel_rfl) (by kernel_rfl) (fun _ _ _ h => h) (by kernel_rfl) (fun W' hSW => ?_) (by assumption) ?_
          · obtain ⟨⟨x0, x1, x2⟩, ⟨y0, y1, y2⟩, ⟨z0, z1, z2⟩, ⟨v0, v1, v2⟩⟩ := hSW
            first | (go_simp; done) | exact rfl | (go_simp; rfl) | (go_simp; omega)
          try simp only [Act.put, List.setIfInBounds_toArray, List.set_cons_zero, List.set_cons_succ]
          refine take_on (i := 15) (v := .pointer (some ⟨pb, 0, none⟩)) rfl (by kernel_rfl) (by kernel_rfl) (by kernel_rfl) (fun _ _ _ h => h) (by kernel_rfl) (fun W' hSW => ?_) (by assumption) ?_
          · obtain ⟨⟨x0, x1, x2⟩, ⟨y0, y1, y2⟩, ⟨z0, z1, z2⟩, ⟨v0, v1, v2⟩⟩ := hSW
            first | (go_simp; done) | exact rfl | (go_simp; rfl) | (go_simp; omega)
          try simp only [Act.put, List.setIfInBounds_toArray, List.set_cons_zero, List.set_cons_succ]
          refine take_on (i := 16) (v := .int .i64 q.time) rfl (by kernel_rfl) (by kernel_rfl) (by kernel_rfl) (fun _ _ _ h => h) (by kernel_rfl) (fun W' hSW => ?_) (by assumption) ?_
          · obtain ⟨⟨x0, x1, x2⟩, ⟨y0, y1, y2⟩, ⟨z0, z1, z2⟩, ⟨v0, v1, v2⟩⟩ := hSW
            first | (go_simp; done) | exact rfl | (go_simp; rfl) | (go_simp; omega)
          try simp only [Act.put, List.setIfInBounds_toArray, List.set_cons_zero, List.set_cons_succ]
          refine take_on (i := 17) (v := .bool Bq) rfl (by kernel_rfl) (by kernel_rfl) (by kernel_rfl) (fun _ _ _ h => h) (by kernel_rfl) (fun W' hSW => ?_) (by assumption) ?_
          · obtain ⟨⟨x0, x1, x2⟩, ⟨y0, y1, y2⟩, ⟨z0, z1, z2⟩, ⟨v0, v1, v2⟩⟩ := hSW
            first | (go_simp; done) | exact rfl | (go_simp; rfl) | (go_simp; omega)
          try simp only [Act.put, List.setIfInBounds_toArray, List.set_cons_zero, List.set_cons_succ]
          refine take_on (i := 3) (v := .agg #[.int .i64 p.time, .int .i64 0, .int .i64 0]) rfl (by kernel_rfl) (by kernel_rfl) (by kernel_rfl) (fun _ _ _ h => h) (by kernel_rfl) (fun W' hSW => ?_) (by assumption) ?_
          · obtain ⟨⟨x0, x1, x2⟩, ⟨y0, y1, y2⟩, ⟨z0, z1, z2⟩, ⟨v0, v1, v2⟩⟩ := hSW
            first | (go_simp; done) | exact rfl | (go_simp; rfl) | (go_simp; omega)
          try simp only [Act.put, List.setIfInBounds_toArray, List.set_cons_zero, List.set_cons_succ]
          refine take_on (i := 4) (v := .agg #[.int .i64 q.time, .int .i64 q.source, .int .i64 q.seq]) rfl (by kernel_rfl) (by kernel_rfl) (by kernel_rfl) (fun _ _ _ h => h) (by kernel_rfl) (fun W' hSW => ?_) (by assumption) ?_
          · obtain ⟨⟨x0, x1, x2⟩, ⟨y0, y1, y2⟩, ⟨z0, z1, z2⟩, ⟨v0, v1, v2⟩⟩ := hSW
            first | (go_simp; done) | exact rfl | (go_simp; rfl) | (go_simp; omega)
          try simp only [Act.put, List.setIfInBounds_toArray, List.set_cons_zero, List.set_cons_succ]
          refine take_call (i := 5) rfl (by kernel_rfl) (by kernel_rfl) (fun K hK => ?_)
          go_simp
          refine (HO.out ⟨p.time, 0, 0⟩ q _).mono ?_
          rintro e e2 ⟨rfl, hf⟩
          obtain ⟨c, hc⟩ : ∃ c, cmpK ⟨p.time, 0, 0⟩ q = c := ⟨_, rfl⟩
          rw [hc] at HLW ⊢
          have S := Lib.hid ((S.out.later (Fr0.refl none' E).drew).later hf)
          clear hf hc
          go_wp2_with fail
          refine hK.out _ _ ⟨S.out.cell (by simp), S.out.cell (by simp), S.out.cell (by simp), S.out.cell (by simp)⟩ (fun hHeld => ?_)
          clear hK K
          try simp only [Act.put, List.setIfInBounds_toArray, List.set_cons_zero, List.set_cons_succ]
          by_cases h1 : c ≤ 0
          · have d1 : decide (c ≤ 0) = true := decide_eq_true h1
            refine take_on (i := 6) (v := .bool true) rfl (by kernel_rfl) (by kernel_rfl) (by kernel_rfl) (fun _ _ _ h => h) (by kernel_rfl) (fun W' hSW => ?_) (by assumption) ?_
            · obtain ⟨⟨x0, x1, x2⟩, ⟨y0, y1, y2⟩, ⟨z0, z1, z2⟩, ⟨v0, v1, v2⟩⟩ := hSW
              first | (go_simp; done) | exact rfl | (go_simp; rfl) | (go_simp; omega)
            try simp only [Act.put, List.setIfInBounds_toArray, List.set_cons_zero, List.set_cons_succ]
            refine take_on (i := 7) (v := .bool true) rfl (by kernel_rfl) (by kernel_rfl) (by kernel_rfl) (fun _ _ _ h => h) (by kernel_rfl) (fun W' hSW => ?_) (by assumption) ?_
            · obtain ⟨⟨x0, x1, x2⟩, ⟨y0, y1, y2⟩, ⟨z0, z1, z2⟩, ⟨v0, v1, v2⟩⟩ := hSW
              first | (go_simp; done) | exact rfl | (go_simp; rfl) | (go_simp; omega)
            try simp only [Act.put, List.setIfInBounds_toArray, List.set_cons_zero, List.set_cons_succ]
            refine take_on (i := 8) (v := .agg #[.int .i64 q.time, .int .i64 q.source, .int .i64 q.seq]) rfl (by kernel_rfl) (by kernel_rfl) (by kernel_rfl) (fun _ _ _ h => h) (by kernel_rfl) (fun W' hSW => ?_) (by assumption) ?_
            · obtain ⟨⟨x0, x1, x2⟩, ⟨y0, y1, y2⟩, ⟨z0, z1, z2⟩, ⟨v0, v1, v2⟩⟩ := hSW
              first | (go_simp; done) | exact rfl | (go_simp; rfl) | (go_simp; omega)
            try simp only [Act.put, List.setIfInBounds_toArray, List.set_cons_zero, List.set_cons_succ]
            refine take_on (i := 9) (v := .agg #[.int .i64 p.time, .int .i64 16, .int .i64 4294967295]) rfl (by kernel_rfl) (by kernel_rfl) (by kernel_rfl) (fun _ _ _ h => h) (by kernel_rfl) (fun W' hSW => ?_) (by assumption) ?_
            · obtain ⟨⟨x0, x1, x2⟩, ⟨y0, y1, y2⟩, ⟨z0, z1, z2⟩, ⟨v0, v1, v2⟩⟩ := hSW
              first | (go_simp; done) | exact rfl | (go_simp; rfl) | (go_simp; omega)
            try simp only [Act.put, List.setIfInBounds_toArray, List.set_cons_zero, List.set_cons_succ]
            refine take_call (i := 10) rfl (by kernel_rfl) (by kernel_rfl) (fun K hK => ?_)
            go_simp
            refine (HO.out q ⟨p.time, 16, 4294967295⟩ _).mono ?_
            rintro e e3 ⟨rfl, hf⟩
            obtain ⟨c', hc⟩ : ∃ c, cmpK q ⟨p.time, 16, 4294967295⟩ = c := ⟨_, rfl⟩
            rw [hc] at HLW ⊢
            have S := Lib.hid (S.out.later hf)
            clear hf hc
            go_wp2_with fail
            refine hK.out _ _ ⟨S.out.cell (by simp), S.out.cell (by simp), S.out.cell (by simp), S.out.cell (by simp)⟩ (fun hHeld => ?_)
            clear hK K
            try simp only [Act.put, List.setIfInBounds_toArray, List.set_cons_zero, List.set_cons_succ]
            have hB : decide (c' ≤ 0) = Bq := by
              rw [← hq]
              by_cases h2 : c' ≤ 0
              · rw [decide_eq_true h2]; simpa using HLW.out.1 ⟨h1, h2⟩
              · rw [decide_eq_false h2]
                have : ¬ p.time = q.time := fun h => h2 (HLW.out.2 h).2
                simpa using this
            clear h1 HLW hq
            refine take_on (i := 11) (v := .bool Bq) rfl (by kernel_rfl) (by kernel_rfl) (by kernel_rfl) (fun _ _ _ h => h) (by kernel_rfl) (fun W' hSW => ?_) (by assumption) ?_
            · obtain ⟨⟨x0, x1, x2⟩, ⟨y0, y1, y2⟩, ⟨z0, z1, z2⟩, ⟨v0, v1, v2⟩⟩ := hSW
              first | (go_simp; done) | exact rfl | (go_simp; rfl) | (go_simp; omega)
            try simp only [Act.put, List.setIfInBounds_toArray, List.set_cons_zero, List.set_cons_succ]
            refine take_on (i := 12) (v := .bool Bq) rfl (by kernel_rfl) (by kernel_rfl) (by kernel_rfl) (fun _ _ _ h => h) (by kernel_rfl) (fun W' hSW => ?_) (by assumption) ?_
            · obtain ⟨⟨x0, x1, x2⟩, ⟨y0, y1, y2⟩, ⟨z0, z1, z2⟩, ⟨v0, v1, v2⟩⟩ := hSW
              first | (go_simp; done) | exact rfl | (go_simp; rfl) | (go_simp; omega)
            try simp only [Act.put, List.setIfInBounds_toArray, List.set_cons_zero, List.set_cons_succ]
            refine take_on (i := 18) (v := .bool true) rfl (by kernel_rfl) (by kernel_rfl) (by kernel_rfl) (fun _ _ _ h => h) (by kernel_rfl) (fun W' hSW => ?_) (by assumption) ?_
            · obtain ⟨⟨x0, x1, x2⟩, ⟨y0, y1, y2⟩, ⟨z0, z1, z2⟩, ⟨v0, v1, v2⟩⟩ := hSW
              first | (go_simp; done) | exact rfl | (go_simp; rfl) | (go_simp; omega)
            try simp only [Act.put, List.setIfInBounds_toArray, List.set_cons_zero, List.set_cons_succ]
            refine take_on (i := 19) (v := .bool true) rfl (by kernel_rfl) (by kernel_rfl) (by kernel_rfl) (fun _ _ _ h => h) (by kernel_rfl) (fun W' hSW => ?_) (by assumption) ?_
            · obtain ⟨⟨x0, x1, x2⟩, ⟨y0, y1, y2⟩, ⟨z0, z1, z2⟩, ⟨v0, v1, v2⟩⟩ := hSW
              first | (go_simp; done) | exact rfl | (go_simp; rfl) | (go_simp; omega)
            try simp only [Act.put, List.setIfInBounds_toArray, List.set_cons_zero, List.set_cons_succ]
            refine take_on (i := 20) (v := .bool true) rfl (by kernel_rfl) (by kernel_rfl) (by kernel_rfl) (fun _ _ _ h => h) (by kernel_rfl) (fun W' hSW => ?_) (by assumption) ?_
            · obtain ⟨⟨x0, x1, x2⟩, ⟨y0, y1, y2⟩, ⟨z0, z1, z2⟩, ⟨v0, v1, v2⟩⟩ := hSW
              first | (go_simp; done) | exact rfl | (go_simp; rfl) | (go_simp; omega)
            try simp only [Act.put, List.setIfInBounds_toArray, List.set_cons_zero, List.set_cons_succ]
            refine wpAnyH_done (by kernel_rfl) ?_ _
            go_wp2
            go_ret
            exact ⟨rfl, S.out.fr⟩
          · have d1 : decide (c ≤ 0) = false := decide_eq_false h1
            have hB : Bq = false := by
              rw [← hq]
              have : ¬ p.time = q.time := fun h => h1 (HLW.out.2 h).1
              simpa using this
            subst hB
            clear h1 HLW hq
            refine take_on (i := 6) (v := .bool false) rfl (by kernel_rfl) (by kernel_rfl) (by kernel_rfl) (fun _ _ _ h => h) (by kernel_rfl) (fun W' hSW => ?_) (by assumption) ?_
            · obtain ⟨⟨x0, x1, x2⟩, ⟨y0, y1, y2⟩, ⟨z0, z1, z2⟩, ⟨v0, v1, v2⟩⟩ := hSW
              first | (go_simp; done) | exact rfl | (go_simp; rfl) | (go_simp; omega)
            try simp only [Act.put, List.setIfInBounds_toArray, List.set_cons_zero, List.set_cons_succ]
            refine take_on (i := 7) (v := .bool false) rfl (by kernel_rfl) (by kernel_rfl) (by kernel_rfl) (fun _ _ _ h => h) (by kernel_rfl) (fun W' hSW => ?_) (by assumption) ?_
            · obtain ⟨⟨x0, x1, x2⟩, ⟨y0, y1, y2⟩, ⟨z0, z1, z2⟩, ⟨v0, v1, v2⟩⟩ := hSW
              first | (go_simp; done) | exact rfl | (go_simp; rfl) | (go_simp; omega)
            try simp only [Act.put, List.setIfInBounds_toArray, List.set_cons_zero, List.set_cons_succ]
            refine take_off (i := 8) rfl (by kernel_rfl) (by kernel_rfl) (by kernel_rfl) (fun _ _ _ h => h) (by kernel_rfl) (by assumption) ?_
            try simp only [Act.put, List.setIfInBounds_toArray, List.set_cons_zero, List.set_cons_succ]
            refine take_off (i := 9) rfl (by kernel_rfl) (by kernel_rfl) (by kernel_rfl) (fun _ _ _ h => h) (by kernel_rfl) (by assumption) ?_
            try simp only [Act.put, List.setIfInBounds_toArray, List.set_cons_zero, List.set_cons_succ]
            refine take_off (i := 10) rfl (by kernel_rfl) (by kernel_rfl) (by kernel_rfl) (fun _ _ _ h => h) (by kernel_rfl) (by assumption) ?_
            try simp only [Act.put, List.setIfInBounds_toArray, List.set_cons_zero, List.set_cons_succ]
            refine take_off (i := 11) rfl (by kernel_rfl) (by kernel_rfl) (by kernel_rfl) (fun _ _ _ h => h) (by kernel_rfl) (by assumption) ?_
            try simp only [Act.put, List.setIfInBounds_toArray, List.set_cons_zero, List.set_cons_succ]
            refine take_on (i := 12) (v := .bool false) rfl (by kernel_rfl) (by kernel_rfl) (by kernel_rfl) (fun _ _ _ h => h) (by kernel_rfl) (fun W' hSW => ?_) (by assumption) ?_
            · obtain ⟨⟨x0, x1, x2⟩, ⟨y0, y1, y2⟩, ⟨z0, z1, z2⟩, ⟨v0, v1, v2⟩⟩ := hSW
              first | (go_simp; done) | exact rfl | (go_simp; rfl) | (go_simp; omega)
            try simp only [Act.put, List.setIfInBounds_toArray, List.set_cons_zero, List.set_cons_succ]
            refine take_on (i := 18) (v := .bool true) rfl (by kernel_rfl) (by kernel_rfl) (by kernel_rfl) (fun _ _ _ h => h) (by kernel_rfl) (fun W' hSW => ?_) (by assumption) ?_
            · obtain ⟨⟨x0, x1, x2⟩, ⟨y0, y1, y2⟩, ⟨z0, z1, z2⟩, ⟨v0, v1, v2⟩⟩ := hSW
              first | (go_simp; done) | exact rfl | (go_simp; rfl) | (go_simp; omega)
            try simp only [Act.put, List.setIfInBounds_toArray, List.set_cons_zero, List.set_cons_succ]
            refine take_on (i := 19) (v := .bool true) rfl (by kernel_rfl) (by kernel_rfl) (by kernel_rfl) (fun _ _ _ h => h) (by kernel_rfl) (fun W' hSW => ?_) (by assumption) ?_
            · obtain ⟨⟨x0, x1, x2⟩, ⟨y0, y1, y2⟩, ⟨z0, z1, z2⟩, ⟨v0, v1, v2⟩⟩ := hSW
              first | (go_simp; done) | exact rfl | (go_simp; rfl) | (go_simp; omega)
            try simp only [Act.put, List.setIfInBounds_toArray, List.set_cons_zero, List.set_cons_succ]
            refine take_on (i := 20) (v := .bool true) rfl (by kernel_rfl) (by kernel_rfl) (by kernel_rfl) (fun _ _ _ h => h) (by kernel_rfl) (fun W' hSW => ?_) (by assumption) ?_
            · obtain ⟨⟨x0, x1, x2⟩, ⟨y0, y1, y2⟩, ⟨z0, z1, z2⟩, ⟨v0, v1, v2⟩⟩ := hSW
              first | (go_simp; done) | exact rfl | (go_simp; rfl) | (go_simp; omega)
            try simp only [Act.put, List.setIfInBounds_toArray, List.set_cons_zero, List.set_cons_succ]
            refine wpAnyH_done (by kernel_rfl) ?_ _
            go_wp2
            go_ret
            exact ⟨rfl, S.out.fr⟩
        | some n =>
          obtain ⟨hnr, hback, hone, hbet⟩ := backK_some Hx.out hn
          refine (back_lit p n Hx.out hn _).mono ?_
          rintro e z2 ⟨rfl, hf⟩
          have Hn := Lib.hid hnr
          have Hb := Lib.hid hback
          have H1 := Lib.hid hone
          have H2 := Lib.hid (show 0 < cmpK p q → 0 ≤ cmpK n q from hbet q Hy.out)
          have S := Lib.hid ((S.out.later hf).new n)
          simp only [keyV]
          clear hn hnr hback hone hbet hf
          go_wp2_with fail
          refine (next_lit n p Hn.out Hb.out _).mono ?_
          rintro e z3 ⟨rfl, hf⟩
          simp only [keyV]
          have S := Lib.hid ((S.out.later hf).new p)
          obtain ⟨nb, hnb⟩ : ∃ nb, z2.heap.size = nb := ⟨_, rfl⟩
          rw [hnb] at S ⊢
          clear hf hnb
          have ⟨a0, a1, a2⟩ := S.out.cell (b := pa) (k := p) (by simp)
          have ⟨b0, b1, b2⟩ := S.out.cell (b := nb) (k := n) (by simp)
          go_wp2_with fail
          refine (order_any n p _).mono ?_
          rintro e z4 ⟨rfl, hf⟩
          rw [H1.out]
          have S := Lib.hid (S.out.later hf)
          clear hf a0 a1 a2 b0 b1 b2
          have ⟨a0, a1, a2⟩ := S.out.cell (b := pa) (k := p) (by simp)
          have ⟨b0, b1, b2⟩ := S.out.cell (b := pb) (k := q) (by simp)
          go_wp2_with fail
          refine (order_any p q _).mono ?_
          rintro e z5 ⟨rfl, hf⟩
          have S := Lib.hid (S.out.later hf)
          clear hf a0 a1 a2 b0 b1 b2
          have ⟨a0, a1, a2⟩ := S.out.cell (b := pa) (k := p) (by simp)
          by_cases hlt : 0 < cmpK p q
          · have d : decide (0 < cmpK p q) = true := decide_eq_true hlt
            have H3 := Lib.hid (show decide (cmpK n q < 0) = false from decide_eq_false (by have := H2.out hlt; omega))
            have ⟨b0, b1, b2⟩ := S.out.cell (b := pb) (k := q) (by simp)
            have ⟨c0, c1, c2⟩ := S.out.cell (b := nb) (k := n) (by simp)
            clear hlt
            go_wp2_with fail
            refine (order_any n q _).mono ?_
            rintro e z6 ⟨rfl, hf⟩
            have S := Lib.hid (S.out.later hf)
            clear hf a0 a1 a2 b0 b1 b2 c0 c1 c2
            have ⟨a0, a1, a2⟩ := S.out.cell (b := pa) (k := p) (by simp)
            have d2 := H3.out
            go_wp2_with fail
            clear d d2 a0 a1 a2 H1 H2 H3 Hn Hb
            refine (Ends_any p.time _).mono ?_
            rintro e e1 ⟨rfl, hf⟩
            rw [show endsV p.time = (⟨p.time, 0, 0⟩, ⟨p.time, 16, 4294967295⟩, 0) from if_pos ⟨Hx.out.1, Hx.out.2.1⟩]
            simp only [keyV]
            have S := Lib.hid ((S.out.later hf).new ⟨p.time, 0, 0⟩)
            clear hf
            go_wp2_with fail
            have S := Lib.hid (S.out.new ⟨p.time, 16, 4294967295⟩)
            obtain ⟨fb, hfb⟩ : ∃ fb, e1.heap.size = fb := ⟨_, rfl⟩
            have hs : (e1.alloc (.cells #[.int .i64 p.time, .int .i64 0, .int .i64 0] 24)).heap.size = fb + 1 := by rw [← hfb]; simp
            obtain ⟨E, hE⟩ : ∃ E, (e1.alloc (.cells #[.int .i64 p.time, .int .i64 0, .int .i64 0] 24)).alloc (.cells #[.int .i64 p.time, .int .i64 16, .int .i64 4294967295] 24) = E := ⟨_, rfl⟩
            dsimp only at S
            rw [hs, hfb, hE] at S
            rw [hE, hfb]
            clear hs hfb hE
            have HLW := Lib.hid (ends_time (x := p) Hy.out)
            have HO := Lib.hid order_any
            obtain ⟨Bq, hq⟩ : ∃ B, (p.time == q.time) = B := ⟨_, rfl⟩
            refine wp_region_held_drew (S := fun W' => C3 W' fb ⟨p.time, 0, 0⟩ ∧ C3 W' (fb + 1) ⟨p.time, 16, 4294967295⟩ ∧ C3 W' pa p ∧ C3 W' pb q) (by kernel_rfl) ⟨S.out.cell (by simp), S.out.cell (by simp), S.out.cell (by simp), S.out.cell (by simp)⟩ (fun hHeld => ?_)
            refine take_on (i := 0) (v := .int .i64 0) rfl (by kernel_rfl) (by kernel_rfl) (by kernel_rfl) (fun _ _ _ h => h) (by kernel_rfl) (fun W' hSW => ?_) (by assumption) ?_
            · obtain ⟨⟨x0, x1, x2⟩, ⟨y0, y1, y2⟩, ⟨z0, z1, z2⟩, ⟨v0, v1, v2⟩⟩ := hSW
              first | (go_simp; done) | exact rfl | (go_simp; rfl) | (go_simp; omega)
            try simp only [Act.put, List.setIfInBounds_toArray, List.set_cons_zero, List.set_cons_succ]
            refine take_on (i := 1) (v := .bool true) rfl (by kernel_rfl) (by kernel_rfl) (by kernel_rfl) (fun _ _ _ h => h) (by kernel_rfl) (fun W' hSW => ?_) (by assumption) ?_
            · obtain ⟨⟨x0, x1, x2⟩, ⟨y0, y1, y2⟩, ⟨z0, z1, z2⟩, ⟨v0, v1, v2⟩⟩ := hSW
              first | (go_simp; done) | exact rfl | (go_simp; rfl) | (go_simp; omega)
            try simp only [Act.put, List.setIfInBounds_toArray, List.set_cons_zero, List.set_cons_succ]
            refine take_on (i := 2) (v := .bool true) rfl (by kernel_rfl) (by kernel_rfl) (by kernel_rfl) (fun _ _ _ h => h) (by kernel_rfl) (fun W' hSW => ?_) (by assumption) ?_
            · obtain ⟨⟨x0, x1, x2⟩, ⟨y0, y1, y2⟩, ⟨z0, z1, z2⟩, ⟨v0, v1, v2⟩⟩ := hSW
              first | (go_simp; done) | exact rfl | (go_simp; rfl) | (go_simp; omega)
            try simp only [Act.put, List.setIfInBounds_toArray, List.set_cons_zero, List.set_cons_succ]
            refine take_on (i := 13) (v := .pointer (some ⟨pa, 0, none⟩)) rfl (by kernel_rfl) (by kernel_rfl) (by kernel_rfl) (fun _ _ _ h => h) (by kernel_rfl) (fun W' hSW => ?_) (by assumption) ?_
            · obtain ⟨⟨x0, x1, x2⟩, ⟨y0, y1, y2⟩, ⟨z0, z1, z2⟩, ⟨v0, v1, v2⟩⟩ := hSW
              first | (go_simp; done) | exact rfl | (go_simp; rfl) | (go_simp; omega)
            try simp only [Act.put, List.setIfInBounds_toArray, List.set_cons_zero, List.set_cons_succ]
            refine take_on (i := 14) (v := .int .i64 p.time) rfl (by kernel_rfl) (by kernel_rfl) (by kernel_rfl) (fun _ _ _ h => h) (by kernel_rfl) (fun W' hSW => ?_) (by assumption) ?_
            · obtain ⟨⟨x0, x1, x2⟩, ⟨y0, y1, y2⟩, ⟨z0, z1, z2⟩, ⟨v0, v1, v2⟩⟩ := hSW
              first | (go_simp; done) | exact rfl | (go_simp; rfl) | (go_simp; omega)
            try simp only [Act.put, List.setIfInBounds_toArray, List.set_cons_zero, List.set_cons_succ]
            refine take_on (i := 15) (v := .pointer (some ⟨pb, 0, none⟩)) rfl (by kernel_rfl) (by kernel_rfl) (by kernel_rfl) (fun _ _ _ h => h) (by kernel_rfl) (fun W' hSW => ?_) (by assumption) ?_
            · obtain ⟨⟨x0, x1, x2⟩, ⟨y0, y1, y2⟩, ⟨z0, z1, z2⟩, ⟨v0, v1, v2⟩⟩ := hSW
              first | (go_simp; done) | exact rfl | (go_simp; rfl) | (go_simp; omega)
            try simp only [Act.put, List.setIfInBounds_toArray, List.set_cons_zero, List.set_cons_succ]
            refine take_on (i := 16) (v := .int .i64 q.time) rfl (by kernel_rfl) (by kernel_rfl) (by kernel_rfl) (fun _ _ _ h => h) (by kernel_rfl) (fun W' hSW => ?_) (by assumption) ?_
            · obtain ⟨⟨x0, x1, x2⟩, ⟨y0, y1, y2⟩, ⟨z0, z1, z2⟩, ⟨v0, v1, v2⟩⟩ := hSW
              first | (go_simp; done) | exact rfl | (go_simp; rfl) | (go_simp; omega)
            try simp only [Act.put, List.setIfInBounds_toArray, List.set_cons_zero, List.set_cons_succ]
            refine take_on (i := 17) (v := .bool Bq) rfl (by kernel_rfl) (by kernel_rfl) (by kernel_rfl) (fun _ _ _ h => h) (by kernel_rfl) (fun W' hSW => ?_) (by assumption) ?_
            · obtain ⟨⟨x0, x1, x2⟩, ⟨y0, y1, y2⟩, ⟨z0, z1, z2⟩, ⟨v0, v1, v2⟩⟩ := hSW
              first | (go_simp; done) | exact rfl | (go_simp; rfl) | (go_simp; omega)
            try simp only [Act.put, List.setIfInBounds_toArray, List.set_cons_zero, List.set_cons_succ]
            refine take_on (i := 3) (v := .agg #[.int .i64 p.time, .int .i64 0, .int .i64 0]) rfl (by kernel_rfl) (by kernel_rfl) (by kernel_rfl) (fun _ _ _ h => h) (by kernel_rfl) (fun W' hSW => ?_) (by assumption) ?_
            · obtain ⟨⟨x0, x1, x2⟩, ⟨y0, y1, y2⟩, ⟨z0, z1, z2⟩, ⟨v0, v1, v2⟩⟩ := hSW
              first | (go_simp; done) | exact rfl | (go_simp; rfl) | (go_simp; omega)
            try simp only [Act.put, List.setIfInBounds_toArray, List.set_cons_zero, List.set_cons_succ]
            refine take_on (i := 4) (v := .agg #[.int .i64 q.time, .int .i64 q.source, .int .i64 q.seq]) rfl (by kernel_rfl) (by kernel_rfl) (by kernel_rfl) (fun _ _ _ h => h) (by kernel_rfl) (fun W' hSW => ?_) (by assumption) ?_
            · obtain ⟨⟨x0, x1, x2⟩, ⟨y0, y1, y2⟩, ⟨z0, z1, z2⟩, ⟨v0, v1, v2⟩⟩ := hSW
              first | (go_simp; done) | exact rfl | (go_simp; rfl) | (go_simp; omega)
            try simp only [Act.put, List.setIfInBounds_toArray, List.set_cons_zero, List.set_cons_succ]
            refine take_call (i := 5) rfl (by kernel_rfl) (by kernel_rfl) (fun K hK => ?_)
            go_simp
            refine (HO.out ⟨p.time, 0, 0⟩ q _).mono ?_
            rintro e e2 ⟨rfl, hf⟩
            obtain ⟨c, hc⟩ : ∃ c, cmpK ⟨p.time, 0, 0⟩ q = c := ⟨_, rfl⟩
            rw [hc] at HLW ⊢
            have S := Lib.hid ((S.out.later (Fr0.refl none' E).drew).later hf)
            clear hf hc
            go_wp2_with fail
            refine hK.out _ _ ⟨S.out.cell (by simp), S.out.cell (by simp), S.out.cell (by simp), S.out.cell (by simp)⟩ (fun hHeld => ?_)
            clear hK K
            try simp only [Act.put, List.setIfInBounds_toArray, List.set_cons_zero, List.set_cons_succ]
            by_cases h1 : c ≤ 0
            · have d1 : decide (c ≤ 0) = true := decide_eq_true h1
              refine take_on (i := 6) (v := .bool true) rfl (by kernel_rfl) (by kernel_rfl) (by kernel_rfl) (fun _ _ _ h => h) (by kernel_rfl) (fun W' hSW => ?_) (by assumption) ?_
              · obtain ⟨⟨x0, x1, x2⟩, ⟨y0, y1, y2⟩, ⟨z0, z1, z2⟩, ⟨v0, v1, v2⟩⟩ := hSW
                first | (go_simp; done) | exact rfl | (go_simp; rfl) | (go_simp; omega)
              try simp only [Act.put, List.setIfInBounds_toArray, List.set_cons_zero, List.set_cons_succ]
              refine take_on (i := 7) (v := .bool true) rfl (by kernel_rfl) (by kernel_rfl) (by kernel_rfl) (fun _ _ _ h => h) (by kernel_rfl) (fun W' hSW => ?_) (by assumption) ?_
              · obtain ⟨⟨x0, x1, x2⟩, ⟨y0, y1, y2⟩, ⟨z0, z1, z2⟩, ⟨v0, v1, v2⟩⟩ := hSW
                first | (go_simp; done) | exact rfl | (go_simp; rfl) | (go_simp; omega)
              try simp only [Act.put, List.setIfInBounds_toArray, List.set_cons_zero, List.set_cons_succ]
              refine take_on (i := 8) (v := .agg #[.int .i64 q.time, .int .i64 q.source, .int .i64 q.seq]) rfl (by kernel_rfl) (by kernel_rfl) (by kernel_rfl) (fun _ _ _ h => h) (by kernel_rfl) (fun W' hSW => ?_) (by assumption) ?_
              · obtain ⟨⟨x0, x1, x2⟩, ⟨y0, y1, y2⟩, ⟨z0, z1, z2⟩, ⟨v0, v1, v2⟩⟩ := hSW
                first | (go_simp; done) | exact rfl | (go_simp; rfl) | (go_simp; omega)
              try simp only [Act.put, List.setIfInBounds_toArray, List.set_cons_zero, List.set_cons_succ]
              refine take_on (i := 9) (v := .agg #[.int .i64 p.time, .int .i64 16, .int .i64 4294967295]) rfl (by kernel_rfl) (by kernel_rfl) (by kernel_rfl) (fun _ _ _ h => h) (by kernel_rfl) (fun W' hSW => ?_) (by assumption) ?_
              · obtain ⟨⟨x0, x1, x2⟩, ⟨y0, y1, y2⟩, ⟨z0, z1, z2⟩, ⟨v0, v1, v2⟩⟩ := hSW
                first | (go_simp; done) | exact rfl | (go_simp; rfl) | (go_simp; omega)
              try simp only [Act.put, List.setIfInBounds_toArray, List.set_cons_zero, List.set_cons_succ]
              refine take_call (i := 10) rfl (by kernel_rfl) (by kernel_rfl) (fun K hK => ?_)
              go_simp
              refine (HO.out q ⟨p.time, 16, 4294967295⟩ _).mono ?_
              rintro e e3 ⟨rfl, hf⟩
              obtain ⟨c', hc⟩ : ∃ c, cmpK q ⟨p.time, 16, 4294967295⟩ = c := ⟨_, rfl⟩
              rw [hc] at HLW ⊢
              have S := Lib.hid (S.out.later hf)
              clear hf hc
              go_wp2_with fail
              refine hK.out _ _ ⟨S.out.cell (by simp), S.out.cell (by simp), S.out.cell (by simp), S.out.cell (by simp)⟩ (fun hHeld => ?_)
              clear hK K
              try simp only [Act.put, List.setIfInBounds_toArray, List.set_cons_zero, List.set_cons_succ]
              have hB : decide (c' ≤ 0) = Bq := by
                rw [← hq]
                by_cases h2 : c' ≤ 0
                · rw [decide_eq_true h2]; simpa using HLW.out.1 ⟨h1, h2⟩
                · rw [decide_eq_false h2]
                  have : ¬ p.time = q.time := fun h => h2 (HLW.out.2 h).2
                  simpa using this
              clear h1 HLW hq
              refine take_on (i := 11) (v := .bool Bq) rfl (by kernel_rfl) (by kernel_rfl) (by kernel_rfl) (fun _ _ _ h => h) (by kernel_rfl) (fun W' hSW => ?_) (by assumption) ?_
              · obtain ⟨⟨x0, x1, x2⟩, ⟨y0, y1, y2⟩, ⟨z0, z1, z2⟩, ⟨v0, v1, v2⟩⟩ := hSW
                first | (go_simp; done) | exact rfl | (go_simp; rfl) | (go_simp; omega)
              try simp only [Act.put, List.setIfInBounds_toArray, List.set_cons_zero, List.set_cons_succ]
              refine take_on (i := 12) (v := .bool Bq) rfl (by kernel_rfl) (by kernel_rfl) (by kernel_rfl) (fun _ _ _ h => h) (by kernel_rfl) (fun W' hSW => ?_) (by assumption) ?_
              · obtain ⟨⟨x0, x1, x2⟩, ⟨y0, y1, y2⟩, ⟨z0, z1, z2⟩, ⟨v0, v1, v2⟩⟩ := hSW
                first | (go_simp; done) | exact rfl | (go_simp; rfl) | (go_simp; omega)
              try simp only [Act.put, List.setIfInBounds_toArray, List.set_cons_zero, List.set_cons_succ]
              refine take_on (i := 18) (v := .bool true) rfl (by kernel_rfl) (by kernel_rfl) (by kernel_rfl) (fun _ _ _ h => h) (by kernel_rfl) (fun W' hSW => ?_) (by assumption) ?_
              · obtain ⟨⟨x0, x1, x2⟩, ⟨y0, y1, y2⟩, ⟨z0, z1, z2⟩, ⟨v0, v1, v2⟩⟩ := hSW
                first | (go_simp; done) | exact rfl | (go_simp; rfl) | (go_simp; omega)
              try simp only [Act.put, List.setIfInBounds_toArray, List.set_cons_zero, List.set_cons_succ]
              refine take_on (i := 19) (v := .bool true) rfl (by kernel_rfl) (by kernel_rfl) (by kernel_rfl) (fun _ _ _ h => h) (by kernel_rfl) (fun W' hSW => ?_) (by assumption) ?_
              · obtain ⟨⟨x0, x1, x2⟩, ⟨y0, y1, y2⟩, ⟨z0, z1, z2⟩, ⟨v0, v1, v2⟩⟩ := hSW
                first | (go_simp; done) | exact rfl | (go_simp; rfl) | (go_simp; omega)
              try simp only [Act.put, List.setIfInBounds_toArray, List.set_cons_zero, List.set_cons_succ]
              refine take_on (i := 20) (v := .bool true) rfl (by kernel_rfl) (by kernel_rfl) (by kernel_rfl) (fun _ _ _ h => h) (by kernel_rfl) (fun W' hSW => ?_) (by assumption) ?_
              · obtain ⟨⟨x0, x1, x2⟩, ⟨y0, y1, y2⟩, ⟨z0, z1, z2⟩, ⟨v0, v1, v2⟩⟩ := hSW
                first | (go_simp; done) | exact rfl | (go_simp; rfl) | (go_simp; omega)
              try simp only [Act.put, List.setIfInBounds_toArray, List.set_cons_zero, List.set_cons_succ]
              refine wpAnyH_done (by kernel_rfl) ?_ _
              go_wp2
              go_ret
              exact ⟨rfl, S.out.fr⟩
            · have d1 : decide (c ≤ 0) = false := decide_eq_false h1
              have hB : Bq = false := by
                rw [← hq]
                have : ¬ p.time = q.time := fun h => h1 (HLW.out.2 h).1
                simpa using this
              subst hB
              clear h1 HLW hq
              refine take_on (i := 6) (v := .bool false) rfl (by kernel_rfl) (by kernel_rfl) (by kernel_rfl) (fun _ _ _ h => h) (by kernel_rfl) (fun W' hSW => ?_) (by assumption) ?_
              · obtain ⟨⟨x0, x1, x2⟩, ⟨y0, y1, y2⟩, ⟨z0, z1, z2⟩, ⟨v0, v1, v2⟩⟩ := hSW
                first | (go_simp; done) | exact rfl | (go_simp; rfl) | (go_simp; omega)
              try simp only [Act.put, List.setIfInBounds_toArray, List.set_cons_zero, List.set_cons_succ]
              refine take_on (i := 7) (v := .bool false) rfl (by kernel_rfl) (by kernel_rfl) (by kernel_rfl) (fun _ _ _ h => h) (by kernel_rfl) (fun W' hSW => ?_) (by assumption) ?_
              · obtain ⟨⟨x0, x1, x2⟩, ⟨y0, y1, y2⟩, ⟨z0, z1, z2⟩, ⟨v0, v1, v2⟩⟩ := hSW
                first | (go_simp; done) | exact rfl | (go_simp; rfl) | (go_simp; omega)
              try simp only [Act.put, List.setIfInBounds_toArray, List.set_cons_zero, List.set_cons_succ]
              refine take_off (i := 8) rfl (by kernel_rfl) (by kernel_rfl) (by kernel_rfl) (fun _ _ _ h => h) (by kernel_rfl) (by assumption) ?_
              try simp only [Act.put, List.setIfInBounds_toArray, List.set_cons_zero, List.set_cons_succ]
              refine take_off (i := 9) rfl (by kernel_rfl) (by kernel_rfl) (by kernel_rfl) (fun _ _ _ h => h) (by kernel_rfl) (by assumption) ?_
              try simp only [Act.put, List.setIfInBounds_toArray, List.set_cons_zero, List.set_cons_succ]
              refine take_off (i := 10) rfl (by kernel_rfl) (by kernel_rfl) (by kernel_rfl) (fun _ _ _ h => h) (by kernel_rfl) (by assumption) ?_
              try simp only [Act.put, List.setIfInBounds_toArray, List.set_cons_zero, List.set_cons_succ]
              refine take_off (i := 11) rfl (by kernel_rfl) (by kernel_rfl) (by kernel_rfl) (fun _ _ _ h => h) (by kernel_rfl) (by assumption) ?_
              try simp only [Act.put, List.setIfInBounds_toArray, List.set_cons_zero, List.set_cons_succ]
              refine take_on (i := 12) (v := .bool false) rfl (by kernel_rfl) (by kernel_rfl) (by kernel_rfl) (fun _ _ _ h => h) (by kernel_rfl) (fun W' hSW => ?_) (by assumption) ?_
              · obtain ⟨⟨x0, x1, x2⟩, ⟨y0, y1, y2⟩, ⟨z0, z1, z2⟩, ⟨v0, v1, v2⟩⟩ := hSW
                first | (go_simp; done) | exact rfl | (go_simp; rfl) | (go_simp; omega)
              try simp only [Act.put, List.setIfInBounds_toArray, List.set_cons_zero, List.set_cons_succ]
              refine take_on (i := 18) (v := .bool true) rfl (by kernel_rfl) (by kernel_rfl) (by kernel_rfl) (fun _ _ _ h => h) (by kernel_rfl) (fun W' hSW => ?_) (by assumption) ?_
              · obtain ⟨⟨x0, x1, x2⟩, ⟨y0, y1, y2⟩, ⟨z0, z1, z2⟩, ⟨v0, v1, v2⟩⟩ := hSW
                first | (go_simp; done) | exact rfl | (go_simp; rfl) | (go_simp; omega)
              try simp only [Act.put, List.setIfInBounds_toArray, List.set_cons_zero, List.set_cons_succ]
              refine take_on (i := 19) (v := .bool true) rfl (by kernel_rfl) (by kernel_rfl) (by kernel_rfl) (fun _ _ _ h => h) (by kernel_rfl) (fun W' hSW => ?_) (by assumption) ?_
              · obtain ⟨⟨x0, x1, x2⟩, ⟨y0, y1, y2⟩, ⟨z0, z1, z2⟩, ⟨v0, v1, v2⟩⟩ := hSW
                first | (go_simp; done) | exact rfl | (go_simp; rfl) | (go_simp; omega)
              try simp only [Act.put, List.setIfInBounds_toArray, List.set_cons_zero, List.set_cons_succ]
              refine take_on (i := 20) (v := .bool true) rfl (by kernel_rfl) (by kernel_rfl) (by kernel_rfl) (fun _ _ _ h => h) (by kernel_rfl) (fun W' hSW => ?_) (by assumption) ?_
              · obtain ⟨⟨x0, x1, x2⟩, ⟨y0, y1, y2⟩, ⟨z0, z1, z2⟩, ⟨v0, v1, v2⟩⟩ := hSW
                first | (go_simp; done) | exact rfl | (go_simp; rfl) | (go_simp; omega)
              try simp only [Act.put, List.setIfInBounds_toArray, List.set_cons_zero, List.set_cons_succ]
              refine wpAnyH_done (by kernel_rfl) ?_ _
              go_wp2
              go_ret
              exact ⟨rfl, S.out.fr⟩
          · have d : decide (0 < cmpK p q) = false := decide_eq_false hlt
            clear hlt
            go_wp2_with fail
            clear d a0 a1 a2 H1 H2 Hn Hb
            refine (Ends_any p.time _).mono ?_
            rintro e e1 ⟨rfl, hf⟩
            rw [show endsV p.time = (⟨p.time, 0, 0⟩, ⟨p.time, 16, 4294967295⟩, 0) from if_pos ⟨Hx.out.1, Hx.out.2.1⟩]
            simp only [keyV]
            have S := Lib.hid ((S.out.later hf).new ⟨p.time, 0, 0⟩)
            clear hf
            go_wp2_with fail
            have S := Lib.hid (S.out.new ⟨p.time, 16, 4294967295⟩)
            obtain ⟨fb, hfb⟩ : ∃ fb, e1.heap.size = fb := ⟨_, rfl⟩
            have hs : (e1.alloc (.cells #[.int .i64 p.time, .int .i64 0, .int .i64 0] 24)).heap.size = fb + 1 := by rw [← hfb]; simp
            obtain ⟨E, hE⟩ : ∃ E, (e1.alloc (.cells #[.int .i64 p.time, .int .i64 0, .int .i64 0] 24)).alloc (.cells #[.int .i64 p.time, .int .i64 16, .int .i64 4294967295] 24) = E := ⟨_, rfl⟩
            dsimp only at S
            rw [hs, hfb, hE] at S
            rw [hE, hfb]
            clear hs hfb hE
            have HLW := Lib.hid (ends_time (x := p) Hy.out)
            have HO := Lib.hid order_any
            obtain ⟨Bq, hq⟩ : ∃ B, (p.time == q.time) = B := ⟨_, rfl⟩
            refine wp_region_held_drew (S := fun W' => C3 W' fb ⟨p.time, 0, 0⟩ ∧ C3 W' (fb + 1) ⟨p.time, 16, 4294967295⟩ ∧ C3 W' pa p ∧ C3 W' pb q) (by kernel_rfl) ⟨S.out.cell (by simp), S.out.cell (by simp), S.out.cell (by simp), S.out.cell (by simp)⟩ (fun hHeld => ?_)
            refine take_on (i := 0) (v := .int .i64 0) rfl (by kernel_rfl) (by kernel_rfl) (by kernel_rfl) (fun _ _ _ h => h) (by kernel_rfl) (fun W' hSW => ?_) (by assumption) ?_
            · obtain ⟨⟨x0, x1, x2⟩, ⟨y0, y1, y2⟩, ⟨z0, z1, z2⟩, ⟨v0, v1, v2⟩⟩ := hSW
              first | (go_simp; done) | exact rfl | (go_simp; rfl) | (go_simp; omega)
            try simp only [Act.put, List.setIfInBounds_toArray, List.set_cons_zero, List.set_cons_succ]
            refine take_on (i := 1) (v := .bool true) rfl (by kernel_rfl) (by kernel_rfl) (by kernel_rfl) (fun _ _ _ h => h) (by kernel_rfl) (fun W' hSW => ?_) (by assumption) ?_
            · obtain ⟨⟨x0, x1, x2⟩, ⟨y0, y1, y2⟩, ⟨z0, z1, z2⟩, ⟨v0, v1, v2⟩⟩ := hSW
              first | (go_simp; done) | exact rfl | (go_simp; rfl) | (go_simp; omega)
            try simp only [Act.put, List.setIfInBounds_toArray, List.set_cons_zero, List.set_cons_succ]
            refine take_on (i := 2) (v := .bool true) rfl (by kernel_rfl) (by kernel_rfl) (by kernel_rfl) (fun _ _ _ h => h) (by kernel_rfl) (fun W' hSW => ?_) (by assumption) ?_
            · obtain ⟨⟨x0, x1, x2⟩, ⟨y0, y1, y2⟩, ⟨z0, z1, z2⟩, ⟨v0, v1, v2⟩⟩ := hSW
              first | (go_simp; done) | exact rfl | (go_simp; rfl) | (go_simp; omega)
            try simp only [Act.put, List.setIfInBounds_toArray, List.set_cons_zero, List.set_cons_succ]
            refine take_on (i := 13) (v := .pointer (some ⟨pa, 0, none⟩)) rfl (by kernel_rfl) (by kernel_rfl) (by kernel_rfl) (fun _ _ _ h => h) (by kernel_rfl) (fun W' hSW => ?_) (by assumption) ?_
            · obtain ⟨⟨x0, x1, x2⟩, ⟨y0, y1, y2⟩, ⟨z0, z1, z2⟩, ⟨v0, v1, v2⟩⟩ := hSW
              first | (go_simp; done) | exact rfl | (go_simp; rfl) | (go_simp; omega)
            try simp only [Act.put, List.setIfInBounds_toArray, List.set_cons_zero, List.set_cons_succ]
            refine take_on (i := 14) (v := .int .i64 p.time) rfl (by kernel_rfl) (by kernel_rfl) (by kernel_rfl) (fun _ _ _ h => h) (by kernel_rfl) (fun W' hSW => ?_) (by assumption) ?_
            · obtain ⟨⟨x0, x1, x2⟩, ⟨y0, y1, y2⟩, ⟨z0, z1, z2⟩, ⟨v0, v1, v2⟩⟩ := hSW
              first | (go_simp; done) | exact rfl | (go_simp; rfl) | (go_simp; omega)
            try simp only [Act.put, List.setIfInBounds_toArray, List.set_cons_zero, List.set_cons_succ]
            refine take_on (i := 15) (v := .pointer (some ⟨pb, 0, none⟩)) rfl (by kernel_rfl) (by kernel_rfl) (by kernel_rfl) (fun _ _ _ h => h) (by kernel_rfl) (fun W' hSW => ?_) (by assumption) ?_
            · obtain ⟨⟨x0, x1, x2⟩, ⟨y0, y1, y2⟩, ⟨z0, z1, z2⟩, ⟨v0, v1, v2⟩⟩ := hSW
              first | (go_simp; done) | exact rfl | (go_simp; rfl) | (go_simp; omega)
            try simp only [Act.put, List.setIfInBounds_toArray, List.set_cons_zero, List.set_cons_succ]
            refine take_on (i := 16) (v := .int .i64 q.time) rfl (by kernel_rfl) (by kernel_rfl) (by kernel_rfl) (fun _ _ _ h => h) (by kernel_rfl) (fun W' hSW => ?_) (by assumption) ?_
            · obtain ⟨⟨x0, x1, x2⟩, ⟨y0, y1, y2⟩, ⟨z0, z1, z2⟩, ⟨v0, v1, v2⟩⟩ := hSW
              first | (go_simp; done) | exact rfl | (go_simp; rfl) | (go_simp; omega)
            try simp only [Act.put, List.setIfInBounds_toArray, List.set_cons_zero, List.set_cons_succ]
            refine take_on (i := 17) (v := .bool Bq) rfl (by kernel_rfl) (by kernel_rfl) (by kernel_rfl) (fun _ _ _ h => h) (by kernel_rfl) (fun W' hSW => ?_) (by assumption) ?_
            · obtain ⟨⟨x0, x1, x2⟩, ⟨y0, y1, y2⟩, ⟨z0, z1, z2⟩, ⟨v0, v1, v2⟩⟩ := hSW
              first | (go_simp; done) | exact rfl | (go_simp; rfl) | (go_simp; omega)
            try simp only [Act.put, List.setIfInBounds_toArray, List.set_cons_zero, List.set_cons_succ]
            refine take_on (i := 3) (v := .agg #[.int .i64 p.time, .int .i64 0, .int .i64 0]) rfl (by kernel_rfl) (by kernel_rfl) (by kernel_rfl) (fun _ _ _ h => h) (by kernel_rfl) (fun W' hSW => ?_) (by assumption) ?_
            · obtain ⟨⟨x0, x1, x2⟩, ⟨y0, y1, y2⟩, ⟨z0, z1, z2⟩, ⟨v0, v1, v2⟩⟩ := hSW
              first | (go_simp; done) | exact rfl | (go_simp; rfl) | (go_simp; omega)
            try simp only [Act.put, List.setIfInBounds_toArray, List.set_cons_zero, List.set_cons_succ]
            refine take_on (i := 4) (v := .agg #[.int .i64 q.time, .int .i64 q.source, .int .i64 q.seq]) rfl (by kernel_rfl) (by kernel_rfl) (by kernel_rfl) (fun _ _ _ h => h) (by kernel_rfl) (fun W' hSW => ?_) (by assumption) ?_
            · obtain ⟨⟨x0, x1, x2⟩, ⟨y0, y1, y2⟩, ⟨z0, z1, z2⟩, ⟨v0, v1, v2⟩⟩ := hSW
              first | (go_simp; done) | exact rfl | (go_simp; rfl) | (go_simp; omega)
            try simp only [Act.put, List.setIfInBounds_toArray, List.set_cons_zero, List.set_cons_succ]
            refine take_call (i := 5) rfl (by kernel_rfl) (by kernel_rfl) (fun K hK => ?_)
            go_simp
            refine (HO.out ⟨p.time, 0, 0⟩ q _).mono ?_
            rintro e e2 ⟨rfl, hf⟩
            obtain ⟨c, hc⟩ : ∃ c, cmpK ⟨p.time, 0, 0⟩ q = c := ⟨_, rfl⟩
            rw [hc] at HLW ⊢
            have S := Lib.hid ((S.out.later (Fr0.refl none' E).drew).later hf)
            clear hf hc
            go_wp2_with fail
            refine hK.out _ _ ⟨S.out.cell (by simp), S.out.cell (by simp), S.out.cell (by simp), S.out.cell (by simp)⟩ (fun hHeld => ?_)
            clear hK K
            try simp only [Act.put, List.setIfInBounds_toArray, List.set_cons_zero, List.set_cons_succ]
            by_cases h1 : c ≤ 0
            · have d1 : decide (c ≤ 0) = true := decide_eq_true h1
              refine take_on (i := 6) (v := .bool true) rfl (by kernel_rfl) (by kernel_rfl) (by kernel_rfl) (fun _ _ _ h => h) (by kernel_rfl) (fun W' hSW => ?_) (by assumption) ?_
              · obtain ⟨⟨x0, x1, x2⟩, ⟨y0, y1, y2⟩, ⟨z0, z1, z2⟩, ⟨v0, v1, v2⟩⟩ := hSW
                first | (go_simp; done) | exact rfl | (go_simp; rfl) | (go_simp; omega)
              try simp only [Act.put, List.setIfInBounds_toArray, List.set_cons_zero, List.set_cons_succ]
              refine take_on (i := 7) (v := .bool true) rfl (by kernel_rfl) (by kernel_rfl) (by kernel_rfl) (fun _ _ _ h => h) (by kernel_rfl) (fun W' hSW => ?_) (by assumption) ?_
              · obtain ⟨⟨x0, x1, x2⟩, ⟨y0, y1, y2⟩, ⟨z0, z1, z2⟩, ⟨v0, v1, v2⟩⟩ := hSW
                first | (go_simp; done) | exact rfl | (go_simp; rfl) | (go_simp; omega)
              try simp only [Act.put, List.setIfInBounds_toArray, List.set_cons_zero, List.set_cons_succ]
              refine take_on (i := 8) (v := .agg #[.int .i64 q.time, .int .i64 q.source, .int .i64 q.seq]) rfl (by kernel_rfl) (by kernel_rfl) (by kernel_rfl) (fun _ _ _ h => h) (by kernel_rfl) (fun W' hSW => ?_) (by assumption) ?_
              · obtain ⟨⟨x0, x1, x2⟩, ⟨y0, y1, y2⟩, ⟨z0, z1, z2⟩, ⟨v0, v1, v2⟩⟩ := hSW
                first | (go_simp; done) | exact rfl | (go_simp; rfl) | (go_simp; omega)
              try simp only [Act.put, List.setIfInBounds_toArray, List.set_cons_zero, List.set_cons_succ]
              refine take_on (i := 9) (v := .agg #[.int .i64 p.time, .int .i64 16, .int .i64 4294967295]) rfl (by kernel_rfl) (by kernel_rfl) (by kernel_rfl) (fun _ _ _ h => h) (by kernel_rfl) (fun W' hSW => ?_) (by assumption) ?_
              · obtain ⟨⟨x0, x1, x2⟩, ⟨y0, y1, y2⟩, ⟨z0, z1, z2⟩, ⟨v0, v1, v2⟩⟩ := hSW
                first | (go_simp; done) | exact rfl | (go_simp; rfl) | (go_simp; omega)
              try simp only [Act.put, List.setIfInBounds_toArray, List.set_cons_zero, List.set_cons_succ]
              refine take_call (i := 10) rfl (by kernel_rfl) (by kernel_rfl) (fun K hK => ?_)
              go_simp
              refine (HO.out q ⟨p.time, 16, 4294967295⟩ _).mono ?_
              rintro e e3 ⟨rfl, hf⟩
              obtain ⟨c', hc⟩ : ∃ c, cmpK q ⟨p.time, 16, 4294967295⟩ = c := ⟨_, rfl⟩
              rw [hc] at HLW ⊢
              have S := Lib.hid (S.out.later hf)
              clear hf hc
              go_wp2_with fail
              refine hK.out _ _ ⟨S.out.cell (by simp), S.out.cell (by simp), S.out.cell (by simp), S.out.cell (by simp)⟩ (fun hHeld => ?_)
              clear hK K
              try simp only [Act.put, List.setIfInBounds_toArray, List.set_cons_zero, List.set_cons_succ]
              have hB : decide (c' ≤ 0) = Bq := by
                rw [← hq]
                by_cases h2 : c' ≤ 0
                · rw [decide_eq_true h2]; simpa using HLW.out.1 ⟨h1, h2⟩
                · rw [decide_eq_false h2]
                  have : ¬ p.time = q.time := fun h => h2 (HLW.out.2 h).2
                  simpa using this
              clear h1 HLW hq
              refine take_on (i := 11) (v := .bool Bq) rfl (by kernel_rfl) (by kernel_rfl) (by kernel_rfl) (fun _ _ _ h => h) (by kernel_rfl) (fun W' hSW => ?_) (by assumption) ?_
              · obtain ⟨⟨x0, x1, x2⟩, ⟨y0, y1, y2⟩, ⟨z0, z1, z2⟩, ⟨v0, v1, v2⟩⟩ := hSW
                first | (go_simp; done) | exact rfl | (go_simp; rfl) | (go_simp; omega)
              try simp only [Act.put, List.setIfInBounds_toArray, List.set_cons_zero, List.set_cons_succ]
              refine take_on (i := 12) (v := .bool Bq) rfl (by kernel_rfl) (by kernel_rfl) (by kernel_rfl) (fun _ _ _ h => h) (by kernel_rfl) (fun W' hSW => ?_) (by assumption) ?_
              · obtain ⟨⟨x0, x1, x2⟩, ⟨y0, y1, y2⟩, ⟨z0, z1, z2⟩, ⟨v0, v1, v2⟩⟩ := hSW
                first | (go_simp; done) | exact rfl | (go_simp; rfl) | (go_simp; omega)
              try simp only [Act.put, List.setIfInBounds_toArray, List.set_cons_zero, List.set_cons_succ]
              refine take_on (i := 18) (v := .bool true) rfl (by kernel_rfl) (by kernel_rfl) (by kernel_rfl) (fun _ _ _ h => h) (by kernel_rfl) (fun W' hSW => ?_) (by assumption) ?_
              · obtain ⟨⟨x0, x1, x2⟩, ⟨y0, y1, y2⟩, ⟨z0, z1, z2⟩, ⟨v0, v1, v2⟩⟩ := hSW
                first | (go_simp; done) | exact rfl | (go_simp; rfl) | (go_simp; omega)
              try simp only [Act.put, List.setIfInBounds_toArray, List.set_cons_zero, List.set_cons_succ]
              refine take_on (i := 19) (v := .bool true) rfl (by kernel_rfl) (by kernel_rfl) (by kernel_rfl) (fun _ _ _ h => h) (by kernel_rfl) (fun W' hSW => ?_) (by assumption) ?_
              · obtain ⟨⟨x0, x1, x2⟩, ⟨y0, y1, y2⟩, ⟨z0, z1, z2⟩, ⟨v0, v1, v2⟩⟩ := hSW
                first | (go_simp; done) | exact rfl | (go_simp; rfl) | (go_simp; omega)
              try simp only [Act.put, List.setIfInBounds_toArray, List.set_cons_zero, List.set_cons_succ]
              refine take_on (i := 20) (v := .bool true) rfl (by kernel_rfl) (by kernel_rfl) (by kernel_rfl) (fun _ _ _ h => h) (by kernel_rfl) (fun W' hSW => ?_) (by assumption) ?_
              · obtain ⟨⟨x0, x1, x2⟩, ⟨y0, y1, y2⟩, ⟨z0, z1, z2⟩, ⟨v0, v1, v2⟩⟩ := hSW
                first | (go_simp; done) | exact rfl | (go_simp; rfl) | (go_simp; omega)
              try simp only [Act.put, List.setIfInBounds_toArray, List.set_cons_zero, List.set_cons_succ]
              refine wpAnyH_done (by kernel_rfl) ?_ _
              go_wp2
              go_ret
              exact ⟨rfl, S.out.fr⟩
            · have d1 : decide (c ≤ 0) = false := decide_eq_false h1
              have hB : Bq = false := by
                rw [← hq]
                have : ¬ p.time = q.time := fun h => h1 (HLW.out.2 h).1
                simpa using this
              subst hB
              clear h1 HLW hq
              refine take_on (i := 6) (v := .bool false) rfl (by kernel_rfl) (by kernel_rfl) (by kernel_rfl) (fun _ _ _ h => h) (by kernel_rfl) (fun W' hSW => ?_) (by assumption) ?_
              · obtain ⟨⟨x0, x1, x2⟩, ⟨y0, y1, y2⟩, ⟨z0, z1, z2⟩, ⟨v0, v1, v2⟩⟩ := hSW
                first | (go_simp; done) | exact rfl | (go_simp; rfl) | (go_simp; omega)
              try simp only [Act.put, List.setIfInBounds_toArray, List.set_cons_zero, List.set_cons_succ]
              refine take_on (i := 7) (v := .bool false) rfl (by kernel_rfl) (by kernel_rfl) (by kernel_rfl) (fun _ _ _ h => h) (by kernel_rfl) (fun W' hSW => ?_) (by assumption) ?_
              · obtain ⟨⟨x0, x1, x2⟩, ⟨y0, y1, y2⟩, ⟨z0, z1, z2⟩, ⟨v0, v1, v2⟩⟩ := hSW
                first | (go_simp; done) | exact rfl | (go_simp; rfl) | (go_simp; omega)
              try simp only [Act.put, List.setIfInBounds_toArray, List.set_cons_zero, List.set_cons_succ]
              refine take_off (i := 8) rfl (by kernel_rfl) (by kernel_rfl) (by kernel_rfl) (fun _ _ _ h => h) (by kernel_rfl) (by assumption) ?_
              try simp only [Act.put, List.setIfInBounds_toArray, List.set_cons_zero, List.set_cons_succ]
              refine take_off (i := 9) rfl (by kernel_rfl) (by kernel_rfl) (by kernel_rfl) (fun _ _ _ h => h) (by kernel_rfl) (by assumption) ?_
              try simp only [Act.put, List.setIfInBounds_toArray, List.set_cons_zero, List.set_cons_succ]
              refine take_off (i := 10) rfl (by kernel_rfl) (by kernel_rfl) (by kernel_rfl) (fun _ _ _ h => h) (by kernel_rfl) (by assumption) ?_
              try simp only [Act.put, List.setIfInBounds_toArray, List.set_cons_zero, List.set_cons_succ]
              refine take_off (i := 11) rfl (by kernel_rfl) (by kernel_rfl) (by kernel_rfl) (fun _ _ _ h => h) (by kernel_rfl) (by assumption) ?_
              try simp only [Act.put, List.setIfInBounds_toArray, List.set_cons_zero, List.set_cons_succ]
              refine take_on (i := 12) (v := .bool false) rfl (by kernel_rfl) (by kernel_rfl) (by kernel_rfl) (fun _ _ _ h => h) (by kernel_rfl) (fun W' hSW => ?_) (by assumption) ?_
              · obtain ⟨⟨x0, x1, x2⟩, ⟨y0, y1, y2⟩, ⟨z0, z1, z2⟩, ⟨v0, v1, v2⟩⟩ := hSW
                first | (go_simp; done) | exact rfl | (go_simp; rfl) | (go_simp; omega)
              try simp only [Act.put, List.setIfInBounds_toArray, List.set_cons_zero, List.set_cons_succ]
              refine take_on (i := 18) (v := .bool true) rfl (by kernel_rfl) (by kernel_rfl) (by kernel_rfl) (fun _ _ _ h => h) (by kernel_rfl) (fun W' hSW => ?_) (by assumption) ?_
              · obtain ⟨⟨x0, x1, x2⟩, ⟨y0, y1, y2⟩, ⟨z0, z1, z2⟩, ⟨v0, v1, v2⟩⟩ := hSW
                first | (go_simp; done) | exact rfl | (go_simp; rfl) | (go_simp; omega)
              try simp only [Act.put, List.setIfInBounds_toArray, List.set_cons_zero, List.set_cons_succ]
              refine take_on (i := 19) (v := .bool true) rfl (by kernel_rfl) (by kernel_rfl) (by kernel_rfl) (fun _ _ _ h => h) (by kernel_rfl) (fun W' hSW => ?_) (by assumption) ?_
              · obtain ⟨⟨x0, x1, x2⟩, ⟨y0, y1, y2⟩, ⟨z0, z1, z2⟩, ⟨v0, v1, v2⟩⟩ := hSW
                first | (go_simp; done) | exact rfl | (go_simp; rfl) | (go_simp; omega)
              try simp only [Act.put, List.setIfInBounds_toArray, List.set_cons_zero, List.set_cons_succ]
              refine take_on (i := 20) (v := .bool true) rfl (by kernel_rfl) (by kernel_rfl) (by kernel_rfl) (fun _ _ _ h => h) (by kernel_rfl) (fun W' hSW => ?_) (by assumption) ?_
              · obtain ⟨⟨x0, x1, x2⟩, ⟨y0, y1, y2⟩, ⟨z0, z1, z2⟩, ⟨v0, v1, v2⟩⟩ := hSW
                first | (go_simp; done) | exact rfl | (go_simp; rfl) | (go_simp; omega)
              try simp only [Act.put, List.setIfInBounds_toArray, List.set_cons_zero, List.set_cons_succ]
              refine wpAnyH_done (by kernel_rfl) ?_ _
              go_wp2
              go_ret
              exact ⟨rfl, S.out.fr⟩
      · have d : decide (cmpK p q < 0) = false := decide_eq_false hlt
        clear hlt
        go_wp2_with fail
        clear d a0 a1 a2 H1 H2 Hn Hb
        cases hn : backK p with
        | none =>
          have hlt := backK_none Hx.out hn q Hy.out
          refine (back_lit0 p Hx.out hn _).mono ?_
          rintro e z2 ⟨rfl, hf⟩
          have S := Lib.hid ((S.out.later hf).new ⟨0, 0, 0⟩)
          have Hlt := Lib.hid (show decide (0 < cmpK p q) = false from decide_eq_false hlt)
          clear hlt hf hn
          have ⟨a0, a1, a2⟩ := S.out.cell (b := pa) (k := p) (by simp)
          have ⟨b0, b1, b2⟩ := S.out.cell (b := pb) (k := q) (by simp)
          dsimp only at a0 a1 a2 b0 b1 b2
          go_wp2_with fail
          refine (order_any p q _).mono ?_
          rintro e z3 ⟨rfl, hf⟩
          have S := Lib.hid (S.out.later hf)
          have d := Hlt.out
          clear a0 a1 a2 b0 b1 b2 hf
          have ⟨a0, a1, a2⟩ := S.out.cell (b := pa) (k := p) (by simp)
          go_wp2_with fail
          clear d a0 a1 a2 Hlt
          refine (Ends_any p.time _).mono ?_
          rintro e e1 ⟨rfl, hf⟩
          rw [show endsV p.time = (⟨p.time, 0, 0⟩, ⟨p.time, 16, 4294967295⟩, 0) from if_pos ⟨Hx.out.1, Hx.out.2.1⟩]
          simp only [keyV]
          have S := Lib.hid ((S.out.later hf).new ⟨p.time, 0, 0⟩)
          clear hf
          go_wp2_with fail
          have S := Lib.hid (S.out.new ⟨p.time, 16, 4294967295⟩)
          obtain ⟨fb, hfb⟩ : ∃ fb, e1.heap.size = fb := ⟨_, rfl⟩
          have hs : (e1.alloc (.cells #[.int .i64 p.time, .int .i64 0, .int .i64 0] 24)).heap.size = fb + 1 := by rw [← hfb]; simp
          obtain ⟨E, hE⟩ : ∃ E, (e1.alloc (.cells #[.int .i64 p.time, .int .i64 0, .int .i64 0] 24)).alloc (.cells #[.int .i64 p.time, .int .i64 16, .int .i64 4294967295] 24) = E := ⟨_, rfl⟩
          dsimp only at S
          rw [hs, hfb, hE] at S
          rw [hE, hfb]
          clear hs hfb hE
          have HLW := Lib.hid (ends_time (x := p) Hy.out)
          have HO := Lib.hid order_any
          obtain ⟨Bq, hq⟩ : ∃ B, (p.time == q.time) = B := ⟨_, rfl⟩
          refine wp_region_held_drew (S := fun W' => C3 W' fb ⟨p.time, 0, 0⟩ ∧ C3 W' (fb + 1) ⟨p.time, 16, 4294967295⟩ ∧ C3 W' pa p ∧ C3 W' pb q) (by kernel_rfl) ⟨S.out.cell (by simp), S.out.cell (by simp), S.out.cell (by simp), S.out.cell (by simp)⟩ (fun hHeld => ?_)
          refine take_on (i := 0) (v := .int .i64 0) rfl (by kernel_rfl) (by kernel_rfl) (by kernel_rfl) (fun _ _ _ h => h) (by kernel_rfl) (fun W' hSW => ?_) (by assumption) ?_
          · obtain ⟨⟨x0, x1, x2⟩, ⟨y0, y1, y2⟩, ⟨z0, z1, z2⟩, ⟨v0, v1, v2⟩⟩ := hSW
            first | (go_simp; done) | exact rfl | (go_simp; rfl) | (go_simp; omega)
          try simp only [Act.put, List.setIfInBounds_toArray, List.set_cons_zero, List.set_cons_succ]
          refine take_on (i := 1) (v := .bool true) rfl (by kernel_rfl) (by kernel_rfl) (by kernel_rfl) (fun _ _ _ h => h) (by kernel_rfl) (fun W' hSW => ?_) (by assumption) ?_
          · obtain ⟨⟨x0, x1, x2⟩, ⟨y0, y1, y2⟩, ⟨z0, z1, z2⟩, ⟨v0, v1, v2⟩⟩ := hSW
            first | (go_simp; done) | exact rfl | (go_simp; rfl) | (go_simp; omega)
          try simp only [Act.put, List.setIfInBounds_toArray, List.set_cons_zero, List.set_cons_succ]
          refine take_on (i := 2) (v := .bool true) rfl (by kernel_rfl) (by kernel_rfl) (by kernel_rfl) (fun _ _ _ h => h) (by kernel_rfl) (fun W' hSW => ?_) (by assumption) ?_
          · obtain ⟨⟨x0, x1, x2⟩, ⟨y0, y1, y2⟩, ⟨z0, z1, z2⟩, ⟨v0, v1, v2⟩⟩ := hSW
            first | (go_simp; done) | exact rfl | (go_simp; rfl) | (go_simp; omega)
          try simp only [Act.put, List.setIfInBounds_toArray, List.set_cons_zero, List.set_cons_succ]
          refine take_on (i := 13) (v := .pointer (some ⟨pa, 0, none⟩)) rfl (by kernel_rfl) (by kernel_rfl) (by kernel_rfl) (fun _ _ _ h => h) (by kernel_rfl) (fun W' hSW => ?_) (by assumption) ?_
          · obtain ⟨⟨x0, x1, x2⟩, ⟨y0, y1, y2⟩, ⟨z0, z1, z2⟩, ⟨v0, v1, v2⟩⟩ := hSW
            first | (go_simp; done) | exact rfl | (go_simp; rfl) | (go_simp; omega)
          try simp only [Act.put, List.setIfInBounds_toArray, List.set_cons_zero, List.set_cons_succ]
          refine take_on (i := 14) (v := .int .i64 p.time) rfl (by kernel_rfl) (by kernel_rfl) (by kernel_rfl) (fun _ _ _ h => h) (by kernel_rfl) (fun W' hSW => ?_) (by assumption) ?_
          · obtain ⟨⟨x0, x1, x2⟩, ⟨y0, y1, y2⟩, ⟨z0, z1, z2⟩, ⟨v0, v1, v2⟩⟩ := hSW
            first | (go_simp; done) | exact rfl | (go_simp; rfl) | (go_simp; omega)
          try simp only [Act.put, List.setIfInBounds_toArray, List.set_cons_zero, List.set_cons_succ]
          refine take_on (i := 15) (v := .pointer (some ⟨pb, 0, none⟩)) rfl (by kernel_rfl) (by kernel_rfl) (by kernel_rfl) (fun _ _ _ h => h) (by kernel_rfl) (fun W' hSW => ?_) (by assumption) ?_
          · obtain ⟨⟨x0, x1, x2⟩, ⟨y0, y1, y2⟩, ⟨z0, z1, z2⟩, ⟨v0, v1, v2⟩⟩ := hSW
            first | (go_simp; done) | exact rfl | (go_simp; rfl) | (go_simp; omega)
          try simp only [Act.put, List.setIfInBounds_toArray, List.set_cons_zero, List.set_cons_succ]
          refine take_on (i := 16) (v := .int .i64 q.time) rfl (by kernel_rfl) (by kernel_rfl) (by kernel_rfl) (fun _ _ _ h => h) (by kernel_rfl) (fun W' hSW => ?_) (by assumption) ?_
          · obtain ⟨⟨x0, x1, x2⟩, ⟨y0, y1, y2⟩, ⟨z0, z1, z2⟩, ⟨v0, v1, v2⟩⟩ := hSW
            first | (go_simp; done) | exact rfl | (go_simp; rfl) | (go_simp; omega)
          try simp only [Act.put, List.setIfInBounds_toArray, List.set_cons_zero, List.set_cons_succ]
          refine take_on (i := 17) (v := .bool Bq) rfl (by kernel_rfl) (by kernel_rfl) (by kernel_rfl) (fun _ _ _ h => h) (by kernel_rfl) (fun W' hSW => ?_) (by assumption) ?_
          · obtain ⟨⟨x0, x1, x2⟩, ⟨y0, y1, y2⟩, ⟨z0, z1, z2⟩, ⟨v0, v1, v2⟩⟩ := hSW
            first | (go_simp; done) | exact rfl | (go_simp; rfl) | (go_simp; omega)
          try simp only [Act.put, List.setIfInBounds_toArray, List.set_cons_zero, List.set_cons_succ]
          refine take_on (i := 3) (v := .agg #[.int .i64 p.time, .int .i64 0, .int .i64 0]) rfl (by kernel_rfl) (by kernel_rfl) (by kernel_rfl) (fun _ _ _ h => h) (by kernel_rfl) (fun W' hSW => ?_) (by assumption) ?_
          · obtain ⟨⟨x0, x1, x2⟩, ⟨y0, y1, y2⟩, ⟨z0, z1, z2⟩, ⟨v0, v1, v2⟩⟩ := hSW
            first | (go_simp; done) | exact rfl | (go_simp; rfl) | (go_simp; omega)
          try simp only [Act.put, List.setIfInBounds_toArray, List.set_cons_zero, List.set_cons_succ]
          refine take_on (i := 4) (v := .agg #[.int .i64 q.time, .int .i64 q.source, .int .i64 q.seq]) rfl (by kernel_rfl) (by kernel_rfl) (by kernel_rfl) (fun _ _ _ h => h) (by kernel_rfl) (fun W' hSW => ?_) (by assumption) ?_
          · obtain ⟨⟨x0, x1, x2⟩, ⟨y0, y1, y2⟩, ⟨z0, z1, z2⟩, ⟨v0, v1, v2⟩⟩ := hSW
            first | (go_simp; done) | exact rfl | (go_simp; rfl) | (go_simp; omega)
          try simp only [Act.put, List.setIfInBounds_toArray, List.set_cons_zero, List.set_cons_succ]
          refine take_call (i := 5) rfl (by kernel_rfl) (by kernel_rfl) (fun K hK => ?_)
          go_simp
          refine (HO.out ⟨p.time, 0, 0⟩ q _).mono ?_
          rintro e e2 ⟨rfl, hf⟩
          obtain ⟨c, hc⟩ : ∃ c, cmpK ⟨p.time, 0, 0⟩ q = c := ⟨_, rfl⟩
          rw [hc] at HLW ⊢
          have S := Lib.hid ((S.out.later (Fr0.refl none' E).drew).later hf)
          clear hf hc
          go_wp2_with fail
          refine hK.out _ _ ⟨S.out.cell (by simp), S.out.cell (by simp), S.out.cell (by simp), S.out.cell (by simp)⟩ (fun hHeld => ?_)
          clear hK K
          try simp only [Act.put, List.setIfInBounds_toArray, List.set_cons_zero, List.set_cons_succ]
          by_cases h1 : c ≤ 0
          · have d1 : decide (c ≤ 0) = true := decide_eq_true h1
            refine take_on (i := 6) (v := .bool true) rfl (by kernel_rfl) (by kernel_rfl) (by kernel_rfl) (fun _ _ _ h => h) (by kernel_rfl) (fun W' hSW => ?_) (by assumption) ?_
            · obtain ⟨⟨x0, x1, x2⟩, ⟨y0, y1, y2⟩, ⟨z0, z1, z2⟩, ⟨v0, v1, v2⟩⟩ := hSW
              first | (go_simp; done) | exact rfl | (go_simp; rfl) | (go_simp; omega)
            try simp only [Act.put, List.setIfInBounds_toArray, List.set_cons_zero, List.set_cons_succ]
            refine take_on (i := 7) (v := .bool true) rfl (by kernel_rfl) (by kernel_rfl) (by kernel_rfl) (fun _ _ _ h => h) (by kernel_rfl) (fun W' hSW => ?_) (by assumption) ?_
            · obtain ⟨⟨x0, x1, x2⟩, ⟨y0, y1, y2⟩, ⟨z0, z1, z2⟩, ⟨v0, v1, v2⟩⟩ := hSW
              first | (go_simp; done) | exact rfl | (go_simp; rfl) | (go_simp; omega)
            try simp only [Act.put, List.setIfInBounds_toArray, List.set_cons_zero, List.set_cons_succ]
            refine take_on (i := 8) (v := .agg #[.int .i64 q.time, .int .i64 q.source, .int .i64 q.seq]) rfl (by kernel_rfl) (by kernel_rfl) (by kernel_rfl) (fun _ _ _ h => h) (by kernel_rfl) (fun W' hSW => ?_) (by assumption) ?_
            · obtain ⟨⟨x0, x1, x2⟩, ⟨y0, y1, y2⟩, ⟨z0, z1, z2⟩, ⟨v0, v1, v2⟩⟩ := hSW
              first | (go_simp; done) | exact rfl | (go_simp; rfl) | (go_simp; omega)
            try simp only [Act.put, List.setIfInBounds_toArray, List.set_cons_zero, List.set_cons_succ]
            refine take_on (i := 9) (v := .agg #[.int .i64 p.time, .int .i64 16, .int .i64 4294967295]) rfl (by kernel_rfl) (by kernel_rfl) (by kernel_rfl) (fun _ _ _ h => h) (by kernel_rfl) (fun W' hSW => ?_) (by assumption) ?_
            · obtain ⟨⟨x0, x1, x2⟩, ⟨y0, y1, y2⟩, ⟨z0, z1, z2⟩, ⟨v0, v1, v2⟩⟩ := hSW
              first | (go_simp; done) | exact rfl | (go_simp; rfl) | (go_simp; omega)
            try simp only [Act.put, List.setIfInBounds_toArray, List.set_cons_zero, List.set_cons_succ]
            refine take_call (i := 10) rfl (by kernel_rfl) (by kernel_rfl) (fun K hK => ?_)
            go_simp
            refine (HO.out q ⟨p.time, 16, 4294967295⟩ _).mono ?_
            rintro e e3 ⟨rfl, hf⟩
            obtain ⟨c', hc⟩ : ∃ c, cmpK q ⟨p.time, 16, 4294967295⟩ = c := ⟨_, rfl⟩
            rw [hc] at HLW ⊢
            have S := Lib.hid (S.out.later hf)
            clear hf hc
            go_wp2_with fail
            refine hK.out _ _ ⟨S.out.cell (by simp), S.out.cell (by simp), S.out.cell (by simp), S.out.cell (by simp)⟩ (fun hHeld => ?_)
            clear hK K
            try simp only [Act.put, List.setIfInBounds_toArray, List.set_cons_zero, List.set_cons_succ]
            have hB : decide (c' ≤ 0) = Bq := by
              rw [← hq]
              by_cases h2 : c' ≤ 0
              · rw [decide_eq_true h2]; simpa using HLW.out.1 ⟨h1, h2⟩
              · rw [decide_eq_false h2]
                have : ¬ p.time = q.time := fun h => h2 (HLW.out.2 h).2
                simpa using this
            clear h1 HLW hq
            refine take_on (i := 11) (v := .bool Bq) rfl (by kernel_rfl) (by kernel_rfl) (by kernel_rfl) (fun _ _ _ h => h) (by kernel_rfl) (fun W' hSW => ?_) (by assumption) ?_
            · obtain ⟨⟨x0, x1, x2⟩, ⟨y0, y1, y2⟩, ⟨z0, z1, z2⟩, ⟨v0, v1, v2⟩⟩ := hSW
              first | (go_simp; done) | exact rfl | (go_simp; rfl) | (go_simp; omega)
            try simp only [Act.put, List.setIfInBounds_toArray, List.set_cons_zero, List.set_cons_succ]
            refine take_on (i := 12) (v := .bool Bq) rfl (by kernel_rfl) (by kernel_rfl) (by kernel_rfl) (fun _ _ _ h => h) (by kernel_rfl) (fun W' hSW => ?_) (by assumption) ?_
            · obtain ⟨⟨x0, x1, x2⟩, ⟨y0, y1, y2⟩, ⟨z0, z1, z2⟩, ⟨v0, v1, v2⟩⟩ := hSW
              first | (go_simp; done) | exact rfl | (go_simp; rfl) | (go_simp; omega)
            try simp only [Act.put, List.setIfInBounds_toArray, List.set_cons_zero, List.set_cons_succ]
            refine take_on (i := 18) (v := .bool true) rfl (by kernel_rfl) (by kernel_rfl) (by kernel_rfl) (fun _ _ _ h => h) (by kernel_rfl) (fun W' hSW => ?_) (by assumption) ?_
            · obtain ⟨⟨x0, x1, x2⟩, ⟨y0, y1, y2⟩, ⟨z0, z1, z2⟩, ⟨v0, v1, v2⟩⟩ := hSW
              first | (go_simp; done) | exact rfl | (go_simp; rfl) | (go_simp; omega)
            try simp only [Act.put, List.setIfInBounds_toArray, List.set_cons_zero, List.set_cons_succ]
            refine take_on (i := 19) (v := .bool true) rfl (by kernel_rfl) (by kernel_rfl) (by kernel_rfl) (fun _ _ _ h => h) (by kernel_rfl) (fun W' hSW => ?_) (by assumption) ?_
            · obtain ⟨⟨x0, x1, x2⟩, ⟨y0, y1, y2⟩, ⟨z0, z1, z2⟩, ⟨v0, v1, v2⟩⟩ := hSW
              first | (go_simp; done) | exact rfl | (go_simp; rfl) | (go_simp; omega)
            try simp only [Act.put, List.setIfInBounds_toArray, List.set_cons_zero, List.set_cons_succ]
            refine take_on (i := 20) (v := .bool true) rfl (by kernel_rfl) (by kernel_rfl) (by kernel_rfl) (fun _ _ _ h => h) (by kernel_rfl) (fun W' hSW => ?_) (by assumption) ?_
            · obtain ⟨⟨x0, x1, x2⟩, ⟨y0, y1, y2⟩, ⟨z0, z1, z2⟩, ⟨v0, v1, v2⟩⟩ := hSW
              first | (go_simp; done) | exact rfl | (go_simp; rfl) | (go_simp; omega)
            try simp only [Act.put, List.setIfInBounds_toArray, List.set_cons_zero, List.set_cons_succ]
            refine wpAnyH_done (by kernel_rfl) ?_ _
            go_wp2
            go_ret
            exact ⟨rfl, S.out.fr⟩
          · have d1 : decide (c ≤ 0) = false := decide_eq_false h1
            have hB : Bq = false := by
              rw [← hq]
              have : ¬ p.time = q.time := fun h => h1 (HLW.out.2 h).1
              simpa using this
            subst hB
            clear h1 HLW hq
            refine take_on (i := 6) (v := .bool false) rfl (by kernel_rfl) (by kernel_rfl) (by kernel_rfl) (fun _ _ _ h => h) (by kernel_rfl) (fun W' hSW => ?_) (by assumption) ?_
            · obtain ⟨⟨x0, x1, x2⟩, ⟨y0, y1, y2⟩, ⟨z0, z1, z2⟩, ⟨v0, v1, v2⟩⟩ := hSW
              first | (go_simp; done) | exact rfl | (go_simp; rfl) | (go_simp; omega)
            try simp only [Act.put, List.setIfInBounds_toArray, List.set_cons_zero, List.set_cons_succ]
            refine take_on (i := 7) (v := .bool false) rfl (by kernel_rfl) (by kernel_rfl) (by kernel_rfl) (fun _ _ _ h => h) (by kernel_rfl) (fun W' hSW => ?_) (by assumption) ?_
            · obtain ⟨⟨x0, x1, x2⟩, ⟨y0, y1, y2⟩, ⟨z0, z1, z2⟩, ⟨v0, v1, v2⟩⟩ := hSW
              first | (go_simp; done) | exact rfl | (go_simp; rfl) | (go_simp; omega)
            try simp only [Act.put, List.setIfInBounds_toArray, List.set_cons_zero, List.set_cons_succ]
            refine take_off (i := 8) rfl (by kernel_rfl) (by kernel_rfl) (by kernel_rfl) (fun _ _ _ h => h) (by kernel_rfl) (by assumption) ?_
            try simp only [Act.put, List.setIfInBounds_toArray, List.set_cons_zero, List.set_cons_succ]
            refine take_off (i := 9) rfl (by kernel_rfl) (by kernel_rfl) (by kernel_rfl) (fun _ _ _ h => h) (by kernel_rfl) (by assumption) ?_
            try simp only [Act.put, List.setIfInBounds_toArray, List.set_cons_zero, List.set_cons_succ]
            refine take_off (i := 10) rfl (by kernel_rfl) (by kernel_rfl) (by kernel_rfl) (fun _ _ _ h => h) (by kernel_rfl) (by assumption) ?_
            try simp only [Act.put, List.setIfInBounds_toArray, List.set_cons_zero, List.set_cons_succ]
            refine take_off (i := 11) rfl (by kernel_rfl) (by kernel_rfl) (by kernel_rfl) (fun _ _ _ h => h) (by kernel_rfl) (by assumption) ?_
            try simp only [Act.put, List.setIfInBounds_toArray, List.set_cons_zero, List.set_cons_succ]
            refine take_on (i := 12) (v := .bool false) rfl (by kernel_rfl) (by kernel_rfl) (by kernel_rfl) (fun _ _ _ h => h) (by kernel_rfl) (fun W' hSW => ?_) (by assumption) ?_
            · obtain ⟨⟨x0, x1, x2⟩, ⟨y0, y1, y2⟩, ⟨z0, z1, z2⟩, ⟨v0, v1, v2⟩⟩ := hSW
              first | (go_simp; done) | exact rfl | (go_simp; rfl) | (go_simp; omega)
            try simp only [Act.put, List.setIfInBounds_toArray, List.set_cons_zero, List.set_cons_succ]
            refine take_on (i := 18) (v := .bool true) rfl (by kernel_rfl) (by kernel_rfl) (by kernel_rfl) (fun _ _ _ h => h) (by kernel_rfl) (fun W' hSW => ?_) (by assumption) ?_
            · obtain ⟨⟨x0, x1, x2⟩, ⟨y0, y1, y2⟩, ⟨z0, z1, z2⟩, ⟨v0, v1, v2⟩⟩ := hSW
              first | (go_simp; done) | exact rfl | (go_simp; rfl) | (go_simp; omega)
            try simp only [Act.put, List.setIfInBounds_toArray, List.set_cons_zero, List.set_cons_succ]
            refine take_on (i := 19) (v := .bool true) rfl (by kernel_rfl) (by kernel_rfl) (by kernel_rfl) (fun _ _ _ h => h) (by kernel_rfl) (fun W' hSW => ?_) (by assumption) ?_
            · obtain ⟨⟨x0, x1, x2⟩, ⟨y0, y1, y2⟩, ⟨z0, z1, z2⟩, ⟨v0, v1, v2⟩⟩ := hSW
              first | (go_simp; done) | exact rfl | (go_simp; rfl) | (go_simp; omega)
            try simp only [Act.put, List.setIfInBounds_toArray, List.set_cons_zero, List.set_cons_succ]
            refine take_on (i := 20) (v := .bool true) rfl (by kernel_rfl) (by kernel_rfl) (by kernel_rfl) (fun _ _ _ h => h) (by kernel_rfl) (fun W' hSW => ?_) (by assumption) ?_
            · obtain ⟨⟨x0, x1, x2⟩, ⟨y0, y1, y2⟩, ⟨z0, z1, z2⟩, ⟨v0, v1, v2⟩⟩ := hSW
              first | (go_simp; done) | exact rfl | (go_simp; rfl) | (go_simp; omega)
            try simp only [Act.put, List.setIfInBounds_toArray, List.set_cons_zero, List.set_cons_succ]
            refine wpAnyH_done (by kernel_rfl) ?_ _
            go_wp2
            go_ret
            exact ⟨rfl, S.out.fr⟩
        | some n =>
          obtain ⟨hnr, hback, hone, hbet⟩ := backK_some Hx.out hn
          refine (back_lit p n Hx.out hn _).mono ?_
          rintro e z2 ⟨rfl, hf⟩
          have Hn := Lib.hid hnr
          have Hb := Lib.hid hback
          have H1 := Lib.hid hone
          have H2 := Lib.hid (show 0 < cmpK p q → 0 ≤ cmpK n q from hbet q Hy.out)
          have S := Lib.hid ((S.out.later hf).new n)
          simp only [keyV]
          clear hn hnr hback hone hbet hf
          go_wp2_with fail
          refine (next_lit n p Hn.out Hb.out _).mono ?_
          rintro e z3 ⟨rfl, hf⟩
          simp only [keyV]
          have S := Lib.hid ((S.out.later hf).new p)
          obtain ⟨nb, hnb⟩ : ∃ nb, z2.heap.size = nb := ⟨_, rfl⟩
          rw [hnb] at S ⊢
          clear hf hnb
          have ⟨a0, a1, a2⟩ := S.out.cell (b := pa) (k := p) (by simp)
          have ⟨b0, b1, b2⟩ := S.out.cell (b := nb) (k := n) (by simp)
          go_wp2_with fail
          refine (order_any n p _).mono ?_
          rintro e z4 ⟨rfl, hf⟩
          rw [H1.out]
          have S := Lib.hid (S.out.later hf)
          clear hf a0 a1 a2 b0 b1 b2
          have ⟨a0, a1, a2⟩ := S.out.cell (b := pa) (k := p) (by simp)
          have ⟨b0, b1, b2⟩ := S.out.cell (b := pb) (k := q) (by simp)
          go_wp2_with fail
          refine (order_any p q _).mono ?_
          rintro e z5 ⟨rfl, hf⟩
          have S := Lib.hid (S.out.later hf)
          clear hf a0 a1 a2 b0 b1 b2
          have ⟨a0, a1, a2⟩ := S.out.cell (b := pa) (k := p) (by simp)
          by_cases hlt : 0 < cmpK p q
          · have d : decide (0 < cmpK p q) = true := decide_eq_true hlt
            have H3 := Lib.hid (show decide (cmpK n q < 0) = false from decide_eq_false (by have := H2.out hlt; omega))
            have ⟨b0, b1, b2⟩ := S.out.cell (b := pb) (k := q) (by simp)
            have ⟨c0, c1, c2⟩ := S.out.cell (b := nb) (k := n) (by simp)
            clear hlt
            go_wp2_with fail
            refine (order_any n q _).mono ?_
            rintro e z6 ⟨rfl, hf⟩
            have S := Lib.hid (S.out.later hf)
            clear hf a0 a1 a2 b0 b1 b2 c0 c1 c2
            have ⟨a0, a1, a2⟩ := S.out.cell (b := pa) (k := p) (by simp)
            have d2 := H3.out
            go_wp2_with fail
            clear d d2 a0 a1 a2 H1 H2 H3 Hn Hb
            refine (Ends_any p.time _).mono ?_
            rintro e e1 ⟨rfl, hf⟩
            rw [show endsV p.time = (⟨p.time, 0, 0⟩, ⟨p.time, 16, 4294967295⟩, 0) from if_pos ⟨Hx.out.1, Hx.out.2.1⟩]
            simp only [keyV]
            have S := Lib.hid ((S.out.later hf).new ⟨p.time, 0, 0⟩)
            clear hf
            go_wp2_with fail
            have S := Lib.hid (S.out.new ⟨p.time, 16, 4294967295⟩)
            obtain ⟨fb, hfb⟩ : ∃ fb, e1.heap.size = fb := ⟨_, rfl⟩
            have hs : (e1.alloc (.cells #[.int .i64 p.time, .int .i64 0, .int .i64 0] 24)).heap.size = fb + 1 := by rw [← hfb]; simp
            obtain ⟨E, hE⟩ : ∃ E, (e1.alloc (.cells #[.int .i64 p.time, .int .i64 0, .int .i64 0] 24)).alloc (.cells #[.int .i64 p.time, .int .i64 16, .int .i64 4294967295] 24) = E := ⟨_, rfl⟩
            dsimp only at S
            rw [hs, hfb, hE] at S
            rw [hE, hfb]
            clear hs hfb hE
            have HLW := Lib.hid (ends_time (x := p) Hy.out)
            have HO := Lib.hid order_any
            obtain ⟨Bq, hq⟩ : ∃ B, (p.time == q.time) = B := ⟨_, rfl⟩
            refine wp_region_held_drew (S := fun W' => C3 W' fb ⟨p.time, 0, 0⟩ ∧ C3 W' (fb + 1) ⟨p.time, 16, 4294967295⟩ ∧ C3 W' pa p ∧ C3 W' pb q) (by kernel_rfl) ⟨S.out.cell (by simp), S.out.cell (by simp), S.out.cell (by simp), S.out.cell (by simp)⟩ (fun hHeld => ?_)
            refine take_on (i := 0) (v := .int .i64 0) rfl (by kernel_rfl) (by kernel_rfl) (by kernel_rfl) (fun _ _ _ h => h) (by kernel_rfl) (fun W' hSW => ?_) (by assumption) ?_
            · obtain ⟨⟨x0, x1, x2⟩, ⟨y0, y1, y2⟩, ⟨z0, z1, z2⟩, ⟨v0, v1, v2⟩⟩ := hSW
              first | (go_simp; done) | exact rfl | (go_simp; rfl) | (go_simp; omega)
            try simp only [Act.put, List.setIfInBounds_toArray, List.set_cons_zero, List.set_cons_succ]
            refine take_on (i := 1) (v := .bool true) rfl (by kernel_rfl) (by kernel_rfl) (by kernel_rfl) (fun _ _ _ h => h) (by kernel_rfl) (fun W' hSW => ?_) (by assumption) ?_
            · obtain ⟨⟨x0, x1, x2⟩, ⟨y0, y1, y2⟩, ⟨z0, z1, z2⟩, ⟨v0, v1, v2⟩⟩ := hSW
              first | (go_simp; done) | exact rfl | (go_simp; rfl) | (go_simp; omega)
            try simp only [Act.put, List.setIfInBounds_toArray, List.set_cons_zero, List.set_cons_succ]
            refine take_on (i := 2) (v := .bool true) rfl (by kernel_rfl) (by kernel_rfl) (by kernel_rfl) (fun _ _ _ h => h) (by kernel_rfl) (fun W' hSW => ?_) (by assumption) ?_
            · obtain ⟨⟨x0, x1, x2⟩, ⟨y0, y1, y2⟩, ⟨z0, z1, z2⟩, ⟨v0, v1, v2⟩⟩ := hSW
              first | (go_simp; done) | exact rfl | (go_simp; rfl) | (go_simp; omega)
            try simp only [Act.put, List.setIfInBounds_toArray, List.set_cons_zero, List.set_cons_succ]
            refine take_on (i := 13) (v := .pointer (some ⟨pa, 0, none⟩)) rfl (by kernel_rfl) (by kernel_rfl) (by kernel_rfl) (fun _ _ _ h => h) (by kernel_rfl) (fun W' hSW => ?_) (by assumption) ?_
            · obtain ⟨⟨x0, x1, x2⟩, ⟨y0, y1, y2⟩, ⟨z0, z1, z2⟩, ⟨v0, v1, v2⟩⟩ := hSW
              first | (go_simp; done) | exact rfl | (go_simp; rfl) | (go_simp; omega)
            try simp only [Act.put, List.setIfInBounds_toArray, List.set_cons_zero, List.set_cons_succ]
            refine take_on (i := 14) (v := .int .i64 p.time) rfl (by kernel_rfl) (by kernel_rfl) (by kernel_rfl) (fun _ _ _ h => h) (by kernel_rfl) (fun W' hSW => ?_) (by assumption) ?_
            · obtain ⟨⟨x0, x1, x2⟩, ⟨y0, y1, y2⟩, ⟨z0, z1, z2⟩, ⟨v0, v1, v2⟩⟩ := hSW
              first | (go_simp; done) | exact rfl | (go_simp; rfl) | (go_simp; omega)
            try simp only [Act.put, List.setIfInBounds_toArray, List.set_cons_zero, List.set_cons_succ]
            refine take_on (i := 15) (v := .pointer (some ⟨pb, 0, none⟩)) rfl (by kernel_rfl) (by kernel_rfl) (by kernel_rfl) (fun _ _ _ h => h) (by kernel_rfl) (fun W' hSW => ?_) (by assumption) ?_
            · obtain ⟨⟨x0, x1, x2⟩, ⟨y0, y1, y2⟩, ⟨z0, z1, z2⟩, ⟨v0, v1, v2⟩⟩ := hSW
              first | (go_simp; done) | exact rfl | (go_simp; rfl) | (go_simp; omega)
            try simp only [Act.put, List.setIfInBounds_toArray, List.set_cons_zero, List.set_cons_succ]
            refine take_on (i := 16) (v := .int .i64 q.time) rfl (by kernel_rfl) (by kernel_rfl) (by kernel_rfl) (fun _ _ _ h => h) (by kernel_rfl) (fun W' hSW => ?_) (by assumption) ?_
            · obtain ⟨⟨x0, x1, x2⟩, ⟨y0, y1, y2⟩, ⟨z0, z1, z2⟩, ⟨v0, v1, v2⟩⟩ := hSW
              first | (go_simp; done) | exact rfl | (go_simp; rfl) | (go_simp; omega)
            try simp only [Act.put, List.setIfInBounds_toArray, List.set_cons_zero, List.set_cons_succ]
            refine take_on (i := 17) (v := .bool Bq) rfl (by kernel_rfl) (by kernel_rfl) (by kernel_rfl) (fun _ _ _ h => h) (by kernel_rfl) (fun W' hSW => ?_) (by assumption) ?_
            · obtain ⟨⟨x0, x1, x2⟩, ⟨y0, y1, y2⟩, ⟨z0, z1, z2⟩, ⟨v0, v1, v2⟩⟩ := hSW
              first | (go_simp; done) | exact rfl | (go_simp; rfl) | (go_simp; omega)
            try simp only [Act.put, List.setIfInBounds_toArray, List.set_cons_zero, List.set_cons_succ]
            refine take_on (i := 3) (v := .agg #[.int .i64 p.time, .int .i64 0, .int .i64 0]) rfl (by kernel_rfl) (by kernel_rfl) (by kernel_rfl) (fun _ _ _ h => h) (by kernel_rfl) (fun W' hSW => ?_) (by assumption) ?_
            · obtain ⟨⟨x0, x1, x2⟩, ⟨y0, y1, y2⟩, ⟨z0, z1, z2⟩, ⟨v0, v1, v2⟩⟩ := hSW
              first | (go_simp; done) | exact rfl | (go_simp; rfl) | (go_simp; omega)
            try simp only [Act.put, List.setIfInBounds_toArray, List.set_cons_zero, List.set_cons_succ]
            refine take_on (i := 4) (v := .agg #[.int .i64 q.time, .int .i64 q.source, .int .i64 q.seq]) rfl (by kernel_rfl) (by kernel_rfl) (by kernel_rfl) (fun _ _ _ h => h) (by kernel_rfl) (fun W' hSW => ?_) (by assumption) ?_
            · obtain ⟨⟨x0, x1, x2⟩, ⟨y0, y1, y2⟩, ⟨z0, z1, z2⟩, ⟨v0, v1, v2⟩⟩ := hSW
              first | (go_simp; done) | exact rfl | (go_simp; rfl) | (go_simp; omega)
            try simp only [Act.put, List.setIfInBounds_toArray, List.set_cons_zero, List.set_cons_succ]
            refine take_call (i := 5) rfl (by kernel_rfl) (by kernel_rfl) (fun K hK => ?_)
            go_simp
            refine (HO.out ⟨p.time, 0, 0⟩ q _).mono ?_
            rintro e e2 ⟨rfl, hf⟩
            obtain ⟨c, hc⟩ : ∃ c, cmpK ⟨p.time, 0, 0⟩ q = c := ⟨_, rfl⟩
            rw [hc] at HLW ⊢
            have S := Lib.hid ((S.out.later (Fr0.refl none' E).drew).later hf)
            clear hf hc
            go_wp2_with fail
            refine hK.out _ _ ⟨S.out.cell (by simp), S.out.cell (by simp), S.out.cell (by simp), S.out.cell (by simp)⟩ (fun hHeld => ?_)
            clear hK K
            try simp only [Act.put, List.setIfInBounds_toArray, List.set_cons_zero, List.set_cons_succ]
            by_cases h1 : c ≤ 0
            · have d1 : decide (c ≤ 0) = true := decide_eq_true h1
              refine take_on (i := 6) (v := .bool true) rfl (by kernel_rfl) (by kernel_rfl) (by kernel_rfl) (fun _ _ _ h => h) (by kernel_rfl) (fun W' hSW => ?_) (by assumption) ?_
              · obtain ⟨⟨x0, x1, x2⟩, ⟨y0, y1, y2⟩, ⟨z0, z1, z2⟩, ⟨v0, v1, v2⟩⟩ := hSW
                first | (go_simp; done) | exact rfl | (go_simp; rfl) | (go_simp; omega)
              try simp only [Act.put, List.setIfInBounds_toArray, List.set_cons_zero, List.set_cons_succ]
              refine take_on (i := 7) (v := .bool true) rfl (by kernel_rfl) (by kernel_rfl) (by kernel_rfl) (fun _ _ _ h => h) (by kernel_rfl) (fun W' hSW => ?_) (by assumption) ?_
              · obtain ⟨⟨x0, x1, x2⟩, ⟨y0, y1, y2⟩, ⟨z0, z1, z2⟩, ⟨v0, v1, v2⟩⟩ := hSW
                first | (go_simp; done) | exact rfl | (go_simp; rfl) | (go_simp; omega)
              try simp only [Act.put, List.setIfInBounds_toArray, List.set_cons_zero, List.set_cons_succ]
              refine take_on (i := 8) (v := .agg #[.int .i64 q.time, .int .i64 q.source, .int .i64 q.seq]) rfl (by kernel_rfl) (by kernel_rfl) (by kernel_rfl) (fun _ _ _ h => h) (by kernel_rfl) (fun W' hSW => ?_) (by assumption) ?_
              · obtain ⟨⟨x0, x1, x2⟩, ⟨y0, y1, y2⟩, ⟨z0, z1, z2⟩, ⟨v0, v1, v2⟩⟩ := hSW
                first | (go_simp; done) | exact rfl | (go_simp; rfl) | (go_simp; omega)
              try simp only [Act.put, List.setIfInBounds_toArray, List.set_cons_zero, List.set_cons_succ]
              refine take_on (i := 9) (v := .agg #[.int .i64 p.time, .int .i64 16, .int .i64 4294967295]) rfl (by kernel_rfl) (by kernel_rfl) (by kernel_rfl) (fun _ _ _ h => h) (by kernel_rfl) (fun W' hSW => ?_) (by assumption) ?_
              · obtain ⟨⟨x0, x1, x2⟩, ⟨y0, y1, y2⟩, ⟨z0, z1, z2⟩, ⟨v0, v1, v2⟩⟩ := hSW
                first | (go_simp; done) | exact rfl | (go_simp; rfl) | (go_simp; omega)
              try simp only [Act.put, List.setIfInBounds_toArray, List.set_cons_zero, List.set_cons_succ]
              refine take_call (i := 10) rfl (by kernel_rfl) (by kernel_rfl) (fun K hK => ?_)
              go_simp
              refine (HO.out q ⟨p.time, 16, 4294967295⟩ _).mono ?_
              rintro e e3 ⟨rfl, hf⟩
              obtain ⟨c', hc⟩ : ∃ c, cmpK q ⟨p.time, 16, 4294967295⟩ = c := ⟨_, rfl⟩
              rw [hc] at HLW ⊢
              have S := Lib.hid (S.out.later hf)
              clear hf hc
              go_wp2_with fail
              refine hK.out _ _ ⟨S.out.cell (by simp), S.out.cell (by simp), S.out.cell (by simp), S.out.cell (by simp)⟩ (fun hHeld => ?_)
              clear hK K
              try simp only [Act.put, List.setIfInBounds_toArray, List.set_cons_zero, List.set_cons_succ]
              have hB : decide (c' ≤ 0) = Bq := by
                rw [← hq]
                by_cases h2 : c' ≤ 0
                · rw [decide_eq_true h2]; simpa using HLW.out.1 ⟨h1, h2⟩
                · rw [decide_eq_false h2]
                  have : ¬ p.time = q.time := fun h => h2 (HLW.out.2 h).2
                  simpa using this
              clear h1 HLW hq
              refine take_on (i := 11) (v := .bool Bq) rfl (by kernel_rfl) (by kernel_rfl) (by kernel_rfl) (fun _ _ _ h => h) (by kernel_rfl) (fun W' hSW => ?_) (by assumption) ?_
              · obtain ⟨⟨x0, x1, x2⟩, ⟨y0, y1, y2⟩, ⟨z0, z1, z2⟩, ⟨v0, v1, v2⟩⟩ := hSW
                first | (go_simp; done) | exact rfl | (go_simp; rfl) | (go_simp; omega)
              try simp only [Act.put, List.setIfInBounds_toArray, List.set_cons_zero, List.set_cons_succ]
              refine take_on (i := 12) (v := .bool Bq) rfl (by kernel_rfl) (by kernel_rfl) (by kernel_rfl) (fun _ _ _ h => h) (by kernel_rfl) (fun W' hSW => ?_) (by assumption) ?_
              · obtain ⟨⟨x0, x1, x2⟩, ⟨y0, y1, y2⟩, ⟨z0, z1, z2⟩, ⟨v0, v1, v2⟩⟩ := hSW
                first | (go_simp; done) | exact rfl | (go_simp; rfl) | (go_simp; omega)
              try simp only [Act.put, List.setIfInBounds_toArray, List.set_cons_zero, List.set_cons_succ]
              refine take_on (i := 18) (v := .bool true) rfl (by kernel_rfl) (by kernel_rfl) (by kernel_rfl) (fun _ _ _ h => h) (by kernel_rfl) (fun W' hSW => ?_) (by assumption) ?_
              · obtain ⟨⟨x0, x1, x2⟩, ⟨y0, y1, y2⟩, ⟨z0, z1, z2⟩, ⟨v0, v1, v2⟩⟩ := hSW
                first | (go_simp; done) | exact rfl | (go_simp; rfl) | (go_simp; omega)
              try simp only [Act.put, List.setIfInBounds_toArray, List.set_cons_zero, List.set_cons_succ]
              refine take_on (i := 19) (v := .bool true) rfl (by kernel_rfl) (by kernel_rfl) (by kernel_rfl) (fun _ _ _ h => h) (by kernel_rfl) (fun W' hSW => ?_) (by assumption) ?_
              · obtain ⟨⟨x0, x1, x2⟩, ⟨y0, y1, y2⟩, ⟨z0, z1, z2⟩, ⟨v0, v1, v2⟩⟩ := hSW
                first | (go_simp; done) | exact rfl | (go_simp; rfl) | (go_simp; omega)
              try simp only [Act.put, List.setIfInBounds_toArray, List.set_cons_zero, List.set_cons_succ]
              refine take_on (i := 20) (v := .bool true) rfl (by kernel_rfl) (by kernel_rfl) (by kernel_rfl) (fun _ _ _ h => h) (by kernel_rfl) (fun W' hSW => ?_) (by assumption) ?_
              · obtain ⟨⟨x0, x1, x2⟩, ⟨y0, y1, y2⟩, ⟨z0, z1, z2⟩, ⟨v0, v1, v2⟩⟩ := hSW
                first | (go_simp; done) | exact rfl | (go_simp; rfl) | (go_simp; omega)
              try simp only [Act.put, List.setIfInBounds_toArray, List.set_cons_zero, List.set_cons_succ]
              refine wpAnyH_done (by kernel_rfl) ?_ _
              go_wp2
              go_ret
              exact ⟨rfl, S.out.fr⟩
            · have d1 : decide (c ≤ 0) = false := decide_eq_false h1
              have hB : Bq = false := by
                rw [← hq]
                have : ¬ p.time = q.time := fun h => h1 (HLW.out.2 h).1
                simpa using this
              subst hB
              clear h1 HLW hq
              refine take_on (i := 6) (v := .bool false) rfl (by kernel_rfl) (by kernel_rfl) (by kernel_rfl) (fun _ _ _ h => h) (by kernel_rfl) (fun W' hSW => ?_) (by assumption) ?_
              · obtain ⟨⟨x0, x1, x2⟩, ⟨y0, y1, y2⟩, ⟨z0, z1, z2⟩, ⟨v0, v1, v2⟩⟩ := hSW
                first | (go_simp; done) | exact rfl | (go_simp; rfl) | (go_simp; omega)
              try simp only [Act.put, List.setIfInBounds_toArray, List.set_cons_zero, List.set_cons_succ]
              refine take_on (i := 7) (v := .bool false) rfl (by kernel_rfl) (by kernel_rfl) (by kernel_rfl) (fun _ _ _ h => h) (by kernel_rfl) (fun W' hSW => ?_) (by assumption) ?_
              · obtain ⟨⟨x0, x1, x2⟩, ⟨y0, y1, y2⟩, ⟨z0, z1, z2⟩, ⟨v0, v1, v2⟩⟩ := hSW
                first | (go_simp; done) | exact rfl | (go_simp; rfl) | (go_simp; omega)
              try simp only [Act.put, List.setIfInBounds_toArray, List.set_cons_zero, List.set_cons_succ]
              refine take_off (i := 8) rfl (by kernel_rfl) (by kernel_rfl) (by kernel_rfl) (fun _ _ _ h => h) (by kernel_rfl) (by assumption) ?_
              try simp only [Act.put, List.setIfInBounds_toArray, List.set_cons_zero, List.set_cons_succ]
              refine take_off (i := 9) rfl (by kernel_rfl) (by kernel_rfl) (by kernel_rfl) (fun _ _ _ h => h) (by kernel_rfl) (by assumption) ?_
              try simp only [Act.put, List.setIfInBounds_toArray, List.set_cons_zero, List.set_cons_succ]
              refine take_off (i := 10) rfl (by kernel_rfl) (by kernel_rfl) (by kernel_rfl) (fun _ _ _ h => h) (by kernel_rfl) (by assumption) ?_
              try simp only [Act.put, List.setIfInBounds_toArray, List.set_cons_zero, List.set_cons_succ]
              refine take_off (i := 11) rfl (by kernel_rfl) (by kernel_rfl) (by kernel_rfl) (fun _ _ _ h => h) (by kernel_rfl) (by assumption) ?_
              try simp only [Act.put, List.setIfInBounds_toArray, List.set_cons_zero, List.set_cons_succ]
              refine take_on (i := 12) (v := .bool false) rfl (by kernel_rfl) (by kernel_rfl) (by kernel_rfl) (fun _ _ _ h => h) (by kernel_rfl) (fun W' hSW => ?_) (by assumption) ?_
              · obtain ⟨⟨x0, x1, x2⟩, ⟨y0, y1, y2⟩, ⟨z0, z1, z2⟩, ⟨v0, v1, v2⟩⟩ := hSW
                first | (go_simp; done) | exact rfl | (go_simp; rfl) | (go_simp; omega)
              try simp only [Act.put, List.setIfInBounds_toArray, List.set_cons_zero, List.set_cons_succ]
              refine take_on (i := 18) (v := .bool true) rfl (by kernel_rfl) (by kernel_rfl) (by kernel_rfl) (fun _ _ _ h => h) (by kernel_rfl) (fun W' hSW => ?_) (by assumption) ?_
              · obtain ⟨⟨x0, x1, x2⟩, ⟨y0, y1, y2⟩, ⟨z0, z1, z2⟩, ⟨v0, v1, v2⟩⟩ := hSW
                first | (go_simp; done) | exact rfl | (go_simp; rfl) | (go_simp; omega)
              try simp only [Act.put, List.setIfInBounds_toArray, List.set_cons_zero, List.set_cons_succ]
              refine take_on (i := 19) (v := .bool true) rfl (by kernel_rfl) (by kernel_rfl) (by kernel_rfl) (fun _ _ _ h => h) (by kernel_rfl) (fun W' hSW => ?_) (by assumption) ?_
              · obtain ⟨⟨x0, x1, x2⟩, ⟨y0, y1, y2⟩, ⟨z0, z1, z2⟩, ⟨v0, v1, v2⟩⟩ := hSW
                first | (go_simp; done) | exact rfl | (go_simp; rfl) | (go_simp; omega)
              try simp only [Act.put, List.setIfInBounds_toArray, List.set_cons_zero, List.set_cons_succ]
              refine take_on (i := 20) (v := .bool true) rfl (by kernel_rfl) (by kernel_rfl) (by kernel_rfl) (fun _ _ _ h => h) (by kernel_rfl) (fun W' hSW => ?_) (by assumption) ?_
              · obtain ⟨⟨x0, x1, x2⟩, ⟨y0, y1, y2⟩, ⟨z0, z1, z2⟩, ⟨v0, v1, v2⟩⟩ := hSW
                first | (go_simp; done) | exact rfl | (go_simp; rfl) | (go_simp; omega)
              try simp only [Act.put, List.setIfInBounds_toArray, List.set_cons_zero, List.set_cons_succ]
              refine wpAnyH_done (by kernel_rfl) ?_ _
              go_wp2
              go_ret
              exact ⟨rfl, S.out.fr⟩
          · have d : decide (0 < cmpK p q) = false := decide_eq_false hlt
            clear hlt
            go_wp2_with fail
            clear d a0 a1 a2 H1 H2 Hn Hb
            refine (Ends_any p.time _).mono ?_
            rintro e e1 ⟨rfl, hf⟩
            rw [show endsV p.time = (⟨p.time, 0, 0⟩, ⟨p.time, 16, 4294967295⟩, 0) from if_pos ⟨Hx.out.1, Hx.out.2.1⟩]
            simp only [keyV]
            have S := Lib.hid ((S.out.later hf).new ⟨p.time, 0, 0⟩)
            clear hf
            go_wp2_with fail
            have S := Lib.hid (S.out.new ⟨p.time, 16, 4294967295⟩)
            obtain ⟨fb, hfb⟩ : ∃ fb, e1.heap.size = fb := ⟨_, rfl⟩
            have hs : (e1.alloc (.cells #[.int .i64 p.time, .int .i64 0, .int .i64 0] 24)).heap.size = fb + 1 := by rw [← hfb]; simp
            obtain ⟨E, hE⟩ : ∃ E, (e1.alloc (.cells #[.int .i64 p.time, .int .i64 0, .int .i64 0] 24)).alloc (.cells #[.int .i64 p.time, .int .i64 16, .int .i64 4294967295] 24) = E := ⟨_, rfl⟩
            dsimp only at S
            rw [hs, hfb, hE] at S
            rw [hE, hfb]
            clear hs hfb hE
            have HLW := Lib.hid (ends_time (x := p) Hy.out)
            have HO := Lib.hid order_any
            obtain ⟨Bq, hq⟩ : ∃ B, (p.time == q.time) = B := ⟨_, rfl⟩
            refine wp_region_held_drew (S := fun W' => C3 W' fb ⟨p.time, 0, 0⟩ ∧ C3 W' (fb + 1) ⟨p.time, 16, 4294967295⟩ ∧ C3 W' pa p ∧ C3 W' pb q) (by kernel_rfl) ⟨S.out.cell (by simp), S.out.cell (by simp), S.out.cell (by simp), S.out.cell (by simp)⟩ (fun hHeld => ?_)
            refine take_on (i := 0) (v := .int .i64 0) rfl (by kernel_rfl) (by kernel_rfl) (by kernel_rfl) (fun _ _ _ h => h) (by kernel_rfl) (fun W' hSW => ?_) (by assumption) ?_
            · obtain ⟨⟨x0, x1, x2⟩, ⟨y0, y1, y2⟩, ⟨z0, z1, z2⟩, ⟨v0, v1, v2⟩⟩ := hSW
              first | (go_simp; done) | exact rfl | (go_simp; rfl) | (go_simp; omega)
            try simp only [Act.put, List.setIfInBounds_toArray, List.set_cons_zero, List.set_cons_succ]
            refine take_on (i := 1) (v := .bool true) rfl (by kernel_rfl) (by kernel_rfl) (by kernel_rfl) (fun _ _ _ h => h) (by kernel_rfl) (fun W' hSW => ?_) (by assumption) ?_
            · obtain ⟨⟨x0, x1, x2⟩, ⟨y0, y1, y2⟩, ⟨z0, z1, z2⟩, ⟨v0, v1, v2⟩⟩ := hSW
              first | (go_simp; done) | exact rfl | (go_simp; rfl) | (go_simp; omega)
            try simp only [Act.put, List.setIfInBounds_toArray, List.set_cons_zero, List.set_cons_succ]
            refine take_on (i := 2) (v := .bool true) rfl (by kernel_rfl) (by kernel_rfl) (by kernel_rfl) (fun _ _ _ h => h) (by kernel_rfl) (fun W' hSW => ?_) (by assumption) ?_
            · obtain ⟨⟨x0, x1, x2⟩, ⟨y0, y1, y2⟩, ⟨z0, z1, z2⟩, ⟨v0, v1, v2⟩⟩ := hSW
              first | (go_simp; done) | exact rfl | (go_simp; rfl) | (go_simp; omega)
            try simp only [Act.put, List.setIfInBounds_toArray, List.set_cons_zero, List.set_cons_succ]
            refine take_on (i := 13) (v := .pointer (some ⟨pa, 0, none⟩)) rfl (by kernel_rfl) (by kernel_rfl) (by kernel_rfl) (fun _ _ _ h => h) (by kernel_rfl) (fun W' hSW => ?_) (by assumption) ?_
            · obtain ⟨⟨x0, x1, x2⟩, ⟨y0, y1, y2⟩, ⟨z0, z1, z2⟩, ⟨v0, v1, v2⟩⟩ := hSW
              first | (go_simp; done) | exact rfl | (go_simp; rfl) | (go_simp; omega)
            try simp only [Act.put, List.setIfInBounds_toArray, List.set_cons_zero, List.set_cons_succ]
            refine take_on (i := 14) (v := .int .i64 p.time) rfl (by kernel_rfl) (by kernel_rfl) (by kernel_rfl) (fun _ _ _ h => h) (by kernel_rfl) (fun W' hSW => ?_) (by assumption) ?_
            · obtain ⟨⟨x0, x1, x2⟩, ⟨y0, y1, y2⟩, ⟨z0, z1, z2⟩, ⟨v0, v1, v2⟩⟩ := hSW
              first | (go_simp; done) | exact rfl | (go_simp; rfl) | (go_simp; omega)
            try simp only [Act.put, List.setIfInBounds_toArray, List.set_cons_zero, List.set_cons_succ]
            refine take_on (i := 15) (v := .pointer (some ⟨pb, 0, none⟩)) rfl (by kernel_rfl) (by kernel_rfl) (by kernel_rfl) (fun _ _ _ h => h) (by kernel_rfl) (fun W' hSW => ?_) (by assumption) ?_
            · obtain ⟨⟨x0, x1, x2⟩, ⟨y0, y1, y2⟩, ⟨z0, z1, z2⟩, ⟨v0, v1, v2⟩⟩ := hSW
              first | (go_simp; done) | exact rfl | (go_simp; rfl) | (go_simp; omega)
            try simp only [Act.put, List.setIfInBounds_toArray, List.set_cons_zero, List.set_cons_succ]
            refine take_on (i := 16) (v := .int .i64 q.time) rfl (by kernel_rfl) (by kernel_rfl) (by kernel_rfl) (fun _ _ _ h => h) (by kernel_rfl) (fun W' hSW => ?_) (by assumption) ?_
            · obtain ⟨⟨x0, x1, x2⟩, ⟨y0, y1, y2⟩, ⟨z0, z1, z2⟩, ⟨v0, v1, v2⟩⟩ := hSW
              first | (go_simp; done) | exact rfl | (go_simp; rfl) | (go_simp; omega)
            try simp only [Act.put, List.setIfInBounds_toArray, List.set_cons_zero, List.set_cons_succ]
            refine take_on (i := 17) (v := .bool Bq) rfl (by kernel_rfl) (by kernel_rfl) (by kernel_rfl) (fun _ _ _ h => h) (by kernel_rfl) (fun W' hSW => ?_) (by assumption) ?_
            · obtain ⟨⟨x0, x1, x2⟩, ⟨y0, y1, y2⟩, ⟨z0, z1, z2⟩, ⟨v0, v1, v2⟩⟩ := hSW
              first | (go_simp; done) | exact rfl | (go_simp; rfl) | (go_simp; omega)
            try simp only [Act.put, List.setIfInBounds_toArray, List.set_cons_zero, List.set_cons_succ]
            refine take_on (i := 3) (v := .agg #[.int .i64 p.time, .int .i64 0, .int .i64 0]) rfl (by kernel_rfl) (by kernel_rfl) (by kernel_rfl) (fun _ _ _ h => h) (by kernel_rfl) (fun W' hSW => ?_) (by assumption) ?_
            · obtain ⟨⟨x0, x1, x2⟩, ⟨y0, y1, y2⟩, ⟨z0, z1, z2⟩, ⟨v0, v1, v2⟩⟩ := hSW
              first | (go_simp; done) | exact rfl | (go_simp; rfl) | (go_simp; omega)
            try simp only [Act.put, List.setIfInBounds_toArray, List.set_cons_zero, List.set_cons_succ]
            refine take_on (i := 4) (v := .agg #[.int .i64 q.time, .int .i64 q.source, .int .i64 q.seq]) rfl (by kernel_rfl) (by kernel_rfl) (by kernel_rfl) (fun _ _ _ h => h) (by kernel_rfl) (fun W' hSW => ?_) (by assumption) ?_
            · obtain ⟨⟨x0, x1, x2⟩, ⟨y0, y1, y2⟩, ⟨z0, z1, z2⟩, ⟨v0, v1, v2⟩⟩ := hSW
              first | (go_simp; done) | exact rfl | (go_simp; rfl) | (go_simp; omega)
            try simp only [Act.put, List.setIfInBounds_toArray, List.set_cons_zero, List.set_cons_succ]
            refine take_call (i := 5) rfl (by kernel_rfl) (by kernel_rfl) (fun K hK => ?_)
            go_simp
            refine (HO.out ⟨p.time, 0, 0⟩ q _).mono ?_
            rintro e e2 ⟨rfl, hf⟩
            obtain ⟨c, hc⟩ : ∃ c, cmpK ⟨p.time, 0, 0⟩ q = c := ⟨_, rfl⟩
            rw [hc] at HLW ⊢
            have S := Lib.hid ((S.out.later (Fr0.refl none' E).drew).later hf)
            clear hf hc
            go_wp2_with fail
            refine hK.out _ _ ⟨S.out.cell (by simp), S.out.cell (by simp), S.out.cell (by simp), S.out.cell (by simp)⟩ (fun hHeld => ?_)
            clear hK K
            try simp only [Act.put, List.setIfInBounds_toArray, List.set_cons_zero, List.set_cons_succ]
            by_cases h1 : c ≤ 0
            · have d1 : decide (c ≤ 0) = true := decide_eq_true h1
              refine take_on (i := 6) (v := .bool true) rfl (by kernel_rfl) (by kernel_rfl) (by kernel_rfl) (fun _ _ _ h => h) (by kernel_rfl) (fun W' hSW => ?_) (by assumption) ?_
              · obtain ⟨⟨x0, x1, x2⟩, ⟨y0, y1, y2⟩, ⟨z0, z1, z2⟩, ⟨v0, v1, v2⟩⟩ := hSW
                first | (go_simp; done) | exact rfl | (go_simp; rfl) | (go_simp; omega)
              try simp only [Act.put, List.setIfInBounds_toArray, List.set_cons_zero, List.set_cons_succ]
              refine take_on (i := 7) (v := .bool true) rfl (by kernel_rfl) (by kernel_rfl) (by kernel_rfl) (fun _ _ _ h => h) (by kernel_rfl) (fun W' hSW => ?_) (by assumption) ?_
              · obtain ⟨⟨x0, x1, x2⟩, ⟨y0, y1, y2⟩, ⟨z0, z1, z2⟩, ⟨v0, v1, v2⟩⟩ := hSW
                first | (go_simp; done) | exact rfl | (go_simp; rfl) | (go_simp; omega)
              try simp only [Act.put, List.setIfInBounds_toArray, List.set_cons_zero, List.set_cons_succ]
              refine take_on (i := 8) (v := .agg #[.int .i64 q.time, .int .i64 q.source, .int .i64 q.seq]) rfl (by kernel_rfl) (by kernel_rfl) (by kernel_rfl) (fun _ _ _ h => h) (by kernel_rfl) (fun W' hSW => ?_) (by assumption) ?_
              · obtain ⟨⟨x0, x1, x2⟩, ⟨y0, y1, y2⟩, ⟨z0, z1, z2⟩, ⟨v0, v1, v2⟩⟩ := hSW
                first | (go_simp; done) | exact rfl | (go_simp; rfl) | (go_simp; omega)
              try simp only [Act.put, List.setIfInBounds_toArray, List.set_cons_zero, List.set_cons_succ]
              refine take_on (i := 9) (v := .agg #[.int .i64 p.time, .int .i64 16, .int .i64 4294967295]) rfl (by kernel_rfl) (by kernel_rfl) (by kernel_rfl) (fun _ _ _ h => h) (by kernel_rfl) (fun W' hSW => ?_) (by assumption) ?_
              · obtain ⟨⟨x0, x1, x2⟩, ⟨y0, y1, y2⟩, ⟨z0, z1, z2⟩, ⟨v0, v1, v2⟩⟩ := hSW
                first | (go_simp; done) | exact rfl | (go_simp; rfl) | (go_simp; omega)
              try simp only [Act.put, List.setIfInBounds_toArray, List.set_cons_zero, List.set_cons_succ]
              refine take_call (i := 10) rfl (by kernel_rfl) (by kernel_rfl) (fun K hK => ?_)
              go_simp
              refine (HO.out q ⟨p.time, 16, 4294967295⟩ _).mono ?_
              rintro e e3 ⟨rfl, hf⟩
              obtain ⟨c', hc⟩ : ∃ c, cmpK q ⟨p.time, 16, 4294967295⟩ = c := ⟨_, rfl⟩
              rw [hc] at HLW ⊢
              have S := Lib.hid (S.out.later hf)
              clear hf hc
              go_wp2_with fail
              refine hK.out _ _ ⟨S.out.cell (by simp), S.out.cell (by simp), S.out.cell (by simp), S.out.cell (by simp)⟩ (fun hHeld => ?_)
              clear hK K
              try simp only [Act.put, List.setIfInBounds_toArray, List.set_cons_zero, List.set_cons_succ]
              have hB : decide (c' ≤ 0) = Bq := by
                rw [← hq]
                by_cases h2 : c' ≤ 0
                · rw [decide_eq_true h2]; simpa using HLW.out.1 ⟨h1, h2⟩
                · rw [decide_eq_false h2]
                  have : ¬ p.time = q.time := fun h => h2 (HLW.out.2 h).2
                  simpa using this
              clear h1 HLW hq
              refine take_on (i := 11) (v := .bool Bq) rfl (by kernel_rfl) (by kernel_rfl) (by kernel_rfl) (fun _ _ _ h => h) (by kernel_rfl) (fun W' hSW => ?_) (by assumption) ?_
              · obtain ⟨⟨x0, x1, x2⟩, ⟨y0, y1, y2⟩, ⟨z0, z1, z2⟩, ⟨v0, v1, v2⟩⟩ := hSW
                first | (go_simp; done) | exact rfl | (go_simp; rfl) | (go_simp; omega)
              try simp only [Act.put, List.setIfInBounds_toArray, List.set_cons_zero, List.set_cons_succ]
              refine take_on (i := 12) (v := .bool Bq) rfl (by kernel_rfl) (by kernel_rfl) (by kernel_rfl) (fun _ _ _ h => h) (by kernel_rfl) (fun W' hSW => ?_) (by assumption) ?_
              · obtain ⟨⟨x0, x1, x2⟩, ⟨y0, y1, y2⟩, ⟨z0, z1, z2⟩, ⟨v0, v1, v2⟩⟩ := hSW
                first | (go_simp; done) | exact rfl | (go_simp; rfl) | (go_simp; omega)
              try simp only [Act.put, List.setIfInBounds_toArray, List.set_cons_zero, List.set_cons_succ]
              refine take_on (i := 18) (v := .bool true) rfl (by kernel_rfl) (by kernel_rfl) (by kernel_rfl) (fun _ _ _ h => h) (by kernel_rfl) (fun W' hSW => ?_) (by assumption) ?_
              · obtain ⟨⟨x0, x1, x2⟩, ⟨y0, y1, y2⟩, ⟨z0, z1, z2⟩, ⟨v0, v1, v2⟩⟩ := hSW
                first | (go_simp; done) | exact rfl | (go_simp; rfl) | (go_simp; omega)
              try simp only [Act.put, List.setIfInBounds_toArray, List.set_cons_zero, List.set_cons_succ]
              refine take_on (i := 19) (v := .bool true) rfl (by kernel_rfl) (by kernel_rfl) (by kernel_rfl) (fun _ _ _ h => h) (by kernel_rfl) (fun W' hSW => ?_) (by assumption) ?_
              · obtain ⟨⟨x0, x1, x2⟩, ⟨y0, y1, y2⟩, ⟨z0, z1, z2⟩, ⟨v0, v1, v2⟩⟩ := hSW
                first | (go_simp; done) | exact rfl | (go_simp; rfl) | (go_simp; omega)
              try simp only [Act.put, List.setIfInBounds_toArray, List.set_cons_zero, List.set_cons_succ]
              refine take_on (i := 20) (v := .bool true) rfl (by kernel_rfl) (by kernel_rfl) (by kernel_rfl) (fun _ _ _ h => h) (by kernel_rfl) (fun W' hSW => ?_) (by assumption) ?_
              · obtain ⟨⟨x0, x1, x2⟩, ⟨y0, y1, y2⟩, ⟨z0, z1, z2⟩, ⟨v0, v1, v2⟩⟩ := hSW
                first | (go_simp; done) | exact rfl | (go_simp; rfl) | (go_simp; omega)
              try simp only [Act.put, List.setIfInBounds_toArray, List.set_cons_zero, List.set_cons_succ]
              refine wpAnyH_done (by kernel_rfl) ?_ _
              go_wp2
              go_ret
              exact ⟨rfl, S.out.fr⟩
            · have d1 : decide (c ≤ 0) = false := decide_eq_false h1
              have hB : Bq = false := by
                rw [← hq]
                have : ¬ p.time = q.time := fun h => h1 (HLW.out.2 h).1
                simpa using this
              subst hB
              clear h1 HLW hq
              refine take_on (i := 6) (v := .bool false) rfl (by kernel_rfl) (by kernel_rfl) (by kernel_rfl) (fun _ _ _ h => h) (by kernel_rfl) (fun W' hSW => ?_) (by assumption) ?_
              · obtain ⟨⟨x0, x1, x2⟩, ⟨y0, y1, y2⟩, ⟨z0, z1, z2⟩, ⟨v0, v1, v2⟩⟩ := hSW
                first | (go_simp; done) | exact rfl | (go_simp; rfl) | (go_simp; omega)
              try simp only [Act.put, List.setIfInBounds_toArray, List.set_cons_zero, List.set_cons_succ]
              refine take_on (i := 7) (v := .bool false) rfl (by kernel_rfl) (by kernel_rfl) (by kernel_rfl) (fun _ _ _ h => h) (by kernel_rfl) (fun W' hSW => ?_) (by assumption) ?_
              · obtain ⟨⟨x0, x1, x2⟩, ⟨y0, y1, y2⟩, ⟨z0, z1, z2⟩, ⟨v0, v1, v2⟩⟩ := hSW
                first | (go_simp; done) | exact rfl | (go_simp; rfl) | (go_simp; omega)
              try simp only [Act.put, List.setIfInBounds_toArray, List.set_cons_zero, List.set_cons_succ]
              refine take_off (i := 8) rfl (by kernel_rfl) (by kernel_rfl) (by kernel_rfl) (fun _ _ _ h => h) (by kernel_rfl) (by assumption) ?_
              try simp only [Act.put, List.setIfInBounds_toArray, List.set_cons_zero, List.set_cons_succ]
              refine take_off (i := 9) rfl (by kernel_rfl) (by kernel_rfl) (by kernel_rfl) (fun _ _ _ h => h) (by kernel_rfl) (by assumption) ?_
              try simp only [Act.put, List.setIfInBounds_toArray, List.set_cons_zero, List.set_cons_succ]
              refine take_off (i := 10) rfl (by kernel_rfl) (by kernel_rfl) (by kernel_rfl) (fun _ _ _ h => h) (by kernel_rfl) (by assumption) ?_
              try simp only [Act.put, List.setIfInBounds_toArray, List.set_cons_zero, List.set_cons_succ]
              refine take_off (i := 11) rfl (by kernel_rfl) (by kernel_rfl) (by kernel_rfl) (fun _ _ _ h => h) (by kernel_rfl) (by assumption) ?_
              try simp only [Act.put, List.setIfInBounds_toArray, List.set_cons_zero, List.set_cons_succ]
              refine take_on (i := 12) (v := .bool false) rfl (by kernel_rfl) (by kernel_rfl) (by kernel_rfl) (fun _ _ _ h => h) (by kernel_rfl) (fun W' hSW => ?_) (by assumption) ?_
              · obtain ⟨⟨x0, x1, x2⟩, ⟨y0, y1, y2⟩, ⟨z0, z1, z2⟩, ⟨v0, v1, v2⟩⟩ := hSW
                first | (go_simp; done) | exact rfl | (go_simp; rfl) | (go_simp; omega)
              try simp only [Act.put, List.setIfInBounds_toArray, List.set_cons_zero, List.set_cons_succ]
              refine take_on (i := 18) (v := .bool true) rfl (by kernel_rfl) (by kernel_rfl) (by kernel_rfl) (fun _ _ _ h => h) (by kernel_rfl) (fun W' hSW => ?_) (by assumption) ?_
              · obtain ⟨⟨x0, x1, x2⟩, ⟨y0, y1, y2⟩, ⟨z0, z1, z2⟩, ⟨v0, v1, v2⟩⟩ := hSW
                first | (go_simp; done) | exact rfl | (go_simp; rfl) | (go_simp; omega)
              try simp only [Act.put, List.setIfInBounds_toArray, List.set_cons_zero, List.set_cons_succ]
              refine take_on (i := 19) (v := .bool true) rfl (by kernel_rfl) (by kernel_rfl) (by kernel_rfl) (fun _ _ _ h => h) (by kernel_rfl) (fun W' hSW => ?_) (by assumption) ?_
              · obtain ⟨⟨x0, x1, x2⟩, ⟨y0, y1, y2⟩, ⟨z0, z1, z2⟩, ⟨v0, v1, v2⟩⟩ := hSW
                first | (go_simp; done) | exact rfl | (go_simp; rfl) | (go_simp; omega)
              try simp only [Act.put, List.setIfInBounds_toArray, List.set_cons_zero, List.set_cons_succ]
              refine take_on (i := 20) (v := .bool true) rfl (by kernel_rfl) (by kernel_rfl) (by kernel_rfl) (fun _ _ _ h => h) (by kernel_rfl) (fun W' hSW => ?_) (by assumption) ?_
              · obtain ⟨⟨x0, x1, x2⟩, ⟨y0, y1, y2⟩, ⟨z0, z1, z2⟩, ⟨v0, v1, v2⟩⟩ := hSW
                first | (go_simp; done) | exact rfl | (go_simp; rfl) | (go_simp; omega)
              try simp only [Act.put, List.setIfInBounds_toArray, List.set_cons_zero, List.set_cons_succ]
              refine wpAnyH_done (by kernel_rfl) ?_ _
              go_wp2
              go_ret
              exact ⟨rfl, S.out.fr⟩
  · simp only [Act.put, List.setIfInBounds_toArray, List.set_cons_zero, List.set_cons_succ, smallV, keyV] at hT
    have HT := Lib.hid hT
    clear hT
    refine wp_region_held_drew (S := fun W' => SmAt W' b x ∧ SmAt W' (b + 1) y) (by kernel_rfl) ⟨sx.out, sy.out⟩ (fun hHeld => ?_)
    refine take_on (i := 0) (v := .agg #[.int .u64 x.t, .int .u32 x.s, .int .u32 x.q]) rfl (by kernel_rfl) (by kernel_rfl) (by kernel_rfl) (fun _ _ _ h => h) (by kernel_rfl) (fun W' hSW => ?_) (by assumption) ?_
    · obtain ⟨⟨x0, x1, x2⟩, ⟨y0, y1, y2⟩⟩ := hSW
      first | (go_simp; done) | exact rfl | (go_simp; rfl) | (go_simp; omega)
    try simp only [Act.put, List.setIfInBounds_toArray, List.set_cons_zero, List.set_cons_succ]
    refine take_on (i := 2) (v := .agg #[.int .u64 y.t, .int .u32 y.s, .int .u32 y.q]) rfl (by kernel_rfl) (by kernel_rfl) (by kernel_rfl) (fun _ _ _ h => h) (by kernel_rfl) (fun W' hSW => ?_) (by assumption) ?_
    · obtain ⟨⟨x0, x1, x2⟩, ⟨y0, y1, y2⟩⟩ := hSW
      first | (go_simp; done) | exact rfl | (go_simp; rfl) | (go_simp; omega)
    try simp only [Act.put, List.setIfInBounds_toArray, List.set_cons_zero, List.set_cons_succ]
    have S := Lib.hid (show St2 x y b w1 w1 from ⟨sx.out, sy.out, Fr0.refl _ _, sx.out, sy.out⟩)
    refine wpAnyH_ready (rs := [1, 4, 5]) (by kernel_rfl) (by simp) (AllReadyH.cons (op_at rfl) (fun K hK => ?_) (AllReadyH.cons (op_at rfl) (fun K hK => ?_) (AllReadyH.cons (op_at rfl) (fun K hK => ?_) AllReadyH.nil)))
    · rw [if_pos (by kernel_rfl)]
      go_simp
      refine (HM.out _ _).mono ?_
      rintro e v1 ⟨rfl, hf⟩
      have hf := ((Fr0.refl none' w1).drew).trans hf
      have S := Lib.hid (S.out.later hf)
      try have A4 := Lib.hid (A4.out.later hf)
      try have A5 := Lib.hid (A5.out.later hf)
      clear hf
      go_wp2_with fail
      refine hK.out _ _ S.out.both (fun _ => ?_)
      clear hK K
      try simp only [Act.put, List.setIfInBounds_toArray, List.set_cons_zero, List.set_cons_succ]
      refine wpAnyH_ready (rs := [3, 4, 5]) (by kernel_rfl) (by simp) (AllReadyH.cons (op_at rfl) (fun K hK => ?_) (AllReadyH.cons (op_at rfl) (fun K hK => ?_) (AllReadyH.cons (op_at rfl) (fun K hK => ?_) AllReadyH.nil)))
      · rw [if_pos (by kernel_rfl)]
        go_simp
        refine (HM.out _ _).mono ?_
        rintro e v2 ⟨rfl, hf⟩
        have hf := ((Fr0.refl none' v1)).trans hf
        have S := Lib.hid (S.out.later hf)
        try have A4 := Lib.hid (A4.out.later hf)
        try have A5 := Lib.hid (A5.out.later hf)
        clear hf
        go_wp2_with fail
        refine hK.out _ _ S.out.both (fun _ => ?_)
        clear hK K
        try simp only [Act.put, List.setIfInBounds_toArray, List.set_cons_zero, List.set_cons_succ]
        refine wpAnyH_ready (rs := [4, 5]) (by kernel_rfl) (by simp) (AllReadyH.cons (op_at rfl) (fun K hK => ?_) (AllReadyH.cons (op_at rfl) (fun K hK => ?_) AllReadyH.nil))
        · rw [if_pos (by kernel_rfl)]
          go_simp
          obtain ⟨pa, hpa⟩ : ∃ pa, v2.heap.size = pa := ⟨_, rfl⟩
          obtain ⟨v3, hW2⟩ : ∃ W2, (v2.alloc (.cells #[.int .i64 0, .int .i64 0, .int .i64 0] 24)) = W2 := ⟨_, rfl⟩
          have hf : Fr0 none' v2 v3 := by rw [← hW2]; exact ((Fr0.refl _ _).alloc _)
          have hpq := Lib.hid (show v2.heap.size = pa from hpa)
          try have hl4 := A4.out.lt
          try have hl5 := A5.out.lt
          try have A4 := Lib.hid (A4.out.later hf)
          try have A5 := Lib.hid (A5.out.later hf)
          have A4 := Lib.hid (show NewK w1 v3 pa zeroK from by rw [← hW2, ← hpa]; exact ⟨World.alloc_heap_new v2 _, S.out.fr.size⟩)
          rw [hW2, hpa]
          have S := Lib.hid (S.out.later hf)
          clear hf hW2 hpa
          refine hK.out _ _ S.out.both (fun _ => ?_)
          clear hK K
          try simp only [Act.put, List.setIfInBounds_toArray, List.set_cons_zero, List.set_cons_succ]
          refine take_call (i := 5) rfl (by kernel_rfl) (by kernel_rfl) (fun K hK => ?_)
          go_simp
          obtain ⟨pb, hpa⟩ : ∃ pa, v3.heap.size = pa := ⟨_, rfl⟩
          obtain ⟨v4, hW2⟩ : ∃ W2, (v3.alloc (.cells #[.int .i64 0, .int .i64 0, .int .i64 0] 24)) = W2 := ⟨_, rfl⟩
          have hf : Fr0 none' v3 v4 := by rw [← hW2]; exact ((Fr0.refl _ _).alloc _)
          have hpq := Lib.hid (show v3.heap.size = pb from hpa)
          try have hl4 := A4.out.lt
          try have hl5 := A5.out.lt
          try have A4 := Lib.hid (A4.out.later hf)
          try have A5 := Lib.hid (A5.out.later hf)
          have A5 := Lib.hid (show NewK w1 v4 pb zeroK from by rw [← hW2, ← hpa]; exact ⟨World.alloc_heap_new v3 _, S.out.fr.size⟩)
          rw [hW2, hpa]
          have S := Lib.hid (S.out.later hf)
          clear hf hW2 hpa
          refine hK.out _ _ S.out.both (fun _ => ?_)
          clear hK K
          try simp only [Act.put, List.setIfInBounds_toArray, List.set_cons_zero, List.set_cons_succ]
          have hne := Lib.hid (show pa ≠ pb from fun h => by have := hl4; have := hpq.out; omega)
          have ⟨a0, a1, a2⟩ := A4.out.cells
          have ⟨b0, b1, b2⟩ := A4.out.frozen
          refine take_call (i := 6) rfl (by kernel_rfl) (by kernel_rfl) (fun K hK => ?_)
          go_simp
          clear a0 a1 a2 b0 b1 b2
          obtain ⟨u1, hu⟩ : ∃ u, put3 v4 pa x.key = u := ⟨_, rfl⟩
          rw [show ((v4.setCell ⟨pa, 0, none⟩ (.int .i64 (x.key).time)).setCell ⟨pa, 1, none⟩ (.int .i64 (x.key).source)).setCell ⟨pa, 2, none⟩ (.int .i64 (x.key).seq) = u1 from hu]
          have S := Lib.hid (S.out.put A4.out.ge x.key)
          have A5 := Lib.hid (A5.out.other hne.out.symm x.key)
          have A4 := Lib.hid (A4.out.put x.key)
          rw [hu] at S A4 A5
          clear hu
          refine hK.out _ _ S.out.both (fun _ => ?_)
          clear hK K
          try simp only [Act.put, List.setIfInBounds_toArray, List.set_cons_zero, List.set_cons_succ]
          have ⟨a0, a1, a2⟩ := A5.out.cells
          have ⟨b0, b1, b2⟩ := A5.out.frozen
          refine take_call (i := 7) rfl (by kernel_rfl) (by kernel_rfl) (fun K hK => ?_)
          go_simp
          clear a0 a1 a2 b0 b1 b2
          obtain ⟨u2, hu⟩ : ∃ u, put3 u1 pb y.key = u := ⟨_, rfl⟩
          rw [show ((u1.setCell ⟨pb, 0, none⟩ (.int .i64 (y.key).time)).setCell ⟨pb, 1, none⟩ (.int .i64 (y.key).source)).setCell ⟨pb, 2, none⟩ (.int .i64 (y.key).seq) = u2 from hu]
          have S := Lib.hid (S.out.put A5.out.ge y.key)
          have A4 := Lib.hid (A4.out.other hne.out y.key)
          have A5 := Lib.hid (A5.out.put y.key)
          rw [hu] at S A4 A5
          clear hu
          refine hK.out _ _ S.out.both (fun _ => ?_)
          clear hK K
          try simp only [Act.put, List.setIfInBounds_toArray, List.set_cons_zero, List.set_cons_succ]
          refine wpAnyH_done (by kernel_rfl) ?_ _
          exact HT.out pa pb _ ⟨A4.out, A5.out, S.out.fr⟩
        · rw [if_pos (by kernel_rfl)]
          go_simp
          obtain ⟨pb, hpa⟩ : ∃ pa, v2.heap.size = pa := ⟨_, rfl⟩
          obtain ⟨v5, hW2⟩ : ∃ W2, (v2.alloc (.cells #[.int .i64 0, .int .i64 0, .int .i64 0] 24)) = W2 := ⟨_, rfl⟩
          have hf : Fr0 none' v2 v5 := by rw [← hW2]; exact ((Fr0.refl _ _).alloc _)
          have hpq := Lib.hid (show v2.heap.size = pb from hpa)
          try have hl4 := A4.out.lt
          try have hl5 := A5.out.lt
          try have A4 := Lib.hid (A4.out.later hf)
          try have A5 := Lib.hid (A5.out.later hf)
          have A5 := Lib.hid (show NewK w1 v5 pb zeroK from by rw [← hW2, ← hpa]; exact ⟨World.alloc_heap_new v2 _, S.out.fr.size⟩)
          rw [hW2, hpa]
          have S := Lib.hid (S.out.later hf)
          clear hf hW2 hpa
          refine hK.out _ _ S.out.both (fun _ => ?_)
          clear hK K
          try simp only [Act.put, List.setIfInBounds_toArray, List.set_cons_zero, List.set_cons_succ]
          refine take_call (i := 4) rfl (by kernel_rfl) (by kernel_rfl) (fun K hK => ?_)
          go_simp
          obtain ⟨pa, hpa⟩ : ∃ pa, v5.heap.size = pa := ⟨_, rfl⟩
          obtain ⟨v6, hW2⟩ : ∃ W2, (v5.alloc (.cells #[.int .i64 0, .int .i64 0, .int .i64 0] 24)) = W2 := ⟨_, rfl⟩
          have hf : Fr0 none' v5 v6 := by rw [← hW2]; exact ((Fr0.refl _ _).alloc _)
          have hpq := Lib.hid (show v5.heap.size = pa from hpa)
          try have hl4 := A4.out.lt
          try have hl5 := A5.out.lt
          try have A4 := Lib.hid (A4.out.later hf)
          try have A5 := Lib.hid (A5.out.later hf)
          have A4 := Lib.hid (show NewK w1 v6 pa zeroK from by rw [← hW2, ← hpa]; exact ⟨World.alloc_heap_new v5 _, S.out.fr.size⟩)
          rw [hW2, hpa]
          have S := Lib.hid (S.out.later hf)
          clear hf hW2 hpa
          refine hK.out _ _ S.out.both (fun _ => ?_)
          clear hK K
          try simp only [Act.put, List.setIfInBounds_toArray, List.set_cons_zero, List.set_cons_succ]
          have hne := Lib.hid (show pa ≠ pb from fun h => by have := hl5; have := hpq.out; omega)
          have ⟨a0, a1, a2⟩ := A4.out.cells
          have ⟨b0, b1, b2⟩ := A4.out.frozen
          refine take_call (i := 6) rfl (by kernel_rfl) (by kernel_rfl) (fun K hK => ?_)
          go_simp
          clear a0 a1 a2 b0 b1 b2
          obtain ⟨u1, hu⟩ : ∃ u, put3 v6 pa x.key = u := ⟨_, rfl⟩
          rw [show ((v6.setCell ⟨pa, 0, none⟩ (.int .i64 (x.key).time)).setCell ⟨pa, 1, none⟩ (.int .i64 (x.key).source)).setCell ⟨pa, 2, none⟩ (.int .i64 (x.key).seq) = u1 from hu]
          have S := Lib.hid (S.out.put A4.out.ge x.key)
          have A5 := Lib.hid (A5.out.other hne.out.symm x.key)
          have A4 := Lib.hid (A4.out.put x.key)
          rw [hu] at S A4 A5
          clear hu
          refine hK.out _ _ S.out.both (fun _ => ?_)
          clear hK K
          try simp only [Act.put, List.setIfInBounds_toArray, List.set_cons_zero, List.set_cons_succ]
          have ⟨a0, a1, a2⟩ := A5.out.cells
          have ⟨b0, b1, b2⟩ := A5.out.frozen
          refine take_call (i := 7) rfl (by kernel_rfl) (by kernel_rfl) (fun K hK => ?_)
          go_simp
          clear a0 a1 a2 b0 b1 b2
          obtain ⟨u2, hu⟩ : ∃ u, put3 u1 pb y.key = u := ⟨_, rfl⟩
          rw [show ((u1.setCell ⟨pb, 0, none⟩ (.int .i64 (y.key).time)).setCell ⟨pb, 1, none⟩ (.int .i64 (y.key).source)).setCell ⟨pb, 2, none⟩ (.int .i64 (y.key).seq) = u2 from hu]
          have S := Lib.hid (S.out.put A5.out.ge y.key)
          have A4 := Lib.hid (A4.out.other hne.out y.key)
          have A5 := Lib.hid (A5.out.put y.key)
          rw [hu] at S A4 A5
          clear hu
          refine hK.out _ _ S.out.both (fun _ => ?_)
          clear hK K
          try simp only [Act.put, List.setIfInBounds_toArray, List.set_cons_zero, List.set_cons_succ]
          refine wpAnyH_done (by kernel_rfl) ?_ _
          exact HT.out pa pb _ ⟨A4.out, A5.out, S.out.fr⟩
      · rw [if_pos (by kernel_rfl)]
        go_simp
        obtain ⟨pa, hpa⟩ : ∃ pa, v1.heap.size = pa := ⟨_, rfl⟩
        obtain ⟨v7, hW2⟩ : ∃ W2, (v1.alloc (.cells #[.int .i64 0, .int .i64 0, .int .i64 0] 24)) = W2 := ⟨_, rfl⟩
        have hf : Fr0 none' v1 v7 := by rw [← hW2]; exact ((Fr0.refl _ _).alloc _)
        have hpq := Lib.hid (show v1.heap.size = pa from hpa)
        try have hl4 := A4.out.lt
        try have hl5 := A5.out.lt
        try have A4 := Lib.hid (A4.out.later hf)
        try have A5 := Lib.hid (A5.out.later hf)
        have A4 := Lib.hid (show NewK w1 v7 pa zeroK from by rw [← hW2, ← hpa]; exact ⟨World.alloc_heap_new v1 _, S.out.fr.size⟩)
        rw [hW2, hpa]
        have S := Lib.hid (S.out.later hf)
        clear hf hW2 hpa
        refine hK.out _ _ S.out.both (fun _ => ?_)
        clear hK K
        try simp only [Act.put, List.setIfInBounds_toArray, List.set_cons_zero, List.set_cons_succ]
        refine wpAnyH_ready (rs := [3, 5]) (by kernel_rfl) (by simp) (AllReadyH.cons (op_at rfl) (fun K hK => ?_) (AllReadyH.cons (op_at rfl) (fun K hK => ?_) AllReadyH.nil))
        · rw [if_pos (by kernel_rfl)]
          go_simp
          refine (HM.out _ _).mono ?_
          rintro e v8 ⟨rfl, hf⟩
          have hf := ((Fr0.refl none' v7)).trans hf
          have S := Lib.hid (S.out.later hf)
          try have A4 := Lib.hid (A4.out.later hf)
          try have A5 := Lib.hid (A5.out.later hf)
          clear hf
          go_wp2_with fail
          refine hK.out _ _ S.out.both (fun _ => ?_)
          clear hK K
          try simp only [Act.put, List.setIfInBounds_toArray, List.set_cons_zero, List.set_cons_succ]
          refine take_call (i := 5) rfl (by kernel_rfl) (by kernel_rfl) (fun K hK => ?_)
          go_simp
          obtain ⟨pb, hpa⟩ : ∃ pa, v8.heap.size = pa := ⟨_, rfl⟩
          obtain ⟨v9, hW2⟩ : ∃ W2, (v8.alloc (.cells #[.int .i64 0, .int .i64 0, .int .i64 0] 24)) = W2 := ⟨_, rfl⟩
          have hf : Fr0 none' v8 v9 := by rw [← hW2]; exact ((Fr0.refl _ _).alloc _)
          have hpq := Lib.hid (show v8.heap.size = pb from hpa)
          try have hl4 := A4.out.lt
          try have hl5 := A5.out.lt
          try have A4 := Lib.hid (A4.out.later hf)
          try have A5 := Lib.hid (A5.out.later hf)
          have A5 := Lib.hid (show NewK w1 v9 pb zeroK from by rw [← hW2, ← hpa]; exact ⟨World.alloc_heap_new v8 _, S.out.fr.size⟩)
          rw [hW2, hpa]
          have S := Lib.hid (S.out.later hf)
          clear hf hW2 hpa
          refine hK.out _ _ S.out.both (fun _ => ?_)
          clear hK K
          try simp only [Act.put, List.setIfInBounds_toArray, List.set_cons_zero, List.set_cons_succ]
          have hne := Lib.hid (show pa ≠ pb from fun h => by have := hl4; have := hpq.out; omega)
          have ⟨a0, a1, a2⟩ := A4.out.cells
          have ⟨b0, b1, b2⟩ := A4.out.frozen
          refine take_call (i := 6) rfl (by kernel_rfl) (by kernel_rfl) (fun K hK => ?_)
          go_simp
          clear a0 a1 a2 b0 b1 b2
          obtain ⟨u1, hu⟩ : ∃ u, put3 v9 pa x.key = u := ⟨_, rfl⟩
          rw [show ((v9.setCell ⟨pa, 0, none⟩ (.int .i64 (x.key).time)).setCell ⟨pa, 1, none⟩ (.int .i64 (x.key).source)).setCell ⟨pa, 2, none⟩ (.int .i64 (x.key).seq) = u1 from hu]
          have S := Lib.hid (S.out.put A4.out.ge x.key)
          have A5 := Lib.hid (A5.out.other hne.out.symm x.key)
          have A4 := Lib.hid (A4.out.put x.key)
          rw [hu] at S A4 A5
          clear hu
          refine hK.out _ _ S.out.both (fun _ => ?_)
          clear hK K
          try simp only [Act.put, List.setIfInBounds_toArray, List.set_cons_zero, List.set_cons_succ]
          have ⟨a0, a1, a2⟩ := A5.out.cells
          have ⟨b0, b1, b2⟩ := A5.out.frozen
          refine take_call (i := 7) rfl (by kernel_rfl) (by kernel_rfl) (fun K hK => ?_)
          go_simp
          clear a0 a1 a2 b0 b1 b2
          obtain ⟨u2, hu⟩ : ∃ u, put3 u1 pb y.key = u := ⟨_, rfl⟩
          rw [show ((u1.setCell ⟨pb, 0, none⟩ (.int .i64 (y.key).time)).setCell ⟨pb, 1, none⟩ (.int .i64 (y.key).source)).setCell ⟨pb, 2, none⟩ (.int .i64 (y.key).seq) = u2 from hu]
          have S := Lib.hid (S.out.put A5.out.ge y.key)
          have A4 := Lib.hid (A4.out.other hne.out y.key)
          have A5 := Lib.hid (A5.out.put y.key)
          rw [hu] at S A4 A5
          clear hu
          refine hK.out _ _ S.out.both (fun _ => ?_)
          clear hK K
          try simp only [Act.put, List.setIfInBounds_toArray, List.set_cons_zero, List.set_cons_succ]
          refine wpAnyH_done (by kernel_rfl) ?_ _
          exact HT.out pa pb _ ⟨A4.out, A5.out, S.out.fr⟩
        · rw [if_pos (by kernel_rfl)]
          go_simp
          obtain ⟨pb, hpa⟩ : ∃ pa, v7.heap.size = pa := ⟨_, rfl⟩
          obtain ⟨v10, hW2⟩ : ∃ W2, (v7.alloc (.cells #[.int .i64 0, .int .i64 0, .int .i64 0] 24)) = W2 := ⟨_, rfl⟩
          have hf : Fr0 none' v7 v10 := by rw [← hW2]; exact ((Fr0.refl _ _).alloc _)
          have hpq := Lib.hid (show v7.heap.size = pb from hpa)
          try have hl4 := A4.out.lt
          try have hl5 := A5.out.lt
          try have A4 := Lib.hid (A4.out.later hf)
          try have A5 := Lib.hid (A5.out.later hf)
          have A5 := Lib.hid (show NewK w1 v10 pb zeroK from by rw [← hW2, ← hpa]; exact ⟨World.alloc_heap_new v7 _, S.out.fr.size⟩)
          rw [hW2, hpa]
          have S := Lib.hid (S.out.later hf)
          clear hf hW2 hpa
          refine hK.out _ _ S.out.both (fun _ => ?_)
          clear hK K
          try simp only [Act.put, List.setIfInBounds_toArray, List.set_cons_zero, List.set_cons_succ]
          have hne := Lib.hid (show pa ≠ pb from fun h => by have := hl4; have := hpq.out; omega)
          refine take_call (i := 3) rfl (by kernel_rfl) (by kernel_rfl) (fun K hK => ?_)
          go_simp
          refine (HM.out _ _).mono ?_
          rintro e v11 ⟨rfl, hf⟩
          have hf := ((Fr0.refl none' v10)).trans hf
          have S := Lib.hid (S.out.later hf)
          try have A4 := Lib.hid (A4.out.later hf)
          try have A5 := Lib.hid (A5.out.later hf)
          clear hf
          go_wp2_with fail
          refine hK.out _ _ S.out.both (fun _ => ?_)
          clear hK K
          try simp only [Act.put, List.setIfInBounds_toArray, List.set_cons_zero, List.set_cons_succ]
          have ⟨a0, a1, a2⟩ := A4.out.cells
          have ⟨b0, b1, b2⟩ := A4.out.frozen
          refine take_call (i := 6) rfl (by kernel_rfl) (by kernel_rfl) (fun K hK => ?_)
          go_simp
          clear a0 a1 a2 b0 b1 b2
          obtain ⟨u1, hu⟩ : ∃ u, put3 v11 pa x.key = u := ⟨_, rfl⟩
          rw [show ((v11.setCell ⟨pa, 0, none⟩ (.int .i64 (x.key).time)).setCell ⟨pa, 1, none⟩ (.int .i64 (x.key).source)).setCell ⟨pa, 2, none⟩ (.int .i64 (x.key).seq) = u1 from hu]
          have S := Lib.hid (S.out.put A4.out.ge x.key)
          have A5 := Lib.hid (A5.out.other hne.out.symm x.key)
          have A4 := Lib.hid (A4.out.put x.key)
          rw [hu] at S A4 A5
          clear hu
          refine hK.out _ _ S.out.both (fun _ => ?_)
          clear hK K
          try simp only [Act.put, List.setIfInBounds_toArray, List.set_cons_zero, List.set_cons_succ]
          have ⟨a0, a1, a2⟩ := A5.out.cells
          have ⟨b0, b1, b2⟩ := A5.out.frozen
          refine take_call (i := 7) rfl (by kernel_rfl) (by kernel_rfl) (fun K hK => ?_)
          go_simp
          clear a0 a1 a2 b0 b1 b2
          obtain ⟨u2, hu⟩ : ∃ u, put3 u1 pb y.key = u := ⟨_, rfl⟩
          rw [show ((u1.setCell ⟨pb, 0, none⟩ (.int .i64 (y.key).time)).setCell ⟨pb, 1, none⟩ (.int .i64 (y.key).source)).setCell ⟨pb, 2, none⟩ (.int .i64 (y.key).seq) = u2 from hu]
          have S := Lib.hid (S.out.put A5.out.ge y.key)
          have A4 := Lib.hid (A4.out.other hne.out y.key)
          have A5 := Lib.hid (A5.out.put y.key)
          rw [hu] at S A4 A5
          clear hu
          refine hK.out _ _ S.out.both (fun _ => ?_)
          clear hK K
          try simp only [Act.put, List.setIfInBounds_toArray, List.set_cons_zero, List.set_cons_succ]
          refine wpAnyH_done (by kernel_rfl) ?_ _
          exact HT.out pa pb _ ⟨A4.out, A5.out, S.out.fr⟩
      · rw [if_pos (by kernel_rfl)]
        go_simp
        obtain ⟨pb, hpa⟩ : ∃ pa, v1.heap.size = pa := ⟨_, rfl⟩
        obtain ⟨v12, hW2⟩ : ∃ W2, (v1.alloc (.cells #[.int .i64 0, .int .i64 0, .int .i64 0] 24)) = W2 := ⟨_, rfl⟩
        have hf : Fr0 none' v1 v12 := by rw [← hW2]; exact ((Fr0.refl _ _).alloc _)
        have hpq := Lib.hid (show v1.heap.size = pb from hpa)
        try have hl4 := A4.out.lt
        try have hl5 := A5.out.lt
        try have A4 := Lib.hid (A4.out.later hf)
        try have A5 := Lib.hid (A5.out.later hf)
        have A5 := Lib.hid (show NewK w1 v12 pb zeroK from by rw [← hW2, ← hpa]; exact ⟨World.alloc_heap_new v1 _, S.out.fr.size⟩)
        rw [hW2, hpa]
        have S := Lib.hid (S.out.later hf)
        clear hf hW2 hpa
        refine hK.out _ _ S.out.both (fun _ => ?_)
        clear hK K
        try simp only [Act.put, List.setIfInBounds_toArray, List.set_cons_zero, List.set_cons_succ]
        refine wpAnyH_ready (rs := [3, 4]) (by kernel_rfl) (by simp) (AllReadyH.cons (op_at rfl) (fun K hK => ?_) (AllReadyH.cons (op_at rfl) (fun K hK => ?_) AllReadyH.nil))
        · rw [if_pos (by kernel_rfl)]
          go_simp
          refine (HM.out _ _).mono ?_
          rintro e v13 ⟨rfl, hf⟩
          have hf := ((Fr0.refl none' v12)).trans hf
          have S := Lib.hid (S.out.later hf)
          try have A4 := Lib.hid (A4.out.later hf)
          try have A5 := Lib.hid (A5.out.later hf)
          clear hf
          go_wp2_with fail
          refine hK.out _ _ S.out.both (fun _ => ?_)
          clear hK K
          try simp only [Act.put, List.setIfInBounds_toArray, List.set_cons_zero, List.set_cons_succ]
          refine take_call (i := 4) rfl (by kernel_rfl) (by kernel_rfl) (fun K hK => ?_)
          go_simp
          obtain ⟨pa, hpa⟩ : ∃ pa, v13.heap.size = pa := ⟨_, rfl⟩
          obtain ⟨v14, hW2⟩ : ∃ W2, (v13.alloc (.cells #[.int .i64 0, .int .i64 0, .int .i64 0] 24)) = W2 := ⟨_, rfl⟩
          have hf : Fr0 none' v13 v14 := by rw [← hW2]; exact ((Fr0.refl _ _).alloc _)
          have hpq := Lib.hid (show v13.heap.size = pa from hpa)
          try have hl4 := A4.out.lt
          try have hl5 := A5.out.lt
          try have A4 := Lib.hid (A4.out.later hf)
          try have A5 := Lib.hid (A5.out.later hf)
          have A4 := Lib.hid (show NewK w1 v14 pa zeroK from by rw [← hW2, ← hpa]; exact ⟨World.alloc_heap_new v13 _, S.out.fr.size⟩)
          rw [hW2, hpa]
          have S := Lib.hid (S.out.later hf)
          clear hf hW2 hpa
          refine hK.out _ _ S.out.both (fun _ => ?_)
          clear hK K
          try simp only [Act.put, List.setIfInBounds_toArray, List.set_cons_zero, List.set_cons_succ]
          have hne := Lib.hid (show pa ≠ pb from fun h => by have := hl5; have := hpq.out; omega)
          have ⟨a0, a1, a2⟩ := A4.out.cells
          have ⟨b0, b1, b2⟩ := A4.out.frozen
          refine take_call (i := 6) rfl (by kernel_rfl) (by kernel_rfl) (fun K hK => ?_)
          go_simp
          clear a0 a1 a2 b0 b1 b2
          obtain ⟨u1, hu⟩ : ∃ u, put3 v14 pa x.key = u := ⟨_, rfl⟩
          rw [show ((v14.setCell ⟨pa, 0, none⟩ (.int .i64 (x.key).time)).setCell ⟨pa, 1, none⟩ (.int .i64 (x.key).source)).setCell ⟨pa, 2, none⟩ (.int .i64 (x.key).seq) = u1 from hu]
          have S := Lib.hid (S.out.put A4.out.ge x.key)
          have A5 := Lib.hid (A5.out.other hne.out.symm x.key)
          have A4 := Lib.hid (A4.out.put x.key)
          rw [hu] at S A4 A5
          clear hu
          refine hK.out _ _ S.out.both (fun _ => ?_)
          clear hK K
          try simp only [Act.put, List.setIfInBounds_toArray, List.set_cons_zero, List.set_cons_succ]
          have ⟨a0, a1, a2⟩ := A5.out.cells
          have ⟨b0, b1, b2⟩ := A5.out.frozen
          refine take_call (i := 7) rfl (by kernel_rfl) (by kernel_rfl) (fun K hK => ?_)
          go_simp
          clear a0 a1 a2 b0 b1 b2
          obtain ⟨u2, hu⟩ : ∃ u, put3 u1 pb y.key = u := ⟨_, rfl⟩
          rw [show ((u1.setCell ⟨pb, 0, none⟩ (.int .i64 (y.key).time)).setCell ⟨pb, 1, none⟩ (.int .i64 (y.key).source)).setCell ⟨pb, 2, none⟩ (.int .i64 (y.key).seq) = u2 from hu]
          have S := Lib.hid (S.out.put A5.out.ge y.key)
          have A4 := Lib.hid (A4.out.other hne.out y.key)
          have A5 := Lib.hid (A5.out.put y.key)
          rw [hu] at S A4 A5
          clear hu
          refine hK.out _ _ S.out.both (fun _ => ?_)
          clear hK K
          try simp only [Act.put, List.setIfInBounds_toArray, List.set_cons_zero, List.set_cons_succ]
          refine wpAnyH_done (by kernel_rfl) ?_ _
          exact HT.out pa pb _ ⟨A4.out, A5.out, S.out.fr⟩
        · rw [if_pos (by kernel_rfl)]
          go_simp
          obtain ⟨pa, hpa⟩ : ∃ pa, v12.heap.size = pa := ⟨_, rfl⟩
          obtain ⟨v15, hW2⟩ : ∃ W2, (v12.alloc (.cells #[.int .i64 0, .int .i64 0, .int .i64 0] 24)) = W2 := ⟨_, rfl⟩
          have hf : Fr0 none' v12 v15 := by rw [← hW2]; exact ((Fr0.refl _ _).alloc _)
          have hpq := Lib.hid (show v12.heap.size = pa from hpa)
          try have hl4 := A4.out.lt
          try have hl5 := A5.out.lt
          try have A4 := Lib.hid (A4.out.later hf)
          try have A5 := Lib.hid (A5.out.later hf)
          have A4 := Lib.hid (show NewK w1 v15 pa zeroK from by rw [← hW2, ← hpa]; exact ⟨World.alloc_heap_new v12 _, S.out.fr.size⟩)
          rw [hW2, hpa]
          have S := Lib.hid (S.out.later hf)
          clear hf hW2 hpa
          refine hK.out _ _ S.out.both (fun _ => ?_)
          clear hK K
          try simp only [Act.put, List.setIfInBounds_toArray, List.set_cons_zero, List.set_cons_succ]
          have hne := Lib.hid (show pa ≠ pb from fun h => by have := hl5; have := hpq.out; omega)
          refine take_call (i := 3) rfl (by kernel_rfl) (by kernel_rfl) (fun K hK => ?_)
          go_simp
          refine (HM.out _ _).mono ?_
          rintro e v16 ⟨rfl, hf⟩
          have hf := ((Fr0.refl none' v15)).trans hf
          have S := Lib.hid (S.out.later hf)
          try have A4 := Lib.hid (A4.out.later hf)
          try have A5 := Lib.hid (A5.out.later hf)
          clear hf
          go_wp2_with fail
          refine hK.out _ _ S.out.both (fun _ => ?_)
          clear hK K
          try simp only [Act.put, List.setIfInBounds_toArray, List.set_cons_zero, List.set_cons_succ]
          have ⟨a0, a1, a2⟩ := A4.out.cells
          have ⟨b0, b1, b2⟩ := A4.out.frozen
          refine take_call (i := 6) rfl (by kernel_rfl) (by kernel_rfl) (fun K hK => ?_)
          go_simp
          clear a0 a1 a2 b0 b1 b2
          obtain ⟨u1, hu⟩ : ∃ u, put3 v16 pa x.key = u := ⟨_, rfl⟩
          rw [show ((v16.setCell ⟨pa, 0, none⟩ (.int .i64 (x.key).time)).setCell ⟨pa, 1, none⟩ (.int .i64 (x.key).source)).setCell ⟨pa, 2, none⟩ (.int .i64 (x.key).seq) = u1 from hu]
          have S := Lib.hid (S.out.put A4.out.ge x.key)
          have A5 := Lib.hid (A5.out.other hne.out.symm x.key)
          have A4 := Lib.hid (A4.out.put x.key)
          rw [hu] at S A4 A5
          clear hu
          refine hK.out _ _ S.out.both (fun _ => ?_)
          clear hK K
          try simp only [Act.put, List.setIfInBounds_toArray, List.set_cons_zero, List.set_cons_succ]
          have ⟨a0, a1, a2⟩ := A5.out.cells
          have ⟨b0, b1, b2⟩ := A5.out.frozen
          refine take_call (i := 7) rfl (by kernel_rfl) (by kernel_rfl) (fun K hK => ?_)
          go_simp
          clear a0 a1 a2 b0 b1 b2
          obtain ⟨u2, hu⟩ : ∃ u, put3 u1 pb y.key = u := ⟨_, rfl⟩
          rw [show ((u1.setCell ⟨pb, 0, none⟩ (.int .i64 (y.key).time)).setCell ⟨pb, 1, none⟩ (.int .i64 (y.key).source)).setCell ⟨pb, 2, none⟩ (.int .i64 (y.key).seq) = u2 from hu]
          have S := Lib.hid (S.out.put A5.out.ge y.key)
          have A4 := Lib.hid (A4.out.other hne.out y.key)
          have A5 := Lib.hid (A5.out.put y.key)
          rw [hu] at S A4 A5
          clear hu
          refine hK.out _ _ S.out.both (fun _ => ?_)
          clear hK K
          try simp only [Act.put, List.setIfInBounds_toArray, List.set_cons_zero, List.set_cons_succ]
          refine wpAnyH_done (by kernel_rfl) ?_ _
          exact HT.out pa pb _ ⟨A4.out, A5.out, S.out.fr⟩
    · rw [if_pos (by kernel_rfl)]
      go_simp
      obtain ⟨pa, hpa⟩ : ∃ pa, w1.heap.size = pa := ⟨_, rfl⟩
      obtain ⟨v17, hW2⟩ : ∃ W2, (w1.alloc (.cells #[.int .i64 0, .int .i64 0, .int .i64 0] 24)).drew = W2 := ⟨_, rfl⟩
      have hf : Fr0 none' w1 v17 := by rw [← hW2]; exact ((Fr0.refl _ _).alloc _).drew
      have hpq := Lib.hid (show w1.heap.size = pa from hpa)
      try have hl4 := A4.out.lt
      try have hl5 := A5.out.lt
      try have A4 := Lib.hid (A4.out.later hf)
      try have A5 := Lib.hid (A5.out.later hf)
      have A4 := Lib.hid (show NewK w1 v17 pa zeroK from by rw [← hW2, ← hpa]; exact ⟨World.alloc_heap_new w1 _, S.out.fr.size⟩)
      rw [hW2, hpa]
      have S := Lib.hid (S.out.later hf)
      clear hf hW2 hpa
      refine hK.out _ _ S.out.both (fun _ => ?_)
      clear hK K
      try simp only [Act.put, List.setIfInBounds_toArray, List.set_cons_zero, List.set_cons_succ]
      refine wpAnyH_ready (rs := [1, 5]) (by kernel_rfl) (by simp) (AllReadyH.cons (op_at rfl) (fun K hK => ?_) (AllReadyH.cons (op_at rfl) (fun K hK => ?_) AllReadyH.nil))
      · rw [if_pos (by kernel_rfl)]
        go_simp
        refine (HM.out _ _).mono ?_
        rintro e v18 ⟨rfl, hf⟩
        have hf := ((Fr0.refl none' v17)).trans hf
        have S := Lib.hid (S.out.later hf)
        try have A4 := Lib.hid (A4.out.later hf)
        try have A5 := Lib.hid (A5.out.later hf)
        clear hf
        go_wp2_with fail
        refine hK.out _ _ S.out.both (fun _ => ?_)
        clear hK K
        try simp only [Act.put, List.setIfInBounds_toArray, List.set_cons_zero, List.set_cons_succ]
        refine wpAnyH_ready (rs := [3, 5]) (by kernel_rfl) (by simp) (AllReadyH.cons (op_at rfl) (fun K hK => ?_) (AllReadyH.cons (op_at rfl) (fun K hK => ?_) AllReadyH.nil))
        · rw [if_pos (by kernel_rfl)]
          go_simp
          refine (HM.out _ _).mono ?_
          rintro e v19 ⟨rfl, hf⟩
          have hf := ((Fr0.refl none' v18)).trans hf
          have S := Lib.hid (S.out.later hf)
          try have A4 := Lib.hid (A4.out.later hf)
          try have A5 := Lib.hid (A5.out.later hf)
          clear hf
          go_wp2_with fail
          refine hK.out _ _ S.out.both (fun _ => ?_)
          clear hK K
          try simp only [Act.put, List.setIfInBounds_toArray, List.set_cons_zero, List.set_cons_succ]
          refine take_call (i := 5) rfl (by kernel_rfl) (by kernel_rfl) (fun K hK => ?_)
          go_simp
          obtain ⟨pb, hpa⟩ : ∃ pa, v19.heap.size = pa := ⟨_, rfl⟩
          obtain ⟨v20, hW2⟩ : ∃ W2, (v19.alloc (.cells #[.int .i64 0, .int .i64 0, .int .i64 0] 24)) = W2 := ⟨_, rfl⟩
          have hf : Fr0 none' v19 v20 := by rw [← hW2]; exact ((Fr0.refl _ _).alloc _)
          have hpq := Lib.hid (show v19.heap.size = pb from hpa)
          try have hl4 := A4.out.lt
          try have hl5 := A5.out.lt
          try have A4 := Lib.hid (A4.out.later hf)
          try have A5 := Lib.hid (A5.out.later hf)
          have A5 := Lib.hid (show NewK w1 v20 pb zeroK from by rw [← hW2, ← hpa]; exact ⟨World.alloc_heap_new v19 _, S.out.fr.size⟩)
          rw [hW2, hpa]
          have S := Lib.hid (S.out.later hf)
          clear hf hW2 hpa
          refine hK.out _ _ S.out.both (fun _ => ?_)
          clear hK K
          try simp only [Act.put, List.setIfInBounds_toArray, List.set_cons_zero, List.set_cons_succ]
          have hne := Lib.hid (show pa ≠ pb from fun h => by have := hl4; have := hpq.out; omega)
          have ⟨a0, a1, a2⟩ := A4.out.cells
          have ⟨b0, b1, b2⟩ := A4.out.frozen
          refine take_call (i := 6) rfl (by kernel_rfl) (by kernel_rfl) (fun K hK => ?_)
          go_simp
          clear a0 a1 a2 b0 b1 b2
          obtain ⟨u1, hu⟩ : ∃ u, put3 v20 pa x.key = u := ⟨_, rfl⟩
          rw [show ((v20.setCell ⟨pa, 0, none⟩ (.int .i64 (x.key).time)).setCell ⟨pa, 1, none⟩ (.int .i64 (x.key).source)).setCell ⟨pa, 2, none⟩ (.int .i64 (x.key).seq) = u1 from hu]
          have S := Lib.hid (S.out.put A4.out.ge x.key)
          have A5 := Lib.hid (A5.out.other hne.out.symm x.key)
          have A4 := Lib.hid (A4.out.put x.key)
          rw [hu] at S A4 A5
          clear hu
          refine hK.out _ _ S.out.both (fun _ => ?_)
          clear hK K
          try simp only [Act.put, List.setIfInBounds_toArray, List.set_cons_zero, List.set_cons_succ]
          have ⟨a0, a1, a2⟩ := A5.out.cells
          have ⟨b0, b1, b2⟩ := A5.out.frozen
          refine take_call (i := 7) rfl (by kernel_rfl) (by kernel_rfl) (fun K hK => ?_)
          go_simp
          clear a0 a1 a2 b0 b1 b2
          obtain ⟨u2, hu⟩ : ∃ u, put3 u1 pb y.key = u := ⟨_, rfl⟩
          rw [show ((u1.setCell ⟨pb, 0, none⟩ (.int .i64 (y.key).time)).setCell ⟨pb, 1, none⟩ (.int .i64 (y.key).source)).setCell ⟨pb, 2, none⟩ (.int .i64 (y.key).seq) = u2 from hu]
          have S := Lib.hid (S.out.put A5.out.ge y.key)
          have A4 := Lib.hid (A4.out.other hne.out y.key)
          have A5 := Lib.hid (A5.out.put y.key)
          rw [hu] at S A4 A5
          clear hu
          refine hK.out _ _ S.out.both (fun _ => ?_)
          clear hK K
          try simp only [Act.put, List.setIfInBounds_toArray, List.set_cons_zero, List.set_cons_succ]
          refine wpAnyH_done (by kernel_rfl) ?_ _
          exact HT.out pa pb _ ⟨A4.out, A5.out, S.out.fr⟩
        · rw [if_pos (by kernel_rfl)]
          go_simp
          obtain ⟨pb, hpa⟩ : ∃ pa, v18.heap.size = pa := ⟨_, rfl⟩
          obtain ⟨v21, hW2⟩ : ∃ W2, (v18.alloc (.cells #[.int .i64 0, .int .i64 0, .int .i64 0] 24)) = W2 := ⟨_, rfl⟩
          have hf : Fr0 none' v18 v21 := by rw [← hW2]; exact ((Fr0.refl _ _).alloc _)
          have hpq := Lib.hid (show v18.heap.size = pb from hpa)
          try have hl4 := A4.out.lt
          try have hl5 := A5.out.lt
          try have A4 := Lib.hid (A4.out.later hf)
          try have A5 := Lib.hid (A5.out.later hf)
          have A5 := Lib.hid (show NewK w1 v21 pb zeroK from by rw [← hW2, ← hpa]; exact ⟨World.alloc_heap_new v18 _, S.out.fr.size⟩)
          rw [hW2, hpa]
          have S := Lib.hid (S.out.later hf)
          clear hf hW2 hpa
          refine hK.out _ _ S.out.both (fun _ => ?_)
          clear hK K
          try simp only [Act.put, List.setIfInBounds_toArray, List.set_cons_zero, List.set_cons_succ]
          have hne := Lib.hid (show pa ≠ pb from fun h => by have := hl4; have := hpq.out; omega)
          refine take_call (i := 3) rfl (by kernel_rfl) (by kernel_rfl) (fun K hK => ?_)
          go_simp
          refine (HM.out _ _).mono ?_
          rintro e v22 ⟨rfl, hf⟩
          have hf := ((Fr0.refl none' v21)).trans hf
          have S := Lib.hid (S.out.later hf)
          try have A4 := Lib.hid (A4.out.later hf)
          try have A5 := Lib.hid (A5.out.later hf)
          clear hf
          go_wp2_with fail
          refine hK.out _ _ S.out.both (fun _ => ?_)
          clear hK K
          try simp only [Act.put, List.setIfInBounds_toArray, List.set_cons_zero, List.set_cons_succ]
          have ⟨a0, a1, a2⟩ := A4.out.cells
          have ⟨b0, b1, b2⟩ := A4.out.frozen
          refine take_call (i := 6) rfl (by kernel_rfl) (by kernel_rfl) (fun K hK => ?_)
          go_simp
          clear a0 a1 a2 b0 b1 b2
          obtain ⟨u1, hu⟩ : ∃ u, put3 v22 pa x.key = u := ⟨_, rfl⟩
          rw [show ((v22.setCell ⟨pa, 0, none⟩ (.int .i64 (x.key).time)).setCell ⟨pa, 1, none⟩ (.int .i64 (x.key).source)).setCell ⟨pa, 2, none⟩ (.int .i64 (x.key).seq) = u1 from hu]
          have S := Lib.hid (S.out.put A4.out.ge x.key)
          have A5 := Lib.hid (A5.out.other hne.out.symm x.key)
          have A4 := Lib.hid (A4.out.put x.key)
          rw [hu] at S A4 A5
          clear hu
          refine hK.out _ _ S.out.both (fun _ => ?_)
          clear hK K
          try simp only [Act.put, List.setIfInBounds_toArray, List.set_cons_zero, List.set_cons_succ]
          have ⟨a0, a1, a2⟩ := A5.out.cells
          have ⟨b0, b1, b2⟩ := A5.out.frozen
          refine take_call (i := 7) rfl (by kernel_rfl) (by kernel_rfl) (fun K hK => ?_)
          go_simp
          clear a0 a1 a2 b0 b1 b2
          obtain ⟨u2, hu⟩ : ∃ u, put3 u1 pb y.key = u := ⟨_, rfl⟩
          rw [show ((u1.setCell ⟨pb, 0, none⟩ (.int .i64 (y.key).time)).setCell ⟨pb, 1, none⟩ (.int .i64 (y.key).source)).setCell ⟨pb, 2, none⟩ (.int .i64 (y.key).seq) = u2 from hu]
          have S := Lib.hid (S.out.put A5.out.ge y.key)
          have A4 := Lib.hid (A4.out.other hne.out y.key)
          have A5 := Lib.hid (A5.out.put y.key)
          rw [hu] at S A4 A5
          clear hu
          refine hK.out _ _ S.out.both (fun _ => ?_)
          clear hK K
          try simp only [Act.put, List.setIfInBounds_toArray, List.set_cons_zero, List.set_cons_succ]
          refine wpAnyH_done (by kernel_rfl) ?_ _
          exact HT.out pa pb _ ⟨A4.out, A5.out, S.out.fr⟩
      · rw [if_pos (by kernel_rfl)]
        go_simp
        obtain ⟨pb, hpa⟩ : ∃ pa, v17.heap.size = pa := ⟨_, rfl⟩
        obtain ⟨v23, hW2⟩ : ∃ W2, (v17.alloc (.cells #[.int .i64 0, .int .i64 0, .int .i64 0] 24)) = W2 := ⟨_, rfl⟩
        have hf : Fr0 none' v17 v23 := by rw [← hW2]; exact ((Fr0.refl _ _).alloc _)
        have hpq := Lib.hid (show v17.heap.size = pb from hpa)
        try have hl4 := A4.out.lt
        try have hl5 := A5.out.lt
        try have A4 := Lib.hid (A4.out.later hf)
        try have A5 := Lib.hid (A5.out.later hf)
        have A5 := Lib.hid (show NewK w1 v23 pb zeroK from by rw [← hW2, ← hpa]; exact ⟨World.alloc_heap_new v17 _, S.out.fr.size⟩)
        rw [hW2, hpa]
        have S := Lib.hid (S.out.later hf)
        clear hf hW2 hpa
        refine hK.out _ _ S.out.both (fun _ => ?_)
        clear hK K
        try simp only [Act.put, List.setIfInBounds_toArray, List.set_cons_zero, List.set_cons_succ]
        have hne := Lib.hid (show pa ≠ pb from fun h => by have := hl4; have := hpq.out; omega)
        refine take_call (i := 1) rfl (by kernel_rfl) (by kernel_rfl) (fun K hK => ?_)
        go_simp
        refine (HM.out _ _).mono ?_
        rintro e v24 ⟨rfl, hf⟩
        have hf := ((Fr0.refl none' v23)).trans hf
        have S := Lib.hid (S.out.later hf)
        try have A4 := Lib.hid (A4.out.later hf)
        try have A5 := Lib.hid (A5.out.later hf)
        clear hf
        go_wp2_with fail
        refine hK.out _ _ S.out.both (fun _ => ?_)
        clear hK K
        try simp only [Act.put, List.setIfInBounds_toArray, List.set_cons_zero, List.set_cons_succ]
        refine take_call (i := 3) rfl (by kernel_rfl) (by kernel_rfl) (fun K hK => ?_)
        go_simp
        refine (HM.out _ _).mono ?_
        rintro e v25 ⟨rfl, hf⟩
        have hf := ((Fr0.refl none' v24)).trans hf
        have S := Lib.hid (S.out.later hf)
        try have A4 := Lib.hid (A4.out.later hf)
        try have A5 := Lib.hid (A5.out.later hf)
        clear hf
        go_wp2_with fail
        refine hK.out _ _ S.out.both (fun _ => ?_)
        clear hK K
        try simp only [Act.put, List.setIfInBounds_toArray, List.set_cons_zero, List.set_cons_succ]
        have ⟨a0, a1, a2⟩ := A4.out.cells
        have ⟨b0, b1, b2⟩ := A4.out.frozen
        refine take_call (i := 6) rfl (by kernel_rfl) (by kernel_rfl) (fun K hK => ?_)
        go_simp
        clear a0 a1 a2 b0 b1 b2
        obtain ⟨u1, hu⟩ : ∃ u, put3 v25 pa x.key = u := ⟨_, rfl⟩
        rw [show ((v25.setCell ⟨pa, 0, none⟩ (.int .i64 (x.key).time)).setCell ⟨pa, 1, none⟩ (.int .i64 (x.key).source)).setCell ⟨pa, 2, none⟩ (.int .i64 (x.key).seq) = u1 from hu]
        have S := Lib.hid (S.out.put A4.out.ge x.key)
        have A5 := Lib.hid (A5.out.other hne.out.symm x.key)
        have A4 := Lib.hid (A4.out.put x.key)
        rw [hu] at S A4 A5
        clear hu
        refine hK.out _ _ S.out.both (fun _ => ?_)
        clear hK K
        try simp only [Act.put, List.setIfInBounds_toArray, List.set_cons_zero, List.set_cons_succ]
        have ⟨a0, a1, a2⟩ := A5.out.cells
        have ⟨b0, b1, b2⟩ := A5.out.frozen
        refine take_call (i := 7) rfl (by kernel_rfl) (by kernel_rfl) (fun K hK => ?_)
        go_simp
        clear a0 a1 a2 b0 b1 b2
        obtain ⟨u2, hu⟩ : ∃ u, put3 u1 pb y.key = u := ⟨_, rfl⟩
        rw [show ((u1.setCell ⟨pb, 0, none⟩ (.int .i64 (y.key).time)).setCell ⟨pb, 1, none⟩ (.int .i64 (y.key).source)).setCell ⟨pb, 2, none⟩ (.int .i64 (y.key).seq) = u2 from hu]
        have S := Lib.hid (S.out.put A5.out.ge y.key)
        have A4 := Lib.hid (A4.out.other hne.out y.key)
        have A5 := Lib.hid (A5.out.put y.key)
        rw [hu] at S A4 A5
        clear hu
        refine hK.out _ _ S.out.both (fun _ => ?_)
        clear hK K
        try simp only [Act.put, List.setIfInBounds_toArray, List.set_cons_zero, List.set_cons_succ]
        refine wpAnyH_done (by kernel_rfl) ?_ _
        exact HT.out pa pb _ ⟨A4.out, A5.out, S.out.fr⟩
    · rw [if_pos (by kernel_rfl)]
      go_simp
      obtain ⟨pb, hpa⟩ : ∃ pa, w1.heap.size = pa := ⟨_, rfl⟩
      obtain ⟨v26, hW2⟩ : ∃ W2, (w1.alloc (.cells #[.int .i64 0, .int .i64 0, .int .i64 0] 24)).drew = W2 := ⟨_, rfl⟩
      have hf : Fr0 none' w1 v26 := by rw [← hW2]; exact ((Fr0.refl _ _).alloc _).drew
      have hpq := Lib.hid (show w1.heap.size = pb from hpa)
      try have hl4 := A4.out.lt
      try have hl5 := A5.out.lt
      try have A4 := Lib.hid (A4.out.later hf)
      try have A5 := Lib.hid (A5.out.later hf)
      have A5 := Lib.hid (show NewK w1 v26 pb zeroK from by rw [← hW2, ← hpa]; exact ⟨World.alloc_heap_new w1 _, S.out.fr.size⟩)
      rw [hW2, hpa]
      have S := Lib.hid (S.out.later hf)
      clear hf hW2 hpa
      refine hK.out _ _ S.out.both (fun _ => ?_)
      clear hK K
      try simp only [Act.put, List.setIfInBounds_toArray, List.set_cons_zero, List.set_cons_succ]
      refine wpAnyH_ready (rs := [1, 4]) (by kernel_rfl) (by simp) (AllReadyH.cons (op_at rfl) (fun K hK => ?_) (AllReadyH.cons (op_at rfl) (fun K hK => ?_) AllReadyH.nil))
      · rw [if_pos (by kernel_rfl)]
        go_simp
        refine (HM.out _ _).mono ?_
        rintro e v27 ⟨rfl, hf⟩
        have hf := ((Fr0.refl none' v26)).trans hf
        have S := Lib.hid (S.out.later hf)
        try have A4 := Lib.hid (A4.out.later hf)
        try have A5 := Lib.hid (A5.out.later hf)
        clear hf
        go_wp2_with fail
        refine hK.out _ _ S.out.both (fun _ => ?_)
        clear hK K
        try simp only [Act.put, List.setIfInBounds_toArray, List.set_cons_zero, List.set_cons_succ]
        refine wpAnyH_ready (rs := [3, 4]) (by kernel_rfl) (by simp) (AllReadyH.cons (op_at rfl) (fun K hK => ?_) (AllReadyH.cons (op_at rfl) (fun K hK => ?_) AllReadyH.nil))
        · rw [if_pos (by kernel_rfl)]
          go_simp
          refine (HM.out _ _).mono ?_
          rintro e v28 ⟨rfl, hf⟩
          have hf := ((Fr0.refl none' v27)).trans hf
          have S := Lib.hid (S.out.later hf)
          try have A4 := Lib.hid (A4.out.later hf)
          try have A5 := Lib.hid (A5.out.later hf)
          clear hf
          go_wp2_with fail
          refine hK.out _ _ S.out.both (fun _ => ?_)
          clear hK K
          try simp only [Act.put, List.setIfInBounds_toArray, List.set_cons_zero, List.set_cons_succ]
          refine take_call (i := 4) rfl (by kernel_rfl) (by kernel_rfl) (fun K hK => ?_)
          go_simp
          obtain ⟨pa, hpa⟩ : ∃ pa, v28.heap.size = pa := ⟨_, rfl⟩
          obtain ⟨v29, hW2⟩ : ∃ W2, (v28.alloc (.cells #[.int .i64 0, .int .i64 0, .int .i64 0] 24)) = W2 := ⟨_, rfl⟩
          have hf : Fr0 none' v28 v29 := by rw [← hW2]; exact ((Fr0.refl _ _).alloc _)
          have hpq := Lib.hid (show v28.heap.size = pa from hpa)
          try have hl4 := A4.out.lt
          try have hl5 := A5.out.lt
          try have A4 := Lib.hid (A4.out.later hf)
          try have A5 := Lib.hid (A5.out.later hf)
          have A4 := Lib.hid (show NewK w1 v29 pa zeroK from by rw [← hW2, ← hpa]; exact ⟨World.alloc_heap_new v28 _, S.out.fr.size⟩)
          rw [hW2, hpa]
          have S := Lib.hid (S.out.later hf)
          clear hf hW2 hpa
          refine hK.out _ _ S.out.both (fun _ => ?_)
          clear hK K
          try simp only [Act.put, List.setIfInBounds_toArray, List.set_cons_zero, List.set_cons_succ]
          have hne := Lib.hid (show pa ≠ pb from fun h => by have := hl5; have := hpq.out; omega)
          have ⟨a0, a1, a2⟩ := A4.out.cells
          have ⟨b0, b1, b2⟩ := A4.out.frozen
          refine take_call (i := 6) rfl (by kernel_rfl) (by kernel_rfl) (fun K hK => ?_)
          go_simp
          clear a0 a1 a2 b0 b1 b2
          obtain ⟨u1, hu⟩ : ∃ u, put3 v29 pa x.key = u := ⟨_, rfl⟩
          rw [show ((v29.setCell ⟨pa, 0, none⟩ (.int .i64 (x.key).time)).setCell ⟨pa, 1, none⟩ (.int .i64 (x.key).source)).setCell ⟨pa, 2, none⟩ (.int .i64 (x.key).seq) = u1 from hu]
          have S := Lib.hid (S.out.put A4.out.ge x.key)
          have A5 := Lib.hid (A5.out.other hne.out.symm x.key)
          have A4 := Lib.hid (A4.out.put x.key)
          rw [hu] at S A4 A5
          clear hu
          refine hK.out _ _ S.out.both (fun _ => ?_)
          clear hK K
          try simp only [Act.put, List.setIfInBounds_toArray, List.set_cons_zero, List.set_cons_succ]
          have ⟨a0, a1, a2⟩ := A5.out.cells
          have ⟨b0, b1, b2⟩ := A5.out.frozen
          refine take_call (i := 7) rfl (by kernel_rfl) (by kernel_rfl) (fun K hK => ?_)
          go_simp
          clear a0 a1 a2 b0 b1 b2
          obtain ⟨u2, hu⟩ : ∃ u, put3 u1 pb y.key = u := ⟨_, rfl⟩
          rw [show ((u1.setCell ⟨pb, 0, none⟩ (.int .i64 (y.key).time)).setCell ⟨pb, 1, none⟩ (.int .i64 (y.key).source)).setCell ⟨pb, 2, none⟩ (.int .i64 (y.key).seq) = u2 from hu]
          have S := Lib.hid (S.out.put A5.out.ge y.key)
          have A4 := Lib.hid (A4.out.other hne.out y.key)
          have A5 := Lib.hid (A5.out.put y.key)
          rw [hu] at S A4 A5
          clear hu
          refine hK.out _ _ S.out.both (fun _ => ?_)
          clear hK K
          try simp only [Act.put, List.setIfInBounds_toArray, List.set_cons_zero, List.set_cons_succ]
          refine wpAnyH_done (by kernel_rfl) ?_ _
          exact HT.out pa pb _ ⟨A4.out, A5.out, S.out.fr⟩
        · rw [if_pos (by kernel_rfl)]
          go_simp
          obtain ⟨pa, hpa⟩ : ∃ pa, v27.heap.size = pa := ⟨_, rfl⟩
          obtain ⟨v30, hW2⟩ : ∃ W2, (v27.alloc (.cells #[.int .i64 0, .int .i64 0, .int .i64 0] 24)) = W2 := ⟨_, rfl⟩
          have hf : Fr0 none' v27 v30 := by rw [← hW2]; exact ((Fr0.refl _ _).alloc _)
          have hpq := Lib.hid (show v27.heap.size = pa from hpa)
          try have hl4 := A4.out.lt
          try have hl5 := A5.out.lt
          try have A4 := Lib.hid (A4.out.later hf)
          try have A5 := Lib.hid (A5.out.later hf)
          have A4 := Lib.hid (show NewK w1 v30 pa zeroK from by rw [← hW2, ← hpa]; exact ⟨World.alloc_heap_new v27 _, S.out.fr.size⟩)
          rw [hW2, hpa]
          have S := Lib.hid (S.out.later hf)
          clear hf hW2 hpa
          refine hK.out _ _ S.out.both (fun _ => ?_)
          clear hK K
          try simp only [Act.put, List.setIfInBounds_toArray, List.set_cons_zero, List.set_cons_succ]
          have hne := Lib.hid (show pa ≠ pb from fun h => by have := hl5; have := hpq.out; omega)
          refine take_call (i := 3) rfl (by kernel_rfl) (by kernel_rfl) (fun K hK => ?_)
          go_simp
          refine (HM.out _ _).mono ?_
          rintro e v31 ⟨rfl, hf⟩
          have hf := ((Fr0.refl none' v30)).trans hf
          have S := Lib.hid (S.out.later hf)
          try have A4 := Lib.hid (A4.out.later hf)
          try have A5 := Lib.hid (A5.out.later hf)
          clear hf
          go_wp2_with fail
          refine hK.out _ _ S.out.both (fun _ => ?_)
          clear hK K
          try simp only [Act.put, List.setIfInBounds_toArray, List.set_cons_zero, List.set_cons_succ]
          have ⟨a0, a1, a2⟩ := A4.out.cells
          have ⟨b0, b1, b2⟩ := A4.out.frozen
          refine take_call (i := 6) rfl (by kernel_rfl) (by kernel_rfl) (fun K hK => ?_)
          go_simp
          clear a0 a1 a2 b0 b1 b2
          obtain ⟨u1, hu⟩ : ∃ u, put3 v31 pa x.key = u := ⟨_, rfl⟩
          rw [show ((v31.setCell ⟨pa, 0, none⟩ (.int .i64 (x.key).time)).setCell ⟨pa, 1, none⟩ (.int .i64 (x.key).source)).setCell ⟨pa, 2, none⟩ (.int .i64 (x.key).seq) = u1 from hu]
          have S := Lib.hid (S.out.put A4.out.ge x.key)
          have A5 := Lib.hid (A5.out.other hne.out.symm x.key)
          have A4 := Lib.hid (A4.out.put x.key)
          rw [hu] at S A4 A5
          clear hu
          refine hK.out _ _ S.out.both (fun _ => ?_)
          clear hK K
          try simp only [Act.put, List.setIfInBounds_toArray, List.set_cons_zero, List.set_cons_succ]
          have ⟨a0, a1, a2⟩ := A5.out.cells
          have ⟨b0, b1, b2⟩ := A5.out.frozen
          refine take_call (i := 7) rfl (by kernel_rfl) (by kernel_rfl) (fun K hK => ?_)
          go_simp
          clear a0 a1 a2 b0 b1 b2
          obtain ⟨u2, hu⟩ : ∃ u, put3 u1 pb y.key = u := ⟨_, rfl⟩
          rw [show ((u1.setCell ⟨pb, 0, none⟩ (.int .i64 (y.key).time)).setCell ⟨pb, 1, none⟩ (.int .i64 (y.key).source)).setCell ⟨pb, 2, none⟩ (.int .i64 (y.key).seq) = u2 from hu]
          have S := Lib.hid (S.out.put A5.out.ge y.key)
          have A4 := Lib.hid (A4.out.other hne.out y.key)
          have A5 := Lib.hid (A5.out.put y.key)
          rw [hu] at S A4 A5
          clear hu
          refine hK.out _ _ S.out.both (fun _ => ?_)
          clear hK K
          try simp only [Act.put, List.setIfInBounds_toArray, List.set_cons_zero, List.set_cons_succ]
          refine wpAnyH_done (by kernel_rfl) ?_ _
          exact HT.out pa pb _ ⟨A4.out, A5.out, S.out.fr⟩
      · rw [if_pos (by kernel_rfl)]
        go_simp
        obtain ⟨pa, hpa⟩ : ∃ pa, v26.heap.size = pa := ⟨_, rfl⟩
        obtain ⟨v32, hW2⟩ : ∃ W2, (v26.alloc (.cells #[.int .i64 0, .int .i64 0, .int .i64 0] 24)) = W2 := ⟨_, rfl⟩
        have hf : Fr0 none' v26 v32 := by rw [← hW2]; exact ((Fr0.refl _ _).alloc _)
        have hpq := Lib.hid (show v26.heap.size = pa from hpa)
        try have hl4 := A4.out.lt
        try have hl5 := A5.out.lt
        try have A4 := Lib.hid (A4.out.later hf)
        try have A5 := Lib.hid (A5.out.later hf)
        have A4 := Lib.hid (show NewK w1 v32 pa zeroK from by rw [← hW2, ← hpa]; exact ⟨World.alloc_heap_new v26 _, S.out.fr.size⟩)
        rw [hW2, hpa]
        have S := Lib.hid (S.out.later hf)
        clear hf hW2 hpa
        refine hK.out _ _ S.out.both (fun _ => ?_)
        clear hK K
        try simp only [Act.put, List.setIfInBounds_toArray, List.set_cons_zero, List.set_cons_succ]
        have hne := Lib.hid (show pa ≠ pb from fun h => by have := hl5; have := hpq.out; omega)
        refine take_call (i := 1) rfl (by kernel_rfl) (by kernel_rfl) (fun K hK => ?_)
        go_simp
        refine (HM.out _ _).mono ?_
        rintro e v33 ⟨rfl, hf⟩
        have hf := ((Fr0.refl none' v32)).trans hf
        have S := Lib.hid (S.out.later hf)
        try have A4 := Lib.hid (A4.out.later hf)
        try have A5 := Lib.hid (A5.out.later hf)
        clear hf
        go_wp2_with fail
        refine hK.out _ _ S.out.both (fun _ => ?_)
        clear hK K
        try simp only [Act.put, List.setIfInBounds_toArray, List.set_cons_zero, List.set_cons_succ]
        refine take_call (i := 3) rfl (by kernel_rfl) (by kernel_rfl) (fun K hK => ?_)
        go_simp
        refine (HM.out _ _).mono ?_
        rintro e v34 ⟨rfl, hf⟩
        have hf := ((Fr0.refl none' v33)).trans hf
        have S := Lib.hid (S.out.later hf)
        try have A4 := Lib.hid (A4.out.later hf)
        try have A5 := Lib.hid (A5.out.later hf)
        clear hf
        go_wp2_with fail
        refine hK.out _ _ S.out.both (fun _ => ?_)
        clear hK K
        try simp only [Act.put, List.setIfInBounds_toArray, List.set_cons_zero, List.set_cons_succ]
        have ⟨a0, a1, a2⟩ := A4.out.cells
        have ⟨b0, b1, b2⟩ := A4.out.frozen
        refine take_call (i := 6) rfl (by kernel_rfl) (by kernel_rfl) (fun K hK => ?_)
        go_simp
        clear a0 a1 a2 b0 b1 b2
        obtain ⟨u1, hu⟩ : ∃ u, put3 v34 pa x.key = u := ⟨_, rfl⟩
        rw [show ((v34.setCell ⟨pa, 0, none⟩ (.int .i64 (x.key).time)).setCell ⟨pa, 1, none⟩ (.int .i64 (x.key).source)).setCell ⟨pa, 2, none⟩ (.int .i64 (x.key).seq) = u1 from hu]
        have S := Lib.hid (S.out.put A4.out.ge x.key)
        have A5 := Lib.hid (A5.out.other hne.out.symm x.key)
        have A4 := Lib.hid (A4.out.put x.key)
        rw [hu] at S A4 A5
        clear hu
        refine hK.out _ _ S.out.both (fun _ => ?_)
        clear hK K
        try simp only [Act.put, List.setIfInBounds_toArray, List.set_cons_zero, List.set_cons_succ]
        have ⟨a0, a1, a2⟩ := A5.out.cells
        have ⟨b0, b1, b2⟩ := A5.out.frozen
        refine take_call (i := 7) rfl (by kernel_rfl) (by kernel_rfl) (fun K hK => ?_)
        go_simp
        clear a0 a1 a2 b0 b1 b2
        obtain ⟨u2, hu⟩ : ∃ u, put3 u1 pb y.key = u := ⟨_, rfl⟩
        rw [show ((u1.setCell ⟨pb, 0, none⟩ (.int .i64 (y.key).time)).setCell ⟨pb, 1, none⟩ (.int .i64 (y.key).source)).setCell ⟨pb, 2, none⟩ (.int .i64 (y.key).seq) = u2 from hu]
        have S := Lib.hid (S.out.put A5.out.ge y.key)
        have A4 := Lib.hid (A4.out.other hne.out y.key)
        have A5 := Lib.hid (A5.out.put y.key)
        rw [hu] at S A4 A5
        clear hu
        refine hK.out _ _ S.out.both (fun _ => ?_)
        clear hK K
        try simp only [Act.put, List.setIfInBounds_toArray, List.set_cons_zero, List.set_cons_succ]
        refine wpAnyH_done (by kernel_rfl) ?_ _
        exact HT.out pa pb _ ⟨A4.out, A5.out, S.out.fr⟩
end Go.Proofs.YtkohmodnjcoapaaDoor

namespace Go.Proofs.YtkohmodnjcoapaaDoor.keySteps
open Go Go.ChangeShapes Go.WideShapes Go.ChangeAt Go.RowKit Go.Proofs.YtkohmodnjcoapaaDoor

set_option maxRecDepth 100000 in
theorem lifted (os : Os) (started : os.Started) (H : Type) (enc : TypeId × Value → H) :
    ReturnsInHanded {} Tryd.checked os 4 .any (fun w args => (Rows.keyStepsSpec.pre enc Tryd.prog Tryd.f4 Rows.keyStepsRow.domain false w args ∧ laidMet Tryd.prog laidK w) ∧ sizedMet enc Tryd.prog Tryd.f4 (OpenSpec.ofChange Rows.keyStepsSpec) false w args)
      (Rows.keyStepsSpec.post enc Tryd.prog Tryd.f4 false true false false) := by
  refine returnsInHanded_of_change_and (C := Tryd.checked) (X := fun w _ => laidMet Tryd.prog laidK w) (fun _ _ _ hh h => h.of_heap hh) own_knob started (by kernel_rfl) Tryd.func4
    (ChangeSpec.witness_at (enc := enc) (C := Tryd.checked) (os := os) (X := fun w _ => laidMet Tryd.prog laidK w) false (laidWorld os) #[.agg #[.int .u64 0, .int .u32 0, .int .u32 0], .agg #[.int .u64 0, .int .u32 0, .int .u32 0]] 8 rfl (by kernel_rfl) (by kernel_rfl) (by kernel_rfl) (by kernel_rfl) (by kernel_rfl) (laidWorld_met os _)) ?_
  intro W base args ds gs before hval0 hW _ hsz0 hL _
  have hval : ∀ (j : Nat) t v, Tryd.f4.params[j]? = some t → args[j]? = some v → Value.okWide Tryd.prog W .any base t v := hval0
  have hW' := hW
  obtain ⟨p, q, hA0, hV, rfl, hfz, hnd⟩ := hW
  have hA : DataW.TrodAll enc Tryd.prog W 0 (fun _ => true) true Tryd.f4.params.toList args.toList ds p := hA0
  rw [Tryd.params4] at hA hval
  obtain ⟨v0, vs0, d0, ds0, p0, q0, hargs, rfl, rfl, h0, r0⟩ := trodAll_cons hA
  obtain ⟨v1, vs1, d1, ds1, p1, q1, rfl, rfl, rfl, h1, r1⟩ := trodAll_cons r0
  obtain ⟨rfl, rfl, rfl⟩ := trodAll_nil r1
  obtain rfl : args = #[v0, v1] := by cases args; simp_all
  obtain ⟨rfl, rfl⟩ := trodVars_none hV
  clear hA0 hval0
  simp only [List.append_nil] at hW'
  have l0 : ∀ x ∈ p0, x.block < W.heap.size := fun x hx => hW'.lt x (by simp [hx])
  have t0 := fun W' (hb : Below W.heap.size W W') => Below.trod laid_own (by kernel_rfl) (of_decide_eq_true (by kernel_rfl)) h0 hb l0
  have l1 : ∀ x ∈ p1, x.block < W.heap.size := fun x hx => hW'.lt x (by simp [hx])
  have t1 := fun W' (hb : Below W.heap.size W W') => Below.trod laid_own (by kernel_rfl) (of_decide_eq_true (by kernel_rfl)) h1 hb l1
  obtain ⟨x0, rfl⟩ := num3_arg (hval 0 30 v0 rfl rfl) h0
  obtain ⟨x1, rfl⟩ := num3_arg (hval 1 30 v1 rfl rfl) h1
  refine (KeySteps_any x0 x1 W (laid7_of hL)).mono fun e W' ⟨he, hg0⟩ => ?_
  have hg := hg0.below (Nat.le_refl _) (fun _ _ h => h)
  subst he
  exact ⟨_, rfl, post_belowK (pa := (p0 ++ (p1 ++ []))) (pv := []) hW' (fun _ _ _ => (trodAll_cons_mk (shut_bool Tryd.underlying4 _) trodAll_mk0)) (trodAll_cons_mk (t0 _ hg) (trodAll_cons_mk (t1 _ hg) trodAll_mk0)) (fun _ _ => rfl) hg⟩

theorem over : Rows.keyStepsRow.holds Tryd.pinned (OpenSpec.ofChange Rows.keyStepsSpec) :=
  OpenClaim.holds_of_wide 4 Tryd.f4 rfl rfl rfl rfl rfl rfl rfl ⟨rfl, rfl, rfl, rfl, rfl⟩ rfl rfl rfl rfl rfl (by kernel_rfl) Tryd.func4 (by kernel_rfl)
    (of_decide_eq_true (by kernel_rfl)) (by unfold Func.isWrapper; first | (rw [if_pos (by decide +kernel)]; kernel_rfl) | (rw [if_neg (by decide +kernel)]; exact ⟨rfl, rfl⟩))
    (fun os started H enc _ => lifted os started H enc)

theorem proved : Rows.KeyStepsCardSaid :=
  Claim7.holds_tied_plain_at .later [] [.data, .data, .data, .sentinel, .sentinel] true _ true
    over (fun _ h => by cases h) (by kernel_rfl) (fun _ h => by cases h) keySteps_row_tie rfl ⟨rfl, rfl⟩ (by kernel_rfl) rfl
    (fun f fn hf hfn => by
      obtain rfl : f = 4 := Option.some.inj ((show Tryd.prog.funcNamed "fermata/fermatalaw07.KeySteps" = some 4 by kernel_rfl).symm.trans hf) |>.symm
      obtain rfl : fn = Tryd.f4 := (Option.some.inj (Tryd.func4.symm.trans hfn)).symm
      exact ⟨by kernel_rfl, fun j t ht => by
        rw [Tryd.params4] at ht
        have sS : Tryd.prog.wantsStandIn 30 = false := by kernel_rfl
        have hm : t ∈ [30, 30] := by
          have := Array.mem_of_getElem? ht
          simpa using this
        simp only [List.mem_cons, List.not_mem_nil, or_false, or_self] at hm
        subst hm
        exact sS⟩)
    (by kernel_rfl)
#print axioms proved
end Go.Proofs.YtkohmodnjcoapaaDoor.keySteps
