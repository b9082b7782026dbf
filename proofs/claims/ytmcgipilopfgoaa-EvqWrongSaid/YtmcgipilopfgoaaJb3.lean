/-
  The queue of events: what each function of the package does, and what the laws make of it.
-/
import Derived.Test.YtmcgipilopfgoaaJb2
import Derived.Test.YtmcgipilopfgoaaJb1
import Derived.Shelf.Spec.SlicesGrow
set_option linter.unusedSimpArgs false
set_option linter.unusedVariables false

/-
  A queue within a law: what stays around it. The example of the chapter.
-/
namespace Go.Proofs.Ytmcgipilopfgoaa
open Go Go.RowKit Go.ChangeMaps
attribute [local go_sem ↓] Go.wp_at_zero Go.wp_at_succ
attribute [local go_sem] Oper.semAt_some wide_fn wide_depth wide_fnR wide_depthR

/-- A queue within a law: its foot is new, and nothing old has changed. -/
def St (w W : World) (qb c T : Nat) (E : List Ev) (ft : Nat → Prop) : Prop := QIs W qb c T E ft ∧ Fr0 none' w W ∧ ∀ k, ft k → w.heap.size ≤ k
theorem St.later {w W W' : World} {qb c T : Nat} {E : List Ev} {ft : Nat → Prop} (h : St w W qb c T E ft) (hf : Fr0 none' W W') : St w W' qb c T E ft := ⟨h.1.later hf, h.2.1.trans hf, h.2.2⟩
theorem St.step {w W W' : World} {qb c T T' : Nat} {E E' : List Ev} {ft : Nat → Prop} (h : St w W qb c T E ft) (hq : QIs W' qb c T' E' (qgrow ft W W')) (hf : Fr0 ft W W') : St w W' qb c T' E' (qgrow ft W W') :=
  ⟨hq, h.2.1.trans' hf (fun i hi hs => by have := h.2.2 i hs; omega), fun k hk => hk.elim (h.2.2 k) (fun g => Nat.le_trans h.2.1.size g.1)⟩
theorem St.step2 {w W W' : World} {qb c T T' : Nat} {E E' : List Ev} {ft ft' : Nat → Prop} (h : St w W qb c T E ft) (hq : QIs W' qb c T' E' ft') (hs : ∀ k, ft' k → ft k ∨ W.heap.size ≤ k) (hf : Fr0 ft W W') : St w W' qb c T' E' ft' :=
  ⟨hq, h.2.1.trans' hf (fun i hi hs => by have := h.2.2 i hs; omega), fun k hk => (hs k hk).elim (h.2.2 k) (fun g => Nat.le_trans h.2.1.size g)⟩
theorem St.other {w W W' : World} {qb c T : Nat} {E : List Ev} {ft gt : Nat → Prop} (h : St w W qb c T E ft) (h2 : ∀ k, gt k → w.heap.size ≤ k) (hd : ∀ k, ft k → ¬ gt k) (hf : Fr0 gt W W') : St w W' qb c T E ft :=
  ⟨h.1.fr0 hf hd, h.2.1.trans' hf (fun i hi hs => by have := h2 i hs; omega), h.2.2⟩
theorem St.apart {w W : World} {qb c T : Nat} {E : List Ev} {ft gt gt' : Nat → Prop} (h : St w W qb c T E ft) (hd : ∀ k, ft k → ¬ gt k) (hs : ∀ k, gt' k → gt k ∨ W.heap.size ≤ k) : ∀ k, ft k → ¬ gt' k := fun k hk hg => (hs k hg).elim (hd k hk) (fun e => by have := h.1.lt k hk; omega)
theorem qgrow_or {ft : Nat → Prop} {W W' : World} : ∀ k, qgrow ft W W' k → ft k ∨ W.heap.size ≤ k := fun _ hk => hk.imp id (fun g => g.1)
/-- A block that a queue does not touch. -/
def KeptB (W : World) (b : Nat) (xs : List Value) (t : TypeId) (ft : Nat → Prop) : Prop := W.heap[b]? = some (.cells xs.toArray t (0, 0)) ∧ ¬ ft b
theorem KeptB.lt {W : World} {b : Nat} {xs : List Value} {t : TypeId} {ft : Nat → Prop} (h : KeptB W b xs t ft) : b < W.heap.size := (Array.getElem?_eq_some_iff.1 h.1).1
theorem KeptB.later {W W' : World} {b : Nat} {xs : List Value} {t : TypeId} {ft : Nat → Prop} (h : KeptB W b xs t ft) (hf : Fr0 none' W W') : KeptB W' b xs t ft := ⟨(hf.block b h.lt id).trans h.1, h.2⟩
theorem KeptB.step {W W' : World} {b : Nat} {xs : List Value} {t : TypeId} {ft : Nat → Prop} (h : KeptB W b xs t ft) (hf : Fr0 ft W W') : KeptB W' b xs t (qgrow ft W W') := ⟨(hf.block b h.lt h.2).trans h.1, fun hk => hk.elim h.2 (fun g => by have := h.lt; omega)⟩
theorem KeptB.step2 {W W' : World} {b : Nat} {xs : List Value} {t : TypeId} {ft ft' : Nat → Prop} (h : KeptB W b xs t ft) (hs : ∀ k, ft' k → ft k ∨ W.heap.size ≤ k) (hf : Fr0 ft W W') : KeptB W' b xs t ft' := ⟨(hf.block b h.lt h.2).trans h.1, fun hk => (hs b hk).elim h.2 (fun g => by have := h.lt; omega)⟩
/-- A row that a queue does not touch. -/
def KeptR (W : World) (base : Nat) (v : Value) (S : List Ev) (ft : Nat → Prop) : Prop := W.ownsRow base 34 5 v S.length (flatEv S) ∧ ∀ g, v.ownBlock = some g → ¬ ft g
theorem KeptR.later {W W' : World} {base : Nat} {v : Value} {S : List Ev} {ft : Nat → Prop} (h : KeptR W base v S ft) (hf : Fr0 none' W W') : KeptR W' base v S ft := ⟨ownsRow_fr0 h.1 hf (fun _ _ h => h), h.2⟩
theorem KeptR.step {W W' : World} {base : Nat} {v : Value} {S : List Ev} {ft : Nat → Prop} (h : KeptR W base v S ft) (hf : Fr0 ft W W') : KeptR W' base v S (qgrow ft W W') := ⟨ownsRow_fr0 h.1 hf h.2, fun g hg hk => hk.elim (h.2 g hg) (fun e => by have := (h.1.lt g hg).2; omega)⟩
theorem KeptR.step2 {W W' : World} {base : Nat} {v : Value} {S : List Ev} {ft ft' : Nat → Prop} (h : KeptR W base v S ft) (hs : ∀ k, ft' k → ft k ∨ W.heap.size ≤ k) (hf : Fr0 ft W W') : KeptR W' base v S ft' := ⟨ownsRow_fr0 h.1 hf h.2, fun g hg hk => (hs g hk).elim (h.2 g hg) (fun e => by have := (h.1.lt g hg).2; omega)⟩
theorem KeptR.right {W W' : World} {base : Nat} {v : Value} {S : List Ev} {ft gt gt' : Nat → Prop} (h : KeptR W base v S (fun k => ft k ∨ gt k)) (hs : ∀ k, gt' k → gt k ∨ W.heap.size ≤ k) (hf : Fr0 gt W W') : KeptR W' base v S (fun k => ft k ∨ gt' k) :=
  h.step2 (fun k hk => hk.elim (fun h => .inl (.inl h)) (fun h => (hs k h).elim (fun g => .inl (.inr g)) .inr)) (hf.mono (fun _ _ h => .inr h))
theorem KeptR.left {W W' : World} {base : Nat} {v : Value} {S : List Ev} {ft ft' gt : Nat → Prop} (h : KeptR W base v S (fun k => ft k ∨ gt k)) (hs : ∀ k, ft' k → ft k ∨ W.heap.size ≤ k) (hf : Fr0 ft W W') : KeptR W' base v S (fun k => ft' k ∨ gt k) :=
  h.step2 (fun k hk => hk.elim (fun h => (hs k h).elim (fun g => .inl (.inl g)) .inr) (fun h => .inl (.inr h))) (hf.mono (fun _ _ h => .inl h))
theorem KeptR.slice {W : World} {base : Nat} {v : Value} {S : List Ev} {ft : Nat → Prop} (h : KeptR W base v S ft) : ∃ va vc, v = .slice va S.length vc ∧ EsIn W va S := by
  obtain ⟨va, vc, h1, _, h3⟩ := EsIn.of_own h.1
  exact ⟨va, vc, h1, h3⟩
def evA : Ev := ⟨⟨5, 1, 0⟩, 1, 0⟩
def evB : Ev := ⟨⟨3, 2, 0⟩, 1, 0⟩
def evC : Ev := ⟨⟨9, 1, 0⟩, 1, 0⟩
def evD : Ev := ⟨⟨4, 1, 1⟩, 1, 0⟩
def evF : Ev := ⟨⟨4, 1, 2⟩, 1, 0⟩
theorem awake_t1 : allV 2 [] [evA] = (-1, 0) ∧ allE 2 [] [evA] = [evA] := by decide
theorem awake_t2 : allV 2 [evA] [evB] = (-1, 0) ∧ allE 2 [evA] [evB] = [evB, evA] := by decide
theorem awake_t3 : (allV 2 [evB, evA] [evC]).2 = 101 ∧ allE 2 [evB, evA] [evC] = [evB, evA] := by decide
theorem awake_t4 : (allV 2 [evB, evA] [evD]).2 = 4 ∧ allE 2 [evB, evA] [evD] = [evB, evA] := by decide
theorem awake_t5 : allV 2 [evA] [evD, evD] = (1, 101) ∧ allE 2 [evA] [evD, evD] = [evA] := by decide
theorem awake_t6 : allV 2 [evA] [evD, evF] = (-1, 4) ∧ allE 2 [evA] [evD, evF] = [evA] := by decide
set_option maxRecDepth 100000 in
set_option maxHeartbeats 4000000 in
theorem awake_any (w : World) : Calls Try.prog 9 #[] w fun e w' => e = .returned (.bool true) ∧ Fr0 none' w w' := by
  have HN := Lib.hid (QNew_is 2 (by omega) w)
  go_enter Try.func9, Try.ntmps9
  go_wp2_with fail
  refine HN.out.mono ?_
  rintro e w1 ⟨qb, ft, rfl, hq1, f1, hge⟩
  have H := Lib.hid (show St w w1 qb 2 0 [] ft from ⟨hq1, f1, hge⟩)
  clear hq1 f1 hge HN
  go_wp2_with fail
  refine (at_any 5 1 0 _).mono ?_
  rintro e wA ⟨rfl, hfA⟩
  have H := Lib.hid (H.out.later hfA)
  clear hfA
  simp only [evV]
  go_wp2_with fail
  have HP := H.out.1.put1 evA (by omega)
  rw [awake_t1.1, awake_t1.2] at HP
  refine HP.mono ?_
  rintro e wB ⟨rfl, hq, hf⟩
  have H := Lib.hid (H.out.step hq hf)
  clear hq hf HP
  go_wp2_with fail
  refine (at_any 3 2 0 _).mono ?_
  rintro e wA ⟨rfl, hfA⟩
  have H := Lib.hid (H.out.later hfA)
  clear hfA
  simp only [evV]
  go_wp2_with fail
  have HP := H.out.1.put1 evB (by omega)
  rw [awake_t2.1, awake_t2.2] at HP
  refine HP.mono ?_
  rintro e wB ⟨rfl, hq, hf⟩
  have H := Lib.hid (H.out.step hq hf)
  clear hq hf HP
  go_wp2_with fail
  refine (at_any 9 1 0 _).mono ?_
  rintro e wA ⟨rfl, hfA⟩
  have H := Lib.hid (H.out.later hfA)
  clear hfA
  simp only [evV]
  go_wp2_with fail
  have HP := H.out.1.put1 evC (by omega)
  rw [awake_t3.1, awake_t3.2] at HP
  refine HP.mono ?_
  rintro e wB ⟨rfl, hq, hf⟩
  have H := Lib.hid (H.out.step hq hf)
  clear hq hf HP
  go_wp2_with fail
  refine (at_any 4 1 1 _).mono ?_
  rintro e wA ⟨rfl, hfA⟩
  have H := Lib.hid (H.out.later hfA)
  clear hfA
  simp only [evV]
  go_wp2_with fail
  have HP := H.out.1.put1 evD (by omega)
  rw [awake_t4.1, awake_t4.2] at HP
  refine HP.mono ?_
  rintro e wB ⟨rfl, hq, hf⟩
  have H := Lib.hid (H.out.step hq hf)
  clear hq hf HP
  go_wp2_with fail
  refine (show Calls Try.prog 35 _ _ (fun e w' => e = .returned (.tuple #[evV evB, .bool true]) ∧ Fr0 none' wB w') from H.out.1.least).mono ?_
  rintro e wC ⟨rfl, hfC⟩
  have H := Lib.hid (H.out.later hfC)
  clear hfC
  simp only [evV, evB]
  go_wp2_with fail
  obtain ⟨xb, hxb⟩ : ∃ xb, wC.heap.size = xb := ⟨_, rfl⟩
  obtain ⟨W, hW⟩ : ∃ W, wC.alloc (.cells #[.int .i64 3, .int .i64 2, .int .i64 0, .int .i64 1, .int .i64 0] 34) = W := ⟨_, rfl⟩
  have FW : Fr0 none' wC W := by rw [← hW]; exact (Fr0.refl _ _).alloc _
  have HX := Lib.hid (show KeptB W xb (cev evB) 34 _ from ⟨by rw [← hW, ← hxb]; exact World.alloc_heap_new wC _, fun hk => by have := H.out.1.lt xb hk; omega⟩)
  have H := Lib.hid (H.out.later FW)
  rw [hW]
  try rw [hxb]
  clear hW hxb FW
  refine (H.out.1.takeBefore 5 (by omega)).mono ?_
  rintro e wD ⟨l, ft', rfl, hr, hq, hs, hd, hf⟩
  rw [show befE 5 [evB, evA] = [evB] by decide] at hr
  rw [show aftE 5 [evB, evA] = [evA] by decide] at hq
  have HX := Lib.hid (HX.out.step2 hs hf)
  have H := Lib.hid (H.out.step2 hq hs hf)
  have HR := Lib.hid (show KeptR wD _ l [evB] ft' from ⟨hr, hd⟩)
  clear hr hq hs hd hf
  go_wp2_with fail
  refine (show Calls Try.prog 12 _ _ (fun e w' => e = .returned (.int .i64 1) ∧ Fr0 none' wD w') from H.out.1.room).mono ?_
  rintro e wE ⟨rfl, hf⟩
  have H := Lib.hid (H.out.later hf)
  have HX := Lib.hid (HX.out.later hf)
  have HR := Lib.hid (HR.out.later hf)
  clear hf
  go_wp2_with fail
  refine (at_any 4 1 1 _).mono ?_
  rintro e wF ⟨rfl, hf⟩
  have H := Lib.hid (H.out.later hf)
  have HX := Lib.hid (HX.out.later hf)
  have HR := Lib.hid (HR.out.later hf)
  clear hf
  simp only [evV]
  go_wp2_with fail
  refine (at_any 4 1 1 _).mono ?_
  rintro e wF ⟨rfl, hf⟩
  have H := Lib.hid (H.out.later hf)
  have HX := Lib.hid (HX.out.later hf)
  have HR := Lib.hid (HR.out.later hf)
  clear hf
  simp only [evV]
  go_wp2_with fail
  obtain ⟨qx, hqx⟩ : ∃ qx, wF.heap.size = qx := ⟨_, rfl⟩
  obtain ⟨W, hW⟩ : ∃ W, wF.alloc (.cells #[.int .i64 4, .int .i64 1, .int .i64 1, .int .i64 1, .int .i64 0, .int .i64 4, .int .i64 1, .int .i64 1, .int .i64 1, .int .i64 0] 34) = W := ⟨_, rfl⟩
  rw [hW]
  try rw [hqx]
  have FW : Fr0 none' wF W := by rw [← hW]; exact (Fr0.refl _ _).alloc _
  have hl : EsIn W (some ⟨qx, 0, none⟩) [evD, evD] := by rw [← hW, ← hqx]; exact EsIn.of_cells (n := 2) (World.alloc_heap_new _ _) (by simp [flatEv, cev, evD, evD])
  have hlt := H.out.1.lt
  have H := Lib.hid (H.out.later FW)
  have HX := Lib.hid (HX.out.later FW)
  have HR := Lib.hid (HR.out.later FW)
  clear hW FW
  have HP := H.out.1.putAll (m := 2) (cap := 2) [evD, evD] hl rfl (by omega) (by omega) (fun g o s e hk => by
    injection e with e
    injection e with e
    have := hlt g hk
    omega)
  rw [awake_t5.1, awake_t5.2] at HP
  refine HP.mono ?_
  rintro e wH ⟨rfl, hq, hf⟩
  have HX := Lib.hid (HX.out.step hf)
  have HR := Lib.hid (HR.out.step hf)
  have H := Lib.hid (H.out.step hq hf)
  clear hq hf HP hl hlt hqx
  go_wp2_with fail
  refine (at_any 4 1 1 _).mono ?_
  rintro e wF ⟨rfl, hf⟩
  have H := Lib.hid (H.out.later hf)
  have HX := Lib.hid (HX.out.later hf)
  have HR := Lib.hid (HR.out.later hf)
  clear hf
  simp only [evV]
  go_wp2_with fail
  refine (at_any 4 1 2 _).mono ?_
  rintro e wF ⟨rfl, hf⟩
  have H := Lib.hid (H.out.later hf)
  have HX := Lib.hid (HX.out.later hf)
  have HR := Lib.hid (HR.out.later hf)
  clear hf
  simp only [evV]
  go_wp2_with fail
  obtain ⟨qx, hqx⟩ : ∃ qx, wF.heap.size = qx := ⟨_, rfl⟩
  obtain ⟨W, hW⟩ : ∃ W, wF.alloc (.cells #[.int .i64 4, .int .i64 1, .int .i64 1, .int .i64 1, .int .i64 0, .int .i64 4, .int .i64 1, .int .i64 2, .int .i64 1, .int .i64 0] 34) = W := ⟨_, rfl⟩
  rw [hW]
  try rw [hqx]
  have FW : Fr0 none' wF W := by rw [← hW]; exact (Fr0.refl _ _).alloc _
  have hl : EsIn W (some ⟨qx, 0, none⟩) [evD, evF] := by rw [← hW, ← hqx]; exact EsIn.of_cells (n := 2) (World.alloc_heap_new _ _) (by simp [flatEv, cev, evD, evF])
  have hlt := H.out.1.lt
  have H := Lib.hid (H.out.later FW)
  have HX := Lib.hid (HX.out.later FW)
  have HR := Lib.hid (HR.out.later FW)
  clear hW FW
  have HP := H.out.1.putAll (m := 2) (cap := 2) [evD, evF] hl rfl (by omega) (by omega) (fun g o s e hk => by
    injection e with e
    injection e with e
    have := hlt g hk
    omega)
  rw [awake_t6.1, awake_t6.2] at HP
  refine HP.mono ?_
  rintro e wH ⟨rfl, hq, hf⟩
  have HX := Lib.hid (HX.out.step hf)
  have HR := Lib.hid (HR.out.step hf)
  have H := Lib.hid (H.out.step hq hf)
  clear hq hf HP hl hlt hqx
  go_wp2_with fail
  have HC := H.out.1.cancel (nm := (1, 0)) ⟨by decide, by decide⟩ ⟨by decide, by decide⟩ (by omega)
  rw [show findE (1, 0) [evA] = some evA by decide, show delE (1, 0) [evA] = [] by decide] at HC
  simp only [Option.getD_some, Option.isSome_some, if_true, evV, evA] at HC
  refine HC.mono ?_
  rintro e wK ⟨rfl, hq, hf⟩
  have HX := Lib.hid (HX.out.step hf)
  have HR := Lib.hid (HR.out.step hf)
  have H := Lib.hid (H.out.step hq hf)
  clear hq hf HC
  go_wp2_with fail
  obtain ⟨yb, hyb⟩ : ∃ yb, wK.heap.size = yb := ⟨_, rfl⟩
  obtain ⟨W, hW⟩ : ∃ W, wK.alloc (.cells #[.int .i64 5, .int .i64 1, .int .i64 0, .int .i64 1, .int .i64 0] 34) = W := ⟨_, rfl⟩
  have FW : Fr0 none' wK W := by rw [← hW]; exact (Fr0.refl _ _).alloc _
  have HY := Lib.hid (show KeptB W yb (cev evA) 34 _ from ⟨by rw [← hW, ← hyb]; exact World.alloc_heap_new wK _, fun hk => by have := H.out.1.lt yb hk; omega⟩)
  have H := Lib.hid (H.out.later FW)
  have HX := Lib.hid (HX.out.later FW)
  have HR := Lib.hid (HR.out.later FW)
  rw [hW]
  try rw [hyb]
  clear hW hyb FW
  have HT := H.out.1.take (by omega)
  rw [if_pos rfl] at HT
  refine HT.mono ?_
  rintro e wL ⟨rfl, hq, hf⟩
  have HX := Lib.hid (HX.out.step hf)
  have HY := Lib.hid (HY.out.step hf)
  have HR := Lib.hid (HR.out.step hf)
  have FL := Lib.hid (H.out.step hq hf).2.1
  clear hq hf HT
  simp only [lstE, zeroEv, evV]
  have x0 := cells_in HX.out.1 0
  have x1 := cells_in HX.out.1 1
  have x2 := cells_in HX.out.1 2
  have x3 := cells_in HX.out.1 3
  have x4 := cells_in HX.out.1 4
  simp [cev, evB] at x0 x1 x2 x3 x4
  go_wp2_with fail
  obtain ⟨V0, hV0⟩ : ∃ V, wL.alloc (.cells #[.int .i64 0, .int .i64 0, .int .i64 0, .int .i64 0, .int .i64 0] 34) = V := ⟨_, rfl⟩
  have FV : Fr0 none' wL V0 := by rw [← hV0]; exact (Fr0.refl _ _).alloc _
  rw [hV0]
  have HX := Lib.hid (HX.out.later FV)
  have HY := Lib.hid (HY.out.later FV)
  have HR := Lib.hid (HR.out.later FV)
  have FV := Lib.hid (FL.out.trans FV)
  clear hV0 x0 x1 x2 x3 x4
  have hX := Lib.hid (fun (W' : World) (hf : Fr0 none' V0 W') => (HX.out.later hf).1)
  have hY := Lib.hid (fun (W' : World) (hf : Fr0 none' V0 W') => (HY.out.later hf).1)
  simp only [cev, evA, evB] at hX hY
  obtain ⟨va, vc, rfl, hva⟩ := HR.out.slice
  have Hva := Lib.hid hva
  clear hva
  refine wp_region_held_drew (S := fun W' => Fr0 none' V0 W') (by kernel_rfl) ((Fr0.refl none' V0).drew) (fun hHeld => ?_)
  refine take_on (i := 0) (v := .int .i64 0) rfl (by kernel_rfl) (by kernel_rfl) (by kernel_rfl) (fun _ _ _ h => h) (by kernel_rfl) (fun W' hSW => ?_) (by assumption) ?_
  · first | (go_simp; done) | exact rfl | (go_simp; rfl) | (go_simp; omega)
  try simp only [Act.put, List.setIfInBounds_toArray, List.set_cons_zero, List.set_cons_succ]
  refine take_on (i := 1) (v := .int .i64 0) rfl (by kernel_rfl) (by kernel_rfl) (by kernel_rfl) (fun _ _ _ h => h) (by kernel_rfl) (fun W' hSW => ?_) (by assumption) ?_
  · first | (go_simp; done) | exact rfl | (go_simp; rfl) | (go_simp; omega)
  try simp only [Act.put, List.setIfInBounds_toArray, List.set_cons_zero, List.set_cons_succ]
  refine take_on (i := 2) (v := .int .i64 0) rfl (by kernel_rfl) (by kernel_rfl) (by kernel_rfl) (fun _ _ _ h => h) (by kernel_rfl) (fun W' hSW => ?_) (by assumption) ?_
  · first | (go_simp; done) | exact rfl | (go_simp; rfl) | (go_simp; omega)
  try simp only [Act.put, List.setIfInBounds_toArray, List.set_cons_zero, List.set_cons_succ]
  refine take_on (i := 3) (v := .int .i64 0) rfl (by kernel_rfl) (by kernel_rfl) (by kernel_rfl) (fun _ _ _ h => h) (by kernel_rfl) (fun W' hSW => ?_) (by assumption) ?_
  · first | (go_simp; done) | exact rfl | (go_simp; rfl) | (go_simp; omega)
  try simp only [Act.put, List.setIfInBounds_toArray, List.set_cons_zero, List.set_cons_succ]
  refine take_on (i := 4) (v := .int .i64 0) rfl (by kernel_rfl) (by kernel_rfl) (by kernel_rfl) (fun _ _ _ h => h) (by kernel_rfl) (fun W' hSW => ?_) (by assumption) ?_
  · first | (go_simp; done) | exact rfl | (go_simp; rfl) | (go_simp; omega)
  try simp only [Act.put, List.setIfInBounds_toArray, List.set_cons_zero, List.set_cons_succ]
  refine take_on (i := 5) (v := .bool true) rfl (by kernel_rfl) (by kernel_rfl) (by kernel_rfl) (fun _ _ _ h => h) (by kernel_rfl) (fun W' hSW => ?_) (by assumption) ?_
  · first | (go_simp; done) | exact rfl | (go_simp; rfl) | (go_simp; omega)
  try simp only [Act.put, List.setIfInBounds_toArray, List.set_cons_zero, List.set_cons_succ]
  refine take_on (i := 6) (v := .bool true) rfl (by kernel_rfl) (by kernel_rfl) (by kernel_rfl) (fun _ _ _ h => h) (by kernel_rfl) (fun W' hSW => ?_) (by assumption) ?_
  · first | (go_simp; done) | exact rfl | (go_simp; rfl) | (go_simp; omega)
  try simp only [Act.put, List.setIfInBounds_toArray, List.set_cons_zero, List.set_cons_succ]
  refine take_on (i := 7) (v := .int .i64 101) rfl (by kernel_rfl) (by kernel_rfl) (by kernel_rfl) (fun _ _ _ h => h) (by kernel_rfl) (fun W' hSW => ?_) (by assumption) ?_
  · first | (go_simp; done) | exact rfl | (go_simp; rfl) | (go_simp; omega)
  try simp only [Act.put, List.setIfInBounds_toArray, List.set_cons_zero, List.set_cons_succ]
  refine take_on (i := 8) (v := .bool true) rfl (by kernel_rfl) (by kernel_rfl) (by kernel_rfl) (fun _ _ _ h => h) (by kernel_rfl) (fun W' hSW => ?_) (by assumption) ?_
  · first | (go_simp; done) | exact rfl | (go_simp; rfl) | (go_simp; omega)
  try simp only [Act.put, List.setIfInBounds_toArray, List.set_cons_zero, List.set_cons_succ]
  refine take_on (i := 9) (v := .bool true) rfl (by kernel_rfl) (by kernel_rfl) (by kernel_rfl) (fun _ _ _ h => h) (by kernel_rfl) (fun W' hSW => ?_) (by assumption) ?_
  · first | (go_simp; done) | exact rfl | (go_simp; rfl) | (go_simp; omega)
  try simp only [Act.put, List.setIfInBounds_toArray, List.set_cons_zero, List.set_cons_succ]
  refine take_on (i := 10) (v := .bool true) rfl (by kernel_rfl) (by kernel_rfl) (by kernel_rfl) (fun _ _ _ h => h) (by kernel_rfl) (fun W' hSW => ?_) (by assumption) ?_
  · first | (go_simp; done) | exact rfl | (go_simp; rfl) | (go_simp; omega)
  try simp only [Act.put, List.setIfInBounds_toArray, List.set_cons_zero, List.set_cons_succ]
  refine take_on (i := 11) (v := .int .i64 4) rfl (by kernel_rfl) (by kernel_rfl) (by kernel_rfl) (fun _ _ _ h => h) (by kernel_rfl) (fun W' hSW => ?_) (by assumption) ?_
  · first | (go_simp; done) | exact rfl | (go_simp; rfl) | (go_simp; omega)
  try simp only [Act.put, List.setIfInBounds_toArray, List.set_cons_zero, List.set_cons_succ]
  refine take_on (i := 12) (v := .bool true) rfl (by kernel_rfl) (by kernel_rfl) (by kernel_rfl) (fun _ _ _ h => h) (by kernel_rfl) (fun W' hSW => ?_) (by assumption) ?_
  · first | (go_simp; done) | exact rfl | (go_simp; rfl) | (go_simp; omega)
  try simp only [Act.put, List.setIfInBounds_toArray, List.set_cons_zero, List.set_cons_succ]
  refine take_on (i := 13) (v := .bool true) rfl (by kernel_rfl) (by kernel_rfl) (by kernel_rfl) (fun _ _ _ h => h) (by kernel_rfl) (fun W' hSW => ?_) (by assumption) ?_
  · first | (go_simp; done) | exact rfl | (go_simp; rfl) | (go_simp; omega)
  try simp only [Act.put, List.setIfInBounds_toArray, List.set_cons_zero, List.set_cons_succ]
  refine take_on (i := 14) (v := .bool true) rfl (by kernel_rfl) (by kernel_rfl) (by kernel_rfl) (fun _ _ _ h => h) (by kernel_rfl) (fun W' hSW => ?_) (by assumption) ?_
  · first | (go_simp; done) | exact rfl | (go_simp; rfl) | (go_simp; omega)
  try simp only [Act.put, List.setIfInBounds_toArray, List.set_cons_zero, List.set_cons_succ]
  refine take_on (i := 15) (v := evV evB) rfl (by kernel_rfl) (by kernel_rfl) (by kernel_rfl) (fun _ _ _ h => h) (by kernel_rfl) (fun W' hSW => ?_) (by assumption) ?_
  · have hb := hX.out W' hSW
    have x0 := cells_in hb 0
    have x1 := cells_in hb 1
    have x2 := cells_in hb 2
    have x3 := cells_in hb 3
    have x4 := cells_in hb 4
    simp at x0 x1 x2 x3 x4
    clear hb
    first | (go_simp; done) | exact rfl | (go_simp; rfl) | (go_simp; omega)
  try simp only [Act.put, List.setIfInBounds_toArray, List.set_cons_zero, List.set_cons_succ]
  refine take_call (i := 16) rfl (by kernel_rfl) (by kernel_rfl) (fun K hK => ?_)
  go_simp
  refine (at_any 3 2 0 _).mono ?_
  rintro e wA ⟨rfl, hfA⟩
  have FA := Lib.hid (hHeld.trans hfA)
  clear hfA
  simp only [evV]
  go_wp2_with fail
  refine hK.out _ _ FA.out (fun hHeld => ?_)
  clear hK K
  try simp only [Act.put, List.setIfInBounds_toArray, List.set_cons_zero, List.set_cons_succ]
  refine take_on (i := 17) (v := .bool true) rfl (by kernel_rfl) (by kernel_rfl) (by kernel_rfl) (fun _ _ _ h => h) (by kernel_rfl) (fun W' hSW => ?_) (by assumption) ?_
  · first | (go_simp; done) | exact rfl | (go_simp; rfl) | (go_simp; omega)
  try simp only [Act.put, List.setIfInBounds_toArray, List.set_cons_zero, List.set_cons_succ]
  refine take_on (i := 18) (v := .bool true) rfl (by kernel_rfl) (by kernel_rfl) (by kernel_rfl) (fun _ _ _ h => h) (by kernel_rfl) (fun W' hSW => ?_) (by assumption) ?_
  · first | (go_simp; done) | exact rfl | (go_simp; rfl) | (go_simp; omega)
  try simp only [Act.put, List.setIfInBounds_toArray, List.set_cons_zero, List.set_cons_succ]
  refine take_on (i := 19) (v := .bool true) rfl (by kernel_rfl) (by kernel_rfl) (by kernel_rfl) (fun _ _ _ h => h) (by kernel_rfl) (fun W' hSW => ?_) (by assumption) ?_
  · first | (go_simp; done) | exact rfl | (go_simp; rfl) | (go_simp; omega)
  try simp only [Act.put, List.setIfInBounds_toArray, List.set_cons_zero, List.set_cons_succ]
  refine take_on (i := 20) (v := .bool true) rfl (by kernel_rfl) (by kernel_rfl) (by kernel_rfl) (fun _ _ _ h => h) (by kernel_rfl) (fun W' hSW => ?_) (by assumption) ?_
  · first | (go_simp; done) | exact rfl | (go_simp; rfl) | (go_simp; omega)
  try simp only [Act.put, List.setIfInBounds_toArray, List.set_cons_zero, List.set_cons_succ]
  refine take_on (i := 21) (v := .bool true) rfl (by kernel_rfl) (by kernel_rfl) (by kernel_rfl) (fun _ _ _ h => h) (by kernel_rfl) (fun W' hSW => ?_) (by assumption) ?_
  · first | (go_simp; done) | exact rfl | (go_simp; rfl) | (go_simp; omega)
  try simp only [Act.put, List.setIfInBounds_toArray, List.set_cons_zero, List.set_cons_succ]
  refine take_on (i := 22) (v := .bool true) rfl (by kernel_rfl) (by kernel_rfl) (by kernel_rfl) (fun _ _ _ h => h) (by kernel_rfl) (fun W' hSW => ?_) (by assumption) ?_
  · first | (go_simp; done) | exact rfl | (go_simp; rfl) | (go_simp; omega)
  try simp only [Act.put, List.setIfInBounds_toArray, List.set_cons_zero, List.set_cons_succ]
  refine take_on (i := 23) (v := .slice va 1 vc) rfl (by kernel_rfl) (by kernel_rfl) (by kernel_rfl) (fun _ _ _ h => h) (by kernel_rfl) (fun W' hSW => ?_) (by assumption) ?_
  · first | (go_simp; done) | exact rfl | (go_simp; rfl) | (go_simp; omega)
  try simp only [Act.put, List.setIfInBounds_toArray, List.set_cons_zero, List.set_cons_succ]
  refine take_call (i := 24) rfl (by kernel_rfl) (by kernel_rfl) (fun K hK => ?_)
  go_simp
  refine (at_any 3 2 0 _).mono ?_
  rintro e wA ⟨rfl, hfA⟩
  have FA := Lib.hid (hHeld.trans hfA)
  clear hfA
  simp only [evV]
  go_wp2_with fail
  refine hK.out _ _ FA.out (fun hHeld => ?_)
  clear hK K
  try simp only [Act.put, List.setIfInBounds_toArray, List.set_cons_zero, List.set_cons_succ]
  refine take_call (i := 25) rfl (by kernel_rfl) (by kernel_rfl) (fun K hK => ?_)
  go_simp
  obtain ⟨W2, hW2⟩ : ∃ W2, (wA.alloc (.cells #[.int .i64 3, .int .i64 2, .int .i64 0, .int .i64 1, .int .i64 0] 34)) = W2 := ⟨_, rfl⟩
  have hl2 := Lib.hid (show EsIn W2 (some ⟨wA.heap.size, 0, none⟩) [evB] by rw [← hW2]; exact EsIn.of_cells (n := 1) (World.alloc_heap_new _ _) (by simp [flatEv, cev, evB]))
  have F2 := Lib.hid (hHeld.trans (show Fr0 none' wA W2 by rw [← hW2]; exact (Fr0.refl _ _).alloc _))
  have hl1 := Lib.hid (Hva.out.later F2.out)
  rw [hW2]
  clear hW2
  refine hK.out _ _ F2.out (fun hHeld => ?_)
  clear hK K
  try simp only [Act.put, List.setIfInBounds_toArray, List.set_cons_zero, List.set_cons_succ]
  refine take_call (i := 26) rfl (by kernel_rfl) (by kernel_rfl) (fun K hK => ?_)
  go_simp
  have HS := sameEs_any va (some ⟨wA.heap.size, 0, none⟩) 1 1 vc 1 [evB] [evB] W2 rfl rfl (by omega) (by omega) hl1.out hl2.out
  rw [show decide (([evB] : List Ev) = [evB]) = true by decide] at HS
  refine HS.mono ?_
  rintro e wA ⟨rfl, hfA⟩
  have FA := Lib.hid (hHeld.trans hfA)
  clear hfA HS hl1 hl2
  go_wp2_with fail
  refine hK.out _ _ FA.out (fun hHeld => ?_)
  clear hK K
  try simp only [Act.put, List.setIfInBounds_toArray, List.set_cons_zero, List.set_cons_succ]
  refine take_on (i := 27) (v := .bool true) rfl (by kernel_rfl) (by kernel_rfl) (by kernel_rfl) (fun _ _ _ h => h) (by kernel_rfl) (fun W' hSW => ?_) (by assumption) ?_
  · first | (go_simp; done) | exact rfl | (go_simp; rfl) | (go_simp; omega)
  try simp only [Act.put, List.setIfInBounds_toArray, List.set_cons_zero, List.set_cons_succ]
  refine take_on (i := 28) (v := .bool true) rfl (by kernel_rfl) (by kernel_rfl) (by kernel_rfl) (fun _ _ _ h => h) (by kernel_rfl) (fun W' hSW => ?_) (by assumption) ?_
  · first | (go_simp; done) | exact rfl | (go_simp; rfl) | (go_simp; omega)
  try simp only [Act.put, List.setIfInBounds_toArray, List.set_cons_zero, List.set_cons_succ]
  refine take_on (i := 29) (v := .int .i64 1) rfl (by kernel_rfl) (by kernel_rfl) (by kernel_rfl) (fun _ _ _ h => h) (by kernel_rfl) (fun W' hSW => ?_) (by assumption) ?_
  · first | (go_simp; done) | exact rfl | (go_simp; rfl) | (go_simp; omega)
  try simp only [Act.put, List.setIfInBounds_toArray, List.set_cons_zero, List.set_cons_succ]
  refine take_on (i := 30) (v := .bool true) rfl (by kernel_rfl) (by kernel_rfl) (by kernel_rfl) (fun _ _ _ h => h) (by kernel_rfl) (fun W' hSW => ?_) (by assumption) ?_
  · first | (go_simp; done) | exact rfl | (go_simp; rfl) | (go_simp; omega)
  try simp only [Act.put, List.setIfInBounds_toArray, List.set_cons_zero, List.set_cons_succ]
  refine take_on (i := 31) (v := .bool true) rfl (by kernel_rfl) (by kernel_rfl) (by kernel_rfl) (fun _ _ _ h => h) (by kernel_rfl) (fun W' hSW => ?_) (by assumption) ?_
  · first | (go_simp; done) | exact rfl | (go_simp; rfl) | (go_simp; omega)
  try simp only [Act.put, List.setIfInBounds_toArray, List.set_cons_zero, List.set_cons_succ]
  refine take_on (i := 32) (v := .bool true) rfl (by kernel_rfl) (by kernel_rfl) (by kernel_rfl) (fun _ _ _ h => h) (by kernel_rfl) (fun W' hSW => ?_) (by assumption) ?_
  · first | (go_simp; done) | exact rfl | (go_simp; rfl) | (go_simp; omega)
  try simp only [Act.put, List.setIfInBounds_toArray, List.set_cons_zero, List.set_cons_succ]
  refine take_on (i := 33) (v := .int .i64 1) rfl (by kernel_rfl) (by kernel_rfl) (by kernel_rfl) (fun _ _ _ h => h) (by kernel_rfl) (fun W' hSW => ?_) (by assumption) ?_
  · first | (go_simp; done) | exact rfl | (go_simp; rfl) | (go_simp; omega)
  try simp only [Act.put, List.setIfInBounds_toArray, List.set_cons_zero, List.set_cons_succ]
  refine take_on (i := 34) (v := .bool true) rfl (by kernel_rfl) (by kernel_rfl) (by kernel_rfl) (fun _ _ _ h => h) (by kernel_rfl) (fun W' hSW => ?_) (by assumption) ?_
  · first | (go_simp; done) | exact rfl | (go_simp; rfl) | (go_simp; omega)
  try simp only [Act.put, List.setIfInBounds_toArray, List.set_cons_zero, List.set_cons_succ]
  refine take_on (i := 35) (v := .bool true) rfl (by kernel_rfl) (by kernel_rfl) (by kernel_rfl) (fun _ _ _ h => h) (by kernel_rfl) (fun W' hSW => ?_) (by assumption) ?_
  · first | (go_simp; done) | exact rfl | (go_simp; rfl) | (go_simp; omega)
  try simp only [Act.put, List.setIfInBounds_toArray, List.set_cons_zero, List.set_cons_succ]
  refine take_on (i := 36) (v := .bool true) rfl (by kernel_rfl) (by kernel_rfl) (by kernel_rfl) (fun _ _ _ h => h) (by kernel_rfl) (fun W' hSW => ?_) (by assumption) ?_
  · first | (go_simp; done) | exact rfl | (go_simp; rfl) | (go_simp; omega)
  try simp only [Act.put, List.setIfInBounds_toArray, List.set_cons_zero, List.set_cons_succ]
  refine take_on (i := 37) (v := .int .i64 101) rfl (by kernel_rfl) (by kernel_rfl) (by kernel_rfl) (fun _ _ _ h => h) (by kernel_rfl) (fun W' hSW => ?_) (by assumption) ?_
  · first | (go_simp; done) | exact rfl | (go_simp; rfl) | (go_simp; omega)
  try simp only [Act.put, List.setIfInBounds_toArray, List.set_cons_zero, List.set_cons_succ]
  refine take_on (i := 38) (v := .bool true) rfl (by kernel_rfl) (by kernel_rfl) (by kernel_rfl) (fun _ _ _ h => h) (by kernel_rfl) (fun W' hSW => ?_) (by assumption) ?_
  · first | (go_simp; done) | exact rfl | (go_simp; rfl) | (go_simp; omega)
  try simp only [Act.put, List.setIfInBounds_toArray, List.set_cons_zero, List.set_cons_succ]
  refine take_on (i := 39) (v := .bool true) rfl (by kernel_rfl) (by kernel_rfl) (by kernel_rfl) (fun _ _ _ h => h) (by kernel_rfl) (fun W' hSW => ?_) (by assumption) ?_
  · first | (go_simp; done) | exact rfl | (go_simp; rfl) | (go_simp; omega)
  try simp only [Act.put, List.setIfInBounds_toArray, List.set_cons_zero, List.set_cons_succ]
  refine take_on (i := 40) (v := .bool true) rfl (by kernel_rfl) (by kernel_rfl) (by kernel_rfl) (fun _ _ _ h => h) (by kernel_rfl) (fun W' hSW => ?_) (by assumption) ?_
  · first | (go_simp; done) | exact rfl | (go_simp; rfl) | (go_simp; omega)
  try simp only [Act.put, List.setIfInBounds_toArray, List.set_cons_zero, List.set_cons_succ]
  refine take_on (i := 41) (v := .int .i64 (-1)) rfl (by kernel_rfl) (by kernel_rfl) (by kernel_rfl) (fun _ _ _ h => h) (by kernel_rfl) (fun W' hSW => ?_) (by assumption) ?_
  · first | (go_simp; done) | exact rfl | (go_simp; rfl) | (go_simp; omega)
  try simp only [Act.put, List.setIfInBounds_toArray, List.set_cons_zero, List.set_cons_succ]
  refine take_on (i := 42) (v := .bool true) rfl (by kernel_rfl) (by kernel_rfl) (by kernel_rfl) (fun _ _ _ h => h) (by kernel_rfl) (fun W' hSW => ?_) (by assumption) ?_
  · first | (go_simp; done) | exact rfl | (go_simp; rfl) | (go_simp; omega)
  try simp only [Act.put, List.setIfInBounds_toArray, List.set_cons_zero, List.set_cons_succ]
  refine take_on (i := 43) (v := .bool true) rfl (by kernel_rfl) (by kernel_rfl) (by kernel_rfl) (fun _ _ _ h => h) (by kernel_rfl) (fun W' hSW => ?_) (by assumption) ?_
  · first | (go_simp; done) | exact rfl | (go_simp; rfl) | (go_simp; omega)
  try simp only [Act.put, List.setIfInBounds_toArray, List.set_cons_zero, List.set_cons_succ]
  refine take_on (i := 44) (v := .bool true) rfl (by kernel_rfl) (by kernel_rfl) (by kernel_rfl) (fun _ _ _ h => h) (by kernel_rfl) (fun W' hSW => ?_) (by assumption) ?_
  · first | (go_simp; done) | exact rfl | (go_simp; rfl) | (go_simp; omega)
  try simp only [Act.put, List.setIfInBounds_toArray, List.set_cons_zero, List.set_cons_succ]
  refine take_on (i := 45) (v := .int .i64 4) rfl (by kernel_rfl) (by kernel_rfl) (by kernel_rfl) (fun _ _ _ h => h) (by kernel_rfl) (fun W' hSW => ?_) (by assumption) ?_
  · first | (go_simp; done) | exact rfl | (go_simp; rfl) | (go_simp; omega)
  try simp only [Act.put, List.setIfInBounds_toArray, List.set_cons_zero, List.set_cons_succ]
  refine take_on (i := 46) (v := .bool true) rfl (by kernel_rfl) (by kernel_rfl) (by kernel_rfl) (fun _ _ _ h => h) (by kernel_rfl) (fun W' hSW => ?_) (by assumption) ?_
  · first | (go_simp; done) | exact rfl | (go_simp; rfl) | (go_simp; omega)
  try simp only [Act.put, List.setIfInBounds_toArray, List.set_cons_zero, List.set_cons_succ]
  refine take_on (i := 47) (v := .bool true) rfl (by kernel_rfl) (by kernel_rfl) (by kernel_rfl) (fun _ _ _ h => h) (by kernel_rfl) (fun W' hSW => ?_) (by assumption) ?_
  · first | (go_simp; done) | exact rfl | (go_simp; rfl) | (go_simp; omega)
  try simp only [Act.put, List.setIfInBounds_toArray, List.set_cons_zero, List.set_cons_succ]
  refine take_on (i := 48) (v := .bool true) rfl (by kernel_rfl) (by kernel_rfl) (by kernel_rfl) (fun _ _ _ h => h) (by kernel_rfl) (fun W' hSW => ?_) (by assumption) ?_
  · first | (go_simp; done) | exact rfl | (go_simp; rfl) | (go_simp; omega)
  try simp only [Act.put, List.setIfInBounds_toArray, List.set_cons_zero, List.set_cons_succ]
  refine take_on (i := 49) (v := evV evA) rfl (by kernel_rfl) (by kernel_rfl) (by kernel_rfl) (fun _ _ _ h => h) (by kernel_rfl) (fun W' hSW => ?_) (by assumption) ?_
  · have hb := hY.out W' hSW
    have x0 := cells_in hb 0
    have x1 := cells_in hb 1
    have x2 := cells_in hb 2
    have x3 := cells_in hb 3
    have x4 := cells_in hb 4
    simp at x0 x1 x2 x3 x4
    clear hb
    first | (go_simp; done) | exact rfl | (go_simp; rfl) | (go_simp; omega)
  try simp only [Act.put, List.setIfInBounds_toArray, List.set_cons_zero, List.set_cons_succ]
  refine take_call (i := 50) rfl (by kernel_rfl) (by kernel_rfl) (fun K hK => ?_)
  go_simp
  refine (at_any 5 1 0 _).mono ?_
  rintro e wA ⟨rfl, hfA⟩
  have FA := Lib.hid (hHeld.trans hfA)
  clear hfA
  simp only [evV]
  go_wp2_with fail
  refine hK.out _ _ FA.out (fun hHeld => ?_)
  clear hK K
  try simp only [Act.put, List.setIfInBounds_toArray, List.set_cons_zero, List.set_cons_succ]
  refine take_on (i := 51) (v := .bool true) rfl (by kernel_rfl) (by kernel_rfl) (by kernel_rfl) (fun _ _ _ h => h) (by kernel_rfl) (fun W' hSW => ?_) (by assumption) ?_
  · first | (go_simp; done) | exact rfl | (go_simp; rfl) | (go_simp; omega)
  try simp only [Act.put, List.setIfInBounds_toArray, List.set_cons_zero, List.set_cons_succ]
  refine take_on (i := 52) (v := .bool true) rfl (by kernel_rfl) (by kernel_rfl) (by kernel_rfl) (fun _ _ _ h => h) (by kernel_rfl) (fun W' hSW => ?_) (by assumption) ?_
  · first | (go_simp; done) | exact rfl | (go_simp; rfl) | (go_simp; omega)
  try simp only [Act.put, List.setIfInBounds_toArray, List.set_cons_zero, List.set_cons_succ]
  refine take_on (i := 53) (v := .bool true) rfl (by kernel_rfl) (by kernel_rfl) (by kernel_rfl) (fun _ _ _ h => h) (by kernel_rfl) (fun W' hSW => ?_) (by assumption) ?_
  · first | (go_simp; done) | exact rfl | (go_simp; rfl) | (go_simp; omega)
  try simp only [Act.put, List.setIfInBounds_toArray, List.set_cons_zero, List.set_cons_succ]
  refine take_on (i := 54) (v := .int .i64 6) rfl (by kernel_rfl) (by kernel_rfl) (by kernel_rfl) (fun _ _ _ h => h) (by kernel_rfl) (fun W' hSW => ?_) (by assumption) ?_
  · first | (go_simp; done) | exact rfl | (go_simp; rfl) | (go_simp; omega)
  try simp only [Act.put, List.setIfInBounds_toArray, List.set_cons_zero, List.set_cons_succ]
  refine take_on (i := 55) (v := .bool true) rfl (by kernel_rfl) (by kernel_rfl) (by kernel_rfl) (fun _ _ _ h => h) (by kernel_rfl) (fun W' hSW => ?_) (by assumption) ?_
  · first | (go_simp; done) | exact rfl | (go_simp; rfl) | (go_simp; omega)
  try simp only [Act.put, List.setIfInBounds_toArray, List.set_cons_zero, List.set_cons_succ]
  refine take_on (i := 56) (v := .bool true) rfl (by kernel_rfl) (by kernel_rfl) (by kernel_rfl) (fun _ _ _ h => h) (by kernel_rfl) (fun W' hSW => ?_) (by assumption) ?_
  · first | (go_simp; done) | exact rfl | (go_simp; rfl) | (go_simp; omega)
  try simp only [Act.put, List.setIfInBounds_toArray, List.set_cons_zero, List.set_cons_succ]
  refine take_on (i := 57) (v := .bool true) rfl (by kernel_rfl) (by kernel_rfl) (by kernel_rfl) (fun _ _ _ h => h) (by kernel_rfl) (fun W' hSW => ?_) (by assumption) ?_
  · first | (go_simp; done) | exact rfl | (go_simp; rfl) | (go_simp; omega)
  try simp only [Act.put, List.setIfInBounds_toArray, List.set_cons_zero, List.set_cons_succ]
  refine wpAnyH_done (by kernel_rfl) ?_ _
  have hfin := FV.out.trans hHeld
  go_wp2
  go_ret
  exact ⟨rfl, hfin⟩
end Go.Proofs.Ytmcgipilopfgoaa

/-
  slices.Grow and slices.Concat at events.
-/
namespace Go.Proofs
open Go.Shelf
def Try.growE_ren : Go.Shelf.Ren := ⟨fun | 4 => 53 | n => n, fun | 22 => 28 | 25 => 34 | 3 => 3 | 4 => 4 | 9 => 9 | 20 => 20 | 0 => 0 | n => n, fun | n => n⟩
theorem Try.growE : Go.Proofs.Lays8.n4 Try.prog Try.growE_ren := {
  mixed := by kernel_rfl
  f4 := ⟨Try.f53.name, by decide, Try.func53.trans (congrArg some (by kernel_rfl))⟩
  t0 := Try.underlying0
  a0 := Try.isAgg0
  z0 := Try.sizeOf0
  v0 := Try.zeroValue0
  t3 := Try.underlying3
  a3 := Try.isAgg3
  z3 := Try.sizeOf3
  v3 := Try.zeroValue3
  t4 := Try.underlying4
  a4 := Try.isAgg4
  z4 := Try.sizeOf4
  v4 := Try.zeroValue4
  t9 := Try.underlying9
  a9 := Try.isAgg9
  z9 := Try.sizeOf9
  v9 := Try.zeroValue9
  t20 := Try.underlying20
  a20 := Try.isAgg20
  z20 := Try.sizeOf20
  v20 := Try.zeroValue20
  t22 := Try.underlying28
  a22 := Try.isAgg28
  z22 := Try.sizeOf28
  v22 := Try.zeroValue28 }
end Go.Proofs
namespace Go.Proofs.Ytmcgipilopfgoaa
open Go Go.RowKit
attribute [local go_sem ↓] Go.wp_at_zero Go.wp_at_succ
attribute [local go_sem] Oper.semAt_some wide_fn wide_depth wide_fnR wide_depthR

set_option maxRecDepth 100000 in
/-- Grow of nothing: an own row without elements. -/
theorem grow_nilE (n : Nat) (hn : n ≤ 1000) (w : World) : Calls Try.prog 53 #[.slice none 0 0, .int .i64 n] w fun e w' => ∃ v, e = .returned v ∧ w'.ownsRow w.heap.size 34 5 v 0 (flatEv []) ∧ Fr0 none' w w' := by
  obtain ⟨i0, hi, hz0, hz1, hz2⟩ := info_parts info_event0
  by_cases h0 : n = 0
  · subst h0
    have hg : Calls Try.prog 53 #[.slice none 0 0, .int .i64 ((0 : Nat) : Int)] w fun e w' => e = .returned (.slice none 0 0) ∧ w' = w := Any8.slices_Grow_room Try.growE none 0 0 0 w (Nat.zero_le 0) (Nat.zero_le _) (Nat.zero_le _) (Nat.zero_le 0)
    refine Calls.mono hg ?_
    intro e w' h
    obtain ⟨h1, h2⟩ := h
    subst h1
    subst h2
    exact ⟨_, rfl, World.ownsRow_nil _ _ _ _, Fr0.refl _ _⟩
  · refine (Any8.slices_Grow_grow Try.growE i0 _ hi hz0 (by rw [hz1]; omega) none 0 0 n [] w (Nat.le_refl _) (by omega) (by rw [hz2]; omega) (by omega) (by simp) (fun _ => rfl) (fun a h => by cases h)).mono ?_
    rintro e w' ⟨rfl, rfl⟩
    have hge := grownCap_ge w (0 + n) 0 (Try.growE_ren.t 25)
    have hcm := grownCap_le_maxLen w (0 + n) 0 (Try.growE_ren.t 25) (by unfold maxLen; omega)
    refine ⟨_, rfl, ⟨by simp [flatEv], .inr ⟨w.heap.size, _, _, rfl, Nat.le_refl _, World.alloc_heap_new w.drew _, Nat.zero_le _, hcm, ?_, by simp [flatEv]⟩⟩, ((Fr0.refl _ _).drew).alloc _⟩
    simp only [Array.size_append, List.size_toArray, size_zeroCells]
    generalize grownCap w (0 + n) 0 (Try.growE_ren.t 25) = G at hge ⊢
    show 0 + (0 + n - 0) * 5 + (G - (0 + n)) * 5 = G * 5
    omega
/-- Two rows among the arguments. -/
structure TwoRowsE (w : World) (lb : Nat) (a1 a2 : Option Addr) (n1 n2 c1 c2 : Nat) (L1 L2 : List Ev) : Prop where
  blk : w.heap[lb]? = some (.cells #[.slice a1 n1 c1, .slice a2 n2 c2] 28 (0, 0))
  r1 : EsIn w a1 L1
  r2 : EsIn w a2 L2
  l1 : L1.length = n1
  l2 : L2.length = n2
  m : n1 ≤ 400 ∧ n2 ≤ 400
theorem TwoRowsE.later {w w' : World} {lb : Nat} {a1 a2 : Option Addr} {n1 n2 c1 c2 : Nat} {L1 L2 : List Ev} (h : TwoRowsE w lb a1 a2 n1 n2 c1 c2 L1 L2) (hf : Fr0 none' w w') : TwoRowsE w' lb a1 a2 n1 n2 c1 c2 L1 L2 :=
  ⟨(hf.block lb (Array.getElem?_eq_some_iff.1 h.blk).1 id).trans h.blk, h.r1.later hf, h.r2.later hf, h.l1, h.l2, h.m⟩
set_option maxRecDepth 100000 in
set_option maxHeartbeats 4000000 in
theorem Concat2E (lb : Nat) (a1 a2 : Option Addr) (n1 n2 c1 c2 : Nat) (L1 L2 : List Ev) (w : World) (h : TwoRowsE w lb a1 a2 n1 n2 c1 c2 L1 L2) :
    Calls Try.prog 34 #[.slice (some ⟨lb, 0, none⟩) 2 2] w fun e w' => ∃ v, e = .returned v ∧ w'.ownsRow w.heap.size 34 5 v (n1 + n2) (flatEv (L1 ++ L2)) ∧ Fr0 none' w w' := by
  obtain ⟨i0, hi, hz0, hz1, hz2⟩ := info_parts info_event0
  have H := Lib.hid h
  have HG := Lib.hid (fun W => grow_nilE (n1 + n2) (by have := h.m; omega) W)
  have hm := h.m
  have q1 : IntKind.i64.wrap (n1 : Int) = (n1 : Int) := IntWalk.i64_in _ (by omega)
  have q2 : IntKind.i64.wrap ((n1 : Int) + (n2 : Int)) = ((n1 + n2 : Nat) : Int) := by rw [IntWalk.i64_in _ (by omega)]; push_cast; rfl
  have y0 := cells_in h.blk 0
  have y1 := cells_in h.blk 1
  simp at y0 y1
  obtain ⟨s, hs⟩ : ∃ s, n1 + n2 = s := ⟨_, rfl⟩
  rw [hs] at q2 HG
  have Hs := Lib.hid hs
  have hs0 : decide ((s : Int) < 0) = false := decide_eq_false (by omega)
  have hn0 : decide ((n1 : Int) < 0) = false := decide_eq_false (by omega)
  clear h hs
  go_enter Try.func34, Try.ntmps34
  go_wp2_with fail
  refine wp_loop_rounds 3 ?_
  rw [rounds_succ]
  go_wp2_with fail
  rw [rounds_succ]
  go_wp2_with fail
  rw [rounds_succ]
  go_wp2_with fail
  clear y0 y1
  refine (HG.out _).mono ?_
  rintro e w1 ⟨v, rfl, hr, hf⟩
  have T := Lib.hid (H.out.later hf)
  have F1 := Lib.hid hf
  have R1 := Lib.hid hr
  clear hr hf
  have y0 := cells_in T.out.blk 0
  have y1 := cells_in T.out.blk 1
  simp at y0 y1
  go_wp2_with fail
  refine wp_loop_rounds 3 ?_
  rw [rounds_succ]
  have hsrc := T.out.r1.src T.out.l1 c1 Try.underlying28
  have Hsrc := Lib.hid hsrc
  clear hsrc
  go_wp2_with (at_builtin; refine wpList_append_k rfl _ _ 28 28 rfl w.heap.size 34 i0 (.agg #[.int .i64 0, .int .i64 0, .int .i64 0, .int .i64 0, .int .i64 0]) 5 40 Try.underlying28 hi hz0 hz1 hz2 rfl (by decide) v 0 _ rfl R1.out (.slice a1 n1 c1) n1 _ rfl Hsrc.out (by unfold maxLen; omega) (by omega) F1.out.size ?_; intro v2 w2 hown hgrow hdr hob; have Hown := Lib.hid hown; have Hgr := Lib.hid hgrow; clear hown hgrow hdr hob y0 y1)
  have hR1 := R1.out.lt
  have f2 : Fr0 none' w w2 := F1.out.grown Hgr.out (fun k hk hlt => by have := (hR1 k hk).1; omega)
  have T2 := Lib.hid (H.out.later f2)
  have F2 := Lib.hid f2
  have Hsrc := Lib.hid (T2.out.r2.src T2.out.l2 c2 Try.underlying28)
  have y0 := cells_in T2.out.blk 0
  have y1 := cells_in T2.out.blk 1
  simp at y0 y1
  clear f2 hR1
  rw [rounds_succ]
  go_wp2_with (at_builtin; refine wpList_append_k rfl _ _ 28 28 rfl w.heap.size 34 i0 (.agg #[.int .i64 0, .int .i64 0, .int .i64 0, .int .i64 0, .int .i64 0]) 5 40 Try.underlying28 hi hz0 hz1 hz2 rfl (by decide) v2 (0 + n1) _ rfl Hown.out (.slice a2 n2 c2) n2 _ rfl Hsrc.out (by unfold maxLen; omega) (by omega) F2.out.size ?_; intro v3 w3 hown hgrow hdr hob; have Hown3 := Lib.hid hown; have Hgr3 := Lib.hid hgrow; clear hown hgrow hdr hob y0 y1)
  have hR2 := Hown.out.lt
  have f3 : Fr0 none' w w3 := F2.out.grown Hgr3.out (fun k hk hlt => by have := (hR2 k hk).1; omega)
  have F3 := Lib.hid f3
  clear f3 hR2
  rw [rounds_succ]
  go_wp2_with fail
  go_ret
  refine ⟨v3, rfl, ?_, F3.out⟩
  have h1 := Hown3.out
  rw [Nat.zero_add] at h1
  rw [flatEv_append]
  exact h1
end Go.Proofs.Ytmcgipilopfgoaa
