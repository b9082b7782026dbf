/- EvqTells: the statement: for any integer and any slice of acts the law returns true, and the arguments read as before; no condition. -/
import Derived.Test.YtmcgipilopfgoaaGreatJb2
import Derived.Test.YtmcgipilopfgoaaGreatJb5
set_option linter.unusedSimpArgs false
set_option linter.unusedVariables false

/-
  A slice of acts of the queue among the arguments.
-/
namespace Go.Proofs.YtmcgipilopfgoaaGreat
open Go.ChangeShapes Go.WideShapes Go.ChangeAt Go.RowKit Go.Deep Go.Joins

theorem int_field {H : Type} {enc : TypeId × Value → H} {w : World} {n : Nat} {v : Value} {y : DataW H × List MemPlace} (h : DataW.trod enc Tryz.prog w 0 (fun _ => true) true n 3 [v] = some y) : ∃ a, v = .int .i64 a ∧ I64 a := by
  obtain ⟨a, h1, _, hw⟩ := DataW.trod_int Tryz.underlying3 h
  injection h1 with h1 _
  have := bounds_i64 hw
  exact ⟨a, h1, by unfold I64; omega⟩
theorem int64_field {H : Type} {enc : TypeId × Value → H} {w : World} {n : Nat} {v : Value} {y : DataW H × List MemPlace} (h : DataW.trod enc Tryz.prog w 0 (fun _ => true) true n 2 [v] = some y) : ∃ a, v = .int .i64 a := by
  obtain ⟨a, h1, _, hw⟩ := DataW.trod_int Tryz.underlying2 h
  injection h1 with h1 _
  exact ⟨a, h1⟩
set_option maxRecDepth 100000 in
theorem key_field {H : Type} {enc : TypeId × Value → H} {w : World} {n : Nat} {v0 v1 v2 : Value} {y : DataW H × List MemPlace} (h : DataW.trod enc Tryz.prog w 0 (fun _ => true) true n 26 [v0, v1, v2] = some y) : ∃ k : Key3, v0 = .int .i64 k.time ∧ v1 = .int .i64 k.source ∧ v2 = .int .i64 k.seq ∧ I64 k.time ∧ I64 k.source ∧ I64 k.seq := by
  obtain ⟨ys, k, _, _, _, hyl, hfl⟩ := DataW.trod_struct Tryz.underlying26 h
  have hone : Tryz.prog.cellsOf 3 = 1 := by kernel_rfl
  have f0 : DataW.trod enc Tryz.prog w 0 (fun _ => true) true k 3 (([v0, v1, v2].drop 0).take (Tryz.prog.cellsOf 3)) = ys[0]? := hfl 0 _ rfl
  have f1 : DataW.trod enc Tryz.prog w 0 (fun _ => true) true k 3 (([v0, v1, v2].drop 1).take (Tryz.prog.cellsOf 3)) = ys[1]? := hfl 1 _ rfl
  have f2 : DataW.trod enc Tryz.prog w 0 (fun _ => true) true k 3 (([v0, v1, v2].drop 2).take (Tryz.prog.cellsOf 3)) = ys[2]? := hfl 2 _ rfl
  rw [hone] at f0 f1 f2
  have yl : ys.length = 3 := hyl
  have t0 : DataW.trod enc Tryz.prog w 0 (fun _ => true) true k 3 [v0] = some (ys[0]'(by omega)) := f0.trans (List.getElem?_eq_getElem _)
  have t1 : DataW.trod enc Tryz.prog w 0 (fun _ => true) true k 3 [v1] = some (ys[1]'(by omega)) := f1.trans (List.getElem?_eq_getElem _)
  have t2 : DataW.trod enc Tryz.prog w 0 (fun _ => true) true k 3 [v2] = some (ys[2]'(by omega)) := f2.trans (List.getElem?_eq_getElem _)
  obtain ⟨a0, rfl, b0⟩ := int_field t0
  obtain ⟨a1, rfl, b1⟩ := int_field t1
  obtain ⟨a2, rfl, b2⟩ := int_field t2
  exact ⟨⟨a0, a1, a2⟩, rfl, rfl, rfl, b0, b1, b2⟩
set_option maxRecDepth 100000 in
theorem event_field {H : Type} {enc : TypeId × Value → H} {w : World} {n : Nat} {v0 v1 v2 v3 v4 : Value} {y : DataW H × List MemPlace} (h : DataW.trod enc Tryz.prog w 0 (fun _ => true) true n 28 [v0, v1, v2, v3, v4] = some y) : ∃ x : Ev, v0 = .int .i64 x.key.time ∧ v1 = .int .i64 x.key.source ∧ v2 = .int .i64 x.key.seq ∧ v3 = .int .i64 x.to ∧ v4 = .int .i64 x.value ∧ I64 x.key.source ∧ I64 x.key.seq := by
  obtain ⟨ys, k, _, _, _, hyl, hfl⟩ := DataW.trod_struct Tryz.underlying28 h
  have hone : Tryz.prog.cellsOf 3 = 1 := by kernel_rfl
  have hone6 : Tryz.prog.cellsOf 2 = 1 := by kernel_rfl
  have hthree : Tryz.prog.cellsOf 26 = 3 := by kernel_rfl
  have f0 : DataW.trod enc Tryz.prog w 0 (fun _ => true) true k 26 (([v0, v1, v2, v3, v4].drop 0).take (Tryz.prog.cellsOf 26)) = ys[0]? := hfl 0 _ rfl
  have f1 : DataW.trod enc Tryz.prog w 0 (fun _ => true) true k 3 (([v0, v1, v2, v3, v4].drop 3).take (Tryz.prog.cellsOf 3)) = ys[1]? := hfl 1 _ rfl
  have f2 : DataW.trod enc Tryz.prog w 0 (fun _ => true) true k 2 (([v0, v1, v2, v3, v4].drop 4).take (Tryz.prog.cellsOf 2)) = ys[2]? := hfl 2 _ rfl
  rw [hthree] at f0
  rw [hone] at f1
  rw [hone6] at f2
  have yl : ys.length = 3 := hyl
  have t0 : DataW.trod enc Tryz.prog w 0 (fun _ => true) true k 26 [v0, v1, v2] = some (ys[0]'(by omega)) := f0.trans (List.getElem?_eq_getElem _)
  have t1 : DataW.trod enc Tryz.prog w 0 (fun _ => true) true k 3 [v3] = some (ys[1]'(by omega)) := f1.trans (List.getElem?_eq_getElem _)
  have t2 : DataW.trod enc Tryz.prog w 0 (fun _ => true) true k 2 [v4] = some (ys[2]'(by omega)) := f2.trans (List.getElem?_eq_getElem _)
  obtain ⟨kk, rfl, rfl, rfl, b0, b1, b2⟩ := key_field t0
  obtain ⟨a1, rfl, _⟩ := int_field t1
  obtain ⟨a2, rfl⟩ := int64_field t2
  exact ⟨⟨kk, a1, a2⟩, rfl, rfl, rfl, rfl, rfl, b1, b2⟩
set_option maxRecDepth 100000 in
/-- A slice of events in memory. -/
theorem events_field {H : Type} {enc : TypeId × Value → H} {W : World} {n : Nat} {v : Value} {y : DataW H × List MemPlace} (h : DataW.trod enc Tryz.prog W 0 (fun _ => true) true n 30 [v] = some y) : ∃ la lk lc L, v = .slice la lk lc ∧ EsIn W la L ∧ L.length = lk ∧ lk ≤ lc := by
  rcases open_slice Tryz.underlying30 h with ⟨hcs, _⟩ | ⟨a, len, cap', m, _, D, Pl, hcs, _, hl, hm, hz, _, hi⟩
  · injection hcs with e _
    subst e
    exact ⟨none, 0, 0, [], rfl, fun i x hx => by simp at hx, rfl, Nat.le_refl _⟩
  · injection hcs with e _
    subst e
    have hmn : len ≤ m := by rw [hz]; split <;> omega
    have key : ∀ i, i < len → ∃ x : Ev, ∃ g o, a = ⟨g, o, none⟩ ∧ EAt W g (o + i * 5) x := fun i hin => by
      obtain ⟨cs, hc, ht⟩ := hi i (by omega)
      rw [show Tryz.prog.cellsOf 28 = 5 by kernel_rfl] at hc
      obtain ⟨_, hcl, hat⟩ := World.cells?_some hc
      match cs, hcl with
      | [v0, v1, v2, v3, v4], _ =>
      have c0 := hat 0 (by omega)
      have c1 := hat 1 (by omega)
      have c2 := hat 2 (by omega)
      have c3 := hat 3 (by omega)
      have c4 := hat 4 (by omega)
      obtain ⟨x, rfl, rfl, rfl, rfl, rfl, _⟩ := event_field ht
      obtain ⟨cs', hc', _⟩ := hi 0 (by omega)
      rw [show Tryz.prog.cellsOf 28 = 5 by kernel_rfl] at hc'
      obtain ⟨_, hcl', hat'⟩ := World.cells?_some hc'
      have z0 := hat' 0 (by omega)
      rw [List.getElem?_eq_getElem (by omega)] at z0
      obtain ⟨b, off, spot⟩ := a
      have hspot : spot = none := by simpa [Addr.add] using World.cell?_spot z0
      subst hspot
      rw [Addr.add_mid, Addr.add_mid] at c0 c1 c2 c3 c4
      exact ⟨x, b, off, rfl, c0, c1, c2, c3, c4⟩
    obtain ⟨xs, hxl, hx⟩ := list_of len key
    refine ⟨some a, len, cap', xs, rfl, fun j x hj => ?_, hxl, by omega⟩
    obtain ⟨g, o, rfl, hq⟩ := hx j x hj
    exact ⟨g, o, rfl, hq⟩
set_option maxRecDepth 100000 in
/-- A slice of acts, opened. -/
theorem acs_arg {base : Nat} {H : Type} {enc : TypeId × Value → H} {W : World} {v : Value} {d : DataW H} {ps : List MemPlace}
    (hval : Value.okWide Tryz.prog W .any base 22 v) (h : DataW.Trod enc Tryz.prog W 0 (fun _ => true) true 22 v d ps) : ∃ xs, AcsAt W v xs := by
  obtain ⟨A, n, cap, rfl⟩ := okWide_slice Tryz.underlying22 hval
  obtain ⟨fuel, hf⟩ := h
  rcases open_slice Tryz.underlying22 hf with ⟨hcs, _⟩ | ⟨a, len, cap', m, _, D, Pl, hcs, _, hl, hm, hz, _, hi⟩
  · simp [Value.cells] at hcs
    obtain ⟨rfl, rfl, rfl⟩ := hcs
    exact ⟨[], none, 0, rfl, fun j x hj => by simp at hj⟩
  · simp [Value.cells] at hcs
    obtain ⟨rfl, rfl, rfl⟩ := hcs
    have hmn : n ≤ m := by rw [hz]; split <;> omega
    have key : ∀ i, i < n → ∃ x : Ac, x.ok W ∧ ∃ g o, a = ⟨g, o, none⟩ ∧ AcIn W g (o + i * 8) x := fun i hin => by
      obtain ⟨cs, hc, ht⟩ := hi i (by omega)
      rw [show Tryz.prog.cellsOf 32 = 8 by kernel_rfl] at hc
      obtain ⟨ys, k, _, _, _, hyl, hfl⟩ := DataW.trod_struct Tryz.underlying32 ht
      obtain ⟨_, hcl, hat⟩ := World.cells?_some hc
      have hone : Tryz.prog.cellsOf 5 = 1 := by kernel_rfl
      have hone2 : Tryz.prog.cellsOf 28 = 5 := by kernel_rfl
      have hone3 : Tryz.prog.cellsOf 30 = 1 := by kernel_rfl
      have hone4 : Tryz.prog.cellsOf 3 = 1 := by kernel_rfl
      match cs, hcl with
      | [v0, v1, v2, v3, v4, v5, v6, v7], _ =>
      have c0 := hat 0 (by omega)
      have c1 := hat 1 (by omega)
      have c2 := hat 2 (by omega)
      have c3 := hat 3 (by omega)
      have c4 := hat 4 (by omega)
      have c5 := hat 5 (by omega)
      have c6 := hat 6 (by omega)
      have c7 := hat 7 (by omega)
      have f0 : DataW.trod enc Tryz.prog W 0 (fun _ => true) true k 5 (([v0, v1, v2, v3, v4, v5, v6, v7].drop 0).take (Tryz.prog.cellsOf 5)) = ys[0]? := hfl 0 _ rfl
      have f1 : DataW.trod enc Tryz.prog W 0 (fun _ => true) true k 28 (([v0, v1, v2, v3, v4, v5, v6, v7].drop 1).take (Tryz.prog.cellsOf 28)) = ys[1]? := hfl 1 _ rfl
      have f2 : DataW.trod enc Tryz.prog W 0 (fun _ => true) true k 30 (([v0, v1, v2, v3, v4, v5, v6, v7].drop 6).take (Tryz.prog.cellsOf 30)) = ys[2]? := hfl 2 _ rfl
      have f3 : DataW.trod enc Tryz.prog W 0 (fun _ => true) true k 3 (([v0, v1, v2, v3, v4, v5, v6, v7].drop 7).take (Tryz.prog.cellsOf 3)) = ys[3]? := hfl 3 _ rfl
      rw [hone] at f0
      rw [hone2] at f1
      rw [hone3] at f2
      rw [hone4] at f3
      have yl : ys.length = 4 := hyl
      have t0 : DataW.trod enc Tryz.prog W 0 (fun _ => true) true k 5 [v0] = some (ys[0]'(by omega)) := f0.trans (List.getElem?_eq_getElem _)
      have t1 : DataW.trod enc Tryz.prog W 0 (fun _ => true) true k 28 [v1, v2, v3, v4, v5] = some (ys[1]'(by omega)) := f1.trans (List.getElem?_eq_getElem _)
      have t2 : DataW.trod enc Tryz.prog W 0 (fun _ => true) true k 30 [v6] = some (ys[2]'(by omega)) := f2.trans (List.getElem?_eq_getElem _)
      have t3 : DataW.trod enc Tryz.prog W 0 (fun _ => true) true k 3 [v7] = some (ys[3]'(by omega)) := f3.trans (List.getElem?_eq_getElem _)
      obtain ⟨a0, rfl, l0, m0⟩ := small_fields t0
      obtain ⟨x, rfl, rfl, rfl, rfl, rfl, b1, b2⟩ := event_field t1
      obtain ⟨la, lk, lc, L, rfl, hL, hlk, hlc⟩ := events_field t2
      obtain ⟨a3, rfl, b3⟩ := int_field t3
      obtain ⟨cs', hc', _⟩ := hi 0 (by omega)
      rw [show Tryz.prog.cellsOf 32 = 8 by kernel_rfl] at hc'
      obtain ⟨_, hcl', hat'⟩ := World.cells?_some hc'
      have z0 := hat' 0 (by omega)
      rw [List.getElem?_eq_getElem (by omega)] at z0
      obtain ⟨b, off, spot⟩ := a
      have hspot : spot = none := by simpa [Addr.add] using World.cell?_spot z0
      subst hspot
      rw [Addr.add_mid, Addr.add_mid] at c0 c1 c2 c3 c4 c5 c6 c7
      exact ⟨⟨a0, x, la, lk, lc, a3, L⟩, ⟨⟨l0, m0⟩, ⟨b1, b2⟩, b3, hL, hlk, hlc⟩, b, off, rfl, c0, c1, c2, c3, c4, c5, c6, c7⟩
    obtain ⟨xs, hxl, hx⟩ := list_of n key
    subst hxl
    refine ⟨xs, some a, cap, rfl, fun j x hj => ?_⟩
    obtain ⟨hok, g, o, rfl, hq⟩ := hx j x hj
    exact ⟨hok, g, o, rfl, hq⟩
end Go.Proofs.YtmcgipilopfgoaaGreat

/-
  EvqTells.
-/
namespace Go.Proofs.YtmcgipilopfgoaaGreat
open Go Go.RowKit
attribute [local go_sem ↓] Go.wp_at_zero Go.wp_at_succ
attribute [local go_sem] Oper.semAt_some wide_fn wide_depth wide_fnR wide_depthR

set_option maxRecDepth 100000 in
set_option maxHeartbeats 2000000 in
theorem EvqTells_any {w : World} {u : Value} {xs : List Ac} (c : Int) (hu : AcsAt w u xs) : Calls Tryz.prog 3 #[.int .i64 c, u] w fun e w' => e = .returned (.bool true) ∧ Fr0 none' w w' := by
  obtain ⟨a, cap, hv, hx⟩ := hu
  have HU := Lib.hid (show AcsAt w u xs from ⟨a, cap, hv, hx⟩)
  obtain ⟨k, hk⟩ : ∃ k, xs.length = k := ⟨_, rfl⟩
  have Hk := Lib.hid hk
  subst hv
  rw [hk] at HU ⊢
  clear hx hk
  by_cases h : k ≤ 100
  · have d1 : decide ((k : Int) > 100) = false := decide_eq_false (by omega)
    have d2 : decide ((100 : Int) < (k : Int)) = false := decide_eq_false (by omega)
    go_enter Tryz.func3, Tryz.ntmps3
    go_wp2_with fail
    refine (tells_any c HU.out (by rw [Hk.out]; exact h)).mono ?_
    rintro e w1 ⟨rfl, hf1⟩
    go_wp2_with fail
    refine (awake_any w1).mono ?_
    rintro e w2 ⟨rfl, hf2⟩
    have hf := hf1.trans hf2
    clear hf1 hf2
    go_wp2_with fail
    go_ret
    exact ⟨rfl, hf⟩
  · have d1 : decide ((k : Int) > 100) = true := decide_eq_true (by omega)
    have d2 : decide ((100 : Int) < (k : Int)) = true := decide_eq_true (by omega)
    go_enter Tryz.func3, Tryz.ntmps3
    go_wp2_with fail
    refine (awake_any w).mono ?_
    rintro e w2 ⟨rfl, hf2⟩
    go_wp2_with fail
    go_ret
    exact ⟨rfl, hf2⟩
end Go.Proofs.YtmcgipilopfgoaaGreat

namespace Go.Proofs.YtmcgipilopfgoaaGreat.evqTells
open Go.ChangeShapes Go.WideShapes Go.ChangeAt Go.RowKit Go.Proofs.YtmcgipilopfgoaaGreat

set_option maxRecDepth 100000 in
theorem lifted (os : Os) (started : os.Started) (H : Type) (enc : TypeId × Value → H) :
    ReturnsInHanded {} Tryz.checked os 3 .any (Rows.evqTellsSpec.pre6 enc Tryz.prog Tryz.f3 Rows.evqTellsRow.domain false) (Rows.evqTellsSpec.post enc Tryz.prog Tryz.f3 false true false false) := by
  refine returnsInHanded_of_change (C := Tryz.checked) own_knob started (by kernel_rfl) Tryz.func3
    (ChangeSpec.witness6 (enc := enc) (C := Tryz.checked) false ⟨#[], #[.int .i64 0, .slice none 0 0], []⟩ 8 (by kernel_rfl) (by kernel_rfl) (by kernel_rfl) (by kernel_rfl)) ?_
  intro W base args ds gs before hval0 hW hcnd _
  have hval : ∀ (j : Nat) t v, Tryz.f3.params[j]? = some t → args[j]? = some v → Value.okWide Tryz.prog W .any base t v := hval0
  have hW' := hW
  obtain ⟨p, q, hA0, hV, rfl, hfz, hnd⟩ := hW
  have hA : DataW.TrodAll enc Tryz.prog W 0 (fun _ => true) true Tryz.f3.params.toList args.toList ds p := hA0
  rw [Tryz.params3] at hA hval
  obtain ⟨v0, vs0, d0, ds0, p0, q0, hargs, rfl, rfl, h0, r0⟩ := trodAll_cons hA
  obtain ⟨v1, vs1, d1, ds1, p1, q1, rfl, rfl, rfl, h1, r1⟩ := trodAll_cons r0
  obtain ⟨rfl, rfl, rfl⟩ := trodAll_nil r1
  obtain rfl : args = #[v0, v1] := by cases args; simp_all
  obtain ⟨rfl, rfl⟩ := trodVars_none hV
  clear hA0 hval0
  simp only [List.append_nil] at hW'
  have l0 : ∀ x ∈ p0, x.block < W.heap.size := fun x hx => hW'.lt x (by simp [hx])
  have t0 := fun W' (hb : Below W.heap.size W W') => Below.trod laid_own (by kernel_rfl) (of_decide_eq_true (by kernel_rfl)) h0 hb l0
  have l1 : ∀ x ∈ p1, x.block < W.heap.size := fun x hx => hW'.lt x (by simp [hx])
  have t1 := fun W' (hb : Below W.heap.size W W') => Below.trod laid_own (by kernel_rfl) (of_decide_eq_true (by kernel_rfl)) h1 hb l1
  obtain ⟨a0, rfl, _, _, w0⟩ := open_int Tryz.underlying3 (hval 0 3 v0 rfl rfl) h0
  obtain ⟨xs, hxs⟩ := acs_arg (hval 1 22 v1 rfl rfl) h1
  refine (EvqTells_any a0 hxs).mono fun e W' ⟨he, hg0⟩ => ?_
  have hg := hg0.below (Nat.le_refl _) (fun _ _ h => h)
  subst he
  exact ⟨_, rfl, post_below2 (pa := (p0 ++ (p1 ++ []))) (pv := []) hW' (fun _ _ _ => (trodAll_cons_mk (shut_bool Tryz.underlying4 _) trodAll_mk0)) (trodAll_cons_mk (t0 _ hg) (trodAll_cons_mk (t1 _ hg) trodAll_mk0)) (fun _ _ => rfl) hg⟩

theorem over : Rows.evqTellsRow.holds Tryz.pinned (OpenSpec.ofChange Rows.evqTellsSpec) :=
  OpenClaim.holds_of_wide 3 Tryz.f3 rfl rfl rfl rfl rfl rfl rfl ⟨rfl, rfl, rfl, rfl, rfl⟩ rfl rfl rfl rfl rfl (by kernel_rfl) Tryz.func3 (by kernel_rfl)
    (of_decide_eq_true (by kernel_rfl)) (by unfold Func.isWrapper; first | (rw [if_pos (by decide +kernel)]; kernel_rfl) | (rw [if_neg (by decide +kernel)]; exact ⟨rfl, rfl⟩))
    (fun os started H enc _ => lifted os started H enc)

theorem proved : Rows.EvqTellsSaid := over
#print axioms proved
end Go.Proofs.YtmcgipilopfgoaaGreat.evqTells
