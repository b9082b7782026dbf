/- SpaceActs: the statement: for any two integers and any slice of acts the law returns true, and the arguments read as before; no condition. -/
import Derived.Test.YtkchpngkmchamaaGreatJb2
import Derived.Test.YtkchpngkmchamaaGreatJb4
set_option linter.unusedSimpArgs false
set_option linter.unusedVariables false

/-
  A slice of acts among the arguments.
-/
namespace Go.Proofs.YtkchpngkmchamaaGreat
open Go.ChangeShapes Go.WideShapes Go.ChangeAt Go.RowKit Go.Deep Go.Joins

set_option maxRecDepth 100000 in
/-- A slice of acts, opened. -/
theorem acts_arg {base : Nat} {H : Type} {enc : TypeId × Value → H} {W : World} {v : Value} {d : DataW H} {ps : List MemPlace}
    (hval : Value.okWide Tryz.prog W .any base 22 v) (h : DataW.Trod enc Tryz.prog W 0 (fun _ => true) true 22 v d ps) : ∃ xs, ActsAt W v xs := by
  obtain ⟨A, n, cap, rfl⟩ := okWide_slice Tryz.underlying22 hval
  obtain ⟨fuel, hf⟩ := h
  rcases open_slice Tryz.underlying22 hf with ⟨hcs, _⟩ | ⟨a, len, cap', m, _, D, Pl, hcs, _, hl, hm, hz, _, hi⟩
  · simp [Value.cells] at hcs
    obtain ⟨rfl, rfl, rfl⟩ := hcs
    exact ⟨[], none, 0, rfl, fun j x hj => by simp at hj⟩
  · simp [Value.cells] at hcs
    obtain ⟨rfl, rfl, rfl⟩ := hcs
    have hmn : n ≤ m := by rw [hz]; split <;> omega
    have key : ∀ i, i < n → ∃ x : Act4, x.ok ∧ ∃ g o, a = ⟨g, o, none⟩ ∧ W.cell? ⟨g, o + i * 4, none⟩ = some (.int .u8 x.kind) ∧ W.cell? ⟨g, o + i * 4 + 1, none⟩ = some (.string x.name) ∧ W.cell? ⟨g, o + i * 4 + 2, none⟩ = some (.int .i64 x.num) ∧ W.cell? ⟨g, o + i * 4 + 3, none⟩ = some (.int .i64 x.proc) := fun i hin => by
      obtain ⟨cs, hc, ht⟩ := hi i (by omega)
      rw [show Tryz.prog.cellsOf 48 = 4 by kernel_rfl] at hc
      obtain ⟨ys, k, _, _, _, hyl, hfl⟩ := DataW.trod_struct Tryz.underlying48 ht
      obtain ⟨_, hcl, hat⟩ := World.cells?_some hc
      have hone : Tryz.prog.cellsOf 5 = 1 := by kernel_rfl
      have hone2 : Tryz.prog.cellsOf 9 = 1 := by kernel_rfl
      have hone3 : Tryz.prog.cellsOf 3 = 1 := by kernel_rfl
      match cs, hcl with
      | [v0, v1, v2, v3], _ =>
      have c0 := hat 0 (by omega)
      have c1 := hat 1 (by omega)
      have c2 := hat 2 (by omega)
      have c3 := hat 3 (by omega)
      have f0 : DataW.trod enc Tryz.prog W 0 (fun _ => true) true k 5 (([v0, v1, v2, v3].drop 0).take (Tryz.prog.cellsOf 5)) = ys[0]? := hfl 0 _ rfl
      have f1 : DataW.trod enc Tryz.prog W 0 (fun _ => true) true k 9 (([v0, v1, v2, v3].drop 1).take (Tryz.prog.cellsOf 9)) = ys[1]? := hfl 1 _ rfl
      have f2 : DataW.trod enc Tryz.prog W 0 (fun _ => true) true k 3 (([v0, v1, v2, v3].drop 2).take (Tryz.prog.cellsOf 3)) = ys[2]? := hfl 2 _ rfl
      have f3 : DataW.trod enc Tryz.prog W 0 (fun _ => true) true k 3 (([v0, v1, v2, v3].drop 3).take (Tryz.prog.cellsOf 3)) = ys[3]? := hfl 3 _ rfl
      rw [hone] at f0
      rw [hone2] at f1
      rw [hone3] at f2 f3
      have yl : ys.length = 4 := hyl
      have t0 : DataW.trod enc Tryz.prog W 0 (fun _ => true) true k 5 [v0] = some (ys[0]'(by omega)) := f0.trans (List.getElem?_eq_getElem _)
      have t1 : DataW.trod enc Tryz.prog W 0 (fun _ => true) true k 9 [v1] = some (ys[1]'(by omega)) := f1.trans (List.getElem?_eq_getElem _)
      have t2 : DataW.trod enc Tryz.prog W 0 (fun _ => true) true k 3 [v2] = some (ys[2]'(by omega)) := f2.trans (List.getElem?_eq_getElem _)
      have t3 : DataW.trod enc Tryz.prog W 0 (fun _ => true) true k 3 [v3] = some (ys[3]'(by omega)) := f3.trans (List.getElem?_eq_getElem _)
      obtain ⟨a0, rfl, l0, m0⟩ := small_fields t0
      obtain ⟨a1, e1, _, _⟩ := DataW.trod_string Tryz.underlying9 t1
      injection e1 with e1 _
      subst e1
      obtain ⟨a2, e2, _, w2⟩ := DataW.trod_int Tryz.underlying3 t2
      injection e2 with e2 _
      subst e2
      obtain ⟨a3, e3, _, w3⟩ := DataW.trod_int Tryz.underlying3 t3
      injection e3 with e3 _
      subst e3
      have b2 := bounds_i64 w2
      have b3 := bounds_i64 w3
      obtain ⟨cs', hc', _⟩ := hi 0 (by omega)
      rw [show Tryz.prog.cellsOf 48 = 4 by kernel_rfl] at hc'
      obtain ⟨_, hcl', hat'⟩ := World.cells?_some hc'
      have z0 := hat' 0 (by omega)
      rw [List.getElem?_eq_getElem (by omega)] at z0
      obtain ⟨b, off, spot⟩ := a
      have hspot : spot = none := by simpa [Addr.add] using World.cell?_spot z0
      subst hspot
      rw [Addr.add_mid, Addr.add_mid] at c0 c1 c2 c3
      refine ⟨⟨a0, a1, a2, a3⟩, ⟨⟨l0, m0⟩, by omega, by omega⟩, b, off, rfl, ?_, ?_, ?_, ?_⟩
      · exact c0
      · exact c1
      · exact c2
      · exact c3
    obtain ⟨xs, hxl, hx⟩ := list_of n key
    subst hxl
    refine ⟨xs, some a, cap, rfl, fun j x hj => ?_⟩
    obtain ⟨hok, g, o, rfl, q0, q1, q2, q3⟩ := hx j x hj
    exact ⟨hok, g, o, rfl, q0, q1, q2, q3⟩
end Go.Proofs.YtkchpngkmchamaaGreat

/-
  SpaceActs.
-/
namespace Go.Proofs.YtkchpngkmchamaaGreat
open Go.RowKit Go.Maps
attribute [local go_sem ↓] Go.wp_at_zero Go.wp_at_succ

set_option maxRecDepth 100000 in
set_option maxHeartbeats 4000000 in
theorem SpaceActs_any {w : World} {v : Value} {xs : List Act4} (hu : ActsAt w v xs) (lim nx : Int) :
    Calls Tryz.prog 3 #[.int .i64 lim, .int .i64 nx, v] w fun e w' => e = .returned (.bool true) ∧ Fr0 none' w w' := by
  have HA := Lib.hid (acts_any hu lim nx)
  clear hu
  go_enter Tryz.func3, Tryz.ntmps3
  go_wp2_with fail
  refine HA.out.mono ?_
  rintro e w1 ⟨rfl, hf1⟩
  have F1 := Lib.hid hf1
  clear hf1 HA
  go_wp2_with fail
  refine (sawake_any _).mono ?_
  rintro e w2 ⟨rfl, hf2⟩
  have F2 := Lib.hid (F1.out.trans hf2)
  clear hf2
  go_wp2
  go_ret
  exact ⟨rfl, F2.out⟩
end Go.Proofs.YtkchpngkmchamaaGreat

namespace Go.Proofs.YtkchpngkmchamaaGreat.spaceActs
open Go.ChangeShapes Go.WideShapes Go.ChangeAt Go.RowKit Go.Proofs.YtkchpngkmchamaaGreat

set_option maxRecDepth 100000 in
theorem lifted (os : Os) (started : os.Started) (H : Type) (enc : TypeId × Value → H) :
    ReturnsInHanded {} Tryz.checked os 3 .any (Rows.spaceActsSpec.pre6 enc Tryz.prog Tryz.f3 Rows.spaceActsRow.domain false) (Rows.spaceActsSpec.post enc Tryz.prog Tryz.f3 false true false false) := by
  refine returnsInHanded_of_change (C := Tryz.checked) own_knob started (by kernel_rfl) Tryz.func3
    (ChangeSpec.witness6 (enc := enc) (C := Tryz.checked) false ⟨#[], #[.int .i64 0, .int .i64 0, .slice none 0 0], []⟩ 8 (by kernel_rfl) (by kernel_rfl) (by kernel_rfl) (by kernel_rfl)) ?_
  intro W base args ds gs before hval0 hW hcnd _
  have hval : ∀ (j : Nat) t v, Tryz.f3.params[j]? = some t → args[j]? = some v → Value.okWide Tryz.prog W .any base t v := hval0
  have hW' := hW
  obtain ⟨p, q, hA0, hV, rfl, hfz, hnd⟩ := hW
  have hA : DataW.TrodAll enc Tryz.prog W 0 (fun _ => true) true Tryz.f3.params.toList args.toList ds p := hA0
  rw [Tryz.params3] at hA hval
  obtain ⟨v0, vs0, d0, ds0, p0, q0, hargs, rfl, rfl, h0, r0⟩ := trodAll_cons hA
  obtain ⟨v1, vs1, d1, ds1, p1, q1, rfl, rfl, rfl, h1, r1⟩ := trodAll_cons r0
  obtain ⟨v2, vs2, d2, ds2, p2, q2, rfl, rfl, rfl, h2, r2⟩ := trodAll_cons r1
  obtain ⟨rfl, rfl, rfl⟩ := trodAll_nil r2
  obtain rfl : args = #[v0, v1, v2] := by cases args; simp_all
  obtain ⟨rfl, rfl⟩ := trodVars_none hV
  clear hA0 hval0
  simp only [List.append_nil] at hW'
  have l0 : ∀ x ∈ p0, x.block < W.heap.size := fun x hx => hW'.lt x (by simp [hx])
  have t0 := fun W' (hb : Below W.heap.size W W') => Below.trod laid_own (by kernel_rfl) (of_decide_eq_true (by kernel_rfl)) h0 hb l0
  have l1 : ∀ x ∈ p1, x.block < W.heap.size := fun x hx => hW'.lt x (by simp [hx])
  have t1 := fun W' (hb : Below W.heap.size W W') => Below.trod laid_own (by kernel_rfl) (of_decide_eq_true (by kernel_rfl)) h1 hb l1
  have l2 : ∀ x ∈ p2, x.block < W.heap.size := fun x hx => hW'.lt x (by simp [hx])
  have t2 := fun W' (hb : Below W.heap.size W W') => Below.trod laid_own (by kernel_rfl) (of_decide_eq_true (by kernel_rfl)) h2 hb l2
  obtain ⟨a0, rfl, _, _, w0⟩ := open_int Tryz.underlying3 (hval 0 3 v0 rfl rfl) h0
  obtain ⟨a1, rfl, _, _, w1⟩ := open_int Tryz.underlying3 (hval 1 3 v1 rfl rfl) h1
  obtain ⟨xs, hxs⟩ := acts_arg (hval 2 22 v2 rfl rfl) h2
  refine (SpaceActs_any hxs a0 a1).mono fun e W' ⟨he, hg0⟩ => ?_
  have hg := hg0.below (Nat.le_refl _) (fun _ _ h => h)
  subst he
  exact ⟨_, rfl, post_below2 (pa := (p0 ++ (p1 ++ (p2 ++ [])))) (pv := []) hW' (fun _ _ _ => (trodAll_cons_mk (shut_bool Tryz.underlying4 _) trodAll_mk0)) (trodAll_cons_mk (t0 _ hg) (trodAll_cons_mk (t1 _ hg) (trodAll_cons_mk (t2 _ hg) trodAll_mk0))) (fun _ _ => rfl) hg⟩

theorem over : Rows.spaceActsRow.holds Tryz.pinned (OpenSpec.ofChange Rows.spaceActsSpec) :=
  OpenClaim.holds_of_wide 3 Tryz.f3 rfl rfl rfl rfl rfl rfl rfl ⟨rfl, rfl, rfl, rfl, rfl⟩ rfl rfl rfl rfl rfl (by kernel_rfl) Tryz.func3 (by kernel_rfl)
    (of_decide_eq_true (by kernel_rfl)) (by unfold Func.isWrapper; first | (rw [if_pos (by decide +kernel)]; kernel_rfl) | (rw [if_neg (by decide +kernel)]; exact ⟨rfl, rfl⟩))
    (fun os started H enc _ => lifted os started H enc)

theorem proved : Rows.SpaceActsSaid := over
#print axioms proved
end Go.Proofs.YtkchpngkmchamaaGreat.spaceActs
