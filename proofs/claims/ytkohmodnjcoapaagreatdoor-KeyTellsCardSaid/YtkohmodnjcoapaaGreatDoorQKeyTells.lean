/- KeyTells: the statement, and its tied card: for any arguments the law returns true, and the arguments read as before. -/
import Derived.Test.YtkohmodnjcoapaaGreatDoorJb3
import Derived.Test.YtkohmodnjcoapaaGreatDoorJb2
import Derived.Test.YtkohmodnjcoapaaGreatDoorCards
import Derived.Test.YtkohmodnjcoapaaGreatDoorTie
set_option linter.unusedSimpArgs false
set_option linter.unusedVariables false

/-
  KeyTells.
-/
namespace Go.Proofs.YtkohmodnjcoapaaGreatDoor
open Go Go.RowKit
attribute [local go_sem ↓] Go.wp_at_zero Go.wp_at_succ
attribute [local go_sem] Oper.semAt_some wide_fn wide_depth wide_fnR wide_depthR

set_option maxRecDepth 100000 in
set_option maxHeartbeats 2000000 in
theorem KeyTells_any (a b : Key3) (t : Int) (w : World) (hL : Laid7 w) :
    Calls Tryz.prog 4 #[keyV a, keyV b, .int .i64 t] w fun e w' => e = .returned (.bool true) ∧ Fr0 none' w w' := by
  have HT := Lib.hid (tells_any a b t)
  have HA := Lib.hid awake_any
  have HL := Lib.hid hL
  clear hL
  simp only [keyV] at HT ⊢
  go_enter Tryz.func4, Tryz.ntmps4
  go_wp2_with fail
  obtain ⟨W0, hW0⟩ : ∃ W, (w.alloc (.cells #[.int .i64 a.time, .int .i64 a.source, .int .i64 a.seq] 28)).alloc (.cells #[.int .i64 b.time, .int .i64 b.source, .int .i64 b.seq] 28) = W := ⟨_, rfl⟩
  have F0 := Lib.hid (show Fr0 none' w W0 from by rw [← hW0]; exact ((Fr0.refl _ _).alloc _).alloc _)
  rw [hW0]
  clear hW0
  refine (HT.out _ (HL.out.later F0.out)).mono ?_
  rintro e w1 ⟨rfl, hf⟩
  have F1 := Lib.hid (F0.out.trans hf)
  clear hf
  go_wp2_with fail
  refine (HA.out _ (HL.out.later F1.out)).mono ?_
  rintro e w2 ⟨rfl, hf⟩
  have F2 := Lib.hid (F1.out.trans hf)
  clear hf
  go_wp2_with fail
  go_ret
  exact ⟨rfl, F2.out⟩
end Go.Proofs.YtkohmodnjcoapaaGreatDoor

namespace Go.Proofs.YtkohmodnjcoapaaGreatDoor.keyTells
open Go Go.ChangeShapes Go.WideShapes Go.ChangeAt Go.RowKit Go.Proofs.YtkohmodnjcoapaaGreatDoor

set_option maxRecDepth 100000 in
theorem lifted (os : Os) (started : os.Started) (H : Type) (enc : TypeId × Value → H) :
    ReturnsInHanded {} Tryz.checked os 4 .any (fun w args => (Rows.keyTellsSpec.pre enc Tryz.prog Tryz.f4 Rows.keyTellsRow.domain false w args ∧ laidMet Tryz.prog laidK w) ∧ sizedMet enc Tryz.prog Tryz.f4 (OpenSpec.ofChange Rows.keyTellsSpec) false w args)
      (Rows.keyTellsSpec.post enc Tryz.prog Tryz.f4 false true false false) := by
  refine returnsInHanded_of_change_and (C := Tryz.checked) (X := fun w _ => laidMet Tryz.prog laidK w) (fun _ _ _ hh h => h.of_heap hh) own_knob started (by kernel_rfl) Tryz.func4
    (ChangeSpec.witness_at (enc := enc) (C := Tryz.checked) (os := os) (X := fun w _ => laidMet Tryz.prog laidK w) false (laidWorld os) #[.agg #[.int .i64 0, .int .i64 0, .int .i64 0], .agg #[.int .i64 0, .int .i64 0, .int .i64 0], .int .i64 0] 8 rfl (by kernel_rfl) (by kernel_rfl) (by kernel_rfl) (by kernel_rfl) (by kernel_rfl) (laidWorld_met os _)) ?_
  intro W base args ds gs before hval0 hW _ hsz0 hL _
  have hval : ∀ (j : Nat) t v, Tryz.f4.params[j]? = some t → args[j]? = some v → Value.okWide Tryz.prog W .any base t v := hval0
  have hW' := hW
  obtain ⟨p, q, hA0, hV, rfl, hfz, hnd⟩ := hW
  have hA : DataW.TrodAll enc Tryz.prog W 0 (fun _ => true) true Tryz.f4.params.toList args.toList ds p := hA0
  rw [Tryz.params4] at hA hval
  obtain ⟨v0, vs0, d0, ds0, p0, q0, hargs, rfl, rfl, h0, r0⟩ := trodAll_cons hA
  obtain ⟨v1, vs1, d1, ds1, p1, q1, rfl, rfl, rfl, h1, r1⟩ := trodAll_cons r0
  obtain ⟨v2, vs2, d2, ds2, p2, q2, rfl, rfl, rfl, h2, r2⟩ := trodAll_cons r1
  obtain ⟨rfl, rfl, rfl⟩ := trodAll_nil r2
  obtain rfl : args = #[v0, v1, v2] := by cases args; simp_all
  obtain ⟨rfl, rfl⟩ := trodVars_none hV
  clear hA0 hval0
  simp only [List.append_nil] at hW'
  have l0 : ∀ x ∈ p0, x.block < W.heap.size := fun x hx => hW'.lt x (by simp [hx])
  have t0 := fun W' (hb : Below W.heap.size W W') => Below.trod laid_own (by kernel_rfl) (of_decide_eq_true (by kernel_rfl)) h0 hb l0
  have l1 : ∀ x ∈ p1, x.block < W.heap.size := fun x hx => hW'.lt x (by simp [hx])
  have t1 := fun W' (hb : Below W.heap.size W W') => Below.trod laid_own (by kernel_rfl) (of_decide_eq_true (by kernel_rfl)) h1 hb l1
  have l2 : ∀ x ∈ p2, x.block < W.heap.size := fun x hx => hW'.lt x (by simp [hx])
  have t2 := fun W' (hb : Below W.heap.size W W') => Below.trod laid_own (by kernel_rfl) (of_decide_eq_true (by kernel_rfl)) h2 hb l2
  obtain ⟨x0, rfl⟩ := key_arg (hval 0 28 v0 rfl rfl) h0
  obtain ⟨x1, rfl⟩ := key_arg (hval 1 28 v1 rfl rfl) h1
  obtain ⟨z2, rfl, _, _, _⟩ := open_int Tryz.underlying3 (hval 2 3 v2 rfl rfl) h2
  refine (KeyTells_any x0 x1 z2 W (laid7_of hL)).mono fun e W' ⟨he, hg0⟩ => ?_
  have hg := hg0.below (Nat.le_refl _) (fun _ _ h => h)
  subst he
  exact ⟨_, rfl, post_belowK (pa := (p0 ++ (p1 ++ (p2 ++ [])))) (pv := []) hW' (fun _ _ _ => (trodAll_cons_mk (shut_bool Tryz.underlying4 _) trodAll_mk0)) (trodAll_cons_mk (t0 _ hg) (trodAll_cons_mk (t1 _ hg) (trodAll_cons_mk (t2 _ hg) trodAll_mk0))) (fun _ _ => rfl) hg⟩

theorem over : Rows.keyTellsRow.holds Tryz.pinned (OpenSpec.ofChange Rows.keyTellsSpec) :=
  OpenClaim.holds_of_wide 4 Tryz.f4 rfl rfl rfl rfl rfl rfl rfl ⟨rfl, rfl, rfl, rfl, rfl⟩ rfl rfl rfl rfl rfl (by kernel_rfl) Tryz.func4 (by kernel_rfl)
    (of_decide_eq_true (by kernel_rfl)) (by unfold Func.isWrapper; first | (rw [if_pos (by decide +kernel)]; kernel_rfl) | (rw [if_neg (by decide +kernel)]; exact ⟨rfl, rfl⟩))
    (fun os started H enc _ => lifted os started H enc)

theorem proved : Rows.KeyTellsCardSaid :=
  Claim7.holds_tied_plain_at .later [] [.data, .data, .data, .sentinel, .sentinel] true _ true
    over (fun _ h => by cases h) (by kernel_rfl) (fun _ h => by cases h) keyTells_row_tie rfl ⟨rfl, rfl⟩ (by kernel_rfl) rfl
    (fun f fn hf hfn => by
      obtain rfl : f = 4 := Option.some.inj ((show Tryz.prog.funcNamed "fermata/fermatalaw07.KeyTells" = some 4 by kernel_rfl).symm.trans hf) |>.symm
      obtain rfl : fn = Tryz.f4 := (Option.some.inj (Tryz.func4.symm.trans hfn)).symm
      exact ⟨by kernel_rfl, fun j t ht => by
        rw [Tryz.params4] at ht
        have sK : Tryz.prog.wantsStandIn 28 = false := by kernel_rfl
        have si : Tryz.prog.wantsStandIn 3 = false := by kernel_rfl
        have hm : t ∈ [28, 28, 3] := by
          have := Array.mem_of_getElem? ht
          simpa using this
        simp only [List.mem_cons, List.not_mem_nil, or_false, or_self] at hm
        rcases hm with rfl | rfl | rfl
        · exact sK
        · exact sK
        · exact si⟩)
    (by kernel_rfl)
#print axioms proved
end Go.Proofs.YtkohmodnjcoapaaGreatDoor.keyTells
