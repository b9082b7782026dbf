/- EvqApart: the statement: for any input the law returns true, and the arguments read as before; no condition. -/
import Derived.Test.YtmcgipilopfgoaaJb3
import Derived.Test.YtmcgipilopfgoaaJb2
set_option linter.unusedSimpArgs false
set_option linter.unusedVariables false

/-
  EvqApart.
-/
namespace Go.Proofs.Ytmcgipilopfgoaa
open Go Go.RowKit Go.ChangeMaps
attribute [local go_sem ↓] Go.wp_at_zero Go.wp_at_succ
attribute [local go_sem] Oper.semAt_some wide_fn wide_depth wide_fnR wide_depthR

set_option maxRecDepth 100000 in
set_option maxHeartbeats 4000000 in
theorem EvqApart_any {w : World} {u v : Value} {xs ys : List Sme} {t : Int} (hu : SmesAt w u xs) (hv : SmesAt w v ys) (ht : 0 ≤ t ∧ t < 256) :
    Calls Try.prog 7 #[u, v, .int .u8 t] w fun e w' => e = .returned (.bool true) ∧ Fr0 none' w w' := by
  have HU := Lib.hid (fun (W : World) (hf : Fr0 none' w W) => events_any xs 40 (by omega) W (hu.later hf))
  have HV := Lib.hid (fun (W : World) (hf : Fr0 none' w W) => events_any ys 20 (by omega) W (hv.later hf))
  obtain ⟨S0, hS0⟩ : ∃ S, evsE xs 40 = S := ⟨_, rfl⟩
  obtain ⟨S1, hS1⟩ : ∃ S, evsE ys 20 = S := ⟨_, rfl⟩
  have R0 := Lib.hid (evsE_right (xs := xs) (most := 40))
  have O0 := Lib.hid (evsE_once xs 40)
  have L0 := Lib.hid (evsE_le xs 40)
  have L1 := Lib.hid (evsE_le ys 20)
  rw [hS0] at HU R0 O0 L0
  rw [hS1] at HV L1
  clear hu hv hS0 hS1
  go_enter Try.func7, Try.ntmps7
  go_wp2_with fail
  refine (awake_any w).mono ?_
  rintro e w1 ⟨rfl, f1⟩
  have F1 := Lib.hid f1
  clear f1
  go_wp2_with fail
  refine (HU.out w1 F1.out).mono ?_
  rintro e w2 ⟨r, rfl, hr, f2⟩
  obtain ⟨va, vc, rfl, _, hva⟩ := EsIn.of_own hr
  have F2 := Lib.hid (F1.out.trans f2)
  have Hva := Lib.hid hva
  clear f2 hr hva HU
  obtain ⟨n0, hn0⟩ : ∃ n, S0.length = n := ⟨_, rfl⟩
  rw [hn0] at L0 ⊢
  have N0 := Lib.hid hn0
  clear hn0
  go_wp2_with fail
  refine (filled_any (c := 60) (cap := vc) S0 Hva.out N0.out (by have := L0.out; omega) (by omega) R0.out O0.out).mono ?_
  rintro e w3 ⟨qb, ft, r, rfl, hq, hr, hge, hno, hf⟩
  obtain ⟨Z, hZ⟩ : ∃ Z, putsE S0 [] = Z := ⟨_, rfl⟩
  rw [hZ] at hq hr
  have HQ := Lib.hid (show St w w3 qb 60 n0 Z ft from ⟨hq, F2.out.trans hf, fun k hk => Nat.le_trans F2.out.size (hge k hk)⟩)
  have HR := Lib.hid (show KeptR w3 w2.heap.size r Z ft from ⟨hr, hno⟩)
  clear hq hr hge hno hf hZ
  go_wp2_with fail
  have HZ := Lib.hid (show Z.length ≤ 60 from HQ.out.1.le.1)
  refine HQ.out.1.copy.mono ?_
  rintro e w4 ⟨cb, gt, rfl, hc, hgt, hf⟩
  have HCq := Lib.hid (show St w w4 cb 60 Z.length Z gt from ⟨hc, HQ.out.2.1.trans hf, fun k hk => Nat.le_trans HQ.out.2.1.size (hgt k hk)⟩)
  have HD := Lib.hid (show ∀ k, ft k → ¬ gt k from fun k hk hg => by have := HQ.out.1.lt k hk; have := hgt k hg; omega)
  have HRr := Lib.hid (show KeptR w4 w2.heap.size r Z (fun k => ft k ∨ gt k) from ⟨(HR.out.later hf).1, fun g hg hk => hk.elim (HR.out.2 g hg) (fun h => by have := hgt g h; have := (HR.out.1.lt g hg).2; omega)⟩)
  have HQ := Lib.hid (HQ.out.later hf)
  clear hc hgt hf HR
  go_wp2_with fail
  refine HCq.out.1.room.mono ?_
  rintro e w5 ⟨rfl, hf⟩
  have HQ := Lib.hid (HQ.out.later hf)
  have HCq := Lib.hid (HCq.out.later hf)
  have HRr := Lib.hid (HRr.out.later hf)
  clear hf
  go_wp2_with fail
  refine HQ.out.1.room.mono ?_
  rintro e w6 ⟨rfl, hf⟩
  have HQ := Lib.hid (HQ.out.later hf)
  have HCq := Lib.hid (HCq.out.later hf)
  have HRr := Lib.hid (HRr.out.later hf)
  clear hf
  go_wp2_with fail
  refine HCq.out.1.all.mono ?_
  rintro e w7 ⟨va1, rfl, hr1, hf⟩
  have HQ := Lib.hid (HQ.out.later hf)
  have HCq := Lib.hid (HCq.out.later hf)
  have HRr := Lib.hid (HRr.out.later hf)
  clear hf
  obtain ⟨ra, rc, hra, hrz⟩ := HRr.out.slice
  subst hra
  obtain ⟨sa, sc, rfl, _, hsa⟩ := EsIn.of_own hr1
  have HS := Lib.hid (sameEs_any sa ra _ _ sc rc Z Z w7 rfl rfl (by have := HZ.out; omega) (by have := HZ.out; omega) hsa hrz)
  clear hr1 hsa hrz
  rw [decide_eq_true rfl] at HS
  go_wp2_with fail
  refine HS.out.mono ?_
  rintro e w8 ⟨rfl, hf⟩
  have HQ := Lib.hid (HQ.out.later hf)
  have HCq := Lib.hid (HCq.out.later hf)
  have HRr := Lib.hid (HRr.out.later hf)
  clear hf
  clear HS
  go_wp2_with fail
  refine (HV.out w8 HQ.out.2.1).mono ?_
  rintro e w9 ⟨r2, rfl, hr2, hf⟩
  have h29 : ∀ g, r2.ownBlock = some g → w8.heap.size ≤ g := fun g hg => (hr2.lt g hg).1
  have HE := Lib.hid (show KeptR w9 w8.heap.size r2 S1 (fun k => ft k ∨ gt k) from ⟨hr2, fun g hg hk => by
    have h1 := h29 g hg
    rcases hk with hk | hk
    · have := HQ.out.1.lt g hk; omega
    · have := HCq.out.1.lt g hk; omega⟩)
  obtain ⟨ea, ec, rfl, _, _⟩ := EsIn.of_own hr2
  clear h29 hr2 HV
  have HQ := Lib.hid (HQ.out.later hf)
  have HCq := Lib.hid (HCq.out.later hf)
  have HRr := Lib.hid (HRr.out.later hf)
  clear hf
  obtain ⟨n1, hn1⟩ : ∃ n, S1.length = n := ⟨_, rfl⟩
  rw [hn1] at L1 ⊢
  have N1 := Lib.hid hn1
  rw [hn1] at HE
  clear hn1
  go_wp2_with fail
  have hn20 : n1 ≤ 20 := L1.out
  go_loopw [12, 53] (fun _ i wr => ∃ (k : Nat) (E : List Ev) (gk : Nat → Prop), k ≤ n1 ∧ i = .int .i64 k ∧ Hid (St w wr qb 60 n0 Z ft) ∧ Hid (St w wr cb 60 (Z.length + k) E gk) ∧ Hid (∀ k, ft k → ¬ gk k) ∧ Hid (KeptR wr w2.heap.size (.slice ra Z.length rc) Z (fun k => ft k ∨ gk k)) ∧ Hid (KeptR wr w8.heap.size (.slice ea n1 ec) S1 (fun k => ft k ∨ gk k))) (fun _ i _ => n1 - (Go.RowKit.intOf i).toNat)
  case atStart => exact ⟨0, Z, gt, Nat.zero_le _, rfl, HQ, HCq, HD, HRr, HE⟩
  case round =>
    obtain ⟨k, E, gk, hk, rfl, HQ, HCq, HD, HRr, HE⟩ := hrel
    by_cases hlt : k < n1
    · obtain ⟨x, hx⟩ : ∃ x, S1[k]? = some x := ⟨_, List.getElem?_eq_getElem (by rw [N1.out]; exact hlt)⟩
      obtain ⟨_, _, hEe, hEi⟩ := HE.out.slice
      injection hEe with hE1 hE2 hE3
      subst hE1
      obtain ⟨g2, o, rfl, hxc⟩ := hEi k x hx
      obtain ⟨x0, x1, x2, x3, x4⟩ := hxc
      have k1 : (0 : Int) ≤ (k : Int) := by omega
      have k2 : (k : Int) < (n1 : Int) := by omega
      clear hx hE2 hE3 hEi
      go_wp2_with fail
      obtain ⟨W3, hW3⟩ : ∃ W, wr.alloc (.cells #[.int .i64 x.key.time, .int .i64 x.key.source, .int .i64 x.key.seq, .int .i64 x.to, .int .i64 x.value] 34) = W := ⟨_, rfl⟩
      have hf : Fr0 none' wr W3 := by rw [← hW3]; exact (Fr0.refl _ _).alloc _
      have HE := Lib.hid (HE.out.later hf)
      have HQ := Lib.hid (HQ.out.later hf)
      have HCq := Lib.hid (HCq.out.later hf)
      have HRr := Lib.hid (HRr.out.later hf)
      clear hf
      rw [hW3]
      have HP := HCq.out.1.put1 x (by have := HZ.out; have := L1.out; omega)
      simp only [evV] at HP
      clear x0 x1 x2 x3 x4 hW3
      refine HP.mono ?_
      rintro e w4 ⟨rfl, hq, hf⟩
      clear HP
      have hs := @qgrow_or gk W3 w4
      have HE := Lib.hid (HE.out.right hs hf)
      have HRr := Lib.hid (HRr.out.right hs hf)
      have HDn := Lib.hid (HQ.out.apart HD.out hs)
      have HQ := Lib.hid (HQ.out.other HCq.out.2.2 HD.out hf)
      have HCq := Lib.hid (HCq.out.step2 hq hs hf)
      have HD := HDn
      clear hq hs hf
      go_wp2_with fail
      go_roundw
      case rel => exact ⟨k + 1, _, _, by omega, by go_num, HQ, HCq, HD, HRr, HE⟩
      case measure => simp [Go.RowKit.intOf]; omega
    · have hkn : k = n1 := by omega
      subst hkn
      go_wp2_with fail
      have hT := HCq.out.1.takeBefore (t % 16) (by have := HZ.out; have := L1.out; omega)
      refine hT.mono ?_
      rintro e w10 ⟨v10, gt10, rfl, hr, hq, hs, _, hf⟩
      clear hr hT
      have HE := Lib.hid (HE.out.right hs hf)
      have HRr := Lib.hid (HRr.out.right hs hf)
      have HDn := Lib.hid (HQ.out.apart HD.out hs)
      have HQ := Lib.hid (HQ.out.other HCq.out.2.2 HD.out hf)
      have HCq := Lib.hid (HCq.out.step2 hq hs hf)
      have HD := HDn
      clear hq hs hf
      go_wp2_with fail
      refine HQ.out.1.all.mono ?_
      rintro e w11 ⟨v11, rfl, hr1, hf⟩
      have HQ := Lib.hid (HQ.out.later hf)
      have HCq := Lib.hid (HCq.out.later hf)
      have HRr := Lib.hid (HRr.out.later hf)
      clear hf
      obtain ⟨_, _, hRe, hrz⟩ := HRr.out.slice
      injection hRe with hE1 hE2 hE3
      subst hE1
      obtain ⟨sa, sc, rfl, _, hsa⟩ := EsIn.of_own hr1
      have HS := Lib.hid (sameEs_any sa ra _ _ sc rc Z Z w11 rfl rfl (by have := HZ.out; omega) (by have := HZ.out; omega) hsa hrz)
      clear hr1 hsa hrz hE2 hE3
      rw [decide_eq_true rfl] at HS
      go_wp2_with fail
      refine HS.out.mono ?_
      rintro e w12 ⟨rfl, hf⟩
      have HQ := Lib.hid (HQ.out.later hf)
      have HCq := Lib.hid (HCq.out.later hf)
      have HRr := Lib.hid (HRr.out.later hf)
      clear hf
      clear HS
      go_wp2_with fail
      obtain ⟨Y, hY⟩ : ∃ Y, aftE (t % 16) E = Y := ⟨_, rfl⟩
      rw [hY] at HCq
      have HY := Lib.hid (HCq.out.1.le.1)
      refine HCq.out.1.all.mono ?_
      rintro e w13 ⟨v13, rfl, hr1, hf⟩
      have h13 : ∀ g, v13.ownBlock = some g → w12.heap.size ≤ g := fun g hg => (hr1.lt g hg).1
      have HE := Lib.hid (show KeptR w13 w12.heap.size v13 Y (fun k => ft k ∨ gt10 k) from ⟨hr1, fun g hg hk => by
        have h1 := h13 g hg
        rcases hk with hk | hk
        · have := HQ.out.1.lt g hk; omega
        · have := HCq.out.1.lt g hk; omega⟩)
      obtain ⟨ya, yc, rfl, _, _⟩ := EsIn.of_own hr1
      clear h13 hr1 hY
      have HQ := Lib.hid (HQ.out.later hf)
      have HCq := Lib.hid (HCq.out.later hf)
      have HRr := Lib.hid (HRr.out.later hf)
      clear hf
      go_wp2_with fail
      refine (HQ.out.1.clear (by have := N0.out; have := L0.out; omega)).mono ?_
      rintro e w14 ⟨rfl, hq, hf⟩
      have hs := @qgrow_or ft w13 w14
      have HE := Lib.hid (HE.out.left hs hf)
      have HDn := Lib.hid (HCq.out.apart (fun k h1 h2 => HD.out k h2 h1) hs)
      have HCq := Lib.hid (HCq.out.other HQ.out.2.2 (fun k h1 h2 => HD.out k h2 h1) hf)
      have HQ := Lib.hid (HQ.out.step2 hq hs hf)
      have HD := HDn
      clear hq hs hf
      go_wp2_with fail
      refine HQ.out.1.len.mono ?_
      rintro e w15 ⟨rfl, rfl⟩
      go_wp2_with fail
      refine HQ.out.1.room.mono ?_
      rintro e w16 ⟨rfl, hf⟩
      have HE := Lib.hid (HE.out.later hf)
      have HQ := Lib.hid (HQ.out.later hf)
      have HCq := Lib.hid (HCq.out.later hf)
      clear hf
      simp only [List.length_nil, Nat.sub_zero]
      go_wp2_with fail
      refine HCq.out.1.all.mono ?_
      rintro e w17 ⟨v17, rfl, hr1, hf⟩
      have HE := Lib.hid (HE.out.later hf)
      have HQ := Lib.hid (HQ.out.later hf)
      clear hf
      obtain ⟨_, _, hRe, hrz⟩ := HE.out.slice
      injection hRe with hE1 hE2 hE3
      subst hE1
      obtain ⟨sa, sc, rfl, _, hsa⟩ := EsIn.of_own hr1
      have HS := Lib.hid (sameEs_any sa ya _ _ sc yc Y Y w17 rfl rfl (by have := HY.out; omega) (by have := HY.out; omega) hsa hrz)
      clear hr1 hsa hrz hE2 hE3
      rw [decide_eq_true rfl] at HS
      go_wp2_with fail
      refine HS.out.mono ?_
      rintro e w18 ⟨rfl, hf⟩
      have HF := Lib.hid (HQ.out.2.1.trans hf)
      clear HS hf
      go_wp2_with fail
      go_ret
      exact ⟨rfl, HF.out⟩
end Go.Proofs.Ytmcgipilopfgoaa

namespace Go.Proofs.Ytmcgipilopfgoaa.evqApart
open Go.ChangeShapes Go.WideShapes Go.ChangeAt Go.RowKit Go.Proofs.Ytmcgipilopfgoaa

set_option maxRecDepth 100000 in
theorem lifted (os : Os) (started : os.Started) (H : Type) (enc : TypeId × Value → H) :
    ReturnsInHanded {} Try.checked os 7 .any (Rows.evqApartSpec.pre6 enc Try.prog Try.f7 Rows.evqApartRow.domain false) (Rows.evqApartSpec.post enc Try.prog Try.f7 false true false false) := by
  refine returnsInHanded_of_change (C := Try.checked) own_knob started (by kernel_rfl) Try.func7
    (ChangeSpec.witness6 (enc := enc) (C := Try.checked) false ⟨#[], #[.slice none 0 0, .slice none 0 0, .int .u8 0], []⟩ 8 (by kernel_rfl) (by kernel_rfl) (by kernel_rfl) (by kernel_rfl)) ?_
  intro W base args ds gs before hval0 hW hcnd _
  have hval : ∀ (j : Nat) t v, Try.f7.params[j]? = some t → args[j]? = some v → Value.okWide Try.prog W .any base t v := hval0
  have hW' := hW
  obtain ⟨p, q, hA0, hV, rfl, hfz, hnd⟩ := hW
  have hA : DataW.TrodAll enc Try.prog W 0 (fun _ => true) true Try.f7.params.toList args.toList ds p := hA0
  rw [Try.params7] at hA hval
  obtain ⟨v0, vs0, d0, ds0, p0, q0, hargs, rfl, rfl, h0, r0⟩ := trodAll_cons hA
  obtain ⟨v1, vs1, d1, ds1, p1, q1, rfl, rfl, rfl, h1, r1⟩ := trodAll_cons r0
  obtain ⟨v2, vs2, d2, ds2, p2, q2, rfl, rfl, rfl, h2, r2⟩ := trodAll_cons r1
  obtain ⟨rfl, rfl, rfl⟩ := trodAll_nil r2
  obtain rfl : args = #[v0, v1, v2] := by cases args; simp_all
  obtain ⟨rfl, rfl⟩ := trodVars_none hV
  clear hA0 hval0
  simp only [List.append_nil] at hW'
  have l0 : ∀ x ∈ p0, x.block < W.heap.size := fun x hx => hW'.lt x (by simp [hx])
  have t0 := fun W' (hb : Below W.heap.size W W') => Below.trod laid_own (by kernel_rfl) (of_decide_eq_true (by kernel_rfl)) h0 hb l0
  have l1 : ∀ x ∈ p1, x.block < W.heap.size := fun x hx => hW'.lt x (by simp [hx])
  have t1 := fun W' (hb : Below W.heap.size W W') => Below.trod laid_own (by kernel_rfl) (of_decide_eq_true (by kernel_rfl)) h1 hb l1
  have l2 : ∀ x ∈ p2, x.block < W.heap.size := fun x hx => hW'.lt x (by simp [hx])
  have t2 := fun W' (hb : Below W.heap.size W W') => Below.trod laid_own (by kernel_rfl) (of_decide_eq_true (by kernel_rfl)) h2 hb l2
  obtain ⟨xs0, hx0⟩ := smalls_arg (hval 0 22 v0 rfl rfl) h0
  obtain ⟨xs1, hx1⟩ := smalls_arg (hval 1 22 v1 rfl rfl) h1
  obtain ⟨a2, rfl, _, _, w2⟩ := open_int Try.underlying5 (hval 2 5 v2 rfl rfl) h2
  have b2 : 0 ≤ a2 ∧ a2 < 256 := by
    have := bounds_u8 w2
    omega
  refine (EvqApart_any hx0 hx1 b2).mono fun e W' ⟨he, hf⟩ => ?_
  have hg : Below W.heap.size W W' := hf.below (Nat.le_refl _) (fun _ _ h => h)
  subst he
  exact ⟨_, rfl, post_below2 (pa := p0 ++ (p1 ++ (p2 ++ ([])))) (pv := []) hW' (fun _ _ _ => (trodAll_cons_mk (shut_bool Try.underlying4 _) trodAll_mk0)) (trodAll_cons_mk (t0 _ hg) (trodAll_cons_mk (t1 _ hg) (trodAll_cons_mk (t2 _ hg) trodAll_mk0))) (fun _ _ => rfl) hg⟩

theorem over : Rows.evqApartRow.holds Try.pinned (OpenSpec.ofChange Rows.evqApartSpec) :=
  OpenClaim.holds_of_wide 7 Try.f7 rfl rfl rfl rfl rfl rfl rfl ⟨rfl, rfl, rfl, rfl, rfl⟩ rfl rfl rfl rfl rfl (by kernel_rfl) Try.func7 (by kernel_rfl)
    (of_decide_eq_true (by kernel_rfl)) (by unfold Func.isWrapper; first | (rw [if_pos (by decide +kernel)]; kernel_rfl) | (rw [if_neg (by decide +kernel)]; exact ⟨rfl, rfl⟩))
    (fun os started H enc _ => lifted os started H enc)

theorem proved : Rows.EvqApartSaid := over
#print axioms proved
end Go.Proofs.Ytmcgipilopfgoaa.evqApart
