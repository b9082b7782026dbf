/- SpaceRenames: the statement: for any slice of small numbers and any numbers the law returns true, and the arguments read as before; no condition. -/
import Derived.Test.YtkchpngkmchamaaJb2
set_option linter.unusedSimpArgs false
set_option linter.unusedVariables false

/-
  SpaceRenames.
-/
namespace Go.Proofs.Ytkchpngkmchamaa
open Go.RowKit Go.Maps
attribute [local go_sem ↓] Go.wp_at_zero Go.wp_at_succ
attribute [local go_sem high] run_eql_pt run_neq_pt

theorem renP_same {lim nx : Int} {L : List Pt} (h : SpOK lim nx L) {p : Pt} (hp : p ∈ L) : renP L p.number p.name = L := by
  unfold renP
  conv => rhs; rw [← List.map_id L]
  refine List.map_congr_left (fun q hq => ?_)
  by_cases e : q.number = p.number
  · rw [if_pos e]
    have := h.num_inj hq hp e
    subst this; rfl
  · rw [if_neg e]; rfl
theorem renE_at {L : List Pt} {p : Pt} {s : Bs} (hat : atP L p.number = some p) (hs : rightB s = true) : renE L p.number s = if (nameP L s).isSome = true ∧ ¬ p.name = s then 240 else 0 := by
  unfold renE; rw [hat]; simp only; rw [if_neg (by rw [hs]; simp)]
theorem nameP_ren {lim nx : Int} {L : List Pt} (h : SpOK lim nx L) {p : Pt} (hp : p ∈ L) {s : Bs} (hs : rightB s = true) (hfree : ∀ q ∈ L, q.name = s → q = p) : nameP (renP L p.number s) s = some { p with name := s } :=
  (nameP_some (h.ren hp hs hfree).names).2 ⟨renP_mem.2 (.inr ⟨p, hp, rfl, rfl⟩), rfl⟩
theorem nameP_old {lim nx : Int} {L : List Pt} (h : SpOK lim nx L) {p : Pt} (hp : p ∈ L) {s : Bs} (hs : rightB s = true) (hfree : ∀ q ∈ L, q.name = s → q = p) : (nameP (renP L p.number s) p.name).isSome = decide (s = p.name) := by
  rw [Bool.eq_iff_iff, decide_eq_true_iff]
  constructor
  · intro hi
    obtain ⟨x, hx⟩ := Option.isSome_iff_exists.1 hi
    obtain ⟨h1, h2⟩ := (nameP_some (h.ren hp hs hfree).names).1 hx
    rcases renP_mem.1 h1 with ⟨g1, g2⟩ | ⟨y, _, _, rfl⟩
    · exact absurd (by rw [h.name_inj g1 hp h2]) g2
    · exact h2
  · rintro rfl
    rw [nameP_ren h hp hs hfree]; rfl

set_option maxRecDepth 100000 in
set_option maxHeartbeats 16000000 in
theorem SpaceRenames_any {w : World} {u : Value} {xs : List Sm3} (hu : SmallsAt w u xs) (y : Int) (hy : 0 ≤ y ∧ y < 256) (z : Int) (hz : 0 ≤ z ∧ z < 256) (tn : Nat) (htn : tn < 65536) :
    Calls Try.prog 6 #[u, .int .u8 y, .int .u8 z, .int .u16 (tn : Int)] w fun e w' => e = .returned (.bool true) ∧ Fr0 none' w w' := by
  obtain ⟨hy1, hy2⟩ := hy
  obtain ⟨hz1, hz2⟩ := hz
  go_enter Try.func6, Try.ntmps6
  go_wp2_with fail
  refine (sawake_any _).mono ?_
  rintro e w1 ⟨rfl, hf1⟩
  have F1 := Lib.hid hf1
  clear hf1
  go_wp2_with fail
  refine (smade_any (hu.later F1.out)).mono ?_
  rintro e w2 ⟨sb, mb, nv, nx, L, rfl, hS, hG⟩
  have S := Lib.hid (hS.base F1.out)
  have G := Lib.hid hG
  clear hS hG F1
  go_wp2_with fail
  refine (all_st S.out).mono ?_
  rintro e w3 ⟨u, rfl, hu3, hf⟩
  have S := Lib.hid (S.out.later hf)
  obtain ⟨ua, uc, rfl, hin⟩ := hu3.row
  have U := Lib.hid hu3
  obtain ⟨l, hl⟩ : ∃ l, L.length = l := ⟨_, rfl⟩
  have Hl := Lib.hid hl
  rw [hl] at U ⊢
  clear hu hu3 hf hl
  by_cases hl0 : l = 0
  · obtain rfl : L = [] := List.eq_nil_of_length_eq_zero (by rw [Hl.out]; exact hl0)
    subst hl0
    clear hin
    go_wp2_with fail
    have HC := rename_st S.out 50 (by omega) [97] (by decide)
    rw [show renE [] 50 [97] = 6 by decide, show renT [] 50 [97] = [] by decide] at HC
    refine HC.mono ?_
    rintro e w4 ⟨rfl, nv4, hS, -⟩
    have S := Lib.hid hS
    clear hS HC
    go_wp2
    go_ret
    exact ⟨rfl, S.out.fr⟩
  · obtain ⟨i, hi⟩ : ∃ q : Nat, y % (l : Int) = q := ⟨(y % (l : Int)).toNat, by have := Int.emod_nonneg y (show (l : Int) ≠ 0 by omega); omega⟩
    have hil : (i : Int) < l := by rw [← hi]; exact Int.emod_lt_of_pos y (by omega)
    have hi0 : (0 : Int) ≤ i := by omega
    have hiw : IntKind.i64.wrap y = y := IntWalk.i64_in _ (by omega)
    obtain ⟨j, hj⟩ : ∃ q : Nat, z % (l : Int) = q := ⟨(z % (l : Int)).toNat, by have := Int.emod_nonneg z (show (l : Int) ≠ 0 by omega); omega⟩
    have hjl : (j : Int) < l := by rw [← hj]; exact Int.emod_lt_of_pos z (by omega)
    have hj0 : (0 : Int) ≤ j := by omega
    have hjw : IntKind.i64.wrap z = z := IntWalk.i64_in _ (by omega)
    have hit : y.tmod (l : Int) = i := by rw [Int.tmod_eq_emod_of_nonneg hy1]; exact hi
    have hjt : z.tmod (l : Int) = j := by rw [Int.tmod_eq_emod_of_nonneg hz1]; exact hj
    obtain ⟨p, hp⟩ : ∃ p, L[i]? = some p := ⟨_, List.getElem?_eq_getElem (by rw [Hl.out]; omega)⟩
    obtain ⟨q, hq⟩ : ∃ p, L[j]? = some p := ⟨_, List.getElem?_eq_getElem (by rw [Hl.out]; omega)⟩
    obtain ⟨g, o, rfl, d0, d1, d2⟩ := hin i p hp
    obtain ⟨g', o', e', e0, e1, e2⟩ := hin j q hq
    cases e'
    have hpL := Lib.hid (List.mem_of_getElem? hp)
    have hqL := Lib.hid (List.mem_of_getElem? hq)
    clear hin hp hq
    obtain ⟨pa, pb, pc⟩ := p
    obtain ⟨qa, qb, qc⟩ := q
    simp only at d0 d1 d2 e0 e1 e2
    go_wp2_with fail
    have Skey := Lib.hid (show ∀ W', Fr0 none' w3 W' → W'.cell? ⟨g, o + i * 3, none⟩ = some (.int .i64 pa) ∧ W'.cell? ⟨g, o + i * 3 + 1, none⟩ = some (.string (bs pb)) ∧ W'.cell? ⟨g, o + i * 3 + 2, none⟩ = some (.int .i64 pc) ∧ W'.cell? ⟨g, o + j * 3, none⟩ = some (.int .i64 qa) ∧ W'.cell? ⟨g, o + j * 3 + 1, none⟩ = some (.string (bs qb)) ∧ W'.cell? ⟨g, o + j * 3 + 2, none⟩ = some (.int .i64 qc) from
      fun W' hf => ⟨hf.later d0, hf.later d1, hf.later d2, hf.later e0, hf.later e1, hf.later e2⟩)
    refine wp_region_held_drew (S := fun W' => W'.cell? ⟨g, o + i * 3, none⟩ = some (.int .i64 pa) ∧ W'.cell? ⟨g, o + i * 3 + 1, none⟩ = some (.string (bs pb)) ∧ W'.cell? ⟨g, o + i * 3 + 2, none⟩ = some (.int .i64 pc) ∧ W'.cell? ⟨g, o + j * 3, none⟩ = some (.int .i64 qa) ∧ W'.cell? ⟨g, o + j * 3 + 1, none⟩ = some (.string (bs qb)) ∧ W'.cell? ⟨g, o + j * 3 + 2, none⟩ = some (.int .i64 qc)) (by kernel_rfl) (Skey.out _ (Fr0.refl none' w3).drew) (fun hHeld => ?_)
    refine take_on (i := 0) (v := .slice (some ⟨g, o, none⟩) l uc) rfl (by kernel_rfl) (by kernel_rfl) (by kernel_rfl) (fun _ _ _ h => h) (by kernel_rfl) (fun W' hSW => ?_) (by assumption) ?_
    · (try dsimp only at hSW)
      first | (go_simp; done) | exact rfl | (go_simp; rfl) | (go_simp; omega)
    try simp only [Act.put, List.setIfInBounds_toArray, List.set_cons_zero, List.set_cons_succ]
    refine take_on (i := 1) (v := .int .u8 y) rfl (by kernel_rfl) (by kernel_rfl) (by kernel_rfl) (fun _ _ _ h => h) (by kernel_rfl) (fun W' hSW => ?_) (by assumption) ?_
    · (try dsimp only at hSW)
      first | (go_simp; done) | exact rfl | (go_simp; rfl) | (go_simp; omega)
    try simp only [Act.put, List.setIfInBounds_toArray, List.set_cons_zero, List.set_cons_succ]
    refine take_on (i := 2) (v := .int .i64 y) rfl (by kernel_rfl) (by kernel_rfl) (by kernel_rfl) (fun _ _ _ h => h) (by kernel_rfl) (fun W' hSW => ?_) (by assumption) ?_
    · (try dsimp only at hSW)
      first | (go_simp; done) | exact rfl | (go_simp; rfl) | (go_simp; omega)
    try simp only [Act.put, List.setIfInBounds_toArray, List.set_cons_zero, List.set_cons_succ]
    refine take_on (i := 3) (v := .slice (some ⟨g, o, none⟩) l uc) rfl (by kernel_rfl) (by kernel_rfl) (by kernel_rfl) (fun _ _ _ h => h) (by kernel_rfl) (fun W' hSW => ?_) (by assumption) ?_
    · (try dsimp only at hSW)
      first | (go_simp; done) | exact rfl | (go_simp; rfl) | (go_simp; omega)
    try simp only [Act.put, List.setIfInBounds_toArray, List.set_cons_zero, List.set_cons_succ]
    refine take_on (i := 4) (v := .int .i64 l) rfl (by kernel_rfl) (by kernel_rfl) (by kernel_rfl) (fun _ _ _ h => h) (by kernel_rfl) (fun W' hSW => ?_) (by assumption) ?_
    · (try dsimp only at hSW)
      first | (go_simp; done) | exact rfl | (go_simp; rfl) | (go_simp; omega)
    try simp only [Act.put, List.setIfInBounds_toArray, List.set_cons_zero, List.set_cons_succ]
    refine take_on (i := 5) (v := .int .i64 i) rfl (by kernel_rfl) (by kernel_rfl) (by kernel_rfl) (fun _ _ _ h => h) (by kernel_rfl) (fun W' hSW => ?_) (by assumption) ?_
    · (try dsimp only at hSW)
      first | (go_simp; done) | exact rfl | (go_simp; rfl) | (go_simp; omega)
    try simp only [Act.put, List.setIfInBounds_toArray, List.set_cons_zero, List.set_cons_succ]
    refine take_on (i := 6) (v := .pointer (some ⟨g, o + i * 3, none⟩)) rfl (by kernel_rfl) (by kernel_rfl) (by kernel_rfl) (fun _ _ _ h => h) (by kernel_rfl) (fun W' hSW => ?_) (by assumption) ?_
    · (try dsimp only at hSW)
      first | (go_simp; done) | exact rfl | (go_simp; rfl) | (go_simp; omega)
    try simp only [Act.put, List.setIfInBounds_toArray, List.set_cons_zero, List.set_cons_succ]
    refine take_on (i := 7) (v := .agg #[.int .i64 pa, .string (bs pb), .int .i64 pc]) rfl (by kernel_rfl) (by kernel_rfl) (by kernel_rfl) (fun _ _ _ h => h) (by kernel_rfl) (fun W' hSW => ?_) (by assumption) ?_
    · (try dsimp only at hSW)
      first | (go_simp; done) | exact rfl | (go_simp; rfl) | (go_simp; omega)
    try simp only [Act.put, List.setIfInBounds_toArray, List.set_cons_zero, List.set_cons_succ]
    refine take_on (i := 8) (v := .slice (some ⟨g, o, none⟩) l uc) rfl (by kernel_rfl) (by kernel_rfl) (by kernel_rfl) (fun _ _ _ h => h) (by kernel_rfl) (fun W' hSW => ?_) (by assumption) ?_
    · (try dsimp only at hSW)
      first | (go_simp; done) | exact rfl | (go_simp; rfl) | (go_simp; omega)
    try simp only [Act.put, List.setIfInBounds_toArray, List.set_cons_zero, List.set_cons_succ]
    refine take_on (i := 9) (v := .int .u8 z) rfl (by kernel_rfl) (by kernel_rfl) (by kernel_rfl) (fun _ _ _ h => h) (by kernel_rfl) (fun W' hSW => ?_) (by assumption) ?_
    · (try dsimp only at hSW)
      first | (go_simp; done) | exact rfl | (go_simp; rfl) | (go_simp; omega)
    try simp only [Act.put, List.setIfInBounds_toArray, List.set_cons_zero, List.set_cons_succ]
    refine take_on (i := 10) (v := .int .i64 z) rfl (by kernel_rfl) (by kernel_rfl) (by kernel_rfl) (fun _ _ _ h => h) (by kernel_rfl) (fun W' hSW => ?_) (by assumption) ?_
    · (try dsimp only at hSW)
      first | (go_simp; done) | exact rfl | (go_simp; rfl) | (go_simp; omega)
    try simp only [Act.put, List.setIfInBounds_toArray, List.set_cons_zero, List.set_cons_succ]
    refine take_on (i := 11) (v := .slice (some ⟨g, o, none⟩) l uc) rfl (by kernel_rfl) (by kernel_rfl) (by kernel_rfl) (fun _ _ _ h => h) (by kernel_rfl) (fun W' hSW => ?_) (by assumption) ?_
    · (try dsimp only at hSW)
      first | (go_simp; done) | exact rfl | (go_simp; rfl) | (go_simp; omega)
    try simp only [Act.put, List.setIfInBounds_toArray, List.set_cons_zero, List.set_cons_succ]
    refine take_on (i := 12) (v := .int .i64 l) rfl (by kernel_rfl) (by kernel_rfl) (by kernel_rfl) (fun _ _ _ h => h) (by kernel_rfl) (fun W' hSW => ?_) (by assumption) ?_
    · (try dsimp only at hSW)
      first | (go_simp; done) | exact rfl | (go_simp; rfl) | (go_simp; omega)
    try simp only [Act.put, List.setIfInBounds_toArray, List.set_cons_zero, List.set_cons_succ]
    refine take_on (i := 13) (v := .int .i64 j) rfl (by kernel_rfl) (by kernel_rfl) (by kernel_rfl) (fun _ _ _ h => h) (by kernel_rfl) (fun W' hSW => ?_) (by assumption) ?_
    · (try dsimp only at hSW)
      first | (go_simp; done) | exact rfl | (go_simp; rfl) | (go_simp; omega)
    try simp only [Act.put, List.setIfInBounds_toArray, List.set_cons_zero, List.set_cons_succ]
    refine take_on (i := 14) (v := .pointer (some ⟨g, o + j * 3, none⟩)) rfl (by kernel_rfl) (by kernel_rfl) (by kernel_rfl) (fun _ _ _ h => h) (by kernel_rfl) (fun W' hSW => ?_) (by assumption) ?_
    · (try dsimp only at hSW)
      first | (go_simp; done) | exact rfl | (go_simp; rfl) | (go_simp; omega)
    try simp only [Act.put, List.setIfInBounds_toArray, List.set_cons_zero, List.set_cons_succ]
    refine take_on (i := 15) (v := .agg #[.int .i64 qa, .string (bs qb), .int .i64 qc]) rfl (by kernel_rfl) (by kernel_rfl) (by kernel_rfl) (fun _ _ _ h => h) (by kernel_rfl) (fun W' hSW => ?_) (by assumption) ?_
    · (try dsimp only at hSW)
      first | (go_simp; done) | exact rfl | (go_simp; rfl) | (go_simp; omega)
    try simp only [Act.put, List.setIfInBounds_toArray, List.set_cons_zero, List.set_cons_succ]
    clear d0 d1 d2 e0 e1 e2 hi hj hiw hjw hit hjt
    refine wpAnyH_ready (rs := [16, 17]) (by kernel_rfl) (by simp) (AllReadyH.cons (op_at rfl) (fun K hK => ?_) (AllReadyH.cons (op_at rfl) (fun K hK => ?_) AllReadyH.nil))
    · rw [if_pos (by kernel_rfl)]
      go_simp
      refine hK.out _ _ (Skey.out _ ((Fr0.refl none' w3).drew.alloc _)) (fun _ => ?_)
      clear hK K
      try simp only [Act.put, List.setIfInBounds_toArray, List.set_cons_zero, List.set_cons_succ]
      refine take_call (i := 17) rfl (by kernel_rfl) (by kernel_rfl) (fun K hK => ?_)
      go_simp
      refine hK.out _ _ (Skey.out _ (((Fr0.refl none' w3).drew.alloc _).alloc _)) (fun _ => ?_)
      clear hK K
      try simp only [Act.put, List.setIfInBounds_toArray, List.set_cons_zero, List.set_cons_succ]
      refine take_call (i := 18) rfl (by kernel_rfl) (by kernel_rfl) (fun K hK => ?_)
      go_simp
      refine hK.out _ _ (Skey.out _ (((Fr0.refl none' w3).drew.alloc _).alloc _)) (fun _ => ?_)
      clear hK K
      try simp only [Act.put, List.setIfInBounds_toArray, List.set_cons_zero, List.set_cons_succ]
      refine take_call (i := 19) rfl (by kernel_rfl) (by kernel_rfl) (fun K hK => ?_)
      go_simp
      refine hK.out _ _ (Skey.out _ (((Fr0.refl none' w3).drew.alloc _).alloc _)) (fun _ => ?_)
      clear hK K
      try simp only [Act.put, List.setIfInBounds_toArray, List.set_cons_zero, List.set_cons_succ]
      refine wpAnyH_done (by kernel_rfl) ?_ _
      clear hHeld
      obtain ⟨W4, hW4⟩ : ∃ W, ((w3.alloc (.cells #[.int .i64 pa, .string (bs pb), .int .i64 pc] 35)).alloc (.cells #[.int .i64 qa, .string (bs qb), .int .i64 qc] 35)).drew = W := ⟨_, rfl⟩
      have f4 : Fr0 none' w3 W4 := by rw [← hW4]; exact (((Fr0.refl none' w3).alloc _).alloc _).drew
      have hU4 := U.out.later f4
      have hS4 : SpSt w W4 sb mb nv 10 nx L [(w3.heap.size, .cells #[.int .i64 pa, .string (bs pb), .int .i64 pc] 35 (0, 0)), (w3.heap.size + 1, .cells #[.int .i64 qa, .string (bs qb), .int .i64 qc] 35 (0, 0))] := by
        rw [← hW4]
        have h := ((S.out.alloc (.cells #[.int .i64 pa, .string (bs pb), .int .i64 pc] 35)).alloc (.cells #[.int .i64 qa, .string (bs qb), .int .i64 qc] 35)).later (Fr0.refl none' _).drew
        rw [World.size_alloc] at h
        exact h.less (fun x hx => by simp at hx ⊢; rcases hx with hx | hx <;> simp [hx])
      rw [hW4]
      obtain ⟨QB, hQB⟩ : ∃ X, w3.heap.size + 1 = X := ⟨_, rfl⟩
      rw [hQB] at hS4 ⊢
      obtain ⟨PB, hPB⟩ : ∃ X, w3.heap.size = X := ⟨_, rfl⟩
      rw [hPB] at hS4 ⊢
      clear hW4 f4 hQB hPB
      have S := Lib.hid hS4
      have U := Lib.hid hU4
      clear hS4 hU4 Skey
      have pp := (S.out.ex (PB, .cells #[.int .i64 pa, .string (bs pb), .int .i64 pc] 35 (0, 0)) (by simp)).1
      have w0 := cells_in pp 0
      have w1 := cells_in pp 1
      have w2 := cells_in pp 2
      simp at w0 w1 w2
      clear pp
      have qq := (S.out.ex (QB, .cells #[.int .i64 qa, .string (bs qb), .int .i64 qc] 35 (0, 0)) (by simp)).1
      have v0 := cells_in qq 0
      have v1 := cells_in qq 1
      have v2 := cells_in qq 2
      simp at v0 v1 v2
      clear qq
      have hnum := Lib.hid (show 1 ≤ pa ∧ pa < 4294967296 from by have := S.out.is.ok.lo _ hpL.out; have := S.out.is.ok.nxt; simp only at *; omega)
      have hpr := Lib.hid (show rightB pb = true from S.out.is.ok.right _ hpL.out)
      have hqr := Lib.hid (show rightB qb = true from S.out.is.ok.right _ hqL.out)
      have hpl := Lib.hid (show pb.length ≤ 1000 from by have := rightB_len hpr.out; omega)
      have hql := Lib.hid (show qb.length ≤ 1000 from by have := rightB_len hqr.out; omega)
      have Hat := Lib.hid (show atP L pa = some ⟨pa, pb, pc⟩ from (atP_some S.out.is.ok.ord).2 ⟨hpL.out, rfl⟩)
      have hs0 : (bs []).toList = [] := by rw [Lib.toList_data]; rfl
      go_wp2_with fail
      by_cases hpq : (⟨pa, pb, pc⟩ : Pt) = ⟨qa, qb, qc⟩
      · injection hpq with h1 h2 h3
        subst h1 h2 h3
        have hE : renE L pa pb = 0 := by
          rw [show renE L pa pb = _ from renE_at (p := ⟨pa, pb, pc⟩) Hat.out hpr.out]; simp
        have HC := rename_st S.out pa (by have := hnum.out; omega) pb (by have := hpl.out; omega)
        have hsame := renP_same S.out.is.ok hpL.out
        simp only at hsame
        rw [show renT L pa pb = pb by unfold renT getP; rw [hE, Hat.out]; rfl, show renL L pa pb = L by unfold renL; rw [hE]; exact hsame, hE] at HC
        clear hsame hE
        refine HC.mono ?_
        rintro e W5 ⟨rfl, nv5, hS, hst⟩
        have U := Lib.hid (U.out.step hst)
        have S := Lib.hid hS
        clear HC hS hst w0 w1 w2 v0 v1 v2
        have pp := (S.out.ex (PB, .cells #[.int .i64 pa, .string (bs pb), .int .i64 pc] 35 (0, 0)) (by simp)).1
        have w0 := cells_in pp 0
        have w1 := cells_in pp 1
        have w2 := cells_in pp 2
        simp at w0 w1 w2
        clear pp
        have qq := (S.out.ex (QB, .cells #[.int .i64 pa, .string (bs pb), .int .i64 pc] 35 (0, 0)) (by simp)).1
        have v0 := cells_in qq 0
        have v1 := cells_in qq 1
        have v2 := cells_in qq 2
        simp at v0 v1 v2
        clear qq
        go_wp2_with fail
        clear w0 w1 w2 v0 v1 v2
        refine (all_st S.out).mono ?_
        rintro e W6 ⟨u, rfl, hu2, hf⟩
        have S := Lib.hid (S.out.later hf)
        have U := Lib.hid (U.out.later hf)
        obtain ⟨va, vc, rfl, hva⟩ := hu2.row
        rw [Hl.out]
        have hua : PtsIn W6 (some ⟨g, o, none⟩) L := by
          obtain ⟨ua', uc', e1, hua⟩ := U.out.row
          injection e1 with e1
          subst e1
          exact hua
        have HC := sameP_any va _ l l vc uc L L W6 Hl.out Hl.out (by have := S.out.is.ok.small; have := Hl.out; omega) (by have := S.out.is.ok.small; have := Hl.out; omega) hva hua
        rw [decide_eq_true (rfl : L = L)] at HC
        clear hu2 hf hva hua
        go_wp2_with fail
        refine HC.mono ?_
        rintro e W7 ⟨rfl, hf⟩
        have S := Lib.hid (S.out.later hf)
        have U := Lib.hid (U.out.later hf)
        clear hf HC
        have pp := (S.out.ex (PB, .cells #[.int .i64 pa, .string (bs pb), .int .i64 pc] 35 (0, 0)) (by simp)).1
        have w0 := cells_in pp 0
        have w1 := cells_in pp 1
        have w2 := cells_in pp 2
        simp at w0 w1 w2
        clear pp
        go_wp2_with fail
        obtain ⟨s, hs⟩ : ∃ s, madeB tn = s := ⟨_, rfl⟩
        have hM := Made_any tn W7 htn
        rw [hs] at hM
        have Hsr := Lib.hid (show rightB s = true from hs ▸ madeB_right tn)
        have Hsl := Lib.hid (show s.length ≤ 20 from hs ▸ madeB_len tn)
        refine hM.mono ?_
        rintro e W8 ⟨rfl, hbe⟩
        have S := Lib.hid (S.out.later (below_to0 hbe))
        have U := Lib.hid (U.out.later (below_to0 hbe))
        clear hM hbe hs w0 w1 w2
        have pp := (S.out.ex (PB, .cells #[.int .i64 pa, .string (bs pb), .int .i64 pc] 35 (0, 0)) (by simp)).1
        have w0 := cells_in pp 0
        have w1 := cells_in pp 1
        have w2 := cells_in pp 2
        simp at w0 w1 w2
        clear pp
        go_wp2_with fail
        have hps : (nameP L pb).isSome = true := by rw [← namesP_has]; exact (namesP_mem L pb).2 ⟨_, hpL.out, rfl⟩
        by_cases hc : s = pb
        · have hcs : ((bs s).toList == (bs pb).toList) = true := by rw [str_eq]; simpa using hc
          have hF : findE L s = 0 := by unfold findE; rw [if_neg (by rw [Hsr.out]; simp), hc, if_pos hps]
          have hE : renE L pa s = 0 := by rw [show renE L pa s = _ from renE_at (p := ⟨pa, pb, pc⟩) Hat.out Hsr.out, if_neg (fun h => h.2 hc.symm)]
          have hfree : ∀ x ∈ L, x.name = s → x = ⟨pa, pb, pc⟩ := fun x hx e => S.out.is.ok.name_inj hx hpL.out (e.trans hc)
          have Hc := Lib.hid hc
          clear hc
          have HC := find_st S.out s (by have := Hsl.out; omega)
          obtain ⟨⟨z1, z2, z3⟩, hz⟩ : ∃ p, findP L s = p := ⟨_, rfl⟩
          rw [hz, show findE L s = 0 from hF] at HC
          clear hz
          refine HC.mono ?_
          rintro e W9 ⟨rfl, hf⟩
          simp only [ptV]
          obtain ⟨W10, hW⟩ : ∃ W, W9.alloc (.cells #[.int .i64 z1, .string (bs z2), .int .i64 z3] 35) = W := ⟨_, rfl⟩
          have fW : Fr0 none' W9 W10 := by rw [← hW]; exact (Fr0.refl _ _).alloc _
          have S := Lib.hid (S.out.later (hf.trans fW))
          have U := Lib.hid (U.out.later (hf.trans fW))
          clear HC hf fW w0 w1 w2
          have pp := (S.out.ex (PB, .cells #[.int .i64 pa, .string (bs pb), .int .i64 pc] 35 (0, 0)) (by simp)).1
          have w0 := cells_in pp 0
          have w1 := cells_in pp 1
          have w2 := cells_in pp 2
          simp at w0 w1 w2
          clear pp
          go_wp2_with fail
          clear hW hF
          have hok2 := S.out.is.ok
          have HC := rename_st S.out pa (by have := hnum.out; omega) s (by have := Hsl.out; omega)
          rw [show renT L pa s = pb by unfold renT getP; rw [hE, Hat.out]; rfl, show renL L pa s = renP L pa s by unfold renL; rw [hE]; rfl, hE] at HC
          refine HC.mono ?_
          rintro e W11 ⟨rfl, nv11, hS, hst⟩
          have U := Lib.hid (U.out.step hst)
          have S := Lib.hid hS
          clear HC hS hst w0 w1 w2
          have pp := (S.out.ex (PB, .cells #[.int .i64 pa, .string (bs pb), .int .i64 pc] 35 (0, 0)) (by simp)).1
          have w0 := cells_in pp 0
          have w1 := cells_in pp 1
          have w2 := cells_in pp 2
          simp at w0 w1 w2
          clear pp
          go_wp2_with fail
          have hfind : findP (renP L pa s) s = ⟨pa, s, pc⟩ := by
            unfold findP
            have hn := nameP_ren hok2 hpL.out (s := s) Hsr.out hfree
            simp only at hn
            rw [if_neg (by rw [Hsr.out]; simp), hn]; rfl
          have hfE : findE (renP L pa s) s = 0 := by
            unfold findE
            have hn := nameP_ren hok2 hpL.out (s := s) Hsr.out hfree
            simp only at hn
            rw [if_neg (by rw [Hsr.out]; simp), hn]; rfl
          have hold : findE (renP L pa s) pb = 0 := by
            unfold findE
            have hn := nameP_old hok2 hpL.out (s := s) Hsr.out hfree
            simp only at hn
            rw [if_neg (by rw [hpr.out]; simp), hn, decide_eq_true Hc.out]; rfl
          have HC := find_st S.out s (by have := Hsl.out; omega)
          rw [hfind, hfE] at HC
          clear hfind hfE
          refine HC.mono ?_
          rintro e W12 ⟨rfl, hf⟩
          simp only [ptV]
          obtain ⟨W13, hW⟩ : ∃ W, W12.alloc (.cells #[.int .i64 pa, .string (bs s), .int .i64 pc] 35) = W := ⟨_, rfl⟩
          obtain ⟨NB, hNB⟩ : ∃ X, W12.heap.size = X := ⟨_, rfl⟩
          have S := Lib.hid (show SpSt w W13 sb mb nv11 10 nx (renP L pa s) ((NB, .cells #[.int .i64 pa, .string (bs s), .int .i64 pc] 35 (0, 0)) :: _) from hW ▸ hNB ▸ (S.out.later hf).alloc _)
          clear HC hf w0 w1 w2
          have pp := (S.out.ex (PB, .cells #[.int .i64 pa, .string (bs pb), .int .i64 pc] 35 (0, 0)) (by simp)).1
          have w0 := cells_in pp 0
          have w1 := cells_in pp 1
          have w2 := cells_in pp 2
          simp at w0 w1 w2
          clear pp
          go_wp2_with fail
          clear hW hNB
          have HC := find_st S.out pb (by have := hpl.out; omega)
          obtain ⟨⟨z1, z2, z3⟩, hz⟩ : ∃ p, findP (renP L pa s) pb = p := ⟨_, rfl⟩
          rw [hz, hold] at HC
          clear hz hold
          refine HC.mono ?_
          rintro e W14 ⟨rfl, hf⟩
          simp only [ptV]
          obtain ⟨W15, hW⟩ : ∃ W, W14.alloc (.cells #[.int .i64 z1, .string (bs z2), .int .i64 z3] 35) = W := ⟨_, rfl⟩
          have fW : Fr0 none' W14 W15 := by rw [← hW]; exact (Fr0.refl _ _).alloc _
          have S := Lib.hid (S.out.later (hf.trans fW))
          clear HC hf fW w0 w1 w2
          have pp := (S.out.ex (PB, .cells #[.int .i64 pa, .string (bs pb), .int .i64 pc] 35 (0, 0)) (by simp)).1
          have w0 := cells_in pp 0
          have w1 := cells_in pp 1
          have w2 := cells_in pp 2
          simp at w0 w1 w2
          clear pp
          have nn := (S.out.ex _ (List.mem_cons_self ..)).1
          have n0 := cells_in nn 0
          have n1 := cells_in nn 1
          have n2 := cells_in nn 2
          simp at n0 n1 n2
          clear nn
          have hll : (renP L pa s).length = l := by rw [renP_length, Hl.out]
          go_wp2_with fail
          clear hW
          have HC := SLen_is S.out.is
          rw [hll] at HC
          refine HC.mono ?_
          rintro e W16 ⟨rfl, rfl⟩
          clear HC
          go_wp2_with fail
          refine (Names_is S.out.is).mono ?_
          rintro e W17 ⟨v, rfl, hrow, hf⟩
          obtain ⟨na, nc, rfl, _⟩ := ownsRow_cells hrow
          rw [S.out.is.ok.names_length, hll]
          have S := Lib.hid (S.out.later hf)
          clear hrow hf hll
          go_wp2
          go_ret
          exact ⟨rfl, S.out.fr⟩
        · have hcs : ((bs s).toList == (bs pb).toList) = false := by rw [str_eq]; simpa using hc
          by_cases hn : (nameP L s).isSome = true
          · have hF : findE L s = 0 := by unfold findE; rw [if_neg (by rw [Hsr.out]; simp), if_pos hn]
            have hE : renE L pa s = 240 := by rw [show renE L pa s = _ from renE_at (p := ⟨pa, pb, pc⟩) Hat.out Hsr.out, if_pos ⟨hn, fun h => hc h.symm⟩]
            have HC := find_st S.out s (by have := Hsl.out; omega)
            obtain ⟨⟨z1, z2, z3⟩, hz⟩ : ∃ p, findP L s = p := ⟨_, rfl⟩
            rw [hz, show findE L s = 0 from hF] at HC
            clear hz
            refine HC.mono ?_
            rintro e W9 ⟨rfl, hf⟩
            simp only [ptV]
            obtain ⟨W10, hW⟩ : ∃ W, W9.alloc (.cells #[.int .i64 z1, .string (bs z2), .int .i64 z3] 35) = W := ⟨_, rfl⟩
            have fW : Fr0 none' W9 W10 := by rw [← hW]; exact (Fr0.refl _ _).alloc _
            have S := Lib.hid (S.out.later (hf.trans fW))
            have U := Lib.hid (U.out.later (hf.trans fW))
            clear HC hf fW w0 w1 w2
            have pp := (S.out.ex (PB, .cells #[.int .i64 pa, .string (bs pb), .int .i64 pc] 35 (0, 0)) (by simp)).1
            have w0 := cells_in pp 0
            have w1 := cells_in pp 1
            have w2 := cells_in pp 2
            simp at w0 w1 w2
            clear pp
            go_wp2_with fail
            clear hW hF
            have HC := rename_st S.out pa (by have := hnum.out; omega) s (by have := Hsl.out; omega)
            rw [show renT L pa s = [] by unfold renT getP; rw [hE, Hat.out]; rfl, show renL L pa s = L by unfold renL; rw [hE]; rfl, hE] at HC
            refine HC.mono ?_
            rintro e W11 ⟨rfl, nv11, hS, hst⟩
            have U := Lib.hid (U.out.step hst)
            have S := Lib.hid hS
            clear HC hS hst w0 w1 w2
            have pp := (S.out.ex (PB, .cells #[.int .i64 pa, .string (bs pb), .int .i64 pc] 35 (0, 0)) (by simp)).1
            have w0 := cells_in pp 0
            have w1 := cells_in pp 1
            have w2 := cells_in pp 2
            simp at w0 w1 w2
            clear pp
            go_wp2_with fail
            refine (all_st S.out).mono ?_
            rintro e W6 ⟨u, rfl, hu2, hf⟩
            have S := Lib.hid (S.out.later hf)
            have U := Lib.hid (U.out.later hf)
            obtain ⟨va, vc, rfl, hva⟩ := hu2.row
            rw [Hl.out]
            have hua : PtsIn W6 (some ⟨g, o, none⟩) L := by
              obtain ⟨ua', uc', e1, hua⟩ := U.out.row
              injection e1 with e1
              subst e1
              exact hua
            have HC := sameP_any va _ l l vc uc L L W6 Hl.out Hl.out (by have := S.out.is.ok.small; have := Hl.out; omega) (by have := S.out.is.ok.small; have := Hl.out; omega) hva hua
            rw [decide_eq_true (rfl : L = L)] at HC
            clear hu2 hf hva hua
            go_wp2_with fail
            refine HC.mono ?_
            rintro e W7 ⟨rfl, hf⟩
            have S := Lib.hid (S.out.later hf)
            have U := Lib.hid (U.out.later hf)
            clear hf HC
            go_wp2
            go_ret
            exact ⟨rfl, S.out.fr⟩
          · have hF : findE L s = 6 := by unfold findE; rw [if_neg (by rw [Hsr.out]; simp), if_neg hn]
            have hE : renE L pa s = 0 := by rw [show renE L pa s = _ from renE_at (p := ⟨pa, pb, pc⟩) Hat.out Hsr.out, if_neg (fun h => hn h.1)]
            have hfree : ∀ x ∈ L, x.name = s → x = ⟨pa, pb, pc⟩ := fun x hx e => absurd (by rw [← namesP_has]; exact (namesP_mem L s).2 ⟨x, hx, e⟩) hn
            have HC := find_st S.out s (by have := Hsl.out; omega)
            obtain ⟨⟨z1, z2, z3⟩, hz⟩ : ∃ p, findP L s = p := ⟨_, rfl⟩
            rw [hz, show findE L s = 6 from hF] at HC
            clear hz
            refine HC.mono ?_
            rintro e W9 ⟨rfl, hf⟩
            simp only [ptV]
            obtain ⟨W10, hW⟩ : ∃ W, W9.alloc (.cells #[.int .i64 z1, .string (bs z2), .int .i64 z3] 35) = W := ⟨_, rfl⟩
            have fW : Fr0 none' W9 W10 := by rw [← hW]; exact (Fr0.refl _ _).alloc _
            have S := Lib.hid (S.out.later (hf.trans fW))
            have U := Lib.hid (U.out.later (hf.trans fW))
            clear HC hf fW w0 w1 w2
            have pp := (S.out.ex (PB, .cells #[.int .i64 pa, .string (bs pb), .int .i64 pc] 35 (0, 0)) (by simp)).1
            have w0 := cells_in pp 0
            have w1 := cells_in pp 1
            have w2 := cells_in pp 2
            simp at w0 w1 w2
            clear pp
            go_wp2_with fail
            clear hW hF
            have hok2 := S.out.is.ok
            have HC := rename_st S.out pa (by have := hnum.out; omega) s (by have := Hsl.out; omega)
            rw [show renT L pa s = pb by unfold renT getP; rw [hE, Hat.out]; rfl, show renL L pa s = renP L pa s by unfold renL; rw [hE]; rfl, hE] at HC
            refine HC.mono ?_
            rintro e W11 ⟨rfl, nv11, hS, hst⟩
            have U := Lib.hid (U.out.step hst)
            have S := Lib.hid hS
            clear HC hS hst w0 w1 w2
            have pp := (S.out.ex (PB, .cells #[.int .i64 pa, .string (bs pb), .int .i64 pc] 35 (0, 0)) (by simp)).1
            have w0 := cells_in pp 0
            have w1 := cells_in pp 1
            have w2 := cells_in pp 2
            simp at w0 w1 w2
            clear pp
            go_wp2_with fail
            have hfind : findP (renP L pa s) s = ⟨pa, s, pc⟩ := by
              unfold findP
              have hn := nameP_ren hok2 hpL.out (s := s) Hsr.out hfree
              simp only at hn
              rw [if_neg (by rw [Hsr.out]; simp), hn]; rfl
            have hfE : findE (renP L pa s) s = 0 := by
              unfold findE
              have hn := nameP_ren hok2 hpL.out (s := s) Hsr.out hfree
              simp only at hn
              rw [if_neg (by rw [Hsr.out]; simp), hn]; rfl
            have hold : findE (renP L pa s) pb = 6 := by
              unfold findE
              have hn := nameP_old hok2 hpL.out (s := s) Hsr.out hfree
              simp only at hn
              rw [if_neg (by rw [hpr.out]; simp), hn, decide_eq_false hc]; rfl
            have HC := find_st S.out s (by have := Hsl.out; omega)
            rw [hfind, hfE] at HC
            clear hfind hfE
            refine HC.mono ?_
            rintro e W12 ⟨rfl, hf⟩
            simp only [ptV]
            obtain ⟨W13, hW⟩ : ∃ W, W12.alloc (.cells #[.int .i64 pa, .string (bs s), .int .i64 pc] 35) = W := ⟨_, rfl⟩
            obtain ⟨NB, hNB⟩ : ∃ X, W12.heap.size = X := ⟨_, rfl⟩
            have S := Lib.hid (show SpSt w W13 sb mb nv11 10 nx (renP L pa s) ((NB, .cells #[.int .i64 pa, .string (bs s), .int .i64 pc] 35 (0, 0)) :: _) from hW ▸ hNB ▸ (S.out.later hf).alloc _)
            clear HC hf w0 w1 w2
            have pp := (S.out.ex (PB, .cells #[.int .i64 pa, .string (bs pb), .int .i64 pc] 35 (0, 0)) (by simp)).1
            have w0 := cells_in pp 0
            have w1 := cells_in pp 1
            have w2 := cells_in pp 2
            simp at w0 w1 w2
            clear pp
            go_wp2_with fail
            clear hW hNB
            have HC := find_st S.out pb (by have := hpl.out; omega)
            obtain ⟨⟨z1, z2, z3⟩, hz⟩ : ∃ p, findP (renP L pa s) pb = p := ⟨_, rfl⟩
            rw [hz, hold] at HC
            clear hz hold
            refine HC.mono ?_
            rintro e W14 ⟨rfl, hf⟩
            simp only [ptV]
            obtain ⟨W15, hW⟩ : ∃ W, W14.alloc (.cells #[.int .i64 z1, .string (bs z2), .int .i64 z3] 35) = W := ⟨_, rfl⟩
            have fW : Fr0 none' W14 W15 := by rw [← hW]; exact (Fr0.refl _ _).alloc _
            have S := Lib.hid (S.out.later (hf.trans fW))
            clear HC hf fW w0 w1 w2
            have pp := (S.out.ex (PB, .cells #[.int .i64 pa, .string (bs pb), .int .i64 pc] 35 (0, 0)) (by simp)).1
            have w0 := cells_in pp 0
            have w1 := cells_in pp 1
            have w2 := cells_in pp 2
            simp at w0 w1 w2
            clear pp
            have nn := (S.out.ex _ (List.mem_cons_self ..)).1
            have n0 := cells_in nn 0
            have n1 := cells_in nn 1
            have n2 := cells_in nn 2
            simp at n0 n1 n2
            clear nn
            have hll : (renP L pa s).length = l := by rw [renP_length, Hl.out]
            go_wp2_with fail
            clear hW
            have HC := SLen_is S.out.is
            rw [hll] at HC
            refine HC.mono ?_
            rintro e W16 ⟨rfl, rfl⟩
            clear HC
            go_wp2_with fail
            refine (Names_is S.out.is).mono ?_
            rintro e W17 ⟨v, rfl, hrow, hf⟩
            obtain ⟨na, nc, rfl, _⟩ := ownsRow_cells hrow
            rw [S.out.is.ok.names_length, hll]
            have S := Lib.hid (S.out.later hf)
            clear hrow hf hll
            go_wp2
            go_ret
            exact ⟨rfl, S.out.fr⟩
      · have hne : ¬ pb = qb := fun e => hpq (S.out.is.ok.name_inj hpL.out hqL.out e)
        have dn : samePt ⟨pa, pb, pc⟩ ⟨qa, qb, qc⟩ = false := samePt_ne hpq
        have hE : renE L pa qb = 240 := by
          have hq : (nameP L qb).isSome = true := by rw [← namesP_has]; exact (namesP_mem L qb).2 ⟨_, hqL.out, rfl⟩
          rw [show renE L pa qb = _ from renE_at (p := ⟨pa, pb, pc⟩) Hat.out hqr.out, if_pos ⟨hq, hne⟩]
        have HC := rename_st S.out pa (by have := hnum.out; omega) qb (by have := hql.out; omega)
        rw [show renT L pa qb = [] by unfold renT; rw [hE]; rfl, show renL L pa qb = L by unfold renL; rw [hE]; rfl, hE] at HC
        clear hE hne hpq
        refine HC.mono ?_
        rintro e W5 ⟨rfl, nv5, hS, hst⟩
        have U := Lib.hid (U.out.step hst)
        have S := Lib.hid hS
        clear HC hS hst w0 w1 w2 v0 v1 v2
        have pp := (S.out.ex (PB, .cells #[.int .i64 pa, .string (bs pb), .int .i64 pc] 35 (0, 0)) (by simp)).1
        have w0 := cells_in pp 0
        have w1 := cells_in pp 1
        have w2 := cells_in pp 2
        simp at w0 w1 w2
        clear pp
        have qq := (S.out.ex (QB, .cells #[.int .i64 qa, .string (bs qb), .int .i64 qc] 35 (0, 0)) (by simp)).1
        have v0 := cells_in qq 0
        have v1 := cells_in qq 1
        have v2 := cells_in qq 2
        simp at v0 v1 v2
        clear qq
        go_wp2_with fail
        clear w0 w1 w2 v0 v1 v2
        refine (all_st S.out).mono ?_
        rintro e W6 ⟨u, rfl, hu2, hf⟩
        have S := Lib.hid (S.out.later hf)
        have U := Lib.hid (U.out.later hf)
        obtain ⟨va, vc, rfl, hva⟩ := hu2.row
        rw [Hl.out]
        have hua : PtsIn W6 (some ⟨g, o, none⟩) L := by
          obtain ⟨ua', uc', e1, hua⟩ := U.out.row
          injection e1 with e1
          subst e1
          exact hua
        have HC := sameP_any va _ l l vc uc L L W6 Hl.out Hl.out (by have := S.out.is.ok.small; have := Hl.out; omega) (by have := S.out.is.ok.small; have := Hl.out; omega) hva hua
        rw [decide_eq_true (rfl : L = L)] at HC
        clear hu2 hf hva hua
        go_wp2_with fail
        refine HC.mono ?_
        rintro e W7 ⟨rfl, hf⟩
        have S := Lib.hid (S.out.later hf)
        have U := Lib.hid (U.out.later hf)
        clear hf HC
        have pp := (S.out.ex (PB, .cells #[.int .i64 pa, .string (bs pb), .int .i64 pc] 35 (0, 0)) (by simp)).1
        have w0 := cells_in pp 0
        have w1 := cells_in pp 1
        have w2 := cells_in pp 2
        simp at w0 w1 w2
        clear pp
        go_wp2_with fail
        obtain ⟨s, hs⟩ : ∃ s, madeB tn = s := ⟨_, rfl⟩
        have hM := Made_any tn W7 htn
        rw [hs] at hM
        have Hsr := Lib.hid (show rightB s = true from hs ▸ madeB_right tn)
        have Hsl := Lib.hid (show s.length ≤ 20 from hs ▸ madeB_len tn)
        refine hM.mono ?_
        rintro e W8 ⟨rfl, hbe⟩
        have S := Lib.hid (S.out.later (below_to0 hbe))
        have U := Lib.hid (U.out.later (below_to0 hbe))
        clear hM hbe hs w0 w1 w2
        have pp := (S.out.ex (PB, .cells #[.int .i64 pa, .string (bs pb), .int .i64 pc] 35 (0, 0)) (by simp)).1
        have w0 := cells_in pp 0
        have w1 := cells_in pp 1
        have w2 := cells_in pp 2
        simp at w0 w1 w2
        clear pp
        go_wp2_with fail
        have hps : (nameP L pb).isSome = true := by rw [← namesP_has]; exact (namesP_mem L pb).2 ⟨_, hpL.out, rfl⟩
        by_cases hc : s = pb
        · have hcs : ((bs s).toList == (bs pb).toList) = true := by rw [str_eq]; simpa using hc
          have hF : findE L s = 0 := by unfold findE; rw [if_neg (by rw [Hsr.out]; simp), hc, if_pos hps]
          have hE : renE L pa s = 0 := by rw [show renE L pa s = _ from renE_at (p := ⟨pa, pb, pc⟩) Hat.out Hsr.out, if_neg (fun h => h.2 hc.symm)]
          have hfree : ∀ x ∈ L, x.name = s → x = ⟨pa, pb, pc⟩ := fun x hx e => S.out.is.ok.name_inj hx hpL.out (e.trans hc)
          have Hc := Lib.hid hc
          clear hc
          have HC := find_st S.out s (by have := Hsl.out; omega)
          obtain ⟨⟨z1, z2, z3⟩, hz⟩ : ∃ p, findP L s = p := ⟨_, rfl⟩
          rw [hz, show findE L s = 0 from hF] at HC
          clear hz
          refine HC.mono ?_
          rintro e W9 ⟨rfl, hf⟩
          simp only [ptV]
          obtain ⟨W10, hW⟩ : ∃ W, W9.alloc (.cells #[.int .i64 z1, .string (bs z2), .int .i64 z3] 35) = W := ⟨_, rfl⟩
          have fW : Fr0 none' W9 W10 := by rw [← hW]; exact (Fr0.refl _ _).alloc _
          have S := Lib.hid (S.out.later (hf.trans fW))
          have U := Lib.hid (U.out.later (hf.trans fW))
          clear HC hf fW w0 w1 w2
          have pp := (S.out.ex (PB, .cells #[.int .i64 pa, .string (bs pb), .int .i64 pc] 35 (0, 0)) (by simp)).1
          have w0 := cells_in pp 0
          have w1 := cells_in pp 1
          have w2 := cells_in pp 2
          simp at w0 w1 w2
          clear pp
          go_wp2_with fail
          clear hW hF
          have hok2 := S.out.is.ok
          have HC := rename_st S.out pa (by have := hnum.out; omega) s (by have := Hsl.out; omega)
          rw [show renT L pa s = pb by unfold renT getP; rw [hE, Hat.out]; rfl, show renL L pa s = renP L pa s by unfold renL; rw [hE]; rfl, hE] at HC
          refine HC.mono ?_
          rintro e W11 ⟨rfl, nv11, hS, hst⟩
          have U := Lib.hid (U.out.step hst)
          have S := Lib.hid hS
          clear HC hS hst w0 w1 w2
          have pp := (S.out.ex (PB, .cells #[.int .i64 pa, .string (bs pb), .int .i64 pc] 35 (0, 0)) (by simp)).1
          have w0 := cells_in pp 0
          have w1 := cells_in pp 1
          have w2 := cells_in pp 2
          simp at w0 w1 w2
          clear pp
          go_wp2_with fail
          have hfind : findP (renP L pa s) s = ⟨pa, s, pc⟩ := by
            unfold findP
            have hn := nameP_ren hok2 hpL.out (s := s) Hsr.out hfree
            simp only at hn
            rw [if_neg (by rw [Hsr.out]; simp), hn]; rfl
          have hfE : findE (renP L pa s) s = 0 := by
            unfold findE
            have hn := nameP_ren hok2 hpL.out (s := s) Hsr.out hfree
            simp only at hn
            rw [if_neg (by rw [Hsr.out]; simp), hn]; rfl
          have hold : findE (renP L pa s) pb = 0 := by
            unfold findE
            have hn := nameP_old hok2 hpL.out (s := s) Hsr.out hfree
            simp only at hn
            rw [if_neg (by rw [hpr.out]; simp), hn, decide_eq_true Hc.out]; rfl
          have HC := find_st S.out s (by have := Hsl.out; omega)
          rw [hfind, hfE] at HC
          clear hfind hfE
          refine HC.mono ?_
          rintro e W12 ⟨rfl, hf⟩
          simp only [ptV]
          obtain ⟨W13, hW⟩ : ∃ W, W12.alloc (.cells #[.int .i64 pa, .string (bs s), .int .i64 pc] 35) = W := ⟨_, rfl⟩
          obtain ⟨NB, hNB⟩ : ∃ X, W12.heap.size = X := ⟨_, rfl⟩
          have S := Lib.hid (show SpSt w W13 sb mb nv11 10 nx (renP L pa s) ((NB, .cells #[.int .i64 pa, .string (bs s), .int .i64 pc] 35 (0, 0)) :: _) from hW ▸ hNB ▸ (S.out.later hf).alloc _)
          clear HC hf w0 w1 w2
          have pp := (S.out.ex (PB, .cells #[.int .i64 pa, .string (bs pb), .int .i64 pc] 35 (0, 0)) (by simp)).1
          have w0 := cells_in pp 0
          have w1 := cells_in pp 1
          have w2 := cells_in pp 2
          simp at w0 w1 w2
          clear pp
          go_wp2_with fail
          clear hW hNB
          have HC := find_st S.out pb (by have := hpl.out; omega)
          obtain ⟨⟨z1, z2, z3⟩, hz⟩ : ∃ p, findP (renP L pa s) pb = p := ⟨_, rfl⟩
          rw [hz, hold] at HC
          clear hz hold
          refine HC.mono ?_
          rintro e W14 ⟨rfl, hf⟩
          simp only [ptV]
          obtain ⟨W15, hW⟩ : ∃ W, W14.alloc (.cells #[.int .i64 z1, .string (bs z2), .int .i64 z3] 35) = W := ⟨_, rfl⟩
          have fW : Fr0 none' W14 W15 := by rw [← hW]; exact (Fr0.refl _ _).alloc _
          have S := Lib.hid (S.out.later (hf.trans fW))
          clear HC hf fW w0 w1 w2
          have pp := (S.out.ex (PB, .cells #[.int .i64 pa, .string (bs pb), .int .i64 pc] 35 (0, 0)) (by simp)).1
          have w0 := cells_in pp 0
          have w1 := cells_in pp 1
          have w2 := cells_in pp 2
          simp at w0 w1 w2
          clear pp
          have nn := (S.out.ex _ (List.mem_cons_self ..)).1
          have n0 := cells_in nn 0
          have n1 := cells_in nn 1
          have n2 := cells_in nn 2
          simp at n0 n1 n2
          clear nn
          have hll : (renP L pa s).length = l := by rw [renP_length, Hl.out]
          go_wp2_with fail
          clear hW
          have HC := SLen_is S.out.is
          rw [hll] at HC
          refine HC.mono ?_
          rintro e W16 ⟨rfl, rfl⟩
          clear HC
          go_wp2_with fail
          refine (Names_is S.out.is).mono ?_
          rintro e W17 ⟨v, rfl, hrow, hf⟩
          obtain ⟨na, nc, rfl, _⟩ := ownsRow_cells hrow
          rw [S.out.is.ok.names_length, hll]
          have S := Lib.hid (S.out.later hf)
          clear hrow hf hll
          go_wp2
          go_ret
          exact ⟨rfl, S.out.fr⟩
        · have hcs : ((bs s).toList == (bs pb).toList) = false := by rw [str_eq]; simpa using hc
          by_cases hn : (nameP L s).isSome = true
          · have hF : findE L s = 0 := by unfold findE; rw [if_neg (by rw [Hsr.out]; simp), if_pos hn]
            have hE : renE L pa s = 240 := by rw [show renE L pa s = _ from renE_at (p := ⟨pa, pb, pc⟩) Hat.out Hsr.out, if_pos ⟨hn, fun h => hc h.symm⟩]
            have HC := find_st S.out s (by have := Hsl.out; omega)
            obtain ⟨⟨z1, z2, z3⟩, hz⟩ : ∃ p, findP L s = p := ⟨_, rfl⟩
            rw [hz, show findE L s = 0 from hF] at HC
            clear hz
            refine HC.mono ?_
            rintro e W9 ⟨rfl, hf⟩
            simp only [ptV]
            obtain ⟨W10, hW⟩ : ∃ W, W9.alloc (.cells #[.int .i64 z1, .string (bs z2), .int .i64 z3] 35) = W := ⟨_, rfl⟩
            have fW : Fr0 none' W9 W10 := by rw [← hW]; exact (Fr0.refl _ _).alloc _
            have S := Lib.hid (S.out.later (hf.trans fW))
            have U := Lib.hid (U.out.later (hf.trans fW))
            clear HC hf fW w0 w1 w2
            have pp := (S.out.ex (PB, .cells #[.int .i64 pa, .string (bs pb), .int .i64 pc] 35 (0, 0)) (by simp)).1
            have w0 := cells_in pp 0
            have w1 := cells_in pp 1
            have w2 := cells_in pp 2
            simp at w0 w1 w2
            clear pp
            go_wp2_with fail
            clear hW hF
            have HC := rename_st S.out pa (by have := hnum.out; omega) s (by have := Hsl.out; omega)
            rw [show renT L pa s = [] by unfold renT getP; rw [hE, Hat.out]; rfl, show renL L pa s = L by unfold renL; rw [hE]; rfl, hE] at HC
            refine HC.mono ?_
            rintro e W11 ⟨rfl, nv11, hS, hst⟩
            have U := Lib.hid (U.out.step hst)
            have S := Lib.hid hS
            clear HC hS hst w0 w1 w2
            have pp := (S.out.ex (PB, .cells #[.int .i64 pa, .string (bs pb), .int .i64 pc] 35 (0, 0)) (by simp)).1
            have w0 := cells_in pp 0
            have w1 := cells_in pp 1
            have w2 := cells_in pp 2
            simp at w0 w1 w2
            clear pp
            go_wp2_with fail
            refine (all_st S.out).mono ?_
            rintro e W6 ⟨u, rfl, hu2, hf⟩
            have S := Lib.hid (S.out.later hf)
            have U := Lib.hid (U.out.later hf)
            obtain ⟨va, vc, rfl, hva⟩ := hu2.row
            rw [Hl.out]
            have hua : PtsIn W6 (some ⟨g, o, none⟩) L := by
              obtain ⟨ua', uc', e1, hua⟩ := U.out.row
              injection e1 with e1
              subst e1
              exact hua
            have HC := sameP_any va _ l l vc uc L L W6 Hl.out Hl.out (by have := S.out.is.ok.small; have := Hl.out; omega) (by have := S.out.is.ok.small; have := Hl.out; omega) hva hua
            rw [decide_eq_true (rfl : L = L)] at HC
            clear hu2 hf hva hua
            go_wp2_with fail
            refine HC.mono ?_
            rintro e W7 ⟨rfl, hf⟩
            have S := Lib.hid (S.out.later hf)
            have U := Lib.hid (U.out.later hf)
            clear hf HC
            go_wp2
            go_ret
            exact ⟨rfl, S.out.fr⟩
          · have hF : findE L s = 6 := by unfold findE; rw [if_neg (by rw [Hsr.out]; simp), if_neg hn]
            have hE : renE L pa s = 0 := by rw [show renE L pa s = _ from renE_at (p := ⟨pa, pb, pc⟩) Hat.out Hsr.out, if_neg (fun h => hn h.1)]
            have hfree : ∀ x ∈ L, x.name = s → x = ⟨pa, pb, pc⟩ := fun x hx e => absurd (by rw [← namesP_has]; exact (namesP_mem L s).2 ⟨x, hx, e⟩) hn
            have HC := find_st S.out s (by have := Hsl.out; omega)
            obtain ⟨⟨z1, z2, z3⟩, hz⟩ : ∃ p, findP L s = p := ⟨_, rfl⟩
            rw [hz, show findE L s = 6 from hF] at HC
            clear hz
            refine HC.mono ?_
            rintro e W9 ⟨rfl, hf⟩
            simp only [ptV]
            obtain ⟨W10, hW⟩ : ∃ W, W9.alloc (.cells #[.int .i64 z1, .string (bs z2), .int .i64 z3] 35) = W := ⟨_, rfl⟩
            have fW : Fr0 none' W9 W10 := by rw [← hW]; exact (Fr0.refl _ _).alloc _
            have S := Lib.hid (S.out.later (hf.trans fW))
            have U := Lib.hid (U.out.later (hf.trans fW))
            clear HC hf fW w0 w1 w2
            have pp := (S.out.ex (PB, .cells #[.int .i64 pa, .string (bs pb), .int .i64 pc] 35 (0, 0)) (by simp)).1
            have w0 := cells_in pp 0
            have w1 := cells_in pp 1
            have w2 := cells_in pp 2
            simp at w0 w1 w2
            clear pp
            go_wp2_with fail
            clear hW hF
            have hok2 := S.out.is.ok
            have HC := rename_st S.out pa (by have := hnum.out; omega) s (by have := Hsl.out; omega)
            rw [show renT L pa s = pb by unfold renT getP; rw [hE, Hat.out]; rfl, show renL L pa s = renP L pa s by unfold renL; rw [hE]; rfl, hE] at HC
            refine HC.mono ?_
            rintro e W11 ⟨rfl, nv11, hS, hst⟩
            have U := Lib.hid (U.out.step hst)
            have S := Lib.hid hS
            clear HC hS hst w0 w1 w2
            have pp := (S.out.ex (PB, .cells #[.int .i64 pa, .string (bs pb), .int .i64 pc] 35 (0, 0)) (by simp)).1
            have w0 := cells_in pp 0
            have w1 := cells_in pp 1
            have w2 := cells_in pp 2
            simp at w0 w1 w2
            clear pp
            go_wp2_with fail
            have hfind : findP (renP L pa s) s = ⟨pa, s, pc⟩ := by
              unfold findP
              have hn := nameP_ren hok2 hpL.out (s := s) Hsr.out hfree
              simp only at hn
              rw [if_neg (by rw [Hsr.out]; simp), hn]; rfl
            have hfE : findE (renP L pa s) s = 0 := by
              unfold findE
              have hn := nameP_ren hok2 hpL.out (s := s) Hsr.out hfree
              simp only at hn
              rw [if_neg (by rw [Hsr.out]; simp), hn]; rfl
            have hold : findE (renP L pa s) pb = 6 := by
              unfold findE
              have hn := nameP_old hok2 hpL.out (s := s) Hsr.out hfree
              simp only at hn
              rw [if_neg (by rw [hpr.out]; simp), hn, decide_eq_false hc]; rfl
            have HC := find_st S.out s (by have := Hsl.out; omega)
            rw [hfind, hfE] at HC
            clear hfind hfE
            refine HC.mono ?_
            rintro e W12 ⟨rfl, hf⟩
            simp only [ptV]
            obtain ⟨W13, hW⟩ : ∃ W, W12.alloc (.cells #[.int .i64 pa, .string (bs s), .int .i64 pc] 35) = W := ⟨_, rfl⟩
            obtain ⟨NB, hNB⟩ : ∃ X, W12.heap.size = X := ⟨_, rfl⟩
            have S := Lib.hid (show SpSt w W13 sb mb nv11 10 nx (renP L pa s) ((NB, .cells #[.int .i64 pa, .string (bs s), .int .i64 pc] 35 (0, 0)) :: _) from hW ▸ hNB ▸ (S.out.later hf).alloc _)
            clear HC hf w0 w1 w2
            have pp := (S.out.ex (PB, .cells #[.int .i64 pa, .string (bs pb), .int .i64 pc] 35 (0, 0)) (by simp)).1
            have w0 := cells_in pp 0
            have w1 := cells_in pp 1
            have w2 := cells_in pp 2
            simp at w0 w1 w2
            clear pp
            go_wp2_with fail
            clear hW hNB
            have HC := find_st S.out pb (by have := hpl.out; omega)
            obtain ⟨⟨z1, z2, z3⟩, hz⟩ : ∃ p, findP (renP L pa s) pb = p := ⟨_, rfl⟩
            rw [hz, hold] at HC
            clear hz hold
            refine HC.mono ?_
            rintro e W14 ⟨rfl, hf⟩
            simp only [ptV]
            obtain ⟨W15, hW⟩ : ∃ W, W14.alloc (.cells #[.int .i64 z1, .string (bs z2), .int .i64 z3] 35) = W := ⟨_, rfl⟩
            have fW : Fr0 none' W14 W15 := by rw [← hW]; exact (Fr0.refl _ _).alloc _
            have S := Lib.hid (S.out.later (hf.trans fW))
            clear HC hf fW w0 w1 w2
            have pp := (S.out.ex (PB, .cells #[.int .i64 pa, .string (bs pb), .int .i64 pc] 35 (0, 0)) (by simp)).1
            have w0 := cells_in pp 0
            have w1 := cells_in pp 1
            have w2 := cells_in pp 2
            simp at w0 w1 w2
            clear pp
            have nn := (S.out.ex _ (List.mem_cons_self ..)).1
            have n0 := cells_in nn 0
            have n1 := cells_in nn 1
            have n2 := cells_in nn 2
            simp at n0 n1 n2
            clear nn
            have hll : (renP L pa s).length = l := by rw [renP_length, Hl.out]
            go_wp2_with fail
            clear hW
            have HC := SLen_is S.out.is
            rw [hll] at HC
            refine HC.mono ?_
            rintro e W16 ⟨rfl, rfl⟩
            clear HC
            go_wp2_with fail
            refine (Names_is S.out.is).mono ?_
            rintro e W17 ⟨v, rfl, hrow, hf⟩
            obtain ⟨na, nc, rfl, _⟩ := ownsRow_cells hrow
            rw [S.out.is.ok.names_length, hll]
            have S := Lib.hid (S.out.later hf)
            clear hrow hf hll
            go_wp2
            go_ret
            exact ⟨rfl, S.out.fr⟩
    · rw [if_pos (by kernel_rfl)]
      go_simp
      refine hK.out _ _ (Skey.out _ ((Fr0.refl none' w3).drew.alloc _)) (fun _ => ?_)
      clear hK K
      try simp only [Act.put, List.setIfInBounds_toArray, List.set_cons_zero, List.set_cons_succ]
      refine take_call (i := 16) rfl (by kernel_rfl) (by kernel_rfl) (fun K hK => ?_)
      go_simp
      refine hK.out _ _ (Skey.out _ (((Fr0.refl none' w3).drew.alloc _).alloc _)) (fun _ => ?_)
      clear hK K
      try simp only [Act.put, List.setIfInBounds_toArray, List.set_cons_zero, List.set_cons_succ]
      refine take_call (i := 18) rfl (by kernel_rfl) (by kernel_rfl) (fun K hK => ?_)
      go_simp
      refine hK.out _ _ (Skey.out _ (((Fr0.refl none' w3).drew.alloc _).alloc _)) (fun _ => ?_)
      clear hK K
      try simp only [Act.put, List.setIfInBounds_toArray, List.set_cons_zero, List.set_cons_succ]
      refine take_call (i := 19) rfl (by kernel_rfl) (by kernel_rfl) (fun K hK => ?_)
      go_simp
      refine hK.out _ _ (Skey.out _ (((Fr0.refl none' w3).drew.alloc _).alloc _)) (fun _ => ?_)
      clear hK K
      try simp only [Act.put, List.setIfInBounds_toArray, List.set_cons_zero, List.set_cons_succ]
      refine wpAnyH_done (by kernel_rfl) ?_ _
      clear hHeld
      obtain ⟨W4, hW4⟩ : ∃ W, ((w3.alloc (.cells #[.int .i64 qa, .string (bs qb), .int .i64 qc] 35)).alloc (.cells #[.int .i64 pa, .string (bs pb), .int .i64 pc] 35)).drew = W := ⟨_, rfl⟩
      have f4 : Fr0 none' w3 W4 := by rw [← hW4]; exact (((Fr0.refl none' w3).alloc _).alloc _).drew
      have hU4 := U.out.later f4
      have hS4 : SpSt w W4 sb mb nv 10 nx L [(w3.heap.size + 1, .cells #[.int .i64 pa, .string (bs pb), .int .i64 pc] 35 (0, 0)), (w3.heap.size, .cells #[.int .i64 qa, .string (bs qb), .int .i64 qc] 35 (0, 0))] := by
        rw [← hW4]
        have h := ((S.out.alloc (.cells #[.int .i64 qa, .string (bs qb), .int .i64 qc] 35)).alloc (.cells #[.int .i64 pa, .string (bs pb), .int .i64 pc] 35)).later (Fr0.refl none' _).drew
        rw [World.size_alloc] at h
        exact h.less (fun x hx => by simp at hx ⊢; rcases hx with hx | hx <;> simp [hx])
      rw [hW4]
      obtain ⟨PB, hPB⟩ : ∃ X, w3.heap.size + 1 = X := ⟨_, rfl⟩
      rw [hPB] at hS4 ⊢
      obtain ⟨QB, hQB⟩ : ∃ X, w3.heap.size = X := ⟨_, rfl⟩
      rw [hQB] at hS4 ⊢
      clear hW4 f4 hQB hPB
      have S := Lib.hid hS4
      have U := Lib.hid hU4
      clear hS4 hU4 Skey
      have pp := (S.out.ex (PB, .cells #[.int .i64 pa, .string (bs pb), .int .i64 pc] 35 (0, 0)) (by simp)).1
      have w0 := cells_in pp 0
      have w1 := cells_in pp 1
      have w2 := cells_in pp 2
      simp at w0 w1 w2
      clear pp
      have qq := (S.out.ex (QB, .cells #[.int .i64 qa, .string (bs qb), .int .i64 qc] 35 (0, 0)) (by simp)).1
      have v0 := cells_in qq 0
      have v1 := cells_in qq 1
      have v2 := cells_in qq 2
      simp at v0 v1 v2
      clear qq
      have hnum := Lib.hid (show 1 ≤ pa ∧ pa < 4294967296 from by have := S.out.is.ok.lo _ hpL.out; have := S.out.is.ok.nxt; simp only at *; omega)
      have hpr := Lib.hid (show rightB pb = true from S.out.is.ok.right _ hpL.out)
      have hqr := Lib.hid (show rightB qb = true from S.out.is.ok.right _ hqL.out)
      have hpl := Lib.hid (show pb.length ≤ 1000 from by have := rightB_len hpr.out; omega)
      have hql := Lib.hid (show qb.length ≤ 1000 from by have := rightB_len hqr.out; omega)
      have Hat := Lib.hid (show atP L pa = some ⟨pa, pb, pc⟩ from (atP_some S.out.is.ok.ord).2 ⟨hpL.out, rfl⟩)
      have hs0 : (bs []).toList = [] := by rw [Lib.toList_data]; rfl
      go_wp2_with fail
      by_cases hpq : (⟨pa, pb, pc⟩ : Pt) = ⟨qa, qb, qc⟩
      · injection hpq with h1 h2 h3
        subst h1 h2 h3
        have hE : renE L pa pb = 0 := by
          rw [show renE L pa pb = _ from renE_at (p := ⟨pa, pb, pc⟩) Hat.out hpr.out]; simp
        have HC := rename_st S.out pa (by have := hnum.out; omega) pb (by have := hpl.out; omega)
        have hsame := renP_same S.out.is.ok hpL.out
        simp only at hsame
        rw [show renT L pa pb = pb by unfold renT getP; rw [hE, Hat.out]; rfl, show renL L pa pb = L by unfold renL; rw [hE]; exact hsame, hE] at HC
        clear hsame hE
        refine HC.mono ?_
        rintro e W5 ⟨rfl, nv5, hS, hst⟩
        have U := Lib.hid (U.out.step hst)
        have S := Lib.hid hS
        clear HC hS hst w0 w1 w2 v0 v1 v2
        have pp := (S.out.ex (PB, .cells #[.int .i64 pa, .string (bs pb), .int .i64 pc] 35 (0, 0)) (by simp)).1
        have w0 := cells_in pp 0
        have w1 := cells_in pp 1
        have w2 := cells_in pp 2
        simp at w0 w1 w2
        clear pp
        have qq := (S.out.ex (QB, .cells #[.int .i64 pa, .string (bs pb), .int .i64 pc] 35 (0, 0)) (by simp)).1
        have v0 := cells_in qq 0
        have v1 := cells_in qq 1
        have v2 := cells_in qq 2
        simp at v0 v1 v2
        clear qq
        go_wp2_with fail
        clear w0 w1 w2 v0 v1 v2
        refine (all_st S.out).mono ?_
        rintro e W6 ⟨u, rfl, hu2, hf⟩
        have S := Lib.hid (S.out.later hf)
        have U := Lib.hid (U.out.later hf)
        obtain ⟨va, vc, rfl, hva⟩ := hu2.row
        rw [Hl.out]
        have hua : PtsIn W6 (some ⟨g, o, none⟩) L := by
          obtain ⟨ua', uc', e1, hua⟩ := U.out.row
          injection e1 with e1
          subst e1
          exact hua
        have HC := sameP_any va _ l l vc uc L L W6 Hl.out Hl.out (by have := S.out.is.ok.small; have := Hl.out; omega) (by have := S.out.is.ok.small; have := Hl.out; omega) hva hua
        rw [decide_eq_true (rfl : L = L)] at HC
        clear hu2 hf hva hua
        go_wp2_with fail
        refine HC.mono ?_
        rintro e W7 ⟨rfl, hf⟩
        have S := Lib.hid (S.out.later hf)
        have U := Lib.hid (U.out.later hf)
        clear hf HC
        have pp := (S.out.ex (PB, .cells #[.int .i64 pa, .string (bs pb), .int .i64 pc] 35 (0, 0)) (by simp)).1
        have w0 := cells_in pp 0
        have w1 := cells_in pp 1
        have w2 := cells_in pp 2
        simp at w0 w1 w2
        clear pp
        go_wp2_with fail
        obtain ⟨s, hs⟩ : ∃ s, madeB tn = s := ⟨_, rfl⟩
        have hM := Made_any tn W7 htn
        rw [hs] at hM
        have Hsr := Lib.hid (show rightB s = true from hs ▸ madeB_right tn)
        have Hsl := Lib.hid (show s.length ≤ 20 from hs ▸ madeB_len tn)
        refine hM.mono ?_
        rintro e W8 ⟨rfl, hbe⟩
        have S := Lib.hid (S.out.later (below_to0 hbe))
        have U := Lib.hid (U.out.later (below_to0 hbe))
        clear hM hbe hs w0 w1 w2
        have pp := (S.out.ex (PB, .cells #[.int .i64 pa, .string (bs pb), .int .i64 pc] 35 (0, 0)) (by simp)).1
        have w0 := cells_in pp 0
        have w1 := cells_in pp 1
        have w2 := cells_in pp 2
        simp at w0 w1 w2
        clear pp
        go_wp2_with fail
        have hps : (nameP L pb).isSome = true := by rw [← namesP_has]; exact (namesP_mem L pb).2 ⟨_, hpL.out, rfl⟩
        by_cases hc : s = pb
        · have hcs : ((bs s).toList == (bs pb).toList) = true := by rw [str_eq]; simpa using hc
          have hF : findE L s = 0 := by unfold findE; rw [if_neg (by rw [Hsr.out]; simp), hc, if_pos hps]
          have hE : renE L pa s = 0 := by rw [show renE L pa s = _ from renE_at (p := ⟨pa, pb, pc⟩) Hat.out Hsr.out, if_neg (fun h => h.2 hc.symm)]
          have hfree : ∀ x ∈ L, x.name = s → x = ⟨pa, pb, pc⟩ := fun x hx e => S.out.is.ok.name_inj hx hpL.out (e.trans hc)
          have Hc := Lib.hid hc
          clear hc
          have HC := find_st S.out s (by have := Hsl.out; omega)
          obtain ⟨⟨z1, z2, z3⟩, hz⟩ : ∃ p, findP L s = p := ⟨_, rfl⟩
          rw [hz, show findE L s = 0 from hF] at HC
          clear hz
          refine HC.mono ?_
          rintro e W9 ⟨rfl, hf⟩
          simp only [ptV]
          obtain ⟨W10, hW⟩ : ∃ W, W9.alloc (.cells #[.int .i64 z1, .string (bs z2), .int .i64 z3] 35) = W := ⟨_, rfl⟩
          have fW : Fr0 none' W9 W10 := by rw [← hW]; exact (Fr0.refl _ _).alloc _
          have S := Lib.hid (S.out.later (hf.trans fW))
          have U := Lib.hid (U.out.later (hf.trans fW))
          clear HC hf fW w0 w1 w2
          have pp := (S.out.ex (PB, .cells #[.int .i64 pa, .string (bs pb), .int .i64 pc] 35 (0, 0)) (by simp)).1
          have w0 := cells_in pp 0
          have w1 := cells_in pp 1
          have w2 := cells_in pp 2
          simp at w0 w1 w2
          clear pp
          go_wp2_with fail
          clear hW hF
          have hok2 := S.out.is.ok
          have HC := rename_st S.out pa (by have := hnum.out; omega) s (by have := Hsl.out; omega)
          rw [show renT L pa s = pb by unfold renT getP; rw [hE, Hat.out]; rfl, show renL L pa s = renP L pa s by unfold renL; rw [hE]; rfl, hE] at HC
          refine HC.mono ?_
          rintro e W11 ⟨rfl, nv11, hS, hst⟩
          have U := Lib.hid (U.out.step hst)
          have S := Lib.hid hS
          clear HC hS hst w0 w1 w2
          have pp := (S.out.ex (PB, .cells #[.int .i64 pa, .string (bs pb), .int .i64 pc] 35 (0, 0)) (by simp)).1
          have w0 := cells_in pp 0
          have w1 := cells_in pp 1
          have w2 := cells_in pp 2
          simp at w0 w1 w2
          clear pp
          go_wp2_with fail
          have hfind : findP (renP L pa s) s = ⟨pa, s, pc⟩ := by
            unfold findP
            have hn := nameP_ren hok2 hpL.out (s := s) Hsr.out hfree
            simp only at hn
            rw [if_neg (by rw [Hsr.out]; simp), hn]; rfl
          have hfE : findE (renP L pa s) s = 0 := by
            unfold findE
            have hn := nameP_ren hok2 hpL.out (s := s) Hsr.out hfree
            simp only at hn
            rw [if_neg (by rw [Hsr.out]; simp), hn]; rfl
          have hold : findE (renP L pa s) pb = 0 := by
            unfold findE
            have hn := nameP_old hok2 hpL.out (s := s) Hsr.out hfree
            simp only at hn
            rw [if_neg (by rw [hpr.out]; simp), hn, decide_eq_true Hc.out]; rfl
          have HC := find_st S.out s (by have := Hsl.out; omega)
          rw [hfind, hfE] at HC
          clear hfind hfE
          refine HC.mono ?_
          rintro e W12 ⟨rfl, hf⟩
          simp only [ptV]
          obtain ⟨W13, hW⟩ : ∃ W, W12.alloc (.cells #[.int .i64 pa, .string (bs s), .int .i64 pc] 35) = W := ⟨_, rfl⟩
          obtain ⟨NB, hNB⟩ : ∃ X, W12.heap.size = X := ⟨_, rfl⟩
          have S := Lib.hid (show SpSt w W13 sb mb nv11 10 nx (renP L pa s) ((NB, .cells #[.int .i64 pa, .string (bs s), .int .i64 pc] 35 (0, 0)) :: _) from hW ▸ hNB ▸ (S.out.later hf).alloc _)
          clear HC hf w0 w1 w2
          have pp := (S.out.ex (PB, .cells #[.int .i64 pa, .string (bs pb), .int .i64 pc] 35 (0, 0)) (by simp)).1
          have w0 := cells_in pp 0
          have w1 := cells_in pp 1
          have w2 := cells_in pp 2
          simp at w0 w1 w2
          clear pp
          go_wp2_with fail
          clear hW hNB
          have HC := find_st S.out pb (by have := hpl.out; omega)
          obtain ⟨⟨z1, z2, z3⟩, hz⟩ : ∃ p, findP (renP L pa s) pb = p := ⟨_, rfl⟩
          rw [hz, hold] at HC
          clear hz hold
          refine HC.mono ?_
          rintro e W14 ⟨rfl, hf⟩
          simp only [ptV]
          obtain ⟨W15, hW⟩ : ∃ W, W14.alloc (.cells #[.int .i64 z1, .string (bs z2), .int .i64 z3] 35) = W := ⟨_, rfl⟩
          have fW : Fr0 none' W14 W15 := by rw [← hW]; exact (Fr0.refl _ _).alloc _
          have S := Lib.hid (S.out.later (hf.trans fW))
          clear HC hf fW w0 w1 w2
          have pp := (S.out.ex (PB, .cells #[.int .i64 pa, .string (bs pb), .int .i64 pc] 35 (0, 0)) (by simp)).1
          have w0 := cells_in pp 0
          have w1 := cells_in pp 1
          have w2 := cells_in pp 2
          simp at w0 w1 w2
          clear pp
          have nn := (S.out.ex _ (List.mem_cons_self ..)).1
          have n0 := cells_in nn 0
          have n1 := cells_in nn 1
          have n2 := cells_in nn 2
          simp at n0 n1 n2
          clear nn
          have hll : (renP L pa s).length = l := by rw [renP_length, Hl.out]
          go_wp2_with fail
          clear hW
          have HC := SLen_is S.out.is
          rw [hll] at HC
          refine HC.mono ?_
          rintro e W16 ⟨rfl, rfl⟩
          clear HC
          go_wp2_with fail
          refine (Names_is S.out.is).mono ?_
          rintro e W17 ⟨v, rfl, hrow, hf⟩
          obtain ⟨na, nc, rfl, _⟩ := ownsRow_cells hrow
          rw [S.out.is.ok.names_length, hll]
          have S := Lib.hid (S.out.later hf)
          clear hrow hf hll
          go_wp2
          go_ret
          exact ⟨rfl, S.out.fr⟩
        · have hcs : ((bs s).toList == (bs pb).toList) = false := by rw [str_eq]; simpa using hc
          by_cases hn : (nameP L s).isSome = true
          · have hF : findE L s = 0 := by unfold findE; rw [if_neg (by rw [Hsr.out]; simp), if_pos hn]
            have hE : renE L pa s = 240 := by rw [show renE L pa s = _ from renE_at (p := ⟨pa, pb, pc⟩) Hat.out Hsr.out, if_pos ⟨hn, fun h => hc h.symm⟩]
            have HC := find_st S.out s (by have := Hsl.out; omega)
            obtain ⟨⟨z1, z2, z3⟩, hz⟩ : ∃ p, findP L s = p := ⟨_, rfl⟩
            rw [hz, show findE L s = 0 from hF] at HC
            clear hz
            refine HC.mono ?_
            rintro e W9 ⟨rfl, hf⟩
            simp only [ptV]
            obtain ⟨W10, hW⟩ : ∃ W, W9.alloc (.cells #[.int .i64 z1, .string (bs z2), .int .i64 z3] 35) = W := ⟨_, rfl⟩
            have fW : Fr0 none' W9 W10 := by rw [← hW]; exact (Fr0.refl _ _).alloc _
            have S := Lib.hid (S.out.later (hf.trans fW))
            have U := Lib.hid (U.out.later (hf.trans fW))
            clear HC hf fW w0 w1 w2
            have pp := (S.out.ex (PB, .cells #[.int .i64 pa, .string (bs pb), .int .i64 pc] 35 (0, 0)) (by simp)).1
            have w0 := cells_in pp 0
            have w1 := cells_in pp 1
            have w2 := cells_in pp 2
            simp at w0 w1 w2
            clear pp
            go_wp2_with fail
            clear hW hF
            have HC := rename_st S.out pa (by have := hnum.out; omega) s (by have := Hsl.out; omega)
            rw [show renT L pa s = [] by unfold renT getP; rw [hE, Hat.out]; rfl, show renL L pa s = L by unfold renL; rw [hE]; rfl, hE] at HC
            refine HC.mono ?_
            rintro e W11 ⟨rfl, nv11, hS, hst⟩
            have U := Lib.hid (U.out.step hst)
            have S := Lib.hid hS
            clear HC hS hst w0 w1 w2
            have pp := (S.out.ex (PB, .cells #[.int .i64 pa, .string (bs pb), .int .i64 pc] 35 (0, 0)) (by simp)).1
            have w0 := cells_in pp 0
            have w1 := cells_in pp 1
            have w2 := cells_in pp 2
            simp at w0 w1 w2
            clear pp
            go_wp2_with fail
            refine (all_st S.out).mono ?_
            rintro e W6 ⟨u, rfl, hu2, hf⟩
            have S := Lib.hid (S.out.later hf)
            have U := Lib.hid (U.out.later hf)
            obtain ⟨va, vc, rfl, hva⟩ := hu2.row
            rw [Hl.out]
            have hua : PtsIn W6 (some ⟨g, o, none⟩) L := by
              obtain ⟨ua', uc', e1, hua⟩ := U.out.row
              injection e1 with e1
              subst e1
              exact hua
            have HC := sameP_any va _ l l vc uc L L W6 Hl.out Hl.out (by have := S.out.is.ok.small; have := Hl.out; omega) (by have := S.out.is.ok.small; have := Hl.out; omega) hva hua
            rw [decide_eq_true (rfl : L = L)] at HC
            clear hu2 hf hva hua
            go_wp2_with fail
            refine HC.mono ?_
            rintro e W7 ⟨rfl, hf⟩
            have S := Lib.hid (S.out.later hf)
            have U := Lib.hid (U.out.later hf)
            clear hf HC
            go_wp2
            go_ret
            exact ⟨rfl, S.out.fr⟩
          · have hF : findE L s = 6 := by unfold findE; rw [if_neg (by rw [Hsr.out]; simp), if_neg hn]
            have hE : renE L pa s = 0 := by rw [show renE L pa s = _ from renE_at (p := ⟨pa, pb, pc⟩) Hat.out Hsr.out, if_neg (fun h => hn h.1)]
            have hfree : ∀ x ∈ L, x.name = s → x = ⟨pa, pb, pc⟩ := fun x hx e => absurd (by rw [← namesP_has]; exact (namesP_mem L s).2 ⟨x, hx, e⟩) hn
            have HC := find_st S.out s (by have := Hsl.out; omega)
            obtain ⟨⟨z1, z2, z3⟩, hz⟩ : ∃ p, findP L s = p := ⟨_, rfl⟩
            rw [hz, show findE L s = 6 from hF] at HC
            clear hz
            refine HC.mono ?_
            rintro e W9 ⟨rfl, hf⟩
            simp only [ptV]
            obtain ⟨W10, hW⟩ : ∃ W, W9.alloc (.cells #[.int .i64 z1, .string (bs z2), .int .i64 z3] 35) = W := ⟨_, rfl⟩
            have fW : Fr0 none' W9 W10 := by rw [← hW]; exact (Fr0.refl _ _).alloc _
            have S := Lib.hid (S.out.later (hf.trans fW))
            have U := Lib.hid (U.out.later (hf.trans fW))
            clear HC hf fW w0 w1 w2
            have pp := (S.out.ex (PB, .cells #[.int .i64 pa, .string (bs pb), .int .i64 pc] 35 (0, 0)) (by simp)).1
            have w0 := cells_in pp 0
            have w1 := cells_in pp 1
            have w2 := cells_in pp 2
            simp at w0 w1 w2
            clear pp
            go_wp2_with fail
            clear hW hF
            have hok2 := S.out.is.ok
            have HC := rename_st S.out pa (by have := hnum.out; omega) s (by have := Hsl.out; omega)
            rw [show renT L pa s = pb by unfold renT getP; rw [hE, Hat.out]; rfl, show renL L pa s = renP L pa s by unfold renL; rw [hE]; rfl, hE] at HC
            refine HC.mono ?_
            rintro e W11 ⟨rfl, nv11, hS, hst⟩
            have U := Lib.hid (U.out.step hst)
            have S := Lib.hid hS
            clear HC hS hst w0 w1 w2
            have pp := (S.out.ex (PB, .cells #[.int .i64 pa, .string (bs pb), .int .i64 pc] 35 (0, 0)) (by simp)).1
            have w0 := cells_in pp 0
            have w1 := cells_in pp 1
            have w2 := cells_in pp 2
            simp at w0 w1 w2
            clear pp
            go_wp2_with fail
            have hfind : findP (renP L pa s) s = ⟨pa, s, pc⟩ := by
              unfold findP
              have hn := nameP_ren hok2 hpL.out (s := s) Hsr.out hfree
              simp only at hn
              rw [if_neg (by rw [Hsr.out]; simp), hn]; rfl
            have hfE : findE (renP L pa s) s = 0 := by
              unfold findE
              have hn := nameP_ren hok2 hpL.out (s := s) Hsr.out hfree
              simp only at hn
              rw [if_neg (by rw [Hsr.out]; simp), hn]; rfl
            have hold : findE (renP L pa s) pb = 6 := by
              unfold findE
              have hn := nameP_old hok2 hpL.out (s := s) Hsr.out hfree
              simp only at hn
              rw [if_neg (by rw [hpr.out]; simp), hn, decide_eq_false hc]; rfl
            have HC := find_st S.out s (by have := Hsl.out; omega)
            rw [hfind, hfE] at HC
            clear hfind hfE
            refine HC.mono ?_
            rintro e W12 ⟨rfl, hf⟩
            simp only [ptV]
            obtain ⟨W13, hW⟩ : ∃ W, W12.alloc (.cells #[.int .i64 pa, .string (bs s), .int .i64 pc] 35) = W := ⟨_, rfl⟩
            obtain ⟨NB, hNB⟩ : ∃ X, W12.heap.size = X := ⟨_, rfl⟩
            have S := Lib.hid (show SpSt w W13 sb mb nv11 10 nx (renP L pa s) ((NB, .cells #[.int .i64 pa, .string (bs s), .int .i64 pc] 35 (0, 0)) :: _) from hW ▸ hNB ▸ (S.out.later hf).alloc _)
            clear HC hf w0 w1 w2
            have pp := (S.out.ex (PB, .cells #[.int .i64 pa, .string (bs pb), .int .i64 pc] 35 (0, 0)) (by simp)).1
            have w0 := cells_in pp 0
            have w1 := cells_in pp 1
            have w2 := cells_in pp 2
            simp at w0 w1 w2
            clear pp
            go_wp2_with fail
            clear hW hNB
            have HC := find_st S.out pb (by have := hpl.out; omega)
            obtain ⟨⟨z1, z2, z3⟩, hz⟩ : ∃ p, findP (renP L pa s) pb = p := ⟨_, rfl⟩
            rw [hz, hold] at HC
            clear hz hold
            refine HC.mono ?_
            rintro e W14 ⟨rfl, hf⟩
            simp only [ptV]
            obtain ⟨W15, hW⟩ : ∃ W, W14.alloc (.cells #[.int .i64 z1, .string (bs z2), .int .i64 z3] 35) = W := ⟨_, rfl⟩
            have fW : Fr0 none' W14 W15 := by rw [← hW]; exact (Fr0.refl _ _).alloc _
            have S := Lib.hid (S.out.later (hf.trans fW))
            clear HC hf fW w0 w1 w2
            have pp := (S.out.ex (PB, .cells #[.int .i64 pa, .string (bs pb), .int .i64 pc] 35 (0, 0)) (by simp)).1
            have w0 := cells_in pp 0
            have w1 := cells_in pp 1
            have w2 := cells_in pp 2
            simp at w0 w1 w2
            clear pp
            have nn := (S.out.ex _ (List.mem_cons_self ..)).1
            have n0 := cells_in nn 0
            have n1 := cells_in nn 1
            have n2 := cells_in nn 2
            simp at n0 n1 n2
            clear nn
            have hll : (renP L pa s).length = l := by rw [renP_length, Hl.out]
            go_wp2_with fail
            clear hW
            have HC := SLen_is S.out.is
            rw [hll] at HC
            refine HC.mono ?_
            rintro e W16 ⟨rfl, rfl⟩
            clear HC
            go_wp2_with fail
            refine (Names_is S.out.is).mono ?_
            rintro e W17 ⟨v, rfl, hrow, hf⟩
            obtain ⟨na, nc, rfl, _⟩ := ownsRow_cells hrow
            rw [S.out.is.ok.names_length, hll]
            have S := Lib.hid (S.out.later hf)
            clear hrow hf hll
            go_wp2
            go_ret
            exact ⟨rfl, S.out.fr⟩
      · have hne : ¬ pb = qb := fun e => hpq (S.out.is.ok.name_inj hpL.out hqL.out e)
        have dn : samePt ⟨pa, pb, pc⟩ ⟨qa, qb, qc⟩ = false := samePt_ne hpq
        have hE : renE L pa qb = 240 := by
          have hq : (nameP L qb).isSome = true := by rw [← namesP_has]; exact (namesP_mem L qb).2 ⟨_, hqL.out, rfl⟩
          rw [show renE L pa qb = _ from renE_at (p := ⟨pa, pb, pc⟩) Hat.out hqr.out, if_pos ⟨hq, hne⟩]
        have HC := rename_st S.out pa (by have := hnum.out; omega) qb (by have := hql.out; omega)
        rw [show renT L pa qb = [] by unfold renT; rw [hE]; rfl, show renL L pa qb = L by unfold renL; rw [hE]; rfl, hE] at HC
        clear hE hne hpq
        refine HC.mono ?_
        rintro e W5 ⟨rfl, nv5, hS, hst⟩
        have U := Lib.hid (U.out.step hst)
        have S := Lib.hid hS
        clear HC hS hst w0 w1 w2 v0 v1 v2
        have pp := (S.out.ex (PB, .cells #[.int .i64 pa, .string (bs pb), .int .i64 pc] 35 (0, 0)) (by simp)).1
        have w0 := cells_in pp 0
        have w1 := cells_in pp 1
        have w2 := cells_in pp 2
        simp at w0 w1 w2
        clear pp
        have qq := (S.out.ex (QB, .cells #[.int .i64 qa, .string (bs qb), .int .i64 qc] 35 (0, 0)) (by simp)).1
        have v0 := cells_in qq 0
        have v1 := cells_in qq 1
        have v2 := cells_in qq 2
        simp at v0 v1 v2
        clear qq
        go_wp2_with fail
        clear w0 w1 w2 v0 v1 v2
        refine (all_st S.out).mono ?_
        rintro e W6 ⟨u, rfl, hu2, hf⟩
        have S := Lib.hid (S.out.later hf)
        have U := Lib.hid (U.out.later hf)
        obtain ⟨va, vc, rfl, hva⟩ := hu2.row
        rw [Hl.out]
        have hua : PtsIn W6 (some ⟨g, o, none⟩) L := by
          obtain ⟨ua', uc', e1, hua⟩ := U.out.row
          injection e1 with e1
          subst e1
          exact hua
        have HC := sameP_any va _ l l vc uc L L W6 Hl.out Hl.out (by have := S.out.is.ok.small; have := Hl.out; omega) (by have := S.out.is.ok.small; have := Hl.out; omega) hva hua
        rw [decide_eq_true (rfl : L = L)] at HC
        clear hu2 hf hva hua
        go_wp2_with fail
        refine HC.mono ?_
        rintro e W7 ⟨rfl, hf⟩
        have S := Lib.hid (S.out.later hf)
        have U := Lib.hid (U.out.later hf)
        clear hf HC
        have pp := (S.out.ex (PB, .cells #[.int .i64 pa, .string (bs pb), .int .i64 pc] 35 (0, 0)) (by simp)).1
        have w0 := cells_in pp 0
        have w1 := cells_in pp 1
        have w2 := cells_in pp 2
        simp at w0 w1 w2
        clear pp
        go_wp2_with fail
        obtain ⟨s, hs⟩ : ∃ s, madeB tn = s := ⟨_, rfl⟩
        have hM := Made_any tn W7 htn
        rw [hs] at hM
        have Hsr := Lib.hid (show rightB s = true from hs ▸ madeB_right tn)
        have Hsl := Lib.hid (show s.length ≤ 20 from hs ▸ madeB_len tn)
        refine hM.mono ?_
        rintro e W8 ⟨rfl, hbe⟩
        have S := Lib.hid (S.out.later (below_to0 hbe))
        have U := Lib.hid (U.out.later (below_to0 hbe))
        clear hM hbe hs w0 w1 w2
        have pp := (S.out.ex (PB, .cells #[.int .i64 pa, .string (bs pb), .int .i64 pc] 35 (0, 0)) (by simp)).1
        have w0 := cells_in pp 0
        have w1 := cells_in pp 1
        have w2 := cells_in pp 2
        simp at w0 w1 w2
        clear pp
        go_wp2_with fail
        have hps : (nameP L pb).isSome = true := by rw [← namesP_has]; exact (namesP_mem L pb).2 ⟨_, hpL.out, rfl⟩
        by_cases hc : s = pb
        · have hcs : ((bs s).toList == (bs pb).toList) = true := by rw [str_eq]; simpa using hc
          have hF : findE L s = 0 := by unfold findE; rw [if_neg (by rw [Hsr.out]; simp), hc, if_pos hps]
          have hE : renE L pa s = 0 := by rw [show renE L pa s = _ from renE_at (p := ⟨pa, pb, pc⟩) Hat.out Hsr.out, if_neg (fun h => h.2 hc.symm)]
          have hfree : ∀ x ∈ L, x.name = s → x = ⟨pa, pb, pc⟩ := fun x hx e => S.out.is.ok.name_inj hx hpL.out (e.trans hc)
          have Hc := Lib.hid hc
          clear hc
          have HC := find_st S.out s (by have := Hsl.out; omega)
          obtain ⟨⟨z1, z2, z3⟩, hz⟩ : ∃ p, findP L s = p := ⟨_, rfl⟩
          rw [hz, show findE L s = 0 from hF] at HC
          clear hz
          refine HC.mono ?_
          rintro e W9 ⟨rfl, hf⟩
          simp only [ptV]
          obtain ⟨W10, hW⟩ : ∃ W, W9.alloc (.cells #[.int .i64 z1, .string (bs z2), .int .i64 z3] 35) = W := ⟨_, rfl⟩
          have fW : Fr0 none' W9 W10 := by rw [← hW]; exact (Fr0.refl _ _).alloc _
          have S := Lib.hid (S.out.later (hf.trans fW))
          have U := Lib.hid (U.out.later (hf.trans fW))
          clear HC hf fW w0 w1 w2
          have pp := (S.out.ex (PB, .cells #[.int .i64 pa, .string (bs pb), .int .i64 pc] 35 (0, 0)) (by simp)).1
          have w0 := cells_in pp 0
          have w1 := cells_in pp 1
          have w2 := cells_in pp 2
          simp at w0 w1 w2
          clear pp
          go_wp2_with fail
          clear hW hF
          have hok2 := S.out.is.ok
          have HC := rename_st S.out pa (by have := hnum.out; omega) s (by have := Hsl.out; omega)
          rw [show renT L pa s = pb by unfold renT getP; rw [hE, Hat.out]; rfl, show renL L pa s = renP L pa s by unfold renL; rw [hE]; rfl, hE] at HC
          refine HC.mono ?_
          rintro e W11 ⟨rfl, nv11, hS, hst⟩
          have U := Lib.hid (U.out.step hst)
          have S := Lib.hid hS
          clear HC hS hst w0 w1 w2
          have pp := (S.out.ex (PB, .cells #[.int .i64 pa, .string (bs pb), .int .i64 pc] 35 (0, 0)) (by simp)).1
          have w0 := cells_in pp 0
          have w1 := cells_in pp 1
          have w2 := cells_in pp 2
          simp at w0 w1 w2
          clear pp
          go_wp2_with fail
          have hfind : findP (renP L pa s) s = ⟨pa, s, pc⟩ := by
            unfold findP
            have hn := nameP_ren hok2 hpL.out (s := s) Hsr.out hfree
            simp only at hn
            rw [if_neg (by rw [Hsr.out]; simp), hn]; rfl
          have hfE : findE (renP L pa s) s = 0 := by
            unfold findE
            have hn := nameP_ren hok2 hpL.out (s := s) Hsr.out hfree
            simp only at hn
            rw [if_neg (by rw [Hsr.out]; simp), hn]; rfl
          have hold : findE (renP L pa s) pb = 0 := by
            unfold findE
            have hn := nameP_old hok2 hpL.out (s := s) Hsr.out hfree
            simp only at hn
            rw [if_neg (by rw [hpr.out]; simp), hn, decide_eq_true Hc.out]; rfl
          have HC := find_st S.out s (by have := Hsl.out; omega)
          rw [hfind, hfE] at HC
          clear hfind hfE
          refine HC.mono ?_
          rintro e W12 ⟨rfl, hf⟩
          simp only [ptV]
          obtain ⟨W13, hW⟩ : ∃ W, W12.alloc (.cells #[.int .i64 pa, .string (bs s), .int .i64 pc] 35) = W := ⟨_, rfl⟩
          obtain ⟨NB, hNB⟩ : ∃ X, W12.heap.size = X := ⟨_, rfl⟩
          have S := Lib.hid (show SpSt w W13 sb mb nv11 10 nx (renP L pa s) ((NB, .cells #[.int .i64 pa, .string (bs s), .int .i64 pc] 35 (0, 0)) :: _) from hW ▸ hNB ▸ (S.out.later hf).alloc _)
          clear HC hf w0 w1 w2
          have pp := (S.out.ex (PB, .cells #[.int .i64 pa, .string (bs pb), .int .i64 pc] 35 (0, 0)) (by simp)).1
          have w0 := cells_in pp 0
          have w1 := cells_in pp 1
          have w2 := cells_in pp 2
          simp at w0 w1 w2
          clear pp
          go_wp2_with fail
          clear hW hNB
          have HC := find_st S.out pb (by have := hpl.out; omega)
          obtain ⟨⟨z1, z2, z3⟩, hz⟩ : ∃ p, findP (renP L pa s) pb = p := ⟨_, rfl⟩
          rw [hz, hold] at HC
          clear hz hold
          refine HC.mono ?_
          rintro e W14 ⟨rfl, hf⟩
          simp only [ptV]
          obtain ⟨W15, hW⟩ : ∃ W, W14.alloc (.cells #[.int .i64 z1, .string (bs z2), .int .i64 z3] 35) = W := ⟨_, rfl⟩
          have fW : Fr0 none' W14 W15 := by rw [← hW]; exact (Fr0.refl _ _).alloc _
          have S := Lib.hid (S.out.later (hf.trans fW))
          clear HC hf fW w0 w1 w2
          have pp := (S.out.ex (PB, .cells #[.int .i64 pa, .string (bs pb), .int .i64 pc] 35 (0, 0)) (by simp)).1
          have w0 := cells_in pp 0
          have w1 := cells_in pp 1
          have w2 := cells_in pp 2
          simp at w0 w1 w2
          clear pp
          have nn := (S.out.ex _ (List.mem_cons_self ..)).1
          have n0 := cells_in nn 0
          have n1 := cells_in nn 1
          have n2 := cells_in nn 2
          simp at n0 n1 n2
          clear nn
          have hll : (renP L pa s).length = l := by rw [renP_length, Hl.out]
          go_wp2_with fail
          clear hW
          have HC := SLen_is S.out.is
          rw [hll] at HC
          refine HC.mono ?_
          rintro e W16 ⟨rfl, rfl⟩
          clear HC
          go_wp2_with fail
          refine (Names_is S.out.is).mono ?_
          rintro e W17 ⟨v, rfl, hrow, hf⟩
          obtain ⟨na, nc, rfl, _⟩ := ownsRow_cells hrow
          rw [S.out.is.ok.names_length, hll]
          have S := Lib.hid (S.out.later hf)
          clear hrow hf hll
          go_wp2
          go_ret
          exact ⟨rfl, S.out.fr⟩
        · have hcs : ((bs s).toList == (bs pb).toList) = false := by rw [str_eq]; simpa using hc
          by_cases hn : (nameP L s).isSome = true
          · have hF : findE L s = 0 := by unfold findE; rw [if_neg (by rw [Hsr.out]; simp), if_pos hn]
            have hE : renE L pa s = 240 := by rw [show renE L pa s = _ from renE_at (p := ⟨pa, pb, pc⟩) Hat.out Hsr.out, if_pos ⟨hn, fun h => hc h.symm⟩]
            have HC := find_st S.out s (by have := Hsl.out; omega)
            obtain ⟨⟨z1, z2, z3⟩, hz⟩ : ∃ p, findP L s = p := ⟨_, rfl⟩
            rw [hz, show findE L s = 0 from hF] at HC
            clear hz
            refine HC.mono ?_
            rintro e W9 ⟨rfl, hf⟩
            simp only [ptV]
            obtain ⟨W10, hW⟩ : ∃ W, W9.alloc (.cells #[.int .i64 z1, .string (bs z2), .int .i64 z3] 35) = W := ⟨_, rfl⟩
            have fW : Fr0 none' W9 W10 := by rw [← hW]; exact (Fr0.refl _ _).alloc _
            have S := Lib.hid (S.out.later (hf.trans fW))
            have U := Lib.hid (U.out.later (hf.trans fW))
            clear HC hf fW w0 w1 w2
            have pp := (S.out.ex (PB, .cells #[.int .i64 pa, .string (bs pb), .int .i64 pc] 35 (0, 0)) (by simp)).1
            have w0 := cells_in pp 0
            have w1 := cells_in pp 1
            have w2 := cells_in pp 2
            simp at w0 w1 w2
            clear pp
            go_wp2_with fail
            clear hW hF
            have HC := rename_st S.out pa (by have := hnum.out; omega) s (by have := Hsl.out; omega)
            rw [show renT L pa s = [] by unfold renT getP; rw [hE, Hat.out]; rfl, show renL L pa s = L by unfold renL; rw [hE]; rfl, hE] at HC
            refine HC.mono ?_
            rintro e W11 ⟨rfl, nv11, hS, hst⟩
            have U := Lib.hid (U.out.step hst)
            have S := Lib.hid hS
            clear HC hS hst w0 w1 w2
            have pp := (S.out.ex (PB, .cells #[.int .i64 pa, .string (bs pb), .int .i64 pc] 35 (0, 0)) (by simp)).1
            have w0 := cells_in pp 0
            have w1 := cells_in pp 1
            have w2 := cells_in pp 2
            simp at w0 w1 w2
            clear pp
            go_wp2_with fail
            refine (all_st S.out).mono ?_
            rintro e W6 ⟨u, rfl, hu2, hf⟩
            have S := Lib.hid (S.out.later hf)
            have U := Lib.hid (U.out.later hf)
            obtain ⟨va, vc, rfl, hva⟩ := hu2.row
            rw [Hl.out]
            have hua : PtsIn W6 (some ⟨g, o, none⟩) L := by
              obtain ⟨ua', uc', e1, hua⟩ := U.out.row
              injection e1 with e1
              subst e1
              exact hua
            have HC := sameP_any va _ l l vc uc L L W6 Hl.out Hl.out (by have := S.out.is.ok.small; have := Hl.out; omega) (by have := S.out.is.ok.small; have := Hl.out; omega) hva hua
            rw [decide_eq_true (rfl : L = L)] at HC
            clear hu2 hf hva hua
            go_wp2_with fail
            refine HC.mono ?_
            rintro e W7 ⟨rfl, hf⟩
            have S := Lib.hid (S.out.later hf)
            have U := Lib.hid (U.out.later hf)
            clear hf HC
            go_wp2
            go_ret
            exact ⟨rfl, S.out.fr⟩
          · have hF : findE L s = 6 := by unfold findE; rw [if_neg (by rw [Hsr.out]; simp), if_neg hn]
            have hE : renE L pa s = 0 := by rw [show renE L pa s = _ from renE_at (p := ⟨pa, pb, pc⟩) Hat.out Hsr.out, if_neg (fun h => hn h.1)]
            have hfree : ∀ x ∈ L, x.name = s → x = ⟨pa, pb, pc⟩ := fun x hx e => absurd (by rw [← namesP_has]; exact (namesP_mem L s).2 ⟨x, hx, e⟩) hn
            have HC := find_st S.out s (by have := Hsl.out; omega)
            obtain ⟨⟨z1, z2, z3⟩, hz⟩ : ∃ p, findP L s = p := ⟨_, rfl⟩
            rw [hz, show findE L s = 6 from hF] at HC
            clear hz
            refine HC.mono ?_
            rintro e W9 ⟨rfl, hf⟩
            simp only [ptV]
            obtain ⟨W10, hW⟩ : ∃ W, W9.alloc (.cells #[.int .i64 z1, .string (bs z2), .int .i64 z3] 35) = W := ⟨_, rfl⟩
            have fW : Fr0 none' W9 W10 := by rw [← hW]; exact (Fr0.refl _ _).alloc _
            have S := Lib.hid (S.out.later (hf.trans fW))
            have U := Lib.hid (U.out.later (hf.trans fW))
            clear HC hf fW w0 w1 w2
            have pp := (S.out.ex (PB, .cells #[.int .i64 pa, .string (bs pb), .int .i64 pc] 35 (0, 0)) (by simp)).1
            have w0 := cells_in pp 0
            have w1 := cells_in pp 1
            have w2 := cells_in pp 2
            simp at w0 w1 w2
            clear pp
            go_wp2_with fail
            clear hW hF
            have hok2 := S.out.is.ok
            have HC := rename_st S.out pa (by have := hnum.out; omega) s (by have := Hsl.out; omega)
            rw [show renT L pa s = pb by unfold renT getP; rw [hE, Hat.out]; rfl, show renL L pa s = renP L pa s by unfold renL; rw [hE]; rfl, hE] at HC
            refine HC.mono ?_
            rintro e W11 ⟨rfl, nv11, hS, hst⟩
            have U := Lib.hid (U.out.step hst)
            have S := Lib.hid hS
            clear HC hS hst w0 w1 w2
            have pp := (S.out.ex (PB, .cells #[.int .i64 pa, .string (bs pb), .int .i64 pc] 35 (0, 0)) (by simp)).1
            have w0 := cells_in pp 0
            have w1 := cells_in pp 1
            have w2 := cells_in pp 2
            simp at w0 w1 w2
            clear pp
            go_wp2_with fail
            have hfind : findP (renP L pa s) s = ⟨pa, s, pc⟩ := by
              unfold findP
              have hn := nameP_ren hok2 hpL.out (s := s) Hsr.out hfree
              simp only at hn
              rw [if_neg (by rw [Hsr.out]; simp), hn]; rfl
            have hfE : findE (renP L pa s) s = 0 := by
              unfold findE
              have hn := nameP_ren hok2 hpL.out (s := s) Hsr.out hfree
              simp only at hn
              rw [if_neg (by rw [Hsr.out]; simp), hn]; rfl
            have hold : findE (renP L pa s) pb = 6 := by
              unfold findE
              have hn := nameP_old hok2 hpL.out (s := s) Hsr.out hfree
              simp only at hn
              rw [if_neg (by rw [hpr.out]; simp), hn, decide_eq_false hc]; rfl
            have HC := find_st S.out s (by have := Hsl.out; omega)
            rw [hfind, hfE] at HC
            clear hfind hfE
            refine HC.mono ?_
            rintro e W12 ⟨rfl, hf⟩
            simp only [ptV]
            obtain ⟨W13, hW⟩ : ∃ W, W12.alloc (.cells #[.int .i64 pa, .string (bs s), .int .i64 pc] 35) = W := ⟨_, rfl⟩
            obtain ⟨NB, hNB⟩ : ∃ X, W12.heap.size = X := ⟨_, rfl⟩
            have S := Lib.hid (show SpSt w W13 sb mb nv11 10 nx (renP L pa s) ((NB, .cells #[.int .i64 pa, .string (bs s), .int .i64 pc] 35 (0, 0)) :: _) from hW ▸ hNB ▸ (S.out.later hf).alloc _)
            clear HC hf w0 w1 w2
            have pp := (S.out.ex (PB, .cells #[.int .i64 pa, .string (bs pb), .int .i64 pc] 35 (0, 0)) (by simp)).1
            have w0 := cells_in pp 0
            have w1 := cells_in pp 1
            have w2 := cells_in pp 2
            simp at w0 w1 w2
            clear pp
            go_wp2_with fail
            clear hW hNB
            have HC := find_st S.out pb (by have := hpl.out; omega)
            obtain ⟨⟨z1, z2, z3⟩, hz⟩ : ∃ p, findP (renP L pa s) pb = p := ⟨_, rfl⟩
            rw [hz, hold] at HC
            clear hz hold
            refine HC.mono ?_
            rintro e W14 ⟨rfl, hf⟩
            simp only [ptV]
            obtain ⟨W15, hW⟩ : ∃ W, W14.alloc (.cells #[.int .i64 z1, .string (bs z2), .int .i64 z3] 35) = W := ⟨_, rfl⟩
            have fW : Fr0 none' W14 W15 := by rw [← hW]; exact (Fr0.refl _ _).alloc _
            have S := Lib.hid (S.out.later (hf.trans fW))
            clear HC hf fW w0 w1 w2
            have pp := (S.out.ex (PB, .cells #[.int .i64 pa, .string (bs pb), .int .i64 pc] 35 (0, 0)) (by simp)).1
            have w0 := cells_in pp 0
            have w1 := cells_in pp 1
            have w2 := cells_in pp 2
            simp at w0 w1 w2
            clear pp
            have nn := (S.out.ex _ (List.mem_cons_self ..)).1
            have n0 := cells_in nn 0
            have n1 := cells_in nn 1
            have n2 := cells_in nn 2
            simp at n0 n1 n2
            clear nn
            have hll : (renP L pa s).length = l := by rw [renP_length, Hl.out]
            go_wp2_with fail
            clear hW
            have HC := SLen_is S.out.is
            rw [hll] at HC
            refine HC.mono ?_
            rintro e W16 ⟨rfl, rfl⟩
            clear HC
            go_wp2_with fail
            refine (Names_is S.out.is).mono ?_
            rintro e W17 ⟨v, rfl, hrow, hf⟩
            obtain ⟨na, nc, rfl, _⟩ := ownsRow_cells hrow
            rw [S.out.is.ok.names_length, hll]
            have S := Lib.hid (S.out.later hf)
            clear hrow hf hll
            go_wp2
            go_ret
            exact ⟨rfl, S.out.fr⟩
end Go.Proofs.Ytkchpngkmchamaa

namespace Go.Proofs.Ytkchpngkmchamaa.spaceRenames
open Go.ChangeShapes Go.WideShapes Go.ChangeAt Go.RowKit Go.Proofs.Ytkchpngkmchamaa

set_option maxRecDepth 100000 in
theorem lifted (os : Os) (started : os.Started) (H : Type) (enc : TypeId × Value → H) :
    ReturnsInHanded {} Try.checked os 6 .any (Rows.spaceRenamesSpec.pre6 enc Try.prog Try.f6 Rows.spaceRenamesRow.domain false) (Rows.spaceRenamesSpec.post enc Try.prog Try.f6 false true false false) := by
  refine returnsInHanded_of_change (C := Try.checked) own_knob started (by kernel_rfl) Try.func6
    (ChangeSpec.witness6 (enc := enc) (C := Try.checked) false ⟨#[], #[.slice none 0 0, .int .u8 0, .int .u8 0, .int .u16 0], []⟩ 8 (by kernel_rfl) (by kernel_rfl) (by kernel_rfl) (by kernel_rfl)) ?_
  intro W base args ds gs before hval0 hW hcnd _
  have hval : ∀ (j : Nat) t v, Try.f6.params[j]? = some t → args[j]? = some v → Value.okWide Try.prog W .any base t v := hval0
  have hW' := hW
  obtain ⟨p, q, hA0, hV, rfl, hfz, hnd⟩ := hW
  have hA : DataW.TrodAll enc Try.prog W 0 (fun _ => true) true Try.f6.params.toList args.toList ds p := hA0
  rw [Try.params6] at hA hval
  obtain ⟨v0, vs0, d0, ds0, p0, q0, hargs, rfl, rfl, h0, r0⟩ := trodAll_cons hA
  obtain ⟨v1, vs1, d1, ds1, p1, q1, rfl, rfl, rfl, h1, r1⟩ := trodAll_cons r0
  obtain ⟨v2, vs2, d2, ds2, p2, q2, rfl, rfl, rfl, h2, r2⟩ := trodAll_cons r1
  obtain ⟨v3, vs3, d3, ds3, p3, q3, rfl, rfl, rfl, h3, r3⟩ := trodAll_cons r2
  obtain ⟨rfl, rfl, rfl⟩ := trodAll_nil r3
  obtain rfl : args = #[v0, v1, v2, v3] := by cases args; simp_all
  obtain ⟨rfl, rfl⟩ := trodVars_none hV
  clear hA0 hval0
  simp only [List.append_nil] at hW'
  have l0 : ∀ x ∈ p0, x.block < W.heap.size := fun x hx => hW'.lt x (by simp [hx])
  have t0 := fun W' (hb : Below W.heap.size W W') => Below.trod laid_own (by kernel_rfl) (of_decide_eq_true (by kernel_rfl)) h0 hb l0
  have l1 : ∀ x ∈ p1, x.block < W.heap.size := fun x hx => hW'.lt x (by simp [hx])
  have t1 := fun W' (hb : Below W.heap.size W W') => Below.trod laid_own (by kernel_rfl) (of_decide_eq_true (by kernel_rfl)) h1 hb l1
  have l2 : ∀ x ∈ p2, x.block < W.heap.size := fun x hx => hW'.lt x (by simp [hx])
  have t2 := fun W' (hb : Below W.heap.size W W') => Below.trod laid_own (by kernel_rfl) (of_decide_eq_true (by kernel_rfl)) h2 hb l2
  have l3 : ∀ x ∈ p3, x.block < W.heap.size := fun x hx => hW'.lt x (by simp [hx])
  have t3 := fun W' (hb : Below W.heap.size W W') => Below.trod laid_own (by kernel_rfl) (of_decide_eq_true (by kernel_rfl)) h3 hb l3
  obtain ⟨xs, hxs⟩ := smalls_arg (hval 0 22 v0 rfl rfl) h0
  obtain ⟨a1, rfl, _, _, w1⟩ := open_int Try.underlying5 (hval 1 5 v1 rfl rfl) h1
  obtain ⟨a2, rfl, _, _, w2⟩ := open_int Try.underlying5 (hval 2 5 v2 rfl rfl) h2
  obtain ⟨a3, rfl, _, _, w3⟩ := open_int Try.underlying52 (hval 3 52 v3 rfl rfl) h3
  obtain ⟨m3, rfl, hm3⟩ : ∃ m : Nat, a3 = m ∧ m < 65536 := by
    have := bounds_u16 w3
    exact ⟨a3.toNat, by omega, by omega⟩
  refine (SpaceRenames_any hxs a1 (by have := bounds_u8 w1; omega) a2 (by have := bounds_u8 w2; omega) m3 hm3).mono fun e W' ⟨he, hg0⟩ => ?_
  have hg := hg0.below (Nat.le_refl _) (fun _ _ h => h)
  subst he
  exact ⟨_, rfl, post_below2 (pa := (p0 ++ (p1 ++ (p2 ++ (p3 ++ []))))) (pv := []) hW' (fun _ _ _ => (trodAll_cons_mk (shut_bool Try.underlying4 _) trodAll_mk0)) (trodAll_cons_mk (t0 _ hg) (trodAll_cons_mk (t1 _ hg) (trodAll_cons_mk (t2 _ hg) (trodAll_cons_mk (t3 _ hg) trodAll_mk0)))) (fun _ _ => rfl) hg⟩

theorem over : Rows.spaceRenamesRow.holds Try.pinned (OpenSpec.ofChange Rows.spaceRenamesSpec) :=
  OpenClaim.holds_of_wide 6 Try.f6 rfl rfl rfl rfl rfl rfl rfl ⟨rfl, rfl, rfl, rfl, rfl⟩ rfl rfl rfl rfl rfl (by kernel_rfl) Try.func6 (by kernel_rfl)
    (of_decide_eq_true (by kernel_rfl)) (by unfold Func.isWrapper; first | (rw [if_pos (by decide +kernel)]; kernel_rfl) | (rw [if_neg (by decide +kernel)]; exact ⟨rfl, rfl⟩))
    (fun os started H enc _ => lifted os started H enc)

theorem proved : Rows.SpaceRenamesSaid := over
#print axioms proved
end Go.Proofs.Ytkchpngkmchamaa.spaceRenames
