/- SpaceLeads: the statement: for any slice of small numbers and any numbers the law returns true, and the arguments read as before; no condition. -/
import Derived.Test.YtkchpngkmchamaaGreatJb2
set_option linter.unusedSimpArgs false
set_option linter.unusedVariables false

/-
  slices.Index and slices.Contains at strings.
-/
namespace Go.Proofs.YtkchpngkmchamaaGreat
open Go.RowKit Go.Maps
attribute [local go_sem ↓] Go.wp_at_zero Go.wp_at_succ

/-- The place of a string; -1 if it is not there. -/
def idxB (s : Bs) : List Bs → Int
  | [] => -1
  | x :: r => if s = x then 0 else if idxB s r < 0 then -1 else idxB s r + 1
theorem idxB_ge (s : Bs) : ∀ xs : List Bs, -1 ≤ idxB s xs
  | [] => by simp [idxB]
  | x :: r => by
    have := idxB_ge s r
    unfold idxB; split <;> (try split) <;> omega
theorem idxB_mem (s : Bs) : ∀ xs : List Bs, (0 ≤ idxB s xs) ↔ s ∈ xs
  | [] => by simp [idxB]
  | x :: r => by
    have := idxB_mem s r
    unfold idxB
    by_cases h : s = x
    · rw [if_pos h]; simp [h]
    · rw [if_neg h, List.mem_cons]
      split
      · simp [h, ← this]; omega
      · rw [← this]; simp [h]; omega
theorem idxB_at (s : Bs) : ∀ (xs : List Bs) (k : Nat), s ∉ xs.take k → xs[k]? = some s → idxB s xs = k
  | [], k, _, h => by simp at h
  | x :: r, 0, _, h => by simp at h; simp [idxB, h]
  | x :: r, k + 1, h1, h => by
    rw [List.take_succ_cons, List.mem_cons] at h1
    have := idxB_at s r k (fun h => h1 (.inr h)) (by simpa using h)
    unfold idxB
    rw [if_neg (fun h => h1 (.inl h)), this, if_neg (by omega)]; omega
theorem idxB_none (s : Bs) (xs : List Bs) (h : s ∉ xs) : idxB s xs = -1 := by
  have h1 := idxB_mem s xs
  have h2 := idxB_ge s xs
  have : ¬ (0 ≤ idxB s xs) := fun h3 => h (h1.1 h3)
  omega
set_option maxRecDepth 100000 in
set_option maxHeartbeats 2000000 in
theorem Index_any (a : Option Addr) (n cap : Nat) (xs : List Bs) (s : Bs) (w : World) (hn : xs.length = n) (hm : n ≤ 1000000)
    (hc : Cells w a (xs.map strV)) :
    Calls Tryz.prog 45 #[.slice a n cap, .string (bs s)] w fun e w' => e = .returned (.int .i64 (idxB s xs)) ∧ Fr0 none' w w' := by
  obtain ⟨R, hR⟩ : ∃ R, idxB s xs = R := ⟨_, rfl⟩
  rw [hR]
  have HR := Lib.hid hR
  have Hn := Lib.hid hn
  have Hc := Lib.hid hc
  clear hR hn hc
  go_enter Tryz.func45, Tryz.ntmps45
  go_wp2_with fail
  go_loopw [8] (fun i wr => ∃ k : Nat, k ≤ n ∧ i = .int .i64 k ∧ Hid (s ∉ xs.take k) ∧ Fr0 none' w wr) (fun i _ => n - (Go.RowKit.intOf i).toNat)
  case atStart => exact ⟨0, Nat.zero_le _, rfl, by unfold Hid; simp, Fr0.refl _ _⟩
  case round =>
    obtain ⟨k, hk, rfl, hpre, hb⟩ := hrel
    by_cases hlt : k < n
    · have h1 : k < xs.length := by rw [Hn.out]; exact hlt
      obtain ⟨x, hx⟩ : ∃ x, xs[k]? = some x := ⟨_, List.getElem?_eq_getElem h1⟩
      obtain ⟨b, off, rfl, hcx⟩ := (Hc.out.later hb).at (k := k) (x := strV x) (by simp [hx])
      rw [strV] at hcx
      have hx' := Lib.hid hx
      clear hx h1
      have c1 : (0 : Int) ≤ (k : Int) := by omega
      have c2 : (k : Int) < (n : Int) := by omega
      by_cases hxy : s = x
      · have d1 : ((bs s).toList == (bs x).toList) = true := by rw [str_eq]; simpa using hxy
        have hres : Hid ((k : Int) = R) := by
          unfold Hid; rw [← HR.out]
          exact (idxB_at s xs k hpre.out (by rw [hx'.out, hxy])).symm
        clear hxy
        go_wp2
        go_ret
        exact ⟨ret_int hres.out, hb⟩
      · have d1 : ((bs s).toList == (bs x).toList) = false := by rw [str_eq]; simpa using hxy
        have hnext : Hid (s ∉ xs.take (k + 1)) := by
          unfold Hid
          rw [List.take_add_one, hx'.out, List.mem_append]
          rintro (h | h)
          · exact hpre.out h
          · simp at h; exact hxy h
        clear hxy
        go_wp2
        go_roundw
        case rel => exact ⟨k + 1, by omega, by go_num, hnext, hb⟩
        case measure => simp [Go.RowKit.intOf]; omega
    · have hres : Hid ((-1 : Int) = R) := by
        unfold Hid; rw [← HR.out]
        have := hpre.out
        rw [List.take_of_length_le (by rw [Hn.out]; omega)] at this
        exact (idxB_none s xs this).symm
      go_wp2
      go_ret
      exact ⟨ret_int hres.out, hb⟩
set_option maxRecDepth 100000 in
set_option maxHeartbeats 2000000 in
theorem Contains_any (a : Option Addr) (n cap : Nat) (xs : List Bs) (s : Bs) (w : World) (hn : xs.length = n) (hm : n ≤ 1000000)
    (hc : Cells w a (xs.map strV)) :
    Calls Tryz.prog 18 #[.slice a n cap, .string (bs s)] w fun e w' => e = .returned (.bool (decide (s ∈ xs))) ∧ Fr0 none' w w' := by
  have HC := Index_any a n cap xs s w hn hm hc
  have h1 := idxB_mem s xs
  obtain ⟨R, hR⟩ : ∃ R, idxB s xs = R := ⟨_, rfl⟩
  rw [hR] at HC h1
  have H1 := Lib.hid (show decide (0 ≤ R) = decide (s ∈ xs) from decide_eq_decide.2 h1)
  clear h1 hR hc
  go_enter Tryz.func18, Tryz.ntmps18
  go_wp2_with fail
  refine HC.mono ?_
  rintro e w1 ⟨rfl, hf⟩
  go_wp2
  go_ret
  exact ⟨ret_bool H1.out, hf⟩
end Go.Proofs.YtkchpngkmchamaaGreat

/-
  SpaceLeads.
-/
namespace Go.Proofs.YtkchpngkmchamaaGreat
open Go.RowKit Go.Maps
attribute [local go_sem ↓] Go.wp_at_zero Go.wp_at_succ
attribute [local go_sem high] run_eql_pt run_neq_pt

theorem run_eql_pt0 (a c : Int) (b : Bs) (w : World) : (binOp .eql 35 (.agg #[.int .i64 a, .string (bs b), .int .i64 c]) (.agg #[.int .i64 0, .string ⟨#[]⟩, .int .i64 0])).run Tryz.prog w = .ok (.bool (samePt ⟨a, b, c⟩ noPt)) w := run_eql_pt a c 0 0 b [] w
attribute [local go_sem high] run_eql_pt0
/-- The number of the port ahead of the k-th. -/
def lastL (L : List Pt) : Nat → Int
  | 0 => 49
  | q + 1 => ((L[q]?).getD noPt).number
theorem lastL_lt {P : List Pt} (ho : OrdP P) (h1 : ∀ p ∈ P, 50 ≤ p.number) {q : Nat} {p : Pt} (hp : P[q]? = some p) : lastL P q < p.number := by
  cases q with
  | zero => have := h1 p (List.mem_of_getElem? hp); show (49 : Int) < _; omega
  | succ q =>
    have hl := (List.getElem?_eq_some_iff.1 hp).1
    have h2 : P[q]? = some (P[q]'(by omega)) := List.getElem?_eq_getElem _
    show ((P[q]?).getD noPt).number < _
    rw [h2]
    have := List.pairwise_iff_getElem.1 ho q (q + 1) (by omega) hl (by omega)
    rw [(List.getElem?_eq_some_iff.1 hp).2] at this
    exact this

set_option maxRecDepth 100000 in
set_option maxHeartbeats 16000000 in
theorem SpaceLeads_any {w : World} {u : Value} {xs : List Sm3} (hu : SmallsAt w u xs) (tn : Nat) (htn : tn < 65536) :
    Calls Tryz.prog 4 #[u, .int .u16 (tn : Int)] w fun e w' => e = .returned (.bool true) ∧ Fr0 none' w w' := by
  obtain ⟨i0, hi, hz0, hz1, hz2⟩ := info_parts info_str
  go_enter Tryz.func4, Tryz.ntmps4
  go_wp2_with fail
  refine (sawake_any _).mono ?_
  rintro e w1 ⟨rfl, hf1⟩
  have F1 := Lib.hid hf1
  clear hf1
  go_wp2_with fail
  refine (smade_any (hu.later F1.out)).mono ?_
  rintro e w2 ⟨sb, mb, nv, nx, L, rfl, hS, hG⟩
  have S := Lib.hid (hS.base F1.out)
  have G := Lib.hid hG
  clear hS hG F1
  go_wp2_with fail
  refine (all_st S.out).mono ?_
  rintro e w3 ⟨u, rfl, hu3, hf⟩
  have S := Lib.hid (S.out.later hf)
  obtain ⟨ua, uc, rfl, hin⟩ := hu3.row
  have U := Lib.hid hin
  obtain ⟨l, hl⟩ : ∃ l, L.length = l := ⟨_, rfl⟩
  have Hl := Lib.hid hl
  have hl10 : (l : Int) ≤ 10 := by rw [← hl]; exact S.out.is.ok.len
  rw [hl]
  have hd1 : decide ((10 : Int) < (l : Int)) = false := decide_eq_false (by omega)
  have hd2 : decide (10 < l) = false := decide_eq_false (by omega)
  clear hu hu3 hf hl hin
  go_wp2_with fail
  refine (SLimit_is S.out.is).mono ?_
  rintro e w4 ⟨rfl, rfl⟩
  go_wp2_with fail
  have HC := SLen_is S.out.is
  rw [Hl.out] at HC
  refine HC.mono ?_
  rintro e w4 ⟨rfl, rfl⟩
  clear HC
  go_wp2_with fail
  refine (SLimit_is S.out.is).mono ?_
  rintro e w4 ⟨rfl, rfl⟩
  go_wp2_with fail
  obtain ⟨N0, hN0⟩ : ∃ n, w3.heap.size = n := ⟨_, rfl⟩
  go_loopw [8, 9, 50] (fun nm last i wr => ∃ k : Nat, k ≤ l ∧ i = .int .i64 k ∧ last = .int .i64 (lastL L k) ∧ Hid (wr.ownsRow N0 9 1 nm k (((L.take k).map (·.name)).map strV)) ∧ Hid (Fr0 none' w3 wr)) (fun _ _ i _ => l - (Go.RowKit.intOf i).toNat)
  case atStart => exact ⟨0, Nat.zero_le _, rfl, rfl, World.ownsRow_nil _ _ _ _, Fr0.refl _ _⟩
  case round =>
    obtain ⟨k, hk, rfl, rfl, hrow, hfr⟩ := hrel
    by_cases hlt : k < l
    · obtain ⟨p, hp⟩ : ∃ p, L[k]? = some p := ⟨_, List.getElem?_eq_getElem (by rw [Hl.out]; exact hlt)⟩
      obtain ⟨g, o, rfl, hpc⟩ := U.out k p hp
      obtain ⟨d0, d1, d2⟩ := hpc.later hfr.out
      have hpm := List.mem_of_getElem? hp
      have hlast := lastL_lt S.out.is.ok.ord G.out.num hp
      have hnext : lastL L (k + 1) = p.number := by show ((L[k]?).getD noPt).number = _; rw [hp]; rfl
      have hsn : (L.take (k + 1)).map (·.name) = (L.take k).map (·.name) ++ [p.name] := by rw [List.take_add_one, hp]; simp
      have hlo := S.out.is.ok.lo p hpm
      have hnx := S.out.is.ok.nxt
      have hrt := S.out.is.ok.right p hpm
      have hat : atP L p.number = some p := (atP_some S.out.is.ok.ord).2 ⟨hpm, rfl⟩
      have hnm : nameP L p.name = some p := (nameP_some S.out.is.ok.names).2 ⟨hpm, rfl⟩
      obtain ⟨lz, hlz⟩ : ∃ lz, lastL L k = lz := ⟨_, rfl⟩
      rw [hlz] at hlast ⊢
      obtain ⟨W8, hW8⟩ : ∃ W, wr.alloc (.cells #[.int .i64 p.number, .string (bs p.name), .int .i64 p.process] 35) = W := ⟨_, rfl⟩
      obtain ⟨PB, hPB⟩ : ∃ X, wr.heap.size = X := ⟨_, rfl⟩
      have S8 := Lib.hid (show SpSt w W8 sb mb nv 10 nx L ((PB, .cells #[.int .i64 p.number, .string (bs p.name), .int .i64 p.process] 35 (0, 0)) :: _) from hW8 ▸ hPB ▸ (S.out.later hfr.out).alloc _)
      have f8 := Lib.hid (show Fr0 none' w3 W8 by rw [← hW8]; exact hfr.out.alloc _)
      have r8 := Lib.hid (ownsRow_fr0 hrow.out (show Fr0 none' wr W8 by rw [← hW8]; exact (Fr0.refl _ _).alloc _) (fun _ _ h => h))
      have HG := get_st S8.out p.number (by omega)
      rw [show getP L p.number = p by unfold getP; rw [hat]; rfl, show getE L p.number = 0 by unfold getE; rw [hat]; rfl] at HG
      have pp := (S8.out.ex _ (List.mem_cons_self ..)).1
      have p0 := cells_in pp 0
      have p1 := cells_in pp 1
      have p2 := cells_in pp 2
      simp at p0 p1 p2
      obtain ⟨xa, xb, xc⟩ := p
      simp only at d0 d1 d2 hlast hnext hsn hlo hrt
      have Hsn := Lib.hid hsn
      have Hnext := Lib.hid hnext
      have Hat := Lib.hid hat
      have Hnm := Lib.hid hnm
      have Hrt := Lib.hid hrt
      have k1 : (0 : Int) ≤ (k : Int) := by omega
      have k2 : (k : Int) < (l : Int) := by omega
      clear hp hpc hpm hnext hsn hat hnm hrt hlz pp hrow hfr
      go_wp2_with fail
      refine HG.mono ?_
      rintro e w9 ⟨rfl, hf⟩
      simp only [ptV]
      obtain ⟨W10, hW⟩ : ∃ W, w9.alloc (.cells #[.int .i64 xa, .string (bs xb), .int .i64 xc] 35) = W := ⟨_, rfl⟩
      obtain ⟨QB, hQB⟩ : ∃ X, w9.heap.size = X := ⟨_, rfl⟩
      have S10 := Lib.hid (show SpSt w W10 sb mb nv 10 nx L ((QB, .cells #[.int .i64 xa, .string (bs xb), .int .i64 xc] 35 (0, 0)) :: _) from hW ▸ hQB ▸ (S8.out.later hf).alloc _)
      have f10 := Lib.hid (f8.out.trans (hf.trans (show Fr0 none' w9 W10 by rw [← hW]; exact (Fr0.refl _ _).alloc _)))
      have r10 := Lib.hid (ownsRow_fr0 r8.out (hf.trans (show Fr0 none' w9 W10 by rw [← hW]; exact (Fr0.refl _ _).alloc _)) (fun _ _ h => h))
      clear HG hf hW8 hPB d0 d1 d2 S8 f8 r8
      have pp := (S10.out.ex _ (List.mem_cons_of_mem _ (List.mem_cons_self ..))).1
      have p0 := cells_in pp 0
      have p1 := cells_in pp 1
      have p2 := cells_in pp 2
      simp at p0 p1 p2
      clear pp
      go_wp2_with fail
      clear hW hQB
      have HC := find_st S10.out xb (by have := rightB_len Hrt.out; omega)
      rw [show findP L xb = ⟨xa, xb, xc⟩ by unfold findP; rw [if_neg (by rw [Hrt.out]; simp), Hnm.out]; rfl, show findE L xb = 0 by unfold findE; rw [if_neg (by rw [Hrt.out]; simp), Hnm.out]; rfl] at HC
      refine HC.mono ?_
      rintro e w11 ⟨rfl, hf⟩
      simp only [ptV]
      obtain ⟨W12, hW⟩ : ∃ W, w11.alloc (.cells #[.int .i64 xa, .string (bs xb), .int .i64 xc] 35) = W := ⟨_, rfl⟩
      obtain ⟨RB, hRB⟩ : ∃ X, w11.heap.size = X := ⟨_, rfl⟩
      have S12 := Lib.hid (show SpSt w W12 sb mb nv 10 nx L ((RB, .cells #[.int .i64 xa, .string (bs xb), .int .i64 xc] 35 (0, 0)) :: _) from hW ▸ hRB ▸ (S10.out.later hf).alloc _)
      have f12 := Lib.hid (f10.out.trans (hf.trans (show Fr0 none' w11 W12 by rw [← hW]; exact (Fr0.refl _ _).alloc _)))
      have r12 := Lib.hid (ownsRow_fr0 r10.out (hf.trans (show Fr0 none' w11 W12 by rw [← hW]; exact (Fr0.refl _ _).alloc _)) (fun _ _ h => h))
      clear HC hf S10 f10 r10 p0 p1 p2
      have pp := (S12.out.ex _ (List.mem_cons_of_mem _ (List.mem_cons_of_mem _ (List.mem_cons_self ..)))).1
      have qq := (S12.out.ex _ (List.mem_cons_of_mem _ (List.mem_cons_self ..))).1
      have rr := (S12.out.ex _ (List.mem_cons_self ..)).1
      have p0 := cells_in pp 0
      have p1 := cells_in pp 1
      have p2 := cells_in pp 2
      have q0 := cells_in qq 0
      have q1 := cells_in qq 1
      have q2 := cells_in qq 2
      have r0 := cells_in rr 0
      have r1 := cells_in rr 1
      have r2 := cells_in rr 2
      simp at p0 p1 p2 q0 q1 q2 r0 r1 r2
      clear pp qq rr
      go_wp2_with fail
      clear hW hRB
      have Skey := Lib.hid (show ∀ W', Fr0 none' W12 W' → W'.cell? ⟨PB, 0, none⟩ = some (.int .i64 xa) ∧ W'.cell? ⟨PB, 1, none⟩ = some (.string (bs xb)) ∧ W'.cell? ⟨PB, 2, none⟩ = some (.int .i64 xc) ∧ W'.cell? ⟨QB, 0, none⟩ = some (.int .i64 xa) ∧ W'.cell? ⟨QB, 1, none⟩ = some (.string (bs xb)) ∧ W'.cell? ⟨QB, 2, none⟩ = some (.int .i64 xc) ∧ W'.cell? ⟨RB, 0, none⟩ = some (.int .i64 xa) ∧ W'.cell? ⟨RB, 1, none⟩ = some (.string (bs xb)) ∧ W'.cell? ⟨RB, 2, none⟩ = some (.int .i64 xc) from fun W' hf => ⟨hf.later p0, hf.later p1, hf.later p2, hf.later q0, hf.later q1, hf.later q2, hf.later r0, hf.later r1, hf.later r2⟩)
      clear p0 p1 p2 q0 q1 q2 r0 r1 r2
      refine wp_region_held_drew (S := fun W' => W'.cell? ⟨PB, 0, none⟩ = some (.int .i64 xa) ∧ W'.cell? ⟨PB, 1, none⟩ = some (.string (bs xb)) ∧ W'.cell? ⟨PB, 2, none⟩ = some (.int .i64 xc) ∧ W'.cell? ⟨QB, 0, none⟩ = some (.int .i64 xa) ∧ W'.cell? ⟨QB, 1, none⟩ = some (.string (bs xb)) ∧ W'.cell? ⟨QB, 2, none⟩ = some (.int .i64 xc) ∧ W'.cell? ⟨RB, 0, none⟩ = some (.int .i64 xa) ∧ W'.cell? ⟨RB, 1, none⟩ = some (.string (bs xb)) ∧ W'.cell? ⟨RB, 2, none⟩ = some (.int .i64 xc)) (by kernel_rfl) (Skey.out _ (Fr0.refl none' W12).drew) (fun hHeld => ?_)
      refine take_on (i := 0) (v := .int .i64 0) rfl (by kernel_rfl) (by kernel_rfl) (by kernel_rfl) (fun _ _ _ h => h) (by kernel_rfl) (fun W' hSW => ?_) (by assumption) ?_
      · (try dsimp only at hSW)
        first | (go_simp; done) | exact rfl | (go_simp; rfl) | (go_simp; omega)
      try simp only [Act.put, List.setIfInBounds_toArray, List.set_cons_zero, List.set_cons_succ]
      refine take_on (i := 1) (v := .int .i64 0) rfl (by kernel_rfl) (by kernel_rfl) (by kernel_rfl) (fun _ _ _ h => h) (by kernel_rfl) (fun W' hSW => ?_) (by assumption) ?_
      · (try dsimp only at hSW)
        first | (go_simp; done) | exact rfl | (go_simp; rfl) | (go_simp; omega)
      try simp only [Act.put, List.setIfInBounds_toArray, List.set_cons_zero, List.set_cons_succ]
      refine take_on (i := 2) (v := .int .i64 0) rfl (by kernel_rfl) (by kernel_rfl) (by kernel_rfl) (fun _ _ _ h => h) (by kernel_rfl) (fun W' hSW => ?_) (by assumption) ?_
      · (try dsimp only at hSW)
        first | (go_simp; done) | exact rfl | (go_simp; rfl) | (go_simp; omega)
      try simp only [Act.put, List.setIfInBounds_toArray, List.set_cons_zero, List.set_cons_succ]
      refine take_on (i := 3) (v := .bool false) rfl (by kernel_rfl) (by kernel_rfl) (by kernel_rfl) (fun _ _ _ h => h) (by kernel_rfl) (fun W' hSW => ?_) (by assumption) ?_
      · (try dsimp only at hSW)
        first | (go_simp; done) | exact rfl | (go_simp; rfl) | (go_simp; omega)
      try simp only [Act.put, List.setIfInBounds_toArray, List.set_cons_zero, List.set_cons_succ]
      refine take_on (i := 4) (v := .bool false) rfl (by kernel_rfl) (by kernel_rfl) (by kernel_rfl) (fun _ _ _ h => h) (by kernel_rfl) (fun W' hSW => ?_) (by assumption) ?_
      · (try dsimp only at hSW)
        first | (go_simp; done) | exact rfl | (go_simp; rfl) | (go_simp; omega)
      try simp only [Act.put, List.setIfInBounds_toArray, List.set_cons_zero, List.set_cons_succ]
      refine take_on (i := 5) (v := .agg #[.int .i64 xa, .string (bs xb), .int .i64 xc]) rfl (by kernel_rfl) (by kernel_rfl) (by kernel_rfl) (fun _ _ _ h => h) (by kernel_rfl) (fun W' hSW => ?_) (by assumption) ?_
      · (try dsimp only at hSW)
        first | (go_simp; done) | exact rfl | (go_simp; rfl) | (go_simp; omega)
      try simp only [Act.put, List.setIfInBounds_toArray, List.set_cons_zero, List.set_cons_succ]
      refine take_on (i := 6) (v := .agg #[.int .i64 xa, .string (bs xb), .int .i64 xc]) rfl (by kernel_rfl) (by kernel_rfl) (by kernel_rfl) (fun _ _ _ h => h) (by kernel_rfl) (fun W' hSW => ?_) (by assumption) ?_
      · (try dsimp only at hSW)
        first | (go_simp; done) | exact rfl | (go_simp; rfl) | (go_simp; omega)
      try simp only [Act.put, List.setIfInBounds_toArray, List.set_cons_zero, List.set_cons_succ]
      refine take_on (i := 7) (v := .bool false) rfl (by kernel_rfl) (by kernel_rfl) (by kernel_rfl) (fun _ _ _ h => h) (by kernel_rfl) (fun W' hSW => ?_) (by assumption) ?_
      · (try dsimp only at hSW)
        first | (go_simp; done) | exact rfl | (go_simp; rfl) | (go_simp; omega)
      try simp only [Act.put, List.setIfInBounds_toArray, List.set_cons_zero, List.set_cons_succ]
      refine take_on (i := 8) (v := .bool false) rfl (by kernel_rfl) (by kernel_rfl) (by kernel_rfl) (fun _ _ _ h => h) (by kernel_rfl) (fun W' hSW => ?_) (by assumption) ?_
      · (try dsimp only at hSW)
        first | (go_simp; done) | exact rfl | (go_simp; rfl) | (go_simp; omega)
      try simp only [Act.put, List.setIfInBounds_toArray, List.set_cons_zero, List.set_cons_succ]
      refine take_on (i := 9) (v := .bool false) rfl (by kernel_rfl) (by kernel_rfl) (by kernel_rfl) (fun _ _ _ h => h) (by kernel_rfl) (fun W' hSW => ?_) (by assumption) ?_
      · (try dsimp only at hSW)
        first | (go_simp; done) | exact rfl | (go_simp; rfl) | (go_simp; omega)
      try simp only [Act.put, List.setIfInBounds_toArray, List.set_cons_zero, List.set_cons_succ]
      refine take_on (i := 10) (v := .agg #[.int .i64 xa, .string (bs xb), .int .i64 xc]) rfl (by kernel_rfl) (by kernel_rfl) (by kernel_rfl) (fun _ _ _ h => h) (by kernel_rfl) (fun W' hSW => ?_) (by assumption) ?_
      · (try dsimp only at hSW)
        first | (go_simp; done) | exact rfl | (go_simp; rfl) | (go_simp; omega)
      try simp only [Act.put, List.setIfInBounds_toArray, List.set_cons_zero, List.set_cons_succ]
      refine take_on (i := 11) (v := .agg #[.int .i64 xa, .string (bs xb), .int .i64 xc]) rfl (by kernel_rfl) (by kernel_rfl) (by kernel_rfl) (fun _ _ _ h => h) (by kernel_rfl) (fun W' hSW => ?_) (by assumption) ?_
      · (try dsimp only at hSW)
        first | (go_simp; done) | exact rfl | (go_simp; rfl) | (go_simp; omega)
      try simp only [Act.put, List.setIfInBounds_toArray, List.set_cons_zero, List.set_cons_succ]
      refine take_on (i := 12) (v := .bool false) rfl (by kernel_rfl) (by kernel_rfl) (by kernel_rfl) (fun _ _ _ h => h) (by kernel_rfl) (fun W' hSW => ?_) (by assumption) ?_
      · (try dsimp only at hSW)
        first | (go_simp; done) | exact rfl | (go_simp; rfl) | (go_simp; omega)
      try simp only [Act.put, List.setIfInBounds_toArray, List.set_cons_zero, List.set_cons_succ]
      refine take_on (i := 13) (v := .bool false) rfl (by kernel_rfl) (by kernel_rfl) (by kernel_rfl) (fun _ _ _ h => h) (by kernel_rfl) (fun W' hSW => ?_) (by assumption) ?_
      · (try dsimp only at hSW)
        first | (go_simp; done) | exact rfl | (go_simp; rfl) | (go_simp; omega)
      try simp only [Act.put, List.setIfInBounds_toArray, List.set_cons_zero, List.set_cons_succ]
      refine take_on (i := 14) (v := .bool false) rfl (by kernel_rfl) (by kernel_rfl) (by kernel_rfl) (fun _ _ _ h => h) (by kernel_rfl) (fun W' hSW => ?_) (by assumption) ?_
      · (try dsimp only at hSW)
        first | (go_simp; done) | exact rfl | (go_simp; rfl) | (go_simp; omega)
      try simp only [Act.put, List.setIfInBounds_toArray, List.set_cons_zero, List.set_cons_succ]
      refine take_on (i := 15) (v := .pointer (some ⟨PB, 0, none⟩)) rfl (by kernel_rfl) (by kernel_rfl) (by kernel_rfl) (fun _ _ _ h => h) (by kernel_rfl) (fun W' hSW => ?_) (by assumption) ?_
      · (try dsimp only at hSW)
        first | (go_simp; done) | exact rfl | (go_simp; rfl) | (go_simp; omega)
      try simp only [Act.put, List.setIfInBounds_toArray, List.set_cons_zero, List.set_cons_succ]
      refine take_on (i := 16) (v := .int .i64 xa) rfl (by kernel_rfl) (by kernel_rfl) (by kernel_rfl) (fun _ _ _ h => h) (by kernel_rfl) (fun W' hSW => ?_) (by assumption) ?_
      · (try dsimp only at hSW)
        first | (go_simp; done) | exact rfl | (go_simp; rfl) | (go_simp; omega)
      try simp only [Act.put, List.setIfInBounds_toArray, List.set_cons_zero, List.set_cons_succ]
      refine take_on (i := 17) (v := .int .i64 lz) rfl (by kernel_rfl) (by kernel_rfl) (by kernel_rfl) (fun _ _ _ h => h) (by kernel_rfl) (fun W' hSW => ?_) (by assumption) ?_
      · (try dsimp only at hSW)
        first | (go_simp; done) | exact rfl | (go_simp; rfl) | (go_simp; omega)
      try simp only [Act.put, List.setIfInBounds_toArray, List.set_cons_zero, List.set_cons_succ]
      refine take_on (i := 18) (v := .bool false) rfl (by kernel_rfl) (by kernel_rfl) (by kernel_rfl) (fun _ _ _ h => h) (by kernel_rfl) (fun W' hSW => ?_) (by assumption) ?_
      · (try dsimp only at hSW)
        first | (go_simp; done) | exact rfl | (go_simp; rfl) | (go_simp; omega)
      try simp only [Act.put, List.setIfInBounds_toArray, List.set_cons_zero, List.set_cons_succ]
      refine take_on (i := 19) (v := .bool false) rfl (by kernel_rfl) (by kernel_rfl) (by kernel_rfl) (fun _ _ _ h => h) (by kernel_rfl) (fun W' hSW => ?_) (by assumption) ?_
      · (try dsimp only at hSW)
        first | (go_simp; done) | exact rfl | (go_simp; rfl) | (go_simp; omega)
      try simp only [Act.put, List.setIfInBounds_toArray, List.set_cons_zero, List.set_cons_succ]
      refine take_on (i := 20) (v := .bool false) rfl (by kernel_rfl) (by kernel_rfl) (by kernel_rfl) (fun _ _ _ h => h) (by kernel_rfl) (fun W' hSW => ?_) (by assumption) ?_
      · (try dsimp only at hSW)
        first | (go_simp; done) | exact rfl | (go_simp; rfl) | (go_simp; omega)
      try simp only [Act.put, List.setIfInBounds_toArray, List.set_cons_zero, List.set_cons_succ]
      refine take_on (i := 21) (v := .pointer (some ⟨PB, 0, none⟩)) rfl (by kernel_rfl) (by kernel_rfl) (by kernel_rfl) (fun _ _ _ h => h) (by kernel_rfl) (fun W' hSW => ?_) (by assumption) ?_
      · (try dsimp only at hSW)
        first | (go_simp; done) | exact rfl | (go_simp; rfl) | (go_simp; omega)
      try simp only [Act.put, List.setIfInBounds_toArray, List.set_cons_zero, List.set_cons_succ]
      refine take_on (i := 22) (v := .int .i64 xa) rfl (by kernel_rfl) (by kernel_rfl) (by kernel_rfl) (fun _ _ _ h => h) (by kernel_rfl) (fun W' hSW => ?_) (by assumption) ?_
      · (try dsimp only at hSW)
        first | (go_simp; done) | exact rfl | (go_simp; rfl) | (go_simp; omega)
      try simp only [Act.put, List.setIfInBounds_toArray, List.set_cons_zero, List.set_cons_succ]
      refine take_on (i := 23) (v := .pointer (some ⟨sb, 0, none⟩)) rfl (by kernel_rfl) (by kernel_rfl) (by kernel_rfl) (fun _ _ _ h => h) (by kernel_rfl) (fun W' hSW => ?_) (by assumption) ?_
      · (try dsimp only at hSW)
        first | (go_simp; done) | exact rfl | (go_simp; rfl) | (go_simp; omega)
      try simp only [Act.put, List.setIfInBounds_toArray, List.set_cons_zero, List.set_cons_succ]
      refine take_call (i := 24) rfl (by kernel_rfl) (by kernel_rfl) (fun K hK => ?_)
      go_simp
      refine (SNext_is (S12.out.later (Fr0.refl none' W12).drew).is).mono ?_
      rintro e w13 ⟨rfl, rfl⟩
      go_wp2_with fail
      refine hK.out _ _ (Skey.out _ (Fr0.refl none' W12).drew) (fun _ => ?_)
      clear hK K
      try simp only [Act.put, List.setIfInBounds_toArray, List.set_cons_zero, List.set_cons_succ]
      refine take_on (i := 25) (v := .bool false) rfl (by kernel_rfl) (by kernel_rfl) (by kernel_rfl) (fun _ _ _ h => h) (by kernel_rfl) (fun W' hSW => ?_) (by assumption) ?_
      · (try dsimp only at hSW)
        first | (go_simp; done) | exact rfl | (go_simp; rfl) | (go_simp; omega)
      try simp only [Act.put, List.setIfInBounds_toArray, List.set_cons_zero, List.set_cons_succ]
      refine take_on (i := 26) (v := .bool false) rfl (by kernel_rfl) (by kernel_rfl) (by kernel_rfl) (fun _ _ _ h => h) (by kernel_rfl) (fun W' hSW => ?_) (by assumption) ?_
      · (try dsimp only at hSW)
        first | (go_simp; done) | exact rfl | (go_simp; rfl) | (go_simp; omega)
      try simp only [Act.put, List.setIfInBounds_toArray, List.set_cons_zero, List.set_cons_succ]
      refine wpAnyH_done (by kernel_rfl) ?_ _
      clear hHeld
      have S13 := Lib.hid (S12.out.later (Fr0.refl none' W12).drew)
      have f13 := Lib.hid f12.out.drew
      have r13 := Lib.hid (ownsRow_fr0 r12.out (Fr0.refl none' W12).drew (fun _ _ h => h))
      obtain ⟨p0, p1, p2, -⟩ := Skey.out _ (Fr0.refl none' W12).drew
      obtain ⟨W13, hW13⟩ : ∃ W, W12.drew = W := ⟨_, rfl⟩
      rw [hW13] at S13 f13 r13 p0 p1 p2 ⊢
      clear hW13 Skey S12 f12 r12
      have hN0z : N0 ≤ W13.heap.size := by have := f13.out.size; omega
      have hr13 := r13.out
      have hsrc := Src.newRow (P := Tryz.prog) (size := 1) (tx := 33) (ty := 9) W13 Tryz.underlying33 1 1 [.string (bs xb)] rfl (by simp [Value.oneCell'])
      have HN0 := Lib.hid hN0
      clear hN0
      go_wp2_with (at_builtin; refine wpList_append_k rfl _ _ 33 33 rfl N0 9 i0 (.string ⟨#[]⟩) 1 16 Tryz.underlying33 hi hz0 hz1 hz2 rfl (by decide) _ k _ rfl (hr13.alloc _) (.slice (some ⟨W13.heap.size, 0, none⟩) 1 1) 1 _ rfl hsrc (by unfold maxLen; omega) (by omega) (by simp; omega) ?_; intro v' w14 hown' hgrow hdr hob)
      have hf14 : Fr0 none' w3 w14 := (f13.out.alloc _).grown hgrow (fun k hk hkl => by have := (hr13.lt k hk).1; have := HN0.out; omega)
      go_roundw
      case rel =>
        refine ⟨k + 1, by omega, by go_num, by rw [Hnext.out], ?_, hf14⟩
        rw [Hsn.out, List.map_append]
        exact hown'
      case measure => simp [Go.RowKit.intOf]; omega
    · have hkl : k = l := by omega
      subst hkl
      rw [List.take_of_length_le (by rw [Hl.out]; exact Nat.le_refl _)] at hrow
      obtain ⟨na, nc, rfl, hn1, hn2, _, hnc, _, _⟩ := ownsRow_cells hrow.out
      have NA := Lib.hid hnc
      have S := Lib.hid (S.out.later hfr.out)
      have hml : (L.map (·.name)).length = k := by rw [List.length_map]; exact Hl.out
      have hall : allR (L.map (·.name)) = true := List.all_eq_true.2 (fun x hx => by
        obtain ⟨p, hp, rfl⟩ := List.mem_map.1 hx
        exact S.out.is.ok.right p hp)
      have hNl := S.out.is.ok.names_length
      have HC := Of_any na k nc (L.map (·.name)) wr hml (by omega) (fun p hp => by have := List.all_eq_true.1 hall p hp; have := rightB_len this; omega) NA.out
      have hE : ofE (L.map (·.name)) = 0 := by unfold ofE; rw [if_pos hall, if_pos (by show (namesP L).length ≤ 256; have := Hl.out; omega)]
      have hL : ofL (L.map (·.name)) = namesP L := by unfold ofL; rw [hall, decide_eq_true (by show (namesP L).length ≤ 256; have := Hl.out; omega)]; rfl
      rw [hE, hL, hNl, Hl.out] at HC
      have Hml := Lib.hid hml
      have HNl := Lib.hid (show (namesP L).length = k from by rw [hNl]; exact Hl.out)
      clear hrow hnc hfr hall hE hL hNl hml hN0
      go_wp2_with fail
      refine HC.mono ?_
      rintro e w5 ⟨v, rfl, hrow, hbe⟩
      have hf := below_to0 hbe
      have S := Lib.hid (S.out.later hf)
      have NA := Lib.hid (NA.out.later hf)
      obtain ⟨oa, oc, rfl, _, _, _, hoc, _, _⟩ := ownsRow_cells hrow
      have OA := Lib.hid hoc
      clear HC hrow hbe hf hoc
      go_wp2_with fail
      refine (Names_is S.out.is).mono ?_
      rintro e w6 ⟨v, rfl, hrow, hf⟩
      obtain ⟨ma, mc, rfl, _, _, _, hmc, _, _⟩ := ownsRow_cells hrow
      have S := Lib.hid (S.out.later hf)
      have NA := Lib.hid (NA.out.later hf)
      have OA := Lib.hid (OA.out.later hf)
      rw [HNl.out]
      have HC := sameS_any ma oa k k mc oc (namesP L) (namesP L) w6 HNl.out HNl.out (by omega) (by omega) hmc OA.out
      rw [decide_eq_true (rfl : namesP L = namesP L)] at HC
      clear hrow hf
      go_wp2_with fail
      refine HC.mono ?_
      rintro e w7 ⟨rfl, hf⟩
      have S := Lib.hid (S.out.later hf)
      have NA := Lib.hid (NA.out.later hf)
      clear HC hf hmc
      go_wp2_with fail
      obtain ⟨s, hs⟩ : ∃ s, madeB tn = s := ⟨_, rfl⟩
      have hM := Made_any tn w7 htn
      rw [hs] at hM
      have Hsr := Lib.hid (show rightB s = true from hs ▸ madeB_right tn)
      have Hsl := Lib.hid (show s.length ≤ 20 from hs ▸ madeB_len tn)
      refine hM.mono ?_
      rintro e w8 ⟨rfl, hbe⟩
      have S := Lib.hid (S.out.later (below_to0 hbe))
      have NA := Lib.hid (NA.out.later (below_to0 hbe))
      clear hM hbe hs
      go_wp2_with fail
      have HC := find_st S.out s (by have := Hsl.out; omega)
      by_cases hin : s ∈ L.map (·.name)
      · obtain ⟨q, hq, hqs⟩ := List.mem_map.1 hin
        have hnm : nameP L s = some q := (nameP_some S.out.is.ok.names).2 ⟨hq, hqs⟩
        rw [show findP L s = q by unfold findP; rw [if_neg (by rw [Hsr.out]; simp), hnm]; rfl, show findE L s = 0 by unfold findE; rw [if_neg (by rw [Hsr.out]; simp), hnm]; rfl] at HC
        obtain ⟨z1, z2, z3⟩ := q
        simp only at hqs
        have hqs' : s = z2 := hqs.symm
        clear hqs hq hnm
        subst hqs'
        refine HC.mono ?_
        rintro e w9 ⟨rfl, hf⟩
        simp only [ptV]
        obtain ⟨W10, hW⟩ : ∃ W, w9.alloc (.cells #[.int .i64 z1, .string (bs s), .int .i64 z3] 35) = W := ⟨_, rfl⟩
        obtain ⟨QB, hQB⟩ : ∃ X, w9.heap.size = X := ⟨_, rfl⟩
        have S10 := Lib.hid (show SpSt w W10 sb mb nv 10 nx L ((QB, .cells #[.int .i64 z1, .string (bs s), .int .i64 z3] 35 (0, 0)) :: _) from hW ▸ hQB ▸ (S.out.later hf).alloc _)
        have NA := Lib.hid (NA.out.later (hf.trans (show Fr0 none' w9 W10 by rw [← hW]; exact (Fr0.refl _ _).alloc _)))
        have HC2 := Contains_any na k nc (L.map (·.name)) s W10 Hml.out (by omega) NA.out
        rw [decide_eq_true hin] at HC2
        clear HC hf
        go_wp2_with fail
        clear hW hQB
        refine HC2.mono ?_
        rintro e w11 ⟨rfl, hf⟩
        have S11 := Lib.hid (S10.out.later hf)
        clear HC2 hf
        have qq := (S11.out.ex _ (List.mem_cons_self ..)).1
        have q0 := cells_in qq 0
        have q1 := cells_in qq 1
        have q2 := cells_in qq 2
        simp at q0 q1 q2
        clear qq
        clear hin
        have e2 : ((bs s).toList == (bs s).toList) = true := by simp
        go_wp2
        go_ret
        exact ⟨rfl, S11.out.fr⟩
      · have hnm : nameP L s = none := nameP_none.2 (fun q hq e => hin (List.mem_map.2 ⟨q, hq, e⟩))
        rw [show findP L s = noPt by unfold findP; rw [if_neg (by rw [Hsr.out]; simp), hnm]; rfl, show findE L s = 6 by unfold findE; rw [if_neg (by rw [Hsr.out]; simp), hnm]; rfl] at HC
        obtain ⟨⟨z1, z2, z3⟩, hz⟩ : ∃ p, noPt = p := ⟨_, rfl⟩
        rw [hz] at HC
        have Hz := Lib.hid hz
        clear hz hnm
        refine HC.mono ?_
        rintro e w9 ⟨rfl, hf⟩
        simp only [ptV]
        obtain ⟨W10, hW⟩ : ∃ W, w9.alloc (.cells #[.int .i64 z1, .string (bs z2), .int .i64 z3] 35) = W := ⟨_, rfl⟩
        obtain ⟨QB, hQB⟩ : ∃ X, w9.heap.size = X := ⟨_, rfl⟩
        have S10 := Lib.hid (show SpSt w W10 sb mb nv 10 nx L ((QB, .cells #[.int .i64 z1, .string (bs z2), .int .i64 z3] 35 (0, 0)) :: _) from hW ▸ hQB ▸ (S.out.later hf).alloc _)
        have NA := Lib.hid (NA.out.later (hf.trans (show Fr0 none' w9 W10 by rw [← hW]; exact (Fr0.refl _ _).alloc _)))
        have HC2 := Contains_any na k nc (L.map (·.name)) s W10 Hml.out (by omega) NA.out
        rw [decide_eq_false hin] at HC2
        clear HC hf
        go_wp2_with fail
        clear hW hQB
        refine HC2.mono ?_
        rintro e w11 ⟨rfl, hf⟩
        have S11 := Lib.hid (S10.out.later hf)
        clear HC2 hf
        have qq := (S11.out.ex _ (List.mem_cons_self ..)).1
        have q0 := cells_in qq 0
        have q1 := cells_in qq 1
        have q2 := cells_in qq 2
        simp at q0 q1 q2
        clear qq
        clear hin
        have hsame : samePt ⟨z1, z2, z3⟩ noPt = true := decide_eq_true Hz.out.symm
        go_wp2
        go_ret
        exact ⟨rfl, S11.out.fr⟩
end Go.Proofs.YtkchpngkmchamaaGreat

namespace Go.Proofs.YtkchpngkmchamaaGreat.spaceLeads
open Go.ChangeShapes Go.WideShapes Go.ChangeAt Go.RowKit Go.Proofs.YtkchpngkmchamaaGreat

set_option maxRecDepth 100000 in
theorem lifted (os : Os) (started : os.Started) (H : Type) (enc : TypeId × Value → H) :
    ReturnsInHanded {} Tryz.checked os 4 .any (Rows.spaceLeadsSpec.pre6 enc Tryz.prog Tryz.f4 Rows.spaceLeadsRow.domain false) (Rows.spaceLeadsSpec.post enc Tryz.prog Tryz.f4 false true false false) := by
  refine returnsInHanded_of_change (C := Tryz.checked) own_knob started (by kernel_rfl) Tryz.func4
    (ChangeSpec.witness6 (enc := enc) (C := Tryz.checked) false ⟨#[], #[.slice none 0 0, .int .u16 0], []⟩ 8 (by kernel_rfl) (by kernel_rfl) (by kernel_rfl) (by kernel_rfl)) ?_
  intro W base args ds gs before hval0 hW hcnd _
  have hval : ∀ (j : Nat) t v, Tryz.f4.params[j]? = some t → args[j]? = some v → Value.okWide Tryz.prog W .any base t v := hval0
  have hW' := hW
  obtain ⟨p, q, hA0, hV, rfl, hfz, hnd⟩ := hW
  have hA : DataW.TrodAll enc Tryz.prog W 0 (fun _ => true) true Tryz.f4.params.toList args.toList ds p := hA0
  rw [Tryz.params4] at hA hval
  obtain ⟨v0, vs0, d0, ds0, p0, q0, hargs, rfl, rfl, h0, r0⟩ := trodAll_cons hA
  obtain ⟨v1, vs1, d1, ds1, p1, q1, rfl, rfl, rfl, h1, r1⟩ := trodAll_cons r0
  obtain ⟨rfl, rfl, rfl⟩ := trodAll_nil r1
  obtain rfl : args = #[v0, v1] := by cases args; simp_all
  obtain ⟨rfl, rfl⟩ := trodVars_none hV
  clear hA0 hval0
  simp only [List.append_nil] at hW'
  have l0 : ∀ x ∈ p0, x.block < W.heap.size := fun x hx => hW'.lt x (by simp [hx])
  have t0 := fun W' (hb : Below W.heap.size W W') => Below.trod laid_own (by kernel_rfl) (of_decide_eq_true (by kernel_rfl)) h0 hb l0
  have l1 : ∀ x ∈ p1, x.block < W.heap.size := fun x hx => hW'.lt x (by simp [hx])
  have t1 := fun W' (hb : Below W.heap.size W W') => Below.trod laid_own (by kernel_rfl) (of_decide_eq_true (by kernel_rfl)) h1 hb l1
  obtain ⟨xs, hxs⟩ := smalls_arg (hval 0 25 v0 rfl rfl) h0
  obtain ⟨a1, rfl, _, _, w1⟩ := open_int Tryz.underlying26 (hval 1 26 v1 rfl rfl) h1
  obtain ⟨m1, rfl, hm1⟩ : ∃ m : Nat, a1 = m ∧ m < 65536 := by
    have := bounds_u16 w1
    exact ⟨a1.toNat, by omega, by omega⟩
  refine (SpaceLeads_any hxs m1 hm1).mono fun e W' ⟨he, hg0⟩ => ?_
  have hg := hg0.below (Nat.le_refl _) (fun _ _ h => h)
  subst he
  exact ⟨_, rfl, post_below2 (pa := (p0 ++ (p1 ++ []))) (pv := []) hW' (fun _ _ _ => (trodAll_cons_mk (shut_bool Tryz.underlying4 _) trodAll_mk0)) (trodAll_cons_mk (t0 _ hg) (trodAll_cons_mk (t1 _ hg) trodAll_mk0)) (fun _ _ => rfl) hg⟩

theorem over : Rows.spaceLeadsRow.holds Tryz.pinned (OpenSpec.ofChange Rows.spaceLeadsSpec) :=
  OpenClaim.holds_of_wide 4 Tryz.f4 rfl rfl rfl rfl rfl rfl rfl ⟨rfl, rfl, rfl, rfl, rfl⟩ rfl rfl rfl rfl rfl (by kernel_rfl) Tryz.func4 (by kernel_rfl)
    (of_decide_eq_true (by kernel_rfl)) (by unfold Func.isWrapper; first | (rw [if_pos (by decide +kernel)]; kernel_rfl) | (rw [if_neg (by decide +kernel)]; exact ⟨rfl, rfl⟩))
    (fun os started H enc _ => lifted os started H enc)

theorem proved : Rows.SpaceLeadsSaid := over
#print axioms proved
end Go.Proofs.YtkchpngkmchamaaGreat.spaceLeads
