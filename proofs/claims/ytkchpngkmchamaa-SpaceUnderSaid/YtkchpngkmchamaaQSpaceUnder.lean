/- SpaceUnder: the statement: for any slice of small numbers and any numbers the law returns true, and the arguments read as before; no condition. -/
import Derived.Test.YtkchpngkmchamaaJb2
set_option linter.unusedSimpArgs false
set_option linter.unusedVariables false

/-
  SpaceUnder.
-/
namespace Go.Proofs.Ytkchpngkmchamaa
open Go.RowKit Go.Maps
attribute [local go_sem ↓] Go.wp_at_zero Go.wp_at_succ
attribute [local go_sem high] run_eql_pt run_neq_pt

theorem filter_run {α : Type} (f : α → Bool) : ∀ (xs : List α) (lo r : Nat), lo + r ≤ xs.length → (∀ i x, xs[i]? = some x → f x = decide (lo ≤ i ∧ i < lo + r)) → xs.filter f = (xs.drop lo).take r
  | [], lo, r, _, _ => by simp
  | y :: t, 0, 0, _, h => by
    have h0 : f y = false := by rw [h 0 y rfl]; simp
    rw [List.filter_cons_of_neg (by simp [h0])]
    rw [filter_run f t 0 0 (by simp) (fun i x hx => by rw [h (i + 1) x (by simpa using hx)]; simp)]
    simp
  | y :: t, 0, r + 1, hl, h => by
    have h0 : f y = true := by rw [h 0 y rfl]; simp
    rw [List.filter_cons_of_pos h0]
    rw [filter_run f t 0 r (by simp at hl ⊢; omega) (fun i x hx => by rw [h (i + 1) x (by simpa using hx)]; congr 1; simp)]
    simp
  | y :: t, lo + 1, r, hl, h => by
    have h0 : f y = false := by rw [h 0 y rfl]; simp
    rw [List.filter_cons_of_neg (by simp [h0])]
    rw [filter_run f t lo r (by simp at hl ⊢; omega) (fun i x hx => by rw [h (i + 1) x (by simpa using hx)]; congr 1; simp; omega)]
    simp
/-- The ports of names. -/
def foundL (L : List Pt) (top : Bs) (S : List Bs) : List Pt := (S.filter (fun n => underB n top)).map (findP L)
theorem find_in {lim nx : Int} {L : List Pt} (h : SpOK lim nx L) {s : Bs} (hs : s ∈ namesP L) : findE L s = 0 ∧ L.filter (fun p => p.name == s) = [findP L s] := by
  obtain ⟨p, hp, rfl⟩ := (namesP_mem L s).1 hs
  have hn := (nameP_some h.names).2 ⟨hp, rfl⟩
  have hr := h.right p hp
  refine ⟨by unfold findE; rw [if_neg (by rw [hr]; simp), hn]; rfl, ?_⟩
  rw [filter_name h, hn]
  unfold findP
  rw [if_neg (by rw [hr]; simp), hn]; rfl
theorem named_find {lim nx : Int} {L : List Pt} (h : SpOK lim nx L) : ∀ S : List Bs, (∀ s ∈ S, s ∈ namesP L) → namedL L S = S.map (findP L)
  | [], _ => rfl
  | s :: r, hS => by
    unfold namedL
    rw [List.flatMap_cons, (find_in h (hS s List.mem_cons_self)).2, List.map_cons]
    have := named_find h r (fun x hx => hS x (List.mem_cons_of_mem _ hx))
    unfold namedL at this
    rw [this]; rfl
theorem under_found {lim nx : Int} {L : List Pt} (h : SpOK lim nx L) (top : Bs) : underL L top = foundL L top (namesP L) := by
  unfold underL foundL
  rw [filter_run (fun n => underB n top) (namesP L) (lowN (namesP L) top) (runN (namesP L) top) (runN_le _ _) (fun i x hx => by
    have hi := (List.getElem?_eq_some_iff.1 hx).1
    have := set_under (s := top) h.set hi
    rw [List.getD_eq_getElem?_getD, hx] at this
    exact this)]
  exact named_find h _ (fun s hs => List.mem_of_mem_drop (List.mem_of_mem_take hs))
theorem foundL_snoc (L : List Pt) (top : Bs) (S : List Bs) (k : Nat) (s : Bs) (hk : S[k]? = some s) : foundL L top (S.take (k + 1)) = foundL L top (S.take k) ++ (if underB s top = true then [findP L s] else []) := by
  unfold foundL
  rw [List.take_add_one, hk]
  simp only [Option.toList_some, List.filter_append, List.map_append]
  congr 1
  by_cases h : underB s top = true
  · rw [if_pos h]; simp [h]
  · rw [if_neg h]; simp [h]
theorem foundL_len (L : List Pt) (top : Bs) (S : List Bs) : (foundL L top S).length ≤ S.length := by
  unfold foundL; rw [List.length_map]; exact List.length_filter_le _ _
/-- How many ports are of a process below k. -/
def belowN (L : List Pt) (k : Int) : Nat := (L.filter (fun p => decide (p.process < k))).length
theorem belowN_succ (L : List Pt) (k : Int) : belowN L (k + 1) = belowN L k + (L.filter (fun p => p.process == k)).length := by
  unfold belowN
  induction L with
  | nil => rfl
  | cons y r ih =>
    rcases Int.lt_trichotomy y.process k with h | h | h
    · rw [List.filter_cons_of_pos (by simp; omega), List.filter_cons_of_pos (by simp; omega), List.filter_cons_of_neg (by simp; omega), List.length_cons, List.length_cons, ih]; omega
    · rw [List.filter_cons_of_pos (by simp; omega), List.filter_cons_of_neg (by simp; omega), List.filter_cons_of_pos (by simp; omega), List.length_cons, List.length_cons, ih]; omega
    · rw [List.filter_cons_of_neg (by simp; omega), List.filter_cons_of_neg (by simp; omega), List.filter_cons_of_neg (by simp; omega), ih]
theorem belowN_zero {lim nx : Int} {L : List Pt} (h : SpOK lim nx L) : belowN L 0 = 0 := by
  unfold belowN
  rw [List.filter_eq_nil_iff.2 (fun p hp => by have := h.proc p hp; simp; omega)]; rfl
theorem belowN_all {lim nx : Int} {L : List Pt} (h : SpOK lim nx L) : belowN L 18 = L.length := by
  unfold belowN
  rw [List.filter_eq_self.2 (fun p hp => by have := h.proc p hp; simp; omega)]

/-- The number of the port ahead of the q-th. -/
def lastN (P : List Pt) : Nat → Int
  | 0 => 0
  | q + 1 => ((P[q]?).getD noPt).number
theorem lastN_lt {P : List Pt} (ho : OrdP P) (h1 : ∀ p ∈ P, 1 ≤ p.number) {q : Nat} {p : Pt} (hp : P[q]? = some p) : lastN P q < p.number := by
  cases q with
  | zero => have := h1 p (List.mem_of_getElem? hp); show (0 : Int) < _; omega
  | succ q =>
    have hl := (List.getElem?_eq_some_iff.1 hp).1
    have h2 : P[q]? = some (P[q]'(by omega)) := List.getElem?_eq_getElem _
    show ((P[q]?).getD noPt).number < _
    rw [h2]
    have := List.pairwise_iff_getElem.1 ho q (q + 1) (by omega) hl (by omega)
    rw [(List.getElem?_eq_some_iff.1 hp).2] at this
    exact this

set_option maxRecDepth 100000 in
set_option maxHeartbeats 8000000 in
theorem SpaceUnder_any {w : World} {u : Value} {xs : List Sm3} (hu : SmallsAt w u xs) (tn : Nat) (htn : tn < 65536) :
    Calls Try.prog 5 #[u, .int .u16 (tn : Int)] w fun e w' => e = .returned (.bool true) ∧ Fr0 none' w w' := by
  obtain ⟨i0, hi, hz0, hz1, hz2⟩ := info_parts info_pt3
  go_enter Try.func5, Try.ntmps5
  go_wp2_with fail
  refine (sawake_any _).mono ?_
  rintro e w1 ⟨rfl, hf1⟩
  have F1 := Lib.hid hf1
  clear hf1
  go_wp2_with fail
  refine (smade_any (hu.later F1.out)).mono ?_
  rintro e w2 ⟨sb, mb, nv, nx, L, rfl, hS, hG⟩
  have S := Lib.hid (hS.base F1.out)
  have G := Lib.hid hG
  clear hS hG F1
  go_wp2_with fail
  obtain ⟨s, hs⟩ : ∃ s, madeB tn = s := ⟨_, rfl⟩
  have hM := Made_any tn w2 htn
  rw [hs] at hM
  have Hsr := Lib.hid (show rightB s = true from hs ▸ madeB_right tn)
  have Hsl := Lib.hid (show s.length ≤ 20 from hs ▸ madeB_len tn)
  refine hM.mono ?_
  rintro e w3 ⟨rfl, hbe⟩
  have S := Lib.hid (S.out.later (below_to0 hbe))
  clear hM hbe hs
  go_wp2_with fail
  have HC := under_st S.out s (by have := Hsl.out; omega)
  rw [show underE s = 0 by unfold underE; rw [if_pos Hsr.out], show underR L s = underL L s by unfold underR; rw [if_pos Hsr.out]] at HC
  refine HC.mono ?_
  rintro e w4 ⟨gu, rfl, hgu, hf⟩
  have S := Lib.hid (S.out.later hf)
  obtain ⟨ga, gc, rfl, hga⟩ := hgu.row
  have hul := under_found S.out.is.ok s
  obtain ⟨ul, hull⟩ : ∃ n, (underL L s).length = n := ⟨_, rfl⟩
  have Hul := Lib.hid (show underL L s = foundL L s (namesP L) ∧ (underL L s).length = ul from ⟨hul, hull⟩)
  have GA := Lib.hid hga
  rw [hull]
  clear HC hgu hf hga hul hull
  go_wp2_with fail
  refine (Names_is S.out.is).mono ?_
  rintro e w5 ⟨v, rfl, hrow, hf⟩
  have hNl := S.out.is.ok.names_length
  have S := Lib.hid (S.out.later hf)
  have GA := Lib.hid (GA.out.later hf)
  obtain ⟨na, nc, rfl, _, _, _, hcell, _, _⟩ := ownsRow_cells hrow
  have NA := Lib.hid hcell
  have hL64 := S.out.is.ok.small
  obtain ⟨l, hl⟩ : ∃ n, (namesP L).length = n := ⟨_, rfl⟩
  rw [hl] at hNl ⊢
  have HNl := Lib.hid (show (namesP L).length = l ∧ L.length = l from ⟨hl, hNl.symm⟩)
  have hl64 : l ≤ 64 := by omega
  clear hrow hcell hf hl hNl hL64
  go_wp2_with fail
  obtain ⟨N0, hN0⟩ : ∃ n, w5.heap.size = n := ⟨_, rfl⟩
  go_loopw [10, 42] (fun o i wr => ∃ k : Nat, k ≤ l ∧ i = .int .i64 k ∧ Hid (wr.ownsRow N0 35 3 o (foundL L s ((namesP L).take k)).length (flatP (foundL L s ((namesP L).take k)))) ∧ Hid (Fr0 none' w5 wr)) (fun _ i _ => l - (Go.RowKit.intOf i).toNat)
  case atStart => exact ⟨0, Nat.zero_le _, rfl, World.ownsRow_nil _ _ _ _, Fr0.refl _ _⟩
  case round =>
    obtain ⟨k, hk, rfl, hrow, hfr⟩ := hrel
    by_cases hlt : k < l
    · obtain ⟨x, hx⟩ : ∃ x, (namesP L)[k]? = some x := ⟨_, List.getElem?_eq_getElem (by rw [HNl.out.1]; exact hlt)⟩
      obtain ⟨b, off, rfl, hcx⟩ := (NA.out.later hfr.out) k (strV x) (by rw [List.getElem?_map, hx]; rfl)
      rw [strV] at hcx
      have hxm := Lib.hid (List.mem_of_getElem? hx)
      have hsn := foundL_snoc L s (namesP L) k x hx
      have hxr := Lib.hid (setB_short S.out.is.ok.set x hxm.out)
      have c1 : (0 : Int) ≤ (k : Int) := by omega
      have c2 : (k : Int) < (l : Int) := by omega
      clear hx
      go_wp2_with fail
      have HU := Under_any (bs x) (bs s) wr (by rw [size_bs]; have := hxr.out; omega) (by rw [size_bs]; have := Hsl.out; omega)
      rw [toList_bs, toList_bs] at HU
      obtain ⟨c, hc⟩ : ∃ c, underB x s = c := ⟨_, rfl⟩
      rw [hc] at HU hsn
      refine HU.mono ?_
      rintro e w6 ⟨rfl, hbe⟩
      clear HU hcx hc
      have hf6 := Lib.hid (hfr.out.trans (below_to0 hbe))
      have hr6 := Lib.hid (ownsRow_fr0 hrow.out (below_to0 hbe) (fun _ _ h => h))
      clear hbe
      cases c
      · rw [if_neg (by simp), List.append_nil] at hsn
        have Hsn := Lib.hid hsn
        clear hsn
        go_wp2
        go_roundw
        case rel => exact ⟨k + 1, by omega, by go_num, by rw [Hsn.out]; exact hr6, hf6⟩
        case measure => simp [Go.RowKit.intOf]; omega
      · rw [if_pos rfl] at hsn
        obtain ⟨hfe, _⟩ := find_in S.out.is.ok hxm.out
        obtain ⟨⟨pa, pb, pc⟩, hp⟩ : ∃ p, findP L x = p := ⟨_, rfl⟩
        have HC := find_st (S.out.later hf6.out) x (by have := hxr.out; omega)
        rw [hp, hfe] at HC
        rw [hp] at hsn
        obtain ⟨F, hF⟩ : ∃ F, foundL L s ((namesP L).take k) = F := ⟨_, rfl⟩
        rw [hF] at hsn hr6
        have hFl : F.length ≤ 64 := by
          rw [← hF]; unfold foundL
          have h1 := List.length_filter_le (fun n => underB n s) ((namesP L).take k)
          rw [List.length_map]
          rw [List.length_take] at h1
          omega
        obtain ⟨M, hM⟩ : ∃ M, F.length = M := ⟨_, rfl⟩
        rw [hM] at hr6 hFl
        have Hsn := Lib.hid hsn
        have HM := Lib.hid hM
        clear hp hfe hF hM hsn
        go_wp2_with fail
        refine HC.mono ?_
        rintro e w7 ⟨rfl, hf⟩
        simp only [ptV]
        obtain ⟨W8, hW8⟩ : ∃ W, w7.alloc (.cells #[.int .i64 pa, .string (bs pb), .int .i64 pc] 35) = W := ⟨_, rfl⟩
        obtain ⟨PB, hPB⟩ : ∃ X, w7.heap.size = X := ⟨_, rfl⟩
        have f8 : Fr0 none' w6 W8 := by rw [← hW8]; exact hf.alloc _
        have hpp : W8.heap[PB]? = some (.cells #[.int .i64 pa, .string (bs pb), .int .i64 pc] 35 (0, 0)) := by rw [← hW8, ← hPB]; exact World.alloc_heap_new w7 _
        have p0 := cells_in hpp 0
        have p1 := cells_in hpp 1
        have p2 := cells_in hpp 2
        simp at p0 p1 p2
        have hr8 := ownsRow_fr0 hr6.out f8 (fun _ _ h => h)
        have hf8 := Lib.hid (hf6.out.trans f8)
        have hN08 := Lib.hid hN0
        have hNz : N0 ≤ W8.heap.size := by have := hf8.out.size; have := hN08.out; omega
        have hsrc := Src.newRow (P := Try.prog) (size := 3) (tx := 27) (ty := 35) W8 Try.underlying27 1 1 [.int .i64 pa, .string (bs pb), .int .i64 pc] rfl (by simp [Value.oneCell'])
        clear HC hf f8 hpp hr6 hf6 hrow hfr hN0
        go_wp2_with (at_builtin; refine wpList_append_k rfl _ _ 27 27 rfl N0 35 i0 (.agg #[.int .i64 0, .string ⟨#[]⟩, .int .i64 0]) 3 32 Try.underlying27 hi hz0 hz1 hz2 rfl (by decide) _ M _ rfl (hr8.alloc _) (.slice (some ⟨W8.heap.size, 0, none⟩) 1 1) 1 _ rfl hsrc (by unfold maxLen; omega) (by omega) (by simp; omega) ?_; intro v' w9 hown' hgrow hdr hob)
        have hf9 : Fr0 none' w5 w9 := (hf8.out.alloc _).grown hgrow (fun k hk hkl => by have := (hr8.lt k hk).1; have := hN08.out; omega)
        go_roundw
        case rel =>
          refine ⟨k + 1, by omega, by go_num, ?_, hf9⟩
          rw [Hsn.out, List.length_append, HM.out, flatP_snoc]
          exact hown'
        case measure => simp [Go.RowKit.intOf]; omega
    · have hkl : k = l := by omega
      subst hkl
      rw [List.take_of_length_le (by rw [HNl.out.1]; exact Nat.le_refl _)] at hrow
      rw [← Hul.out.1] at hrow
      have hoat := PtsAt.of_own hrow.out rfl
      obtain ⟨oa, oc, rfl, hoa⟩ := hoat
      have S := Lib.hid (S.out.later hfr.out)
      have GA := Lib.hid (GA.out.later hfr.out)
      have OA := Lib.hid hoa
      rw [Hul.out.2]
      obtain ⟨W1, hW1⟩ : ∃ W, W = wr := ⟨_, rfl⟩
      subst hW1
      clear hrow hoa hfr NA hN0
      have hb0 := belowN_zero S.out.is.ok
      go_wp2_with fail
      go_loopw [15, 62] (fun sm i wr2 => ∃ q : Nat, q ≤ 18 ∧ i = .int .i64 q ∧ sm = .int .i64 (belowN L q) ∧ Hid (Fr0 none' W1 wr2)) (fun _ i _ => 18 - (Go.RowKit.intOf i).toNat)
      case atStart => exact ⟨0, by omega, rfl, by rw [show ((0 : Nat) : Int) = 0 from rfl, hb0]; rfl, Fr0.refl _ _⟩
      case round =>
        clear hb0
        obtain ⟨q, hq, rfl, rfl, hfr⟩ := hrel
        by_cases hlt : q < 18
        · have c1 : (0 : Int) ≤ (q : Int) := by omega
          have c2 : (q : Int) < 18 := by omega
          obtain ⟨P, hP⟩ : ∃ P, L.filter (fun p => p.process == (q : Int)) = P := ⟨_, rfl⟩
          have hbs := belowN_succ L q
          have HC := of_st (S.out.later hfr.out) (q : Int)
          rw [hP] at HC hbs
          have hPo : OrdP P := by rw [← hP]; exact S.out.is.ok.ord.sublist List.filter_sublist
          have hP1 : ∀ p ∈ P, 1 ≤ p.number ∧ p.process = (q : Int) := fun p hp => by
            rw [← hP] at hp
            have h1 := List.mem_filter.1 hp
            exact ⟨(S.out.is.ok.lo p h1.1).1, by simpa using h1.2⟩
          have hPl : P.length ≤ 64 := by rw [← hP]; have := List.length_filter_le (fun p : Pt => p.process == (q : Int)) L; have := S.out.is.ok.small; omega
          have hBl : belowN L q ≤ 64 := by unfold belowN; have := List.length_filter_le (fun p : Pt => decide (p.process < (q : Int))) L; have := S.out.is.ok.small; omega
          obtain ⟨m, hm⟩ : ∃ m, P.length = m := ⟨_, rfl⟩
          obtain ⟨B, hB⟩ : ∃ m, belowN L q = m := ⟨_, rfl⟩
          rw [hm] at hbs hPl
          rw [hB] at hbs hBl ⊢
          have Hbs := Lib.hid hbs
          have HPo := Lib.hid (show OrdP P ∧ ∀ p ∈ P, 1 ≤ p.number ∧ p.process = (q : Int) from ⟨hPo, hP1⟩)
          have HPm := Lib.hid hm
          clear hP hbs hPo hP1 hB
          go_wp2_with fail
          refine HC.mono ?_
          rintro e w7 ⟨pu, rfl, hpu, hf⟩
          obtain ⟨pa, pc, rfl, hpa⟩ := hpu.row
          have PA := Lib.hid hpa
          have F7 := Lib.hid (hfr.out.trans hf)
          rw [hm]
          clear HC hpu hf hpa hfr hm
          go_wp2_with fail
          go_loopw [15, 17, 69] (fun sm last j wr2 => ∃ z : Nat, z ≤ m ∧ j = .int .i64 z ∧ sm = .int .i64 ((B : Int) + z) ∧ last = .int .i64 (lastN P z) ∧ Hid (Fr0 none' w7 wr2)) (fun _ _ j _ => m - (Go.RowKit.intOf j).toNat)
          case atStart => exact ⟨0, by omega, rfl, by simp, rfl, Fr0.refl _ _⟩
          case round =>
            obtain ⟨z, hz, rfl, rfl, rfl, hfr⟩ := hrel
            by_cases hltz : z < m
            · obtain ⟨p, hp⟩ : ∃ p, P[z]? = some p := ⟨_, List.getElem?_eq_getElem (by rw [HPm.out]; exact hltz)⟩
              obtain ⟨g, o, rfl, hpc⟩ := PA.out z p hp
              obtain ⟨d0, d1, d2⟩ := hpc.later hfr.out
              have hlast := lastN_lt HPo.out.1 (fun p hp => (HPo.out.2 p hp).1) hp
              have hpp := (HPo.out.2 p (List.mem_of_getElem? hp)).2
              have hnext : lastN P (z + 1) = p.number := by show ((P[z]?).getD noPt).number = _; rw [hp]; rfl
              obtain ⟨lz, hlz⟩ : ∃ lz, lastN P z = lz := ⟨_, rfl⟩
              rw [hlz] at hlast ⊢
              obtain ⟨xa, xb, xc⟩ := p
              simp only at d0 d1 d2 hlast hpp hnext
              subst hpp
              have Hnext := Lib.hid hnext
              have k1 : (0 : Int) ≤ (z : Int) := by omega
              have k2 : (z : Int) < (m : Int) := by omega
              have k3 : IntKind.i64.wrap ((B : Int) + z + 1) = (B : Int) + z + 1 := IntWalk.i64_in _ (by omega)
              obtain ⟨W8, hW8⟩ : ∃ W, wr.alloc (.cells #[.int .i64 xa, .string (bs xb), .int .i64 (q : Int)] 35) = W := ⟨_, rfl⟩
              obtain ⟨PB, hPB⟩ : ∃ X, wr.heap.size = X := ⟨_, rfl⟩
              have hpp : W8.heap[PB]? = some (.cells #[.int .i64 xa, .string (bs xb), .int .i64 (q : Int)] 35 (0, 0)) := by rw [← hW8, ← hPB]; exact World.alloc_heap_new wr _
              have f8 := Lib.hid (show Fr0 none' w7 W8 by rw [← hW8]; exact hfr.out.alloc _)
              have p0 := cells_in hpp 0
              have p2 := cells_in hpp 2
              simp at p0 p2
              clear hp hpc hnext hlz hpp hfr
              go_wp2
              go_roundw
              case rel => exact ⟨z + 1, by omega, by go_num, by go_num, by rw [Hnext.out], f8⟩
              case measure => simp [Go.RowKit.intOf]; omega
            · have hzm : z = m := by omega
              subst hzm
              go_wp2
              go_roundw
              case rel => exact ⟨q + 1, by omega, by go_num, by rw [show (((q + 1 : Nat) : Nat) : Int) = (q : Int) + 1 by omega, Hbs.out]; go_num, F7.out.trans hfr.out⟩
              case measure => simp [Go.RowKit.intOf]; omega
        · have hq18 : q = 18 := by omega
          subst hq18
          rw [show ((18 : Nat) : Int) = 18 from rfl, belowN_all S.out.is.ok, HNl.out.2]
          have S := Lib.hid (S.out.later hfr.out)
          have HC := sameP_any ga oa ul ul gc oc (underL L s) (underL L s) _ Hul.out.2 Hul.out.2 (by have h1 := Hul.out.2; rw [Hul.out.1] at h1; have := foundL_len L s (namesP L); have := HNl.out.1; omega) (by have h1 := Hul.out.2; rw [Hul.out.1] at h1; have := foundL_len L s (namesP L); have := HNl.out.1; omega) (GA.out.later hfr.out) (OA.out.later hfr.out)
          rw [decide_eq_true (rfl : underL L s = underL L s)] at HC
          clear hfr
          go_wp2_with fail
          refine HC.mono ?_
          rintro e w7 ⟨rfl, hf⟩
          have S := Lib.hid (S.out.later hf)
          clear hf HC
          go_wp2_with fail
          have HC := SLen_is S.out.is
          rw [HNl.out.2] at HC
          refine HC.mono ?_
          rintro e w8 ⟨rfl, rfl⟩
          clear HC
          go_wp2
          go_ret
          exact ⟨rfl, S.out.fr⟩
end Go.Proofs.Ytkchpngkmchamaa

namespace Go.Proofs.Ytkchpngkmchamaa.spaceUnder
open Go.ChangeShapes Go.WideShapes Go.ChangeAt Go.RowKit Go.Proofs.Ytkchpngkmchamaa

set_option maxRecDepth 100000 in
theorem lifted (os : Os) (started : os.Started) (H : Type) (enc : TypeId × Value → H) :
    ReturnsInHanded {} Try.checked os 5 .any (Rows.spaceUnderSpec.pre6 enc Try.prog Try.f5 Rows.spaceUnderRow.domain false) (Rows.spaceUnderSpec.post enc Try.prog Try.f5 false true false false) := by
  refine returnsInHanded_of_change (C := Try.checked) own_knob started (by kernel_rfl) Try.func5
    (ChangeSpec.witness6 (enc := enc) (C := Try.checked) false ⟨#[], #[.slice none 0 0, .int .u16 0], []⟩ 8 (by kernel_rfl) (by kernel_rfl) (by kernel_rfl) (by kernel_rfl)) ?_
  intro W base args ds gs before hval0 hW hcnd _
  have hval : ∀ (j : Nat) t v, Try.f5.params[j]? = some t → args[j]? = some v → Value.okWide Try.prog W .any base t v := hval0
  have hW' := hW
  obtain ⟨p, q, hA0, hV, rfl, hfz, hnd⟩ := hW
  have hA : DataW.TrodAll enc Try.prog W 0 (fun _ => true) true Try.f5.params.toList args.toList ds p := hA0
  rw [Try.params5] at hA hval
  obtain ⟨v0, vs0, d0, ds0, p0, q0, hargs, rfl, rfl, h0, r0⟩ := trodAll_cons hA
  obtain ⟨v1, vs1, d1, ds1, p1, q1, rfl, rfl, rfl, h1, r1⟩ := trodAll_cons r0
  obtain ⟨rfl, rfl, rfl⟩ := trodAll_nil r1
  obtain rfl : args = #[v0, v1] := by cases args; simp_all
  obtain ⟨rfl, rfl⟩ := trodVars_none hV
  clear hA0 hval0
  simp only [List.append_nil] at hW'
  have l0 : ∀ x ∈ p0, x.block < W.heap.size := fun x hx => hW'.lt x (by simp [hx])
  have t0 := fun W' (hb : Below W.heap.size W W') => Below.trod laid_own (by kernel_rfl) (of_decide_eq_true (by kernel_rfl)) h0 hb l0
  have l1 : ∀ x ∈ p1, x.block < W.heap.size := fun x hx => hW'.lt x (by simp [hx])
  have t1 := fun W' (hb : Below W.heap.size W W') => Below.trod laid_own (by kernel_rfl) (of_decide_eq_true (by kernel_rfl)) h1 hb l1
  obtain ⟨xs, hxs⟩ := smalls_arg (hval 0 22 v0 rfl rfl) h0
  obtain ⟨a1, rfl, _, _, w1⟩ := open_int Try.underlying52 (hval 1 52 v1 rfl rfl) h1
  obtain ⟨m1, rfl, hm1⟩ : ∃ m : Nat, a1 = m ∧ m < 65536 := by
    have := bounds_u16 w1
    exact ⟨a1.toNat, by omega, by omega⟩
  refine (SpaceUnder_any hxs m1 hm1).mono fun e W' ⟨he, hg0⟩ => ?_
  have hg := hg0.below (Nat.le_refl _) (fun _ _ h => h)
  subst he
  exact ⟨_, rfl, post_below2 (pa := (p0 ++ (p1 ++ []))) (pv := []) hW' (fun _ _ _ => (trodAll_cons_mk (shut_bool Try.underlying4 _) trodAll_mk0)) (trodAll_cons_mk (t0 _ hg) (trodAll_cons_mk (t1 _ hg) trodAll_mk0)) (fun _ _ => rfl) hg⟩

theorem over : Rows.spaceUnderRow.holds Try.pinned (OpenSpec.ofChange Rows.spaceUnderSpec) :=
  OpenClaim.holds_of_wide 5 Try.f5 rfl rfl rfl rfl rfl rfl rfl ⟨rfl, rfl, rfl, rfl, rfl⟩ rfl rfl rfl rfl rfl (by kernel_rfl) Try.func5 (by kernel_rfl)
    (of_decide_eq_true (by kernel_rfl)) (by unfold Func.isWrapper; first | (rw [if_pos (by decide +kernel)]; kernel_rfl) | (rw [if_neg (by decide +kernel)]; exact ⟨rfl, rfl⟩))
    (fun os started H enc _ => lifted os started H enc)

theorem proved : Rows.SpaceUnderSaid := over
#print axioms proved
end Go.Proofs.Ytkchpngkmchamaa.spaceUnder
