/- SpaceCloses: the statement: for any slice of small numbers and any numbers the law returns true, and the arguments read as before; no condition. -/
import Derived.Test.YtkchpngkmchamaaJb2
import Derived.Deep.RegionLaw
import Derived.Deep.LoopGhost
import Derived.Lib.SliceRun
import Derived.Shelf.RegionOpenPlain
import Derived.Shelf.SlicesE.Clone
set_option linter.unusedSimpArgs false
set_option linter.unusedVariables false

/-
  slices.Clone and slices.Delete at ports.
-/
namespace Go.Proofs.Ytkchpngkmchamaa
open Go.RowKit Go.Maps
attribute [local go_sem ↓] Go.wp_at_zero Go.wp_at_succ

theorem run_clear_k {P : Program} (w : World) (t e ty : TypeId) (z : Value) (ht : P.underlying t = some (.slice e)) (hv : ∀ w, (zeroValue e).run P w = .ok z w) (b o n c : Nat) (news : List Value) (hz : (Builtin.zeroCells z.cells n).toList = news) (h1 : ∀ u ∈ news, u.oneCell' = true) (hn : 0 < n)
    (hc : ∀ j, j < news.length → (w.cell? ⟨b, o + j, none⟩).isSome = true) (hf : ∀ j, j < news.length → w.frozen? ⟨b, o + j, none⟩ = false) :
    (Builtin.clear_ #[t] ty #[.slice (some ⟨b, o, none⟩) n c]).run P w = .ok (.tuple #[]) (w.setCells b o news) := by
  have hst := run_storeCells_cells (P := P) b o news 0 w (by simpa using hc) (by simpa using hf) h1
  simp only [Nat.add_zero] at hst
  obtain ⟨m, rfl⟩ : ∃ m, n = m + 1 := ⟨n - 1, by omega⟩
  simp [Builtin.clear_, run_underlying ht, hv, hz, hst]

theorem flatP_take (P : List Pt) (i : Nat) : flatP (P.take i) = (flatP P).take (i * 3) := by
  induction P generalizing i with
  | nil => simp [flatP]
  | cons p r ih =>
    cases i with
    | zero => simp [flatP]
    | succ i =>
      have := ih i
      simp only [flatP, List.take_succ_cons, List.flatMap_cons] at this ⊢
      rw [this, show (i + 1) * 3 = i * 3 + 3 by omega]
      simp [ptC]
theorem flatP_one (P : List Pt) : ∀ v ∈ flatP P, v.oneCell' = true := fun v hv => by
  simp only [flatP, List.mem_flatMap] at hv
  obtain ⟨p, _, hv⟩ := hv
  simp only [ptC, List.mem_cons, List.not_mem_nil, or_false] at hv
  rcases hv with rfl | rfl | rfl <;> rfl
/-- The cells of a row of ports, one after the other. -/
theorem PtsIn.flat {w : World} {g o : Nat} {L : List Pt} (h : PtsIn w (some ⟨g, o, none⟩) L) (j : Nat) (u : Value) (hj : (flatP L)[j]? = some u) : w.cell? ⟨g, o + j, none⟩ = some u := by
  have hl : j < L.length * 3 := by rw [← flatP_length]; exact (List.getElem?_eq_some_iff.1 hj).1
  obtain ⟨k, c, hc, rfl⟩ : ∃ k c, c < 3 ∧ j = k * 3 + c := ⟨j / 3, j % 3, by omega, by omega⟩
  have hk : k < L.length := by omega
  obtain ⟨p, hp⟩ : ∃ p, L[k]? = some p := ⟨_, List.getElem?_eq_getElem hk⟩
  rw [flatP_at L k c p hp hc] at hj
  obtain ⟨g', o', e, h0, h1, h2⟩ := h k p hp
  injection e with e
  injection e with e1 e2
  subst e1; subst e2
  rw [← Nat.add_assoc]
  rcases c with _ | _ | _ | c
  · simp only [ptC, List.getElem?_cons_zero, Option.some.injEq] at hj; subst hj; exact h0
  · simp only [ptC, List.getElem?_cons_zero, List.getElem?_cons_succ, Option.some.injEq] at hj; subst hj; exact h1
  · simp only [ptC, List.getElem?_cons_zero, List.getElem?_cons_succ, Option.some.injEq] at hj; subst hj; exact h2
  · omega

theorem below_setCells0 {S : Nat → Prop} {b : Nat} {a : World} (hb : S b) : ∀ (vs : List Value) (o : Nat) (w : World), Fr0 S a w → Fr0 S a (w.setCells b o vs)
  | [], _, _, h => h
  | v :: r, o, w, h => below_setCells0 hb r (o + 1) _ (h.setCell (fun _ => hb) v)
theorem row_cells3 {w : World} {base : Nat} {e : TypeId} {g n cap : Nat} {xs : List Value} (h : w.ownsRow base e 3 (.slice (some ⟨g, 0, none⟩) n cap) n xs) :
    ∃ cur, base ≤ g ∧ w.heap[g]? = some (.cells cur e (0, 0)) ∧ n ≤ cap ∧ cap ≤ maxLen ∧ cur.size = cap * 3 ∧ xs.length = n * 3 ∧ ∀ j, j < n * 3 → cur[j]? = xs[j]? := by
  rcases h.2 with ⟨h0, _⟩ | ⟨g', cap', cur, h1, hb, hg, hn, hm, hs, ht⟩
  · cases h0
  · cases h1
    refine ⟨cur, hb, hg, hn, hm, hs, h.1, fun j hj => ?_⟩
    rw [← ht, List.getElem?_take, if_pos hj, Array.getElem?_toList]
/-- What stands behind: the ports behind the one that is struck move up. -/
theorem del_cells (P : List Pt) (i n k c : Nat) (p : Pt) (hi : i < n) (hP : P.length = n) (X : Nat → Option Value)
    (hX : ∀ j, j < (n - 1) * 3 → X j = if i * 3 ≤ j then (flatP P)[j + 3]? else (flatP P)[j]?) (hp : (P.eraseIdx i)[k]? = some p) (hc : c < 3) : X (k * 3 + c) = (ptC p)[c]? := by
  have hk : k < n - 1 := by
    have := (List.getElem?_eq_some_iff.1 hp).1
    rw [List.length_eraseIdx_of_lt (by omega)] at this; omega
  rw [List.getElem?_eraseIdx] at hp
  rw [hX _ (by omega)]
  by_cases h : k < i
  · rw [if_pos h] at hp
    rw [if_neg (by omega), flatP_at P k c p hp hc]
  · rw [if_neg h] at hp
    rw [if_pos (by omega), show k * 3 + c + 3 = (k + 1) * 3 + c by omega, flatP_at P (k + 1) c p hp hc]

set_option maxRecDepth 100000 in
set_option maxHeartbeats 4000000 in
/-- Delete of one port, on an own row. -/
theorem Delete_pts {w : World} {base g n cap i j : Nat} (P : List Pt) (hrow : w.ownsRow base 35 3 (.slice (some ⟨g, 0, none⟩) n cap) n (flatP P)) (hi : i < n) (hij : j = i + 1) (hn : n ≤ 1000) :
    Calls Try.prog 22 #[.slice (some ⟨g, 0, none⟩) n cap, .int .i64 i, .int .i64 j] w fun e w' => e = .returned (.slice (some ⟨g, 0, none⟩) (n - 1) cap) ∧ PtsIn w' (some ⟨g, 0, none⟩) (P.eraseIdx i) ∧ Fr0 (fun k => k = g) w w' := by
  obtain ⟨i0, hi0, hz0, hz1, hz2⟩ := info_parts info_pt3
  obtain ⟨cur, _, hg, hnc, hcm, hs, hxl, hget⟩ := row_cells3 hrow
  have hPl : P.length = n := by rw [flatP_length] at hxl; omega
  obtain ⟨news, hnews⟩ : ∃ news, news = (flatP P).drop (j * 3) := ⟨_, rfl⟩
  have hnl : news.length = (n - j) * 3 := by rw [hnews, List.length_drop, hxl]; omega
  have hcell : ∀ t, t < n * 3 → w.cell? ⟨g, t, none⟩ = (flatP P)[t]? := fun t ht => by rw [cells_in hg, hget t ht]
  obtain ⟨A, hA, hsrc⟩ : ∃ A : Addr, (if cap = j then some (⟨g, 0, none⟩ : Addr) else some ⟨g, j * 3, none⟩) = some A ∧ Hid (∀ t u, news[t]? = some u → w.drew.cell? (A.add t) = some u) := by
    by_cases h : cap = j
    · refine ⟨⟨g, 0, none⟩, by simp [h], fun t u hu => ?_⟩
      have h0 : news.length = 0 := by rw [hnl]; omega
      rw [List.length_eq_zero_iff.1 h0] at hu
      simp at hu
    · refine ⟨⟨g, j * 3, none⟩, by simp [h], fun t u hu => ?_⟩
      have ht := (List.getElem?_eq_some_iff.1 hu).1
      rw [Addr.add_lit]
      refine (hcell _ (by rw [hnl] at ht; omega)).trans ?_
      rw [hnews, List.getElem?_drop] at hu
      exact hu
  have s2 : Hid (∀ u ∈ news, u.oneCell' = true) := fun u hu => flatP_one P u (List.mem_of_mem_drop (hnews ▸ hu))
  have s3 : Hid (∀ t, t < news.length → (w.drew.cell? ⟨g, 0 + i * 3 + t, none⟩).isSome = true ∧ w.drew.frozen? ⟨g, 0 + i * 3 + t, none⟩ = false) := fun t ht => by
    rw [hnl] at ht
    refine ⟨?_, frozen_of_heap hg⟩
    rw [Nat.zero_add]
    show (w.cell? _).isSome = true
    rw [cells_in hg, Array.getElem?_eq_getElem (by omega)]; rfl
  obtain ⟨W1, hW1⟩ : ∃ W1, W1 = w.drew.setCells g (0 + i * 3) news := ⟨_, rfl⟩
  have h1 : W1.heap[g]? = some (.cells (over cur (0 + i * 3) news) 35 (0, 0)) := by rw [hW1]; exact heap_setCells_at _ _ _ _ hg
  have f1 : Fr0 (fun k => k = g) w W1 := by rw [hW1]; exact below_setCells0 (S := fun k => k = g) rfl _ _ _ (Fr0.refl _ w).drew
  have hcl : ∀ ty, (Builtin.clear_ #[27] ty #[.slice (some ⟨g, (i + (n - j)) * 3, none⟩) (n - (i + (n - j))) (cap - (i + (n - j)))]).run Try.prog W1 = .ok (.tuple #[]) (W1.setCells g ((n - 1) * 3) [.int .i64 0, .string ⟨#[]⟩, .int .i64 0]) := fun ty => by
    rw [show i + (n - j) = n - 1 by omega, show n - (n - 1) = 1 by omega]
    exact run_clear_k W1 _ _ ty _ Try.underlying27 zero_pt g _ _ _ _ (by kernel_rfl) (by simp [Value.oneCell']) (by omega) (fun t ht => by
      rw [cells_in h1, Array.getElem?_eq_getElem (by rw [over_size]; simp at ht; omega)]; rfl) (fun t ht => frozen_of_heap h1)
  have Hij := Lib.hid hij
  have mixed : Try.prog.follows Departure.mixedOrders = true := by kernel_rfl
  have c1 : i ≤ j := by omega
  have c2 : j ≤ n := by omega
  have c3 : i ≤ cap := by omega
  have c4 : j ≤ cap := by omega
  have c5 : (i : Int) ≠ (j : Int) := by omega
  clear hij
  have Hg := Lib.hid hg
  have H1 := Lib.hid h1
  have HW := Lib.hid hW1
  have F1 := Lib.hid f1
  have Hn := Lib.hid hnews
  have HGet := Lib.hid hget
  clear hg h1 hW1 f1 hnews hrow hget hcell
  go_enter Try.func22, Try.ntmps22
  go_wp2_with fail
  go_region_law_o (refine step_append_room rfl (.tmp 22) (.tmp 25) 27 rfl 35 i0 3 Try.underlying27 hi0 hz1 g 0 i cap (by simp [Act.eval, Act.put]) A (n - j) (cap - j) news (by simp [Act.eval, Act.put]) hnl hsrc.out s2.out (by omega) s3.out ?_; rw [← HW.out])
  go_wp2
  go_ret
  have hij := Hij.out
  have h2 := heap_setCells_at [.int .i64 0, .string ⟨#[]⟩, .int .i64 0] ((n - 1) * 3) W1 _ H1.out
  refine ⟨by rw [show i + (n - j) = n - 1 by omega]; rfl, fun k p hp => ⟨g, 0, rfl, ?_⟩, below_setCells0 (S := fun k => k = g) rfl _ _ _ F1.out⟩
  have key : ∀ c, c < 3 → (W1.setCells g ((n - 1) * 3) [.int .i64 0, .string ⟨#[]⟩, .int .i64 0]).cell? ⟨g, k * 3 + c, none⟩ = (ptC p)[c]? := fun c hc => by
    refine del_cells P i n k c p hi hPl (fun t => (W1.setCells g ((n - 1) * 3) [.int .i64 0, .string ⟨#[]⟩, .int .i64 0]).cell? ⟨g, t, none⟩) (fun t ht => ?_) hp hc
    show (W1.setCells g ((n - 1) * 3) [.int .i64 0, .string ⟨#[]⟩, .int .i64 0]).cell? ⟨g, t, none⟩ = _
    rw [cells_in h2, over_get, if_neg (by omega), over_get, hnl, Nat.zero_add]
    by_cases h : i * 3 ≤ t
    · rw [if_pos ⟨h, by omega, by omega⟩, if_pos h, Hn.out, List.getElem?_drop]
      congr 1; omega
    · rw [if_neg (by omega), if_neg h]
      exact HGet.out t (by omega)
  rw [Nat.zero_add]
  exact ⟨key 0 (by omega), key 1 (by omega), key 2 (by omega)⟩

/-- Clone of a row of ports. -/
theorem Clone_pts {w : World} {g o n cap : Nat} (P : List Pt) (hP : PtsIn w (some ⟨g, o, none⟩) P) (hl : P.length = n) (hn : n ≤ 1000) :
    Calls Try.prog 23 #[.slice (some ⟨g, o, none⟩) n cap] w fun e w' => ∃ v', e = .returned v' ∧ w'.ownsRow w.heap.size 35 3 v' n (flatP P) ∧ v' ≠ .slice none 0 0 ∧ Fr0 Go.Proofs.Ytkchpngkmchamaa.none' w w' := by
  obtain ⟨i0, hi0, hz0, hz1, hz2⟩ := info_parts info_pt3
  refine (AnyE.slices_Clone Try.cloneK_f23 i0 _ 3 32 hi0 hz0 hz1 hz2 rfl (by decide) Try.sizeOf35 g o n cap (flatP P) w (by rw [flatP_length, hl]) (by unfold maxLen; omega) (by omega) (fun j u hj => hP.flat j u hj) (flatP_one P)).mono ?_
  rintro e w' ⟨v', rfl, h1, h2, h3⟩
  exact ⟨v', rfl, h1, h2, below_to0 h3⟩
end Go.Proofs.Ytkchpngkmchamaa

/-
  SpaceCloses.
-/
namespace Go.Proofs.Ytkchpngkmchamaa
open Go.RowKit Go.Maps
attribute [local go_sem ↓] Go.wp_at_zero Go.wp_at_succ
attribute [local go_sem high] run_eql_pt run_neq_pt

theorem delP_at : ∀ {L : List Pt}, OrdP L → ∀ {i : Nat} {p : Pt}, L[i]? = some p → delP L p.number = L.eraseIdx i
  | [], _, i, p, h => by simp at h
  | y :: r, ho, 0, p, h => by
    simp at h
    subst h
    obtain ⟨h1, h2⟩ := List.pairwise_cons.1 ho
    unfold delP
    rw [List.filter_cons_of_neg (by simp), List.eraseIdx_zero, List.tail_cons]
    exact List.filter_eq_self.2 (fun q hq => by have := h1 q hq; simp; omega)
  | y :: r, ho, i + 1, p, h => by
    obtain ⟨h1, h2⟩ := List.pairwise_cons.1 ho
    have hp : r[i]? = some p := by simpa using h
    have := h1 p (List.mem_of_getElem? hp)
    have ih := delP_at h2 hp
    unfold delP at ih ⊢
    rw [List.filter_cons_of_pos (by simp; omega), ih, List.eraseIdx_cons_succ]
theorem SpSt.fresh {w0 w : World} {sb mb : Nat} {nv : Value} {lim nx : Int} {L : List Pt} {E : List (Nat × Obj)} (h : SpSt w0 w sb mb nv lim nx L E) {c : Nat} (hc : w.heap.size ≤ c) : ¬ sfoot sb mb nv c ∧ w0.heap.size ≤ c ∧ ∀ x ∈ E, x.1 ≠ c :=
  ⟨fun hf => by have := h.is.lt c hf; omega, Nat.le_trans h.fr.size hc, fun x hx e => by have := (Array.getElem?_eq_some_iff.1 (h.ex x hx).1).1; omega⟩
/-- What is there behind a port's end, and behind its name's next taker. -/
structure Gone (nx : Int) (L : List Pt) (p : Pt) (i l : Nat) : Prop where
  at' : atP L p.number = some p
  get : getP L p.number = p
  getE : getE L p.number = 0
  list : delP L p.number = L.eraseIdx i
  twice : delP (delP L p.number) p.number = delP L p.number
  noE : Go.Proofs.Ytkchpngkmchamaa.getE (delP L p.number) p.number = 6
  no : findE (delP L p.number) p.name = 6
  open' : openE 10 nx (delP L p.number) p.name p.process = 0
  found : findP (delP L p.number ++ [(⟨nx, p.name, p.process⟩ : Pt)]) p.name = ⟨nx, p.name, p.process⟩
  foundE : findE (delP L p.number ++ [(⟨nx, p.name, p.process⟩ : Pt)]) p.name = 0
  gone' : Go.Proofs.Ytkchpngkmchamaa.getE (delP L p.number ++ [(⟨nx, p.name, p.process⟩ : Pt)]) p.number = 6
  len : (delP L p.number ++ [(⟨nx, p.name, p.process⟩ : Pt)]).length = l
  lenD : (delP L p.number).length = l - 1
theorem gone {nx : Int} {L : List Pt} (h : SpOK 10 nx L) (hi : nx ≤ 4294967295) {i l : Nat} {p : Pt} (hp : L[i]? = some p) (hl : L.length = l) : Gone nx L p i l := by
  have hm := List.mem_of_getElem? hp
  have hil := (List.getElem?_eq_some_iff.1 hp).1
  have hat : atP L p.number = some p := (atP_some h.ord).2 ⟨hm, rfl⟩
  have hdel := delP_at h.ord hp
  have hr := h.right p hm
  have hlo := h.lo p hm
  have hpr := h.proc p hm
  have hlen : (delP L p.number).length = l - 1 := by rw [hdel, List.length_eraseIdx_of_lt hil, hl]
  have hnone : atP (delP L p.number) p.number = none := atP_none.2 (fun q hq => (delP_mem.1 hq).2)
  have hname : nameP (delP L p.number) p.name = none := nameP_none.2 (fun q hq e => (delP_mem.1 hq).2 (by rw [h.name_inj (delP_mem.1 hq).1 hm e]))
  have hten := h.len
  have hop : openE 10 nx (delP L p.number) p.name p.process = 0 := by
    unfold openE
    rw [if_neg (by rw [hr]; simp), if_neg (by omega), if_neg (by rw [hname]; simp), if_neg (by rw [hlen]; omega), if_neg (by omega)]
  have hok : SpOK 10 (nx + 1) (delP L p.number ++ [(⟨nx, p.name, p.process⟩ : Pt)]) := (h.del p.number).open' hr hpr hname (by rw [hlen]; omega) hi
  have hnm : nameP (delP L p.number ++ [(⟨nx, p.name, p.process⟩ : Pt)]) p.name = some ⟨nx, p.name, p.process⟩ := (nameP_some hok.names).2 ⟨by simp, rfl⟩
  refine ⟨hat, by unfold getP; rw [hat]; rfl, by unfold Go.Proofs.Ytkchpngkmchamaa.getE; rw [hat]; rfl, hdel, delP_not hnone, by unfold Go.Proofs.Ytkchpngkmchamaa.getE; rw [hnone]; rfl, ?_, hop, ?_, ?_, ?_, ?_, hlen⟩
  · unfold findE; rw [if_neg (by rw [hr]; simp), if_neg (by rw [hname]; simp)]
  · unfold findP; rw [if_neg (by rw [hr]; simp), hnm]; rfl
  · unfold findE; rw [if_neg (by rw [hr]; simp), if_pos (by rw [hnm]; rfl)]
  · unfold Go.Proofs.Ytkchpngkmchamaa.getE
    rw [atP_none.2 (fun q hq => ?_)]; · rfl
    rcases List.mem_append.1 hq with hq | hq
    · exact (delP_mem.1 hq).2
    · simp at hq; subst hq; simp only; omega
  · rw [List.length_append, hlen]; simp; omega

set_option maxRecDepth 100000 in
set_option maxHeartbeats 16000000 in
theorem SpaceCloses_any {w : World} {u : Value} {xs : List Sm3} (hu : SmallsAt w u xs) (y : Int) (hy : 0 ≤ y ∧ y < 256) :
    Calls Try.prog 4 #[u, .int .u8 y] w fun e w' => e = .returned (.bool true) ∧ Fr0 none' w w' := by
  obtain ⟨hy1, hy2⟩ := hy
  go_enter Try.func4, Try.ntmps4
  go_wp2_with fail
  refine (sawake_any _).mono ?_
  rintro e w1 ⟨rfl, hf1⟩
  have F1 := Lib.hid hf1
  clear hf1
  go_wp2_with fail
  refine (smade_any (hu.later F1.out)).mono ?_
  rintro e w2 ⟨sb, mb, nv, nx, L, rfl, hS, hG⟩
  have S := Lib.hid (hS.base F1.out)
  have G := Lib.hid hG
  clear hS hG F1
  go_wp2_with fail
  refine (all_st S.out).mono ?_
  rintro e w3 ⟨u, rfl, hu3, hf⟩
  have S := Lib.hid (S.out.later hf)
  obtain ⟨ua, uc, rfl, hin⟩ := hu3.row
  have U := Lib.hid hu3
  obtain ⟨l, hl⟩ : ∃ l, L.length = l := ⟨_, rfl⟩
  have Hl := Lib.hid hl
  rw [hl] at U ⊢
  clear hu hu3 hf hl
  by_cases hl0 : l = 0
  · obtain rfl : L = [] := List.eq_nil_of_length_eq_zero (by rw [Hl.out]; exact hl0)
    subst hl0
    clear hin
    go_wp2_with fail
    refine (SLen_is S.out.is).mono ?_
    rintro e w4 ⟨rfl, rfl⟩
    go_wp2
    go_ret
    exact ⟨rfl, S.out.fr⟩
  · obtain ⟨i, hi⟩ : ∃ q : Nat, y % (l : Int) = q := ⟨(y % (l : Int)).toNat, by have := Int.emod_nonneg y (show (l : Int) ≠ 0 by omega); omega⟩
    have hil : (i : Int) < l := by rw [← hi]; exact Int.emod_lt_of_pos y (by omega)
    have hi0 : (0 : Int) ≤ i := by omega
    have hiw : IntKind.i64.wrap y = y := IntWalk.i64_in _ (by omega)
    have hit : y.tmod (l : Int) = i := by rw [Int.tmod_eq_emod_of_nonneg hy1]; exact hi
    obtain ⟨p, hp⟩ : ∃ p, L[i]? = some p := ⟨_, List.getElem?_eq_getElem (by rw [Hl.out]; omega)⟩
    obtain ⟨g, o, rfl, d0, d1, d2⟩ := hin i p hp
    have hpL := Lib.hid (List.mem_of_getElem? hp)
    have GN := Lib.hid (gone S.out.is.ok (by have := G.out.hi; omega) hp Hl.out)
    clear hin hp
    obtain ⟨pa, pb, pc⟩ := p
    simp only at d0 d1 d2
    obtain ⟨W4, hW4⟩ : ∃ W, w3.alloc (.cells #[.int .i64 pa, .string (bs pb), .int .i64 pc] 35) = W := ⟨_, rfl⟩
    obtain ⟨PB, hPB⟩ : ∃ X, w3.heap.size = X := ⟨_, rfl⟩
    have hS4 : SpSt w W4 sb mb nv 10 nx L [(PB, .cells #[.int .i64 pa, .string (bs pb), .int .i64 pc] 35 (0, 0))] := hW4 ▸ hPB ▸ (S.out.alloc _).less (fun x hx => by simp at hx; subst hx; exact List.mem_cons_self ..)
    go_wp2_with fail
    have U := Lib.hid (U.out.later (show Fr0 none' w3 W4 by rw [← hW4]; exact (Fr0.refl _ _).alloc _))
    have S := Lib.hid hS4
    have hnum := Lib.hid (show 1 ≤ pa ∧ pa < 4294967296 from by have := S.out.is.ok.lo _ hpL.out; have := S.out.is.ok.nxt; simp only at *; omega)
    have hpr := Lib.hid (show rightB pb = true from S.out.is.ok.right _ hpL.out)
    have hpl := Lib.hid (show pb.length ≤ 1000 from by have := rightB_len hpr.out; omega)
    clear hS4 hW4 hPB d0 d1 d2 hi hiw hit
    refine (SNext_is S.out.is).mono ?_
    rintro e w5 ⟨rfl, rfl⟩
    have pp := (S.out.ex (PB, .cells #[.int .i64 pa, .string (bs pb), .int .i64 pc] 35 (0, 0)) (by simp)).1
    have w0 := cells_in pp 0
    have w1 := cells_in pp 1
    have w2 := cells_in pp 2
    simp at w0 w1 w2
    clear pp
    go_wp2_with fail
    have HC := close_st S.out pa (by have := hnum.out; omega)
    rw [show getP L pa = ⟨pa, pb, pc⟩ from GN.out.get, show getE L pa = 0 from GN.out.getE] at HC
    refine HC.mono ?_
    rintro e w6 ⟨rfl, nv6, hS, hst⟩
    simp only [ptV]
    obtain ⟨W7, hW7⟩ : ∃ W, w6.alloc (.cells #[.int .i64 pa, .string (bs pb), .int .i64 pc] 35) = W := ⟨_, rfl⟩
    obtain ⟨QB, hQB⟩ : ∃ X, w6.heap.size = X := ⟨_, rfl⟩
    have U := Lib.hid ((U.out.step hst).later (show Fr0 none' w6 W7 by rw [← hW7]; exact (Fr0.refl _ _).alloc _))
    have S := Lib.hid (show SpSt w W7 sb mb nv6 10 nx (delP L pa) ((QB, .cells #[.int .i64 pa, .string (bs pb), .int .i64 pc] 35 (0, 0)) :: _) from hW7 ▸ hQB ▸ hS.alloc _)
    clear HC hS hst w0 w1 w2
    have pp := (S.out.ex (PB, .cells #[.int .i64 pa, .string (bs pb), .int .i64 pc] 35 (0, 0)) (by simp)).1
    have w0 := cells_in pp 0
    have w1 := cells_in pp 1
    have w2 := cells_in pp 2
    simp at w0 w1 w2
    clear pp
    go_wp2_with fail
    clear hW7 hQB
    have HC := get_st S.out pa (by have := hnum.out; omega)
    rw [show getE (delP L pa) pa = 6 from GN.out.noE] at HC
    obtain ⟨⟨z1, z2, z3⟩, hz⟩ : ∃ p, getP (delP L pa) pa = p := ⟨_, rfl⟩
    rw [hz] at HC
    clear hz
    refine HC.mono ?_
    rintro e w8 ⟨rfl, hf⟩
    simp only [ptV]
    obtain ⟨W9, hW⟩ : ∃ W, w8.alloc (.cells #[.int .i64 z1, .string (bs z2), .int .i64 z3] 35) = W := ⟨_, rfl⟩
    have fW : Fr0 none' w8 W9 := by rw [← hW]; exact (Fr0.refl _ _).alloc _
    have S := Lib.hid (S.out.later (hf.trans fW))
    have U := Lib.hid (U.out.later (hf.trans fW))
    clear HC hf fW w0 w1 w2
    have pp := (S.out.ex (PB, .cells #[.int .i64 pa, .string (bs pb), .int .i64 pc] 35 (0, 0)) (by simp)).1
    have w0 := cells_in pp 0
    have w1 := cells_in pp 1
    have w2 := cells_in pp 2
    simp at w0 w1 w2
    clear pp
    go_wp2_with fail
    clear hW
    have HC := find_st S.out pb (by have := hpl.out; omega)
    rw [show findE (delP L pa) pb = 6 from GN.out.no] at HC
    obtain ⟨⟨z1, z2, z3⟩, hz⟩ : ∃ p, findP (delP L pa) pb = p := ⟨_, rfl⟩
    rw [hz] at HC
    clear hz
    refine HC.mono ?_
    rintro e w8 ⟨rfl, hf⟩
    simp only [ptV]
    obtain ⟨W9, hW⟩ : ∃ W, w8.alloc (.cells #[.int .i64 z1, .string (bs z2), .int .i64 z3] 35) = W := ⟨_, rfl⟩
    have fW : Fr0 none' w8 W9 := by rw [← hW]; exact (Fr0.refl _ _).alloc _
    have S := Lib.hid (S.out.later (hf.trans fW))
    have U := Lib.hid (U.out.later (hf.trans fW))
    clear HC hf fW w0 w1 w2
    have pp := (S.out.ex (PB, .cells #[.int .i64 pa, .string (bs pb), .int .i64 pc] 35 (0, 0)) (by simp)).1
    have w0 := cells_in pp 0
    have w1 := cells_in pp 1
    have w2 := cells_in pp 2
    simp at w0 w1 w2
    clear pp
    go_wp2_with fail
    clear hW
    have HC := close_st S.out pa (by have := hnum.out; omega)
    rw [show getE (delP L pa) pa = 6 from GN.out.noE, show delP (delP L pa) pa = delP L pa from GN.out.twice] at HC
    obtain ⟨⟨z1, z2, z3⟩, hz⟩ : ∃ p, getP (delP L pa) pa = p := ⟨_, rfl⟩
    rw [hz] at HC
    clear hz
    refine HC.mono ?_
    rintro e w10 ⟨rfl, nv10, hS, hst⟩
    simp only [ptV]
    obtain ⟨W11, hW⟩ : ∃ W, w10.alloc (.cells #[.int .i64 z1, .string (bs z2), .int .i64 z3] 35) = W := ⟨_, rfl⟩
    have fW : Fr0 none' w10 W11 := by rw [← hW]; exact (Fr0.refl _ _).alloc _
    have S := Lib.hid (hS.later fW)
    have U := Lib.hid ((U.out.step hst).later fW)
    clear HC hS hst fW w0 w1 w2
    have pp := (S.out.ex (PB, .cells #[.int .i64 pa, .string (bs pb), .int .i64 pc] 35 (0, 0)) (by simp)).1
    have w0 := cells_in pp 0
    have w1 := cells_in pp 1
    have w2 := cells_in pp 2
    simp at w0 w1 w2
    clear pp
    have qq := (S.out.ex (QB, .cells #[.int .i64 pa, .string (bs pb), .int .i64 pc] 35 (0, 0)) (by simp)).1
    have v0 := cells_in qq 0
    have v1 := cells_in qq 1
    have v2 := cells_in qq 2
    simp at v0 v1 v2
    clear qq
    go_wp2_with fail
    clear hW
    refine (all_st S.out).mono ?_
    rintro e w12 ⟨av, rfl, hav, hf⟩
    have S := Lib.hid (S.out.later hf)
    have U := Lib.hid (U.out.later hf)
    obtain ⟨va, vc, rfl, hva⟩ := hav.row
    rw [show (delP L pa).length = l - 1 from GN.out.lenD]
    have V := Lib.hid hva
    have VL := Lib.hid (show ∀ g' o' s', va = some ⟨g', o', s'⟩ → g' < w12.heap.size from fun g' o' s' e => (hav.out g' (by rw [e]; rfl)).2)
    have hl64 : (l : Int) ≤ 65 := by have := S.out.is.ok.small; have h : (delP L pa).length = l - 1 := GN.out.lenD; omega
    clear hav hf hva w0 w1 w2 v0 v1 v2
    go_wp2_with fail
    have hua : PtsIn w12 (some ⟨g, o, none⟩) L := by
      obtain ⟨ua', uc', e1, hua⟩ := U.out.row
      injection e1 with e1
      subst e1
      exact hua
    refine (Clone_pts L hua Hl.out (by omega)).mono ?_
    rintro e w13 ⟨cv, rfl, hrow, hnil, hf⟩
    have V := Lib.hid (V.out.later hf)
    obtain ⟨cg, cc, rfl, hcg⟩ : ∃ cg cc, cv = .slice (some ⟨cg, 0, none⟩) l cc ∧ w12.heap.size ≤ cg := by
      rcases hrow.2 with ⟨_, h0⟩ | ⟨cg, cc, cur, rfl, hb, _⟩
      · omega
      · exact ⟨cg, cc, rfl, hb⟩
    have N1 := Lib.hid (S.out.fresh hcg)
    have S := Lib.hid (S.out.later hf)
    clear hua hf hnil
    have hw1 : IntKind.i64.wrap ((i : Int) + 1) = ((i + 1 : Nat) : Int) := by rw [IntWalk.i64_in _ (by omega)]; omega
    go_wp2_with fail
    have HC := Delete_pts (i := i) (j := i + 1) L hrow (by omega) rfl (by omega)
    rw [← show delP L pa = L.eraseIdx i from GN.out.list] at HC
    refine HC.mono ?_
    rintro e w14 ⟨rfl, hD, hf⟩
    have S := Lib.hid (S.out.turn hf N1.out.1 N1.out.2.1 N1.out.2.2)
    have V := Lib.hid (V.out.fr0 hf (fun g' o' s' e' hg' => by have := VL.out g' o' s' e'; omega))
    clear HC hrow
    go_wp2_with fail
    have hva := V.out
    have HC := sameP_any va _ (l - 1) (l - 1) vc cc (delP L pa) (delP L pa) w14 GN.out.lenD GN.out.lenD (by omega) (by omega) V.out hD
    rw [decide_eq_true (rfl : delP L pa = delP L pa)] at HC
    refine HC.mono ?_
    rintro e w15 ⟨rfl, hf⟩
    have S := Lib.hid (S.out.later hf)
    clear HC hD hf hva
    have pp := (S.out.ex (PB, .cells #[.int .i64 pa, .string (bs pb), .int .i64 pc] 35 (0, 0)) (by simp)).1
    have w0 := cells_in pp 0
    have w1 := cells_in pp 1
    have w2 := cells_in pp 2
    simp at w0 w1 w2
    clear pp
    go_wp2_with fail
    have HC := open_st S.out pb (by have := hpl.out; omega) pc
    have hE0 : openE 10 nx (delP L pa) pb pc = 0 := GN.out.open'
    rw [show openN 10 nx (delP L pa) pb pc = nx by unfold openN; rw [hE0]; rfl, show openX 10 nx (delP L pa) pb pc = nx + 1 by unfold openX; rw [hE0]; rfl, show openL 10 nx (delP L pa) pb pc = delP L pa ++ [⟨nx, pb, pc⟩] by unfold openL; rw [hE0]; rfl, hE0] at HC
    refine HC.mono ?_
    rintro e w16 ⟨rfl, nv16, hS, hst⟩
    have S := Lib.hid hS
    clear HC hS hst hE0 w0 w1 w2
    have pp := (S.out.ex (PB, .cells #[.int .i64 pa, .string (bs pb), .int .i64 pc] 35 (0, 0)) (by simp)).1
    have w0 := cells_in pp 0
    have w1 := cells_in pp 1
    have w2 := cells_in pp 2
    simp at w0 w1 w2
    clear pp
    go_wp2_with fail
    have HC := find_st S.out pb (by have := hpl.out; omega)
    rw [show findP (delP L pa ++ [⟨nx, pb, pc⟩]) pb = ⟨nx, pb, pc⟩ from GN.out.found, show findE (delP L pa ++ [⟨nx, pb, pc⟩]) pb = 0 from GN.out.foundE] at HC
    refine HC.mono ?_
    rintro e w17 ⟨rfl, hf⟩
    simp only [ptV]
    obtain ⟨W18, hW⟩ : ∃ W, w17.alloc (.cells #[.int .i64 nx, .string (bs pb), .int .i64 pc] 35) = W := ⟨_, rfl⟩
    obtain ⟨NB, hNB⟩ : ∃ X, w17.heap.size = X := ⟨_, rfl⟩
    have S := Lib.hid (show SpSt w W18 sb mb nv16 10 (nx + 1) (delP L pa ++ [⟨nx, pb, pc⟩]) ((NB, .cells #[.int .i64 nx, .string (bs pb), .int .i64 pc] 35 (0, 0)) :: _) from hW ▸ hNB ▸ (S.out.later hf).alloc _)
    clear HC hf w0 w1 w2
    have pp := (S.out.ex (PB, .cells #[.int .i64 pa, .string (bs pb), .int .i64 pc] 35 (0, 0)) (by simp)).1
    have w0 := cells_in pp 0
    have w1 := cells_in pp 1
    have w2 := cells_in pp 2
    simp at w0 w1 w2
    clear pp
    go_wp2_with fail
    clear hW hNB
    have HC := get_st S.out pa (by have := hnum.out; omega)
    rw [show getE (delP L pa ++ [⟨nx, pb, pc⟩]) pa = 6 from GN.out.gone'] at HC
    obtain ⟨⟨z1, z2, z3⟩, hz⟩ : ∃ p, getP (delP L pa ++ [⟨nx, pb, pc⟩]) pa = p := ⟨_, rfl⟩
    rw [hz] at HC
    clear hz
    refine HC.mono ?_
    rintro e w19 ⟨rfl, hf⟩
    simp only [ptV]
    obtain ⟨W20, hW⟩ : ∃ W, w19.alloc (.cells #[.int .i64 z1, .string (bs z2), .int .i64 z3] 35) = W := ⟨_, rfl⟩
    have fW : Fr0 none' w19 W20 := by rw [← hW]; exact (Fr0.refl _ _).alloc _
    have S := Lib.hid (S.out.later (hf.trans fW))
    clear HC hf fW w0 w1 w2
    have pp := (S.out.ex (PB, .cells #[.int .i64 pa, .string (bs pb), .int .i64 pc] 35 (0, 0)) (by simp)).1
    have w0 := cells_in pp 0
    have w1 := cells_in pp 1
    have w2 := cells_in pp 2
    simp at w0 w1 w2
    clear pp
    have nn := (S.out.ex _ (List.mem_cons_self ..)).1
    have n0 := cells_in nn 0
    have n1 := cells_in nn 1
    have n2 := cells_in nn 2
    simp at n0 n1 n2
    clear nn
    go_wp2_with fail
    clear hW
    have HC := SLen_is S.out.is
    rw [show (delP L pa ++ [(⟨nx, pb, pc⟩ : Pt)]).length = l from GN.out.len] at HC
    refine HC.mono ?_
    rintro e w21 ⟨rfl, rfl⟩
    clear HC
    go_wp2
    go_ret
    exact ⟨rfl, S.out.fr⟩
end Go.Proofs.Ytkchpngkmchamaa

namespace Go.Proofs.Ytkchpngkmchamaa.spaceCloses
open Go.ChangeShapes Go.WideShapes Go.ChangeAt Go.RowKit Go.Proofs.Ytkchpngkmchamaa

set_option maxRecDepth 100000 in
theorem lifted (os : Os) (started : os.Started) (H : Type) (enc : TypeId × Value → H) :
    ReturnsInHanded {} Try.checked os 4 .any (Rows.spaceClosesSpec.pre6 enc Try.prog Try.f4 Rows.spaceClosesRow.domain false) (Rows.spaceClosesSpec.post enc Try.prog Try.f4 false true false false) := by
  refine returnsInHanded_of_change (C := Try.checked) own_knob started (by kernel_rfl) Try.func4
    (ChangeSpec.witness6 (enc := enc) (C := Try.checked) false ⟨#[], #[.slice none 0 0, .int .u8 0], []⟩ 8 (by kernel_rfl) (by kernel_rfl) (by kernel_rfl) (by kernel_rfl)) ?_
  intro W base args ds gs before hval0 hW hcnd _
  have hval : ∀ (j : Nat) t v, Try.f4.params[j]? = some t → args[j]? = some v → Value.okWide Try.prog W .any base t v := hval0
  have hW' := hW
  obtain ⟨p, q, hA0, hV, rfl, hfz, hnd⟩ := hW
  have hA : DataW.TrodAll enc Try.prog W 0 (fun _ => true) true Try.f4.params.toList args.toList ds p := hA0
  rw [Try.params4] at hA hval
  obtain ⟨v0, vs0, d0, ds0, p0, q0, hargs, rfl, rfl, h0, r0⟩ := trodAll_cons hA
  obtain ⟨v1, vs1, d1, ds1, p1, q1, rfl, rfl, rfl, h1, r1⟩ := trodAll_cons r0
  obtain ⟨rfl, rfl, rfl⟩ := trodAll_nil r1
  obtain rfl : args = #[v0, v1] := by cases args; simp_all
  obtain ⟨rfl, rfl⟩ := trodVars_none hV
  clear hA0 hval0
  simp only [List.append_nil] at hW'
  have l0 : ∀ x ∈ p0, x.block < W.heap.size := fun x hx => hW'.lt x (by simp [hx])
  have t0 := fun W' (hb : Below W.heap.size W W') => Below.trod laid_own (by kernel_rfl) (of_decide_eq_true (by kernel_rfl)) h0 hb l0
  have l1 : ∀ x ∈ p1, x.block < W.heap.size := fun x hx => hW'.lt x (by simp [hx])
  have t1 := fun W' (hb : Below W.heap.size W W') => Below.trod laid_own (by kernel_rfl) (of_decide_eq_true (by kernel_rfl)) h1 hb l1
  obtain ⟨xs, hxs⟩ := smalls_arg (hval 0 22 v0 rfl rfl) h0
  obtain ⟨a1, rfl, _, _, w1⟩ := open_int Try.underlying5 (hval 1 5 v1 rfl rfl) h1
  refine (SpaceCloses_any hxs a1 (by have := bounds_u8 w1; omega)).mono fun e W' ⟨he, hg0⟩ => ?_
  have hg := hg0.below (Nat.le_refl _) (fun _ _ h => h)
  subst he
  exact ⟨_, rfl, post_below2 (pa := (p0 ++ (p1 ++ []))) (pv := []) hW' (fun _ _ _ => (trodAll_cons_mk (shut_bool Try.underlying4 _) trodAll_mk0)) (trodAll_cons_mk (t0 _ hg) (trodAll_cons_mk (t1 _ hg) trodAll_mk0)) (fun _ _ => rfl) hg⟩

theorem over : Rows.spaceClosesRow.holds Try.pinned (OpenSpec.ofChange Rows.spaceClosesSpec) :=
  OpenClaim.holds_of_wide 4 Try.f4 rfl rfl rfl rfl rfl rfl rfl ⟨rfl, rfl, rfl, rfl, rfl⟩ rfl rfl rfl rfl rfl (by kernel_rfl) Try.func4 (by kernel_rfl)
    (of_decide_eq_true (by kernel_rfl)) (by unfold Func.isWrapper; first | (rw [if_pos (by decide +kernel)]; kernel_rfl) | (rw [if_neg (by decide +kernel)]; exact ⟨rfl, rfl⟩))
    (fun os started H enc _ => lifted os started H enc)

theorem proved : Rows.SpaceClosesSaid := over
#print axioms proved
end Go.Proofs.Ytkchpngkmchamaa.spaceCloses
