/- EvqCuts: the statement: for any input the law returns true, and the arguments read as before; no condition. -/
import Derived.Test.YtmcgipilopfgoaaJb2
import Derived.Test.YtmcgipilopfgoaaJb3
import Derived.Test.YtmcgipilopfgoaaJa1
import Derived.Test.YtmcgipilopfgoaaJa2
import Derived.LoopNIn
set_option linter.unusedSimpArgs false
set_option linter.unusedVariables false

/-
  The queue: From.
-/
namespace Go.Proofs.Ytmcgipilopfgoaa
open Go Go.RowKit Go.ChangeMaps
attribute [local go_sem ↓] Go.wp_at_zero Go.wp_at_succ
attribute [local go_sem] Oper.semAt_some wide_fn wide_depth wide_fnR wide_depthR
variable {w w' : World} {qb n T : Nat} {E : List Ev} {ft : Nat → Prop}

/-- The events from a key on. -/
def geE (k : Key3) (E : List Ev) : List Ev := E.filter (fun y => decide (0 ≤ cmpK y.key k))
theorem ge_full {k : Key3} {E : List Ev} {i most : Nat} (h : (geE k (E.take i)).length = most) : (geE k E).take most = geE k (E.take i) := by
  have h1 : geE k E = geE k (E.take i) ++ geE k (E.drop i) := by
    unfold geE
    rw [← List.filter_append, List.take_append_drop]
  rw [h1, ← h, List.take_left]
theorem ge_snoc {k : Key3} {E : List Ev} {i : Nat} {x : Ev} (hx : E[i]? = some x) : geE k (E.take (i + 1)) = geE k (E.take i) ++ if 0 ≤ cmpK x.key k then [x] else [] := by
  unfold geE
  rw [List.take_add_one, hx, List.filter_append]
  congr 1
  by_cases h : 0 ≤ cmpK x.key k
  · rw [if_pos h]; simp [h]
  · rw [if_neg h]; simp [h]
set_option maxRecDepth 100000 in
set_option maxHeartbeats 2000000 in
theorem QFrom_in (h : QIs w qb n T E ft) (k : Key3) (most : Nat) (hm : most ≤ 1000) : CallsIn Fence.wide 0 Try.prog 28 #[.pointer (some ⟨qb, 0, none⟩), .agg #[.int .i64 k.time, .int .i64 k.source, .int .i64 k.seq], .int .i64 most] w fun e w' => ∃ v, e = .returned v ∧ w'.ownsRow w.heap.size 34 5 v ((geE k E).take most).length (flatEv ((geE k E).take most)) ∧ Fr0 none' w w' := by
  obtain ⟨i0, hi, hz0, hz1, hz2⟩ := info_parts info_event0
  have H := Lib.hid h
  have HG := Lib.hid h.good
  have HE := Lib.hid h.le
  clear h
  refine callsIn_of_wp_marks Try.func28 rfl trivial ?_ rfl
  simp only [Try.ntmps28, List.size_toArray, List.length_cons, List.length_nil, Nat.reduceAdd, Nat.reduceSub, Array.replicate_succ, Array.replicate_zero, List.push_toArray, List.append_toArray, List.nil_append, List.cons_append]
  gi_wp2_with fail
  apply wpIn_scope_straight
  gi_wp2_with fail
  apply wpIn_label
  gi_wp2_with fail
  obtain ⟨N0, hN0⟩ : ∃ N0, w.heap.size = N0 := ⟨_, rfl⟩
  obtain ⟨W3, hW3⟩ : ∃ W, ((w.alloc (.cells #[.int .i64 k.time, .int .i64 k.source, .int .i64 k.seq] 32)).alloc (.cells #[.int .i64 most] 3)).alloc (.cells #[.slice none 0 0] 28) = W := ⟨_, rfl⟩
  have hs1 : (w.alloc (.cells #[.int .i64 k.time, .int .i64 k.source, .int .i64 k.seq] 32)).heap.size = N0 + 1 := by rw [World.size_alloc, hN0]
  have hs2 : ((w.alloc (.cells #[.int .i64 k.time, .int .i64 k.source, .int .i64 k.seq] 32)).alloc (.cells #[.int .i64 most] 3)).heap.size = N0 + 1 + 1 := by rw [World.size_alloc, hs1]
  have Hs3 := Lib.hid (show W3.heap.size = N0 + 3 by rw [← hW3, World.size_alloc, hs2])
  have F3 := Lib.hid (show Fr0 none' w W3 by rw [← hW3]; exact (((Fr0.refl _ _).alloc _).alloc _).alloc _)
  have HK3 := Lib.hid (show W3.heap[N0]? = some (.cells #[.int .i64 k.time, .int .i64 k.source, .int .i64 k.seq] 32 (0, 0)) by
    rw [← hW3, ← hN0]
    exact ((((Fr0.refl none' (w.alloc (.cells #[.int .i64 k.time, .int .i64 k.source, .int .i64 k.seq] 32))).alloc _).alloc _).block w.heap.size (by rw [World.size_alloc]; omega) id).trans (World.alloc_heap_new w _))
  have HM3 := Lib.hid (show Box W3 (N0 + 1) (.int .i64 most) by
    rw [← hW3]
    have h1 := Box.new (w.alloc (.cells #[.int .i64 k.time, .int .i64 k.source, .int .i64 k.seq] 32)) (.int .i64 most) 3
    rw [hs1] at h1
    exact h1.alloc _)
  have HO3 := Lib.hid (show Box W3 (N0 + 1 + 1) (.slice none 0 0) by
    rw [← hW3, ← hs2]
    exact Box.new _ _ _)
  rw [hW3]
  try rw [hN0]
  have HN0 := Lib.hid hN0
  clear hW3 hN0 hs1 hs2
  refine (callsIn_wide.2 (ordered_any qb W3)).mono ?_
  rintro e w4 ⟨rfl, hw4⟩
  rw [Hs3.out]
  obtain ⟨W4, hW4⟩ : ∃ W, W3.alloc (.cells #[.pointer (some ⟨qb, 0, none⟩)] 24) = W := ⟨_, rfl⟩
  rw [hW4] at hw4
  subst hw4
  have F34 := Lib.hid (show Fr0 none' W3 w4 by rw [← hW4]; exact (Fr0.refl _ _).alloc _)
  have Bq4 := Lib.hid (show Box w4 (N0 + 3) (.pointer (some ⟨qb, 0, none⟩)) by rw [← hW4, ← Hs3.out]; exact Box.new _ _ _)
  have Hs4 := Lib.hid (show w4.heap.size = N0 + 4 by rw [← hW4, World.size_alloc, Hs3.out])
  have F4 := Lib.hid (show Fr0 none' w w4 from F3.out.trans F34.out)
  have H4 := Lib.hid (H.out.later F4.out)
  have HK4 := Lib.hid ((F34.out.block N0 (Array.getElem?_eq_some_iff.1 HK3.out).1 id).trans HK3.out)
  have HM4 := Lib.hid (HM3.out.fr0 F34.out id)
  have HO4 := Lib.hid (HO3.out.fr0 F34.out id)
  clear hW4
  obtain ⟨rd, it, hrd⟩ := H4.out.ordered (N0 + 3) Bq4.out
  have Hrd := Lib.hid hrd
  clear hrd
  have hlf := H.out.lt
  gi_wp2_with fail
  refine wpIn_iterS0 (σ := Option Nat) (gf := 64) (lb := #[.pointer (some ⟨N0 + 3, 0, none⟩)]) rfl (by intro args w; rfl) it (Keep.refl _ _) (fun _ => rfl) (fun k hk => hk.elim) (fun k hk => by
      rw [Hs4.out]
      rcases Hrd.out k hk with rfl | h
      · omega
      · have := hlf k h
        have := HN0.out
        omega)
    (fun i s W => ∃ v, v.ownBlock = s ∧ Box W (N0 + 1 + 1) v ∧ W.ownsRow (N0 + 6) 34 5 v (geE k (E.take i)).length (flatEv (geE k (E.take i))) ∧ (geE k (E.take i)).length ≤ most ∧ W.heap[N0]? = some (.cells #[.int .i64 k.time, .int .i64 k.source, .int .i64 k.seq] 32 (0, 0)) ∧ Box W (N0 + 1) (.int .i64 most) ∧ Fr0 none' w W)
    (fun s j => j = N0 + 1 + 1 ∨ s = some j)
    (fun c W => c = .exit 0 ∧ ∃ v, Box W (N0 + 1 + 1) v ∧ W.ownsRow (N0 + 6) 34 5 v ((geE k E).take most).length (flatEv ((geE k E).take most)) ∧ Fr0 none' w W) ?hInv ?hlt ?hIx none ?h0 ?hf0
    (fun (x : Ev) W a' => ∃ B, a' = { tmps := #[.pointer (some ⟨qb, 0, none⟩), .agg #[.int .i64 k.time, .int .i64 k.source, .int .i64 k.seq], .int .i64 most, undef, .pointer (some ⟨N0, 0, none⟩), .pointer (some ⟨N0 + 1, 0, none⟩), .slice none 0 0, .pointer (some ⟨N0 + 1 + 1, 0, none⟩), .pointer (some ⟨B, 0, none⟩), undef, undef, .pointer (some ⟨qb, 0, none⟩), .func (.func 64) #[] #[.pointer (some ⟨N0 + 3, 0, none⟩)], .agg #[.int .i64 x.key.time, .int .i64 x.key.source, .int .i64 x.key.seq, .int .i64 x.to, .int .i64 x.value], undef, undef, undef, undef, undef, undef, undef, undef, undef, undef, undef, undef, undef, undef, undef, undef, undef, undef], defers := [] } ∧ N0 + 5 < B ∧ W.heap[B]? = some (.cells (cev x).toArray 34 (0, 0)))
    ?assign ?keep ?body ?done ?stop
  case hInv =>
    rintro i s W1 W2 ⟨v, rfl, h2, h3, h4, h5, h6, h7⟩ hf
    rw [Hs4.out] at hf
    refine ⟨v, rfl, h2.fr0 hf (fun hs => hs.2 (.inl rfl)), ownsRow_fr0 h3 hf (fun g hg hs => hs.2 (.inr hg)), h4, (hf.block N0 (Array.getElem?_eq_some_iff.1 h5).1 (fun hs => ?_)).trans h5, h6.fr0 hf (fun hs => ?_), h7.trans' hf (fun j hj hs => ?_)⟩
    · rcases hs.1 with h | h
      · exact h
      · omega
    · rcases hs.1 with h | h
      · exact h
      · omega
    · rcases hs.1 with h | h
      · exact h
      · have := HN0.out; omega
  case hlt =>
    rintro i s W j ⟨v, rfl, h2, h3, h4, h5, h6, h7⟩ (rfl | hk)
    · exact h2.lt
    · exact (h3.lt j hk).2
  case hIx =>
    rintro c W1 W2 ⟨h0, v, h1, h2, h3⟩ hf
    rw [Hs4.out] at hf
    have hge : ∀ j, (none' j ∨ j = N0 + 4 ∨ j = N0 + 4 + 1) → j = N0 + 4 ∨ j = N0 + 5 := fun j h => by
      rcases h with h | h | h
      · exact h.elim
      · exact .inl h
      · exact .inr h
    exact ⟨h0, v, h1.fr0 hf (fun h => by have := hge _ h; omega), ownsRow_fr0 h2 hf (fun g hg h => by have := hge _ h; have := (h2.lt g hg).1; omega), h3.trans' hf (fun j hj h => by have := hge _ h; have := HN0.out; omega)⟩
  case h0 => exact ⟨.slice none 0 0, rfl, HO4.out, World.ownsRow_nil _ _ _ _, Nat.zero_le _, HK4.out, HM4.out, F4.out⟩
  case hf0 =>
    rintro j (rfl | hk)
    · refine ⟨id, fun hr => ?_⟩
      rcases Hrd.out _ hr with h | h
      · omega
      · have := hlf _ h
        have := HN0.out
        omega
    · cases hk
  case assign =>
    intro l x W K hlt hK
    rw [Hs4.out] at hlt
    simp only [evV]
    gi_wp2
    exact hK _ _ ⟨W.heap.size, rfl, by omega, World.alloc_heap_new W _⟩ ((Fr0.refl _ _).alloc _)
  case keep =>
    rintro x W4 W5 a' ⟨B, rfl, hB, hc⟩ hf
    exact ⟨B, rfl, hB, (hf.block B (Array.getElem?_eq_some_iff.1 hc).1 (by rw [Hs4.out]; omega)).trans hc⟩
  case body =>
    rintro l i x s W a' hxi ⟨v, rfl, h2, h3, h4, h5, h6, h7⟩ hfoot hsz ⟨B, rfl, hB, hcB⟩
    have hlt : i < E.length := (List.getElem?_eq_some_iff.1 hxi).1
    have b0 := cells_in hcB 0
    have b1 := cells_in hcB 1
    have b2 := cells_in hcB 2
    have b3 := cells_in hcB 3
    have b4 := cells_in hcB 4
    simp [cev] at b0 b1 b2 b3 b4
    have k0 := cells_in h5 0
    have k1 := cells_in h5 1
    have k2 := cells_in h5 2
    simp at k0 k1 k2
    have cO := h2.cell
    have cM := h6.cell
    obtain ⟨va, vc, rfl, _, _⟩ := EsIn.of_own h3
    obtain ⟨G, hG⟩ : ∃ G, geE k (E.take i) = G := ⟨_, rfl⟩
    rw [hG] at h3 h4 cO h2 ⊢
    obtain ⟨gl, hgl⟩ : ∃ gl, G.length = gl := ⟨_, rfl⟩
    rw [hgl] at h3 h4 cO h2 ⊢
    by_cases hfull : most ≤ gl
    · have d1 : decide ((gl : Int) ≥ (most : Int)) = true := decide_eq_true (by omega)
      have d2 : decide ((most : Int) ≤ (gl : Int)) = true := decide_eq_true (by omega)
      have d3 : decide (most ≤ gl) = true := decide_eq_true hfull
      gi_wp2_with fail
      have hge : gl = most := by omega
      have hrow := h3
      refine ⟨Fr0.refl _ _, rfl, _, h2, ?_, h7⟩
      have hff := ge_full (k := k) (E := E) (i := i) (most := most) (by rw [hG, hgl]; exact hge)
      rw [← List.length_take, hff, hG, hgl]
      exact h3
    · have d1 : decide ((gl : Int) ≥ (most : Int)) = false := decide_eq_false (by omega)
      have d2 : decide ((most : Int) ≤ (gl : Int)) = false := decide_eq_false (by omega)
      have d3 : decide (most ≤ gl) = false := decide_eq_false hfull
      gi_wp2_with fail
      have hsn := ge_snoc (k := k) (E := E) (i := i) (x := x) hxi
      rw [hG] at hsn
      have HC := Compare_any x.key k W
      simp only [keyV] at HC
      obtain ⟨c, hc⟩ : ∃ c, cmpK x.key k = c := ⟨_, rfl⟩
      rw [hc] at HC hsn
      have Hsn := Lib.hid hsn
      have H3 := Lib.hid h3
      have H7 := Lib.hid h7
      have H5 := Lib.hid h5
      have H6 := Lib.hid h6
      have H2 := Lib.hid h2
      have Hgl := Lib.hid hgl
      have Hsz := Lib.hid hsz
      clear hc hsn h3 h7 h5 h6 h2 hG hgl k0 k1 k2 hxi hsz
      refine (callsIn_wide.2 HC).mono ?_
      rintro e w5 ⟨rfl, hf0⟩
      have hf5 : Fr0 none' W w5 := hf0.to0
      obtain ⟨fv, hfv⟩ : ∃ fv, fieldK x.key k = fv := ⟨_, rfl⟩
      rw [hfv]
      have hcB5 := (hf5.block B (Array.getElem?_eq_some_iff.1 hcB).1 id).trans hcB
      have h25 := H2.out.fr0 hf5 id
      have HRow := Lib.hid (ownsRow_fr0 H3.out hf5 (fun _ _ h => h))
      have h55 := Lib.hid ((hf5.block N0 (Array.getElem?_eq_some_iff.1 H5.out).1 id).trans H5.out)
      have h65 := Lib.hid (H6.out.fr0 hf5 id)
      have h75 := Lib.hid (H7.out.trans hf5)
      have F5 := Lib.hid hf5
      clear hf0 hfv HC b0 b1 b2 b3 b4 cO cM
      have b0 := cells_in hcB5 0
      have b1 := cells_in hcB5 1
      have b2 := cells_in hcB5 2
      have b3 := cells_in hcB5 3
      have b4 := cells_in hcB5 4
      simp [cev] at b0 b1 b2 b3 b4
      have cO := h25.cell
      have cF := h25.frozen
      have H25 := Lib.hid h25
      clear hcB hcB5 hf5 h25
      by_cases hc0 : 0 ≤ c
      · have dd : decide (c ≥ 0) = true := decide_eq_true hc0
        have dd2 : decide (0 ≤ c) = true := decide_eq_true hc0
        have hsn := Hsn.out
        rw [if_pos hc0] at hsn
        have Hsn := Lib.hid hsn
        have hsrc := Src.newRow (P := Try.prog) (size := 5) (tx := 28) (ty := 34) w5 Try.underlying28 1 1 (cev x) rfl (by simp [Value.oneCell', cev])
        simp only [cev] at hsrc
        have hbase : N0 + 6 ≤ w5.heap.size := by have := Hsz.out; rw [Hs4.out] at this; have := F5.out.size; omega
        have hgl5 : gl ≤ 1000 := by omega
        clear hsn hc0
        gi_wp2_with (gi_at_builtin; refine wpListIn_append_k rfl _ _ 28 28 rfl (N0 + 6) 34 i0 (.agg #[.int .i64 0, .int .i64 0, .int .i64 0, .int .i64 0, .int .i64 0]) 5 40 Try.underlying28 hi hz0 hz1 hz2 rfl (by decide) (.slice va gl vc) gl _ rfl (ownsRow_fr0 HRow.out ((Fr0.refl none' w5).alloc _) (fun _ _ h => h)) (.slice (some ⟨w5.heap.size, 0, none⟩) 1 1) 1 _ rfl hsrc (by unfold maxLen; omega) (by omega) (by simp; omega) ?_; intro v' w6 hown' hgrow hdr hob; obtain ⟨g', cap', rfl⟩ := ownsRow_k_succ hown'; have hfg := ((Fr0.refl (fun k => (Value.slice va gl vc).ownBlock = some k) w5).alloc _).grown hgrow (fun k hk _ => hk); have hb1 := H25.out.fr0 hfg (fun h => by have := (HRow.out.lt _ h).1; omega); have hc1 := hb1.cell; have hf1 := hb1.frozen)
        have hb2 := hb1.set (.slice (some ⟨g', 0, none⟩) (gl + 1) cap')
        have hf2 := (hfg.mono (S' := fun k => k = N0 + 1 + 1 ∨ (Value.slice va gl vc).ownBlock = some k) (fun k _ h => .inr h)).setCell (b := N0 + 1 + 1) (o := 0) (fun _ => .inl rfl) (.slice (some ⟨g', 0, none⟩) (gl + 1) cap')
        refine ⟨_, ⟨(.slice (some ⟨g', 0, none⟩) (gl + 1) cap'), rfl, hb2, ?_, ?_, ?_, ?_, ?_⟩, (F5.out.mono (fun _ _ h => h.elim)).trans hf2, ?_⟩
        · have h3 := ownsRow_setCell_below hown' (a := ⟨N0 + 1 + 1, 0, none⟩) (by simp) (.slice (some ⟨g', 0, none⟩) (gl + 1) cap')
          have h4 : flatEv (G ++ [x]) = flatEv G ++ [.int .i64 x.key.time, .int .i64 x.key.source, .int .i64 x.key.seq, .int .i64 x.to, .int .i64 x.value] := by rw [flatEv_append, flatEv_single]; rfl
          rw [Hsn.out, List.length_append, List.length_singleton, Hgl.out, h4]
          exact h3
        · rw [Hsn.out, List.length_append, List.length_singleton, Hgl.out]
          omega
        · refine (hf2.block N0 (Array.getElem?_eq_some_iff.1 h55.out).1 (fun hs => ?_)).trans h55.out
          rcases hs with h | h
          · omega
          · have := (HRow.out.lt _ h).1; omega
        · refine h65.out.fr0 hf2 (fun hs => ?_)
          rcases hs with h | h
          · omega
          · have := (HRow.out.lt _ h).1; omega
        · refine h75.out.trans' hf2 (fun j hj hs => ?_)
          rcases hs with h | h
          · have := HN0.out; omega
          · have := (HRow.out.lt _ h).1; have := HN0.out; omega
        · rintro j (rfl | hj)
          · exact .inl (.inl rfl)
          · rcases hob with h | h
            · rw [h] at hj
              exact .inl (.inr hj)
            · rw [h] at hj
              injection hj with hj
              rw [World.size_alloc] at hj
              have := F5.out.size
              exact .inr (by omega)
      · have dd : decide (c ≥ 0) = false := decide_eq_false hc0
        have dd2 : decide (0 ≤ c) = false := decide_eq_false hc0
        have hsn := Hsn.out
        rw [if_neg hc0, List.append_nil] at hsn
        have Hsn := Lib.hid hsn
        clear hsn hc0
        gi_wp2_with fail
        refine ⟨_, ⟨.slice va gl vc, rfl, H25.out, ?_, ?_, h55.out, h65.out, h75.out⟩, F5.out.mono (fun _ _ h => h.elim), fun j hj => .inl hj⟩
        · rw [Hsn.out, Hgl.out]
          exact HRow.out
        · rw [Hsn.out, Hgl.out]
          omega
  case done =>
    rintro D s W hDe ⟨v, rfl, h2, h3, h4, h5, h6, h7⟩ hDf hK
    rw [Hs4.out] at hDe
    subst hDe
    rw [List.take_length] at h3 h4
    have htk : (geE k E).take most = geE k E := List.take_of_length_le h4
    have hc := h2.cell
    have hfp : Fr0 (fun k => k = N0 + 4) W (W.putObj (N0 + 4) (.deferred none)) := Fr0.putNew _ _ rfl
    have hfin := Lib.hid (show (W.putObj (N0 + 4) (.deferred none)).ownsRow w.heap.size 34 5 v ((geE k E).take most).length (flatEv ((geE k E).take most)) ∧ Fr0 none' w (W.putObj (N0 + 4) (.deferred none)) from ⟨by rw [htk]; exact own_up (ownsRow_fr0 h3 hfp (fun g hg e => by have := (h3.lt g hg).1; omega)) (by have := HN0.out; omega), h7.trans' hfp (fun j hj e => by have := HN0.out; omega)⟩)
    have HK := Lib.hid hK
    clear h2 h3 h4 h5 h6 h7 hDf hK hfp it htk
    gi_wp2
    refine ⟨by simp, .inl ⟨_, _, rfl, run_takeDeferred HK.out, ?_⟩⟩
    refine ⟨_, results_tmp rfl _ _ _, v, rfl, hfin.out⟩
  case stop =>
    rintro D c W hDe ⟨rfl, v, h2, h3, h7⟩ hK
    rw [Hs4.out] at hDe
    subst hDe
    have hc := h2.cell
    have hfp : Fr0 (fun k => k = N0 + 4) W (W.putObj (N0 + 4) (.deferred none)) := Fr0.putNew _ _ rfl
    have hfin := Lib.hid (show (W.putObj (N0 + 4) (.deferred none)).ownsRow w.heap.size 34 5 v ((geE k E).take most).length (flatEv ((geE k E).take most)) ∧ Fr0 none' w (W.putObj (N0 + 4) (.deferred none)) from ⟨own_up (ownsRow_fr0 h3 hfp (fun g hg e => by have := (h3.lt g hg).1; omega)) (by have := HN0.out; omega), h7.trans' hfp (fun j hj e => by have := HN0.out; omega)⟩)
    have HK := Lib.hid hK
    clear h2 h3 h7 hK hfp it
    gi_wp2
    refine ⟨by simp, .inl ⟨_, _, rfl, run_takeDeferred HK.out, ?_⟩⟩
    refine ⟨_, results_tmp rfl _ _ _, v, rfl, hfin.out⟩
theorem QIs.from_ (h : QIs w qb n T E ft) (k : Key3) (most : Nat) (hm : most ≤ 1000) : Calls Try.prog 28 #[.pointer (some ⟨qb, 0, none⟩), .agg #[.int .i64 k.time, .int .i64 k.source, .int .i64 k.seq], .int .i64 most] w fun e w' => ∃ v, e = .returned v ∧ w'.ownsRow w.heap.size 34 5 v ((geE k E).take most).length (flatEv ((geE k E).take most)) ∧ Fr0 none' w w' := callsIn_wide.1 (QFrom_in h k most hm)
end Go.Proofs.Ytmcgipilopfgoaa

/-
  slices.Backward at the fields of a key.
-/
namespace Go.Proofs.Ytmcgipilopfgoaa
open Go Go.RowKit
attribute [local go_sem ↓] Go.wp_at_zero Go.wp_at_succ
attribute [local go_sem] Oper.semAt_some wide_fn wide_depth wide_fnR wide_depthR

end Go.Proofs.Ytmcgipilopfgoaa

/-
  key.Next, key.Back.
-/
namespace Go.Proofs.Ytmcgipilopfgoaa
open Go Go.RowKit
attribute [local go_sem ↓] Go.wp_at_zero Go.wp_at_succ
attribute [local go_sem] Oper.semAt_some wide_fn wide_depth wide_fnR wide_depthR

def setF (k : Key3) (x : Nat) (v : Int) : Key3 := if x = 0 then { k with time := v } else if x = 1 then { k with source := v } else { k with seq := v }
theorem KeyAt.setF {w : World} {B : Nat} {k : Key3} (h : KeyAt w B k) {x : Nat} (hx : x < 3) (v : Int) : KeyAt (w.setCell ⟨B, x, none⟩ (.int .i64 v)) B (setF k x v) := by
  have : x = 0 ∨ x = 1 ∨ x = 2 := by omega
  rcases this with rfl | rfl | rfl
  · exact h.set0 v
  · exact h.set1 v
  · exact h.set2 v
def lowN (k : Key3) (i : Nat) : Key3 := if i = 0 then k else if i = 1 then ⟨k.time, k.source, 0⟩ else if i = 2 then ⟨k.time, 0, 0⟩ else ⟨0, 0, 0⟩
def lowB (k : Key3) (i : Nat) : Key3 := if i = 0 then k else if i = 1 then ⟨k.time, k.source, 4294967295⟩ else if i = 2 then ⟨k.time, 16, 4294967295⟩ else ⟨281474976710656, 16, 4294967295⟩
theorem lowN_nth (k : Key3) {i : Nat} (hi : i < 3) : nth3 (lowN k i) (2 - i) = nth3 k (2 - i) := by
  have : i = 0 ∨ i = 1 ∨ i = 2 := by omega
  rcases this with rfl | rfl | rfl <;> rfl
theorem lowB_nth (k : Key3) {i : Nat} (hi : i < 3) : nth3 (lowB k i) (2 - i) = nth3 k (2 - i) := by
  have : i = 0 ∨ i = 1 ∨ i = 2 := by omega
  rcases this with rfl | rfl | rfl <;> rfl
theorem lowN_succ (k : Key3) {i : Nat} (hi : i < 3) : setF (lowN k i) (2 - i) 0 = lowN k (i + 1) := by
  have : i = 0 ∨ i = 1 ∨ i = 2 := by omega
  rcases this with rfl | rfl | rfl <;> rfl
theorem lowB_succ (k : Key3) {i : Nat} (hi : i < 3) : setF (lowB k i) (2 - i) (fMost (2 - i)) = lowB k (i + 1) := by
  have : i = 0 ∨ i = 1 ∨ i = 2 := by omega
  rcases this with rfl | rfl | rfl <;> rfl
theorem next_hit (k : Key3) {i : Nat} (hi : i < 3) (h : ∀ j, j < i → ¬ nth3 k (2 - j) < fMost (2 - j)) (hx : nth3 k (2 - i) < fMost (2 - i)) : nextK k = some (setF (lowN k i) (2 - i) (nth3 k (2 - i) + 1)) := by
  have : i = 0 ∨ i = 1 ∨ i = 2 := by omega
  unfold nextK
  rcases this with rfl | rfl | rfl
  · simp [nth3, fMost] at hx
    rw [if_pos hx]; rfl
  · have h0 := h 0 (by omega)
    simp [nth3, fMost] at hx h0
    rw [if_neg (by omega), if_pos hx]; rfl
  · have h0 := h 0 (by omega)
    have h1 := h 1 (by omega)
    simp [nth3, fMost] at hx h0 h1
    rw [if_neg (by omega), if_neg (by omega), if_pos hx]; rfl
theorem next_none (k : Key3) (h : ∀ j, j < 3 → ¬ nth3 k (2 - j) < fMost (2 - j)) : nextK k = none := by
  have h0 := h 0 (by omega)
  have h1 := h 1 (by omega)
  have h2 := h 2 (by omega)
  simp [nth3, fMost] at h0 h1 h2
  unfold nextK
  rw [if_neg (by omega), if_neg (by omega), if_neg (by omega)]
theorem back_hit (k : Key3) {i : Nat} (hi : i < 3) (h : ∀ j, j < i → ¬ 0 < nth3 k (2 - j)) (hx : 0 < nth3 k (2 - i)) : backK k = some (setF (lowB k i) (2 - i) (nth3 k (2 - i) - 1)) := by
  have : i = 0 ∨ i = 1 ∨ i = 2 := by omega
  unfold backK
  rcases this with rfl | rfl | rfl
  · simp [nth3] at hx
    rw [if_pos hx]; rfl
  · have h0 := h 0 (by omega)
    simp [nth3] at hx h0
    rw [if_neg (by omega), if_pos hx]; rfl
  · have h0 := h 0 (by omega)
    have h1 := h 1 (by omega)
    simp [nth3] at hx h0 h1
    rw [if_neg (by omega), if_neg (by omega), if_pos hx]; rfl
theorem back_none (k : Key3) (h : ∀ j, j < 3 → ¬ 0 < nth3 k (2 - j)) : backK k = none := by
  have h0 := h 0 (by omega)
  have h1 := h 1 (by omega)
  have h2 := h 2 (by omega)
  simp [nth3] at h0 h1 h2
  unfold backK
  rw [if_neg (by omega), if_neg (by omega), if_neg (by omega)]
/-- What Next and Back return of a step. -/
def stepV (o : Option Key3) : Value := .tuple #[keyV (o.getD zeroK), .int .i64 (if o.isSome then 0 else 6)]

end Go.Proofs.Ytmcgipilopfgoaa

/-
  key.Ends.
-/
namespace Go.Proofs.Ytmcgipilopfgoaa
open Go Go.RowKit
attribute [local go_sem ↓] Go.wp_at_zero Go.wp_at_succ
attribute [local go_sem] Oper.semAt_some wide_fn wide_depth wide_fnR wide_depthR

/-- The first and the last key of a time. -/
def endsV (t : Int) : Key3 × Key3 × Int := if 0 ≤ t ∧ t ≤ 281474976710656 then (⟨t, 0, 0⟩, ⟨t, 16, 4294967295⟩, 0) else (zeroK, zeroK, 2)
def keyO (k : Key3) : Obj := .cells #[.int .i64 k.time, .int .i64 k.source, .int .i64 k.seq] 32
theorem ends_post {w W : World} {A C : Key3} {m : Int} (k1 : KeyAt W w.heap.size A) (k2 : KeyAt W (w.heap.size + 1) C) (F : Fr0 none' w W) {f : Act} (hd : f.defers = []) (h2 : f.tmps[2]? = some (.pointer (some ⟨w.heap.size, 0, none⟩))) (h3 : f.tmps[3]? = some (.pointer (some ⟨w.heap.size + 1, 0, none⟩))) (h4 : f.tmps[4]? = some (.int .i64 m)) :
    bodyPost Try.prog Try.f27 (fun e w' => e = Ending.returned (.tuple #[keyV A, keyV C, .int .i64 m]) ∧ Fr0 none' w w') Exit.ret f W := by
  have d0 := k1.cell (i := 0) (by omega)
  have d1 := k1.cell (i := 1) (by omega)
  have d2 := k1.cell (i := 2) (by omega)
  have e0 := k2.cell (i := 0) (by omega)
  have e1 := k2.cell (i := 1) (by omega)
  have e2 := k2.cell (i := 2) (by omega)
  simp [nth3] at d0 d1 d2 e0 e1 e2
  refine bodyPost_ret (v := .tuple #[keyV A, keyV C, .int .i64 m]) ?_ hd ⟨rfl, F⟩
  simp [results, Try.results27, go_sem, d0, d1, d2, e0, e1, e2, keyV, h2, h3, h4]
set_option maxRecDepth 100000 in
set_option maxHeartbeats 4000000 in
theorem Ends_any (t : Int) (w : World) : Calls Try.prog 27 #[.int .i64 t] w fun e w' => e = .returned (.tuple #[keyV (endsV t).1, keyV (endsV t).2.1, .int .i64 (endsV t).2.2]) ∧ Fr0 none' w w' := by
  unfold endsV
  by_cases h0 : t < 0
  · have d0 : decide (t < 0) = true := decide_eq_true h0
    rw [if_neg (by omega)]
    clear h0
    go_enter Try.func27, Try.ntmps27
    go_wp2_with fail
    refine ends_post (A := zeroK) (C := zeroK) ?_ ?_ ((((Fr0.refl _ w).alloc _).alloc _)) rfl ?_ ?_ ?_
    · exact KeyAt.alloc (k := zeroK) (World.alloc_heap_new w _) _
    · have := World.alloc_heap_new (w.alloc (keyO zeroK)) (keyO zeroK)
      rw [World.size_alloc] at this
      exact this
    · rfl
    · rfl
    · rfl
  · have d0 : decide (t < 0) = false := decide_eq_false h0
    by_cases h1 : 281474976710656 < t
    · have d1 : decide (281474976710656 < t) = true := decide_eq_true h1
      rw [if_neg (by omega)]
      clear h0 h1
      go_enter Try.func27, Try.ntmps27
      go_wp2_with fail
      refine ends_post (A := zeroK) (C := zeroK) ?_ ?_ ((((Fr0.refl _ w).alloc _).alloc _)) rfl ?_ ?_ ?_
      · exact KeyAt.alloc (k := zeroK) (World.alloc_heap_new w _) _
      · have := World.alloc_heap_new (w.alloc (keyO zeroK)) (keyO zeroK)
        rw [World.size_alloc] at this
        exact this
      · rfl
      · rfl
      · rfl
    · have d1 : decide (281474976710656 < t) = false := decide_eq_false h1
      rw [if_pos (by omega)]
      clear h0 h1
      go_enter Try.func27, Try.ntmps27
      go_wp2_with fail
      refine ends_post (A := (⟨t, 0, 0⟩ : Key3)) (C := (⟨t, 16, 4294967295⟩ : Key3)) ?_ ?_ ((((Fr0.refl _ w).alloc _).alloc _)) rfl ?_ ?_ ?_
      · exact KeyAt.alloc (k := (⟨t, 0, 0⟩ : Key3)) (World.alloc_heap_new w _) _
      · have := World.alloc_heap_new (w.alloc (keyO (⟨t, 0, 0⟩ : Key3))) (keyO (⟨t, 16, 4294967295⟩ : Key3))
        rw [World.size_alloc] at this
        exact this
      · rfl
      · rfl
      · rfl
end Go.Proofs.Ytmcgipilopfgoaa

/-
  EvqCuts.
-/
namespace Go.Proofs.Ytmcgipilopfgoaa
open Go Go.RowKit Go.ChangeMaps
attribute [local go_sem ↓] Go.wp_at_zero Go.wp_at_succ
attribute [local go_sem] Oper.semAt_some wide_fn wide_depth wide_fnR wide_depthR

theorem ge_aft {t : Int} (ht : 0 ≤ t) {E : List Ev} (hr : ∀ x ∈ E, RightE x) : geE ⟨t, 0, 0⟩ E = aftE t E := by
  unfold geE aftE
  refine List.filter_congr (fun y hy => ?_)
  obtain ⟨h1, _⟩ := hr y hy
  unfold RightK at h1
  have h2 := cmpK_lt y.key ⟨t, 0, 0⟩
  simp only at h2
  by_cases h : y.key.time < t
  · have h3 := h2.2 (.inl h)
    simp [h]
    omega
  · have h3 : ¬ cmpK y.key ⟨t, 0, 0⟩ < 0 := fun h4 => by
      have := h2.1 h4
      omega
    simp [h]
    omega
theorem cutE_is {t : Int} {Z : List Ev} (ha : AscE Z) : ∃ C : Nat, C ≤ Z.length ∧ (idxI (fun x => decide (t ≤ x.key.time)) Z = C ∨ (idxI (fun x => decide (t ≤ x.key.time)) Z = -1 ∧ C = Z.length)) ∧ befE t Z = Z.take C ∧ aftE t Z = Z.drop C := by
  rcases idxI_cases (fun x => decide (t ≤ x.key.time)) Z with ⟨hi, hall⟩ | ⟨k, hi, hk, x, hx, hf, hpre⟩
  · refine ⟨Z.length, Nat.le_refl _, .inr ⟨hi, rfl⟩, bef_cut ha (fun y hy => ?_) (fun y hy => ?_)⟩
    · have := hall y (List.mem_of_mem_take hy)
      simpa using this
    · rw [List.getElem?_eq_none (Nat.le_refl _)] at hy
      cases hy
  · refine ⟨k, Nat.le_of_lt hk, .inl hi, bef_cut ha (fun y hy => ?_) (fun y hy => ?_)⟩
    · have := hpre y hy
      simpa using this
    · rw [hx] at hy
      cases hy
      simpa using hf
set_option maxRecDepth 100000 in
theorem since_any (x : Ev) (t : Int) (tb : Nat) (w : World) (h : Box w tb (.int .i64 t)) : Calls Try.prog 26 #[evV x, .pointer (some ⟨tb, 0, none⟩)] w fun e w' => e = .returned (.bool (decide (t ≤ x.key.time))) ∧ Fr0 none' w w' := by
  obtain ⟨b, hb⟩ : ∃ b, decide (t ≤ x.key.time) = b := ⟨_, rfl⟩
  have hb2 : decide (x.key.time ≥ t) = b := hb
  rw [hb]
  have hc := (h.alloc (.cells #[.int .i64 x.key.time, .int .i64 x.key.source, .int .i64 x.key.seq, .int .i64 x.to, .int .i64 x.value] 34)).cell
  have hc0 := h.cell
  unfold evV
  go_enter Try.func26, Try.ntmps26
  go_wp2_with fail
  go_ret
  exact ⟨rfl, (Fr0.refl none' w).alloc _⟩
/-- Where a slice's rest starts. -/
def dB (cap n : Nat) (a : Option Addr) : Option Addr := if cap = n then a else a.map (fun x => x.add (n * 5))
theorem EsIn.restB {W : World} {a : Option Addr} {S : List Ev} (h : EsIn W a S) {cap : Nat} (hc : S.length ≤ cap) (n : Nat) : EsIn W (dB cap n a) (S.drop n) := by
  unfold dB
  split
  · next e =>
    rw [List.drop_of_length_le (by omega)]
    exact esIn_nil W a
  · cases a with
    | none =>
      intro i x hx
      rw [List.getElem?_drop] at hx
      obtain ⟨g, o, e, _⟩ := h _ x hx
      cases e
    | some A =>
      intro i x hx
      have hx' := hx
      rw [List.getElem?_drop] at hx'
      obtain ⟨g, o, e, _⟩ := h _ x hx'
      injection e with e
      subst e
      have h1 := h.drop n i x hx
      rw [Option.map_some, Addr.add_mid]
      exact h1
set_option maxRecDepth 100000 in
set_option maxHeartbeats 4000000 in
theorem EvqCuts_any {w : World} {u : Value} {xs : List Sme} {t m : Int} (hu : SmesAt w u xs) (ht : 0 ≤ t ∧ t < 256) (hm : 0 ≤ m ∧ m < 256) :
    Calls Try.prog 5 #[u, .int .u8 t, .int .u8 m] w fun e w' => e = .returned (.bool true) ∧ Fr0 none' w w' := by
  have HU := Lib.hid (fun (W : World) (hf : Fr0 none' w W) => events_any xs 60 (by omega) W (hu.later hf))
  obtain ⟨S, hS⟩ : ∃ S, evsE xs 60 = S := ⟨_, rfl⟩
  have R0 := Lib.hid (evsE_right (xs := xs) (most := 60))
  have O0 := Lib.hid (evsE_once xs 60)
  have L0 := Lib.hid (evsE_le xs 60)
  rw [hS] at HU R0 O0 L0
  obtain ⟨tt, htt⟩ : ∃ tt, t % 21 = tt := ⟨_, rfl⟩
  have htb : 0 ≤ tt ∧ tt ≤ 20 := by omega
  have wt : IntKind.i64.wrap (t % 21) = tt := by rw [IntWalk.i64_in _ (by omega)]; exact htt
  obtain ⟨mm, rfl⟩ : ∃ mm : Nat, m = mm := ⟨m.toNat, by omega⟩
  clear hu hS
  go_enter Try.func5, Try.ntmps5
  go_wp2_with fail
  refine (awake_any w).mono ?_
  rintro e w1 ⟨rfl, f1⟩
  have F1 := Lib.hid f1
  clear f1
  go_wp2_with fail
  refine (HU.out w1 F1.out).mono ?_
  rintro e w2 ⟨r, rfl, hr, f2⟩
  obtain ⟨va, vc, rfl, _, hva⟩ := EsIn.of_own hr
  have F2 := Lib.hid (F1.out.trans f2)
  have Hva := Lib.hid hva
  clear f2 hr hva HU
  obtain ⟨L, hL⟩ : ∃ n, S.length = n := ⟨_, rfl⟩
  rw [hL] at L0 ⊢
  have N0 := Lib.hid hL
  clear hL
  have hL60 : L ≤ 60 := L0.out
  go_wp2_with fail
  refine (filled_any (c := 60) (cap := vc) S Hva.out N0.out hL60 (by omega) R0.out O0.out).mono ?_
  rintro e w3 ⟨qb, ft, r, rfl, hq, hr, hge, hno, hf⟩
  obtain ⟨Z, hZ⟩ : ∃ Z, putsE S [] = Z := ⟨_, rfl⟩
  rw [hZ] at hq hr
  have HQ := Lib.hid (show St w w3 qb 60 L Z ft from ⟨hq, F2.out.trans hf, fun k hk => Nat.le_trans F2.out.size (hge k hk)⟩)
  have HR := Lib.hid (show KeptR w3 w2.heap.size r Z ft from ⟨hr, hno⟩)
  clear hq hr hge hno hf hZ
  have HZ := Lib.hid (show Z.length ≤ 60 from HQ.out.1.le.1)
  obtain ⟨C, hCZ, hidx, hbf, haf⟩ := cutE_is (t := tt) HQ.out.1.good.1
  have hgeE := ge_aft (t := tt) htb.1 HQ.out.1.good.2.2
  rw [haf] at hgeE
  have Hbf := Lib.hid hbf
  have Haf := Lib.hid haf
  have Hge := Lib.hid hgeE
  have Hidx := Lib.hid hidx
  have HCz := Lib.hid hCZ
  clear hbf haf hgeE hidx
  obtain ⟨ra, rc, rfl, -⟩ := HR.out.slice
  go_wp2_with fail
  obtain ⟨tb, htb'⟩ : ∃ tb, w3.heap.size = tb := ⟨_, rfl⟩
  obtain ⟨W4, hW⟩ : ∃ W, w3.alloc (.cells #[.int .i64 tt] 3) = W := ⟨_, rfl⟩
  have hf : Fr0 none' w3 W4 := by rw [← hW]; exact (Fr0.refl _ _).alloc _
  have HB := Lib.hid (show Box W4 tb (.int .i64 tt) ∧ ¬ ft tb from ⟨by rw [← hW, ← htb']; exact Box.new _ _ _, fun hk => by have := HQ.out.1.lt tb hk; omega⟩)
  rw [hW]
  try rw [htb']
  have HQ := Lib.hid (HQ.out.later hf)
  have HR := Lib.hid (HR.out.later hf)
  clear hW htb' hf
  obtain ⟨_, _, hRe, hrz⟩ := HR.out.slice
  injection hRe with hE1 hE2 hE3
  subst hE1
  subst hE3
  refine (IndexE (n := Z.length) (cap := rc) Z hrz rfl (by have := HZ.out; omega) 26 #[.pointer (some ⟨tb, 0, none⟩)] (fun x => decide (tt ≤ x.key.time)) (by intro args w; rfl) (fun x W hf => since_any x tt tb W (HB.out.1.fr0 hf id))).mono ?_
  rintro e w5 ⟨rfl, hf⟩
  have hrc : Z.length ≤ rc := by
    rcases HR.out.1.2 with ⟨h1, h2⟩ | ⟨g, cap, cur, hv, _, _, hn, _⟩
    · injection h1; omega
    · injection hv with _ _ h; omega
  have HQ := Lib.hid (HQ.out.later hf)
  have HR := Lib.hid (HR.out.later hf)
  have HB := Lib.hid (show Box w5 tb (.int .i64 tt) ∧ ¬ ft tb from ⟨HB.out.1.fr0 hf id, HB.out.2⟩)
  clear hf hrz hE2
  rcases Hidx.out with hi | ⟨hi, hCe⟩
  · rw [hi]
    have d1 : decide ((C : Int) < 0) = false := decide_eq_false (by omega)
    clear hi
    have c1 : (0 : Int) ≤ (C : Int) := by omega
    have c2 : (C : Int) ≤ (Z.length : Int) := by have := HCz.out; omega
    have c3 : (C : Int) ≤ (rc : Int) := by have := HCz.out; omega
    have c4 : (Z.length : Int) ≤ (rc : Int) := by omega
    go_wp2_with fail
    try clear hZC
    refine wp_region_held_drew (S := fun W' => Fr0 none' w5 W') (by kernel_rfl) ((Fr0.refl none' w5).drew) (fun hHeld => ?_)
    refine take_on (i := 0) (v := .slice ra Z.length rc) rfl (by kernel_rfl) (by kernel_rfl) (by kernel_rfl) (fun _ _ _ h => h) (by kernel_rfl) (fun W' hSW => ?_) (by assumption) ?_
    · first | (go_simp; done) | exact rfl | (go_simp; rfl) | (go_simp; omega)
    try simp only [Act.put, List.setIfInBounds_toArray, List.set_cons_zero, List.set_cons_succ]
    refine take_on (i := 1) (v := .int .i64 C) rfl (by kernel_rfl) (by kernel_rfl) (by kernel_rfl) (fun _ _ _ h => h) (by kernel_rfl) (fun W' hSW => ?_) (by assumption) ?_
    · first | (go_simp; done) | exact rfl | (go_simp; rfl) | (go_simp; omega)
    try simp only [Act.put, List.setIfInBounds_toArray, List.set_cons_zero, List.set_cons_succ]
    refine take_on (i := 2) (v := .slice ra C rc) rfl (by kernel_rfl) (by kernel_rfl) (by kernel_rfl) (fun _ _ _ h => h) (by kernel_rfl) (fun W' hSW => ?_) (by assumption) ?_
    · first | (go_simp; done) | exact rfl | (go_simp; rfl) | (go_simp; omega)
    try simp only [Act.put, List.setIfInBounds_toArray, List.set_cons_zero, List.set_cons_succ]
    refine take_on (i := 3) (v := .slice ra Z.length rc) rfl (by kernel_rfl) (by kernel_rfl) (by kernel_rfl) (fun _ _ _ h => h) (by kernel_rfl) (fun W' hSW => ?_) (by assumption) ?_
    · first | (go_simp; done) | exact rfl | (go_simp; rfl) | (go_simp; omega)
    try simp only [Act.put, List.setIfInBounds_toArray, List.set_cons_zero, List.set_cons_succ]
    refine take_on (i := 4) (v := .int .i64 C) rfl (by kernel_rfl) (by kernel_rfl) (by kernel_rfl) (fun _ _ _ h => h) (by kernel_rfl) (fun W' hSW => ?_) (by assumption) ?_
    · first | (go_simp; done) | exact rfl | (go_simp; rfl) | (go_simp; omega)
    try simp only [Act.put, List.setIfInBounds_toArray, List.set_cons_zero, List.set_cons_succ]
    refine take_on (i := 5) (v := .slice (dB rc C ra) (Z.length - C) (rc - C)) rfl (by kernel_rfl) (by kernel_rfl) (by kernel_rfl) (fun _ _ _ h => h) (by kernel_rfl) (fun W' hSW => ?_) (by assumption) ?_
    · go_simp
      unfold dB
      first | done | rfl | simp
    try simp only [Act.put, List.setIfInBounds_toArray, List.set_cons_zero, List.set_cons_succ]
    refine take_on (i := 6) (v := .slice ra C rc) rfl (by kernel_rfl) (by kernel_rfl) (by kernel_rfl) (fun _ _ _ h => h) (by kernel_rfl) (fun W' hSW => ?_) (by assumption) ?_
    · first | (go_simp; done) | exact rfl | (go_simp; rfl) | (go_simp; omega)
    try simp only [Act.put, List.setIfInBounds_toArray, List.set_cons_zero, List.set_cons_succ]
    refine take_on (i := 7) (v := .slice (dB rc C ra) (Z.length - C) (rc - C)) rfl (by kernel_rfl) (by kernel_rfl) (by kernel_rfl) (fun _ _ _ h => h) (by kernel_rfl) (fun W' hSW => ?_) (by assumption) ?_
    · first | (go_simp; done) | exact rfl | (go_simp; rfl) | (go_simp; omega)
    try simp only [Act.put, List.setIfInBounds_toArray, List.set_cons_zero, List.set_cons_succ]
    refine wpAnyH_done (by kernel_rfl) ?_ _
    have HQ := Lib.hid (HQ.out.later hHeld)
    have HR := Lib.hid (HR.out.later hHeld)
    have HB := Lib.hid (show Box _ tb (.int .i64 tt) ∧ ¬ ft tb from ⟨HB.out.1.fr0 hHeld id, HB.out.2⟩)
    clear hHeld c1 c2 c3 c4 d1
    obtain ⟨W6, hW6⟩ : ∃ W, w5.drew = W := ⟨_, rfl⟩
    rw [hW6] at HQ HR HB ⊢
    clear hW6
    have hcb := HB.out.1.cell
    go_wp2_with fail
    have hen := Ends_any tt W6
    rw [show endsV tt = (⟨tt, 0, 0⟩, ⟨tt, 16, 4294967295⟩, 0) from if_pos ⟨htb.1, by omega⟩] at hen
    refine hen.mono ?_
    rintro e w7 ⟨rfl, hf⟩
    have HQ := Lib.hid (HQ.out.later hf)
    have HR := Lib.hid (HR.out.later hf)
    have HB := Lib.hid (And.intro (HB.out.1.fr0 hf id) HB.out.2)
    clear hf
    clear hen hcb
    simp only [keyV]
    go_wp2_with fail
    obtain ⟨W8, hW8⟩ : ∃ W, (w7.alloc (.cells #[.int .i64 tt, .int .i64 0, .int .i64 0] 32)).alloc (.cells #[.int .i64 tt, .int .i64 16, .int .i64 4294967295] 32) = W := ⟨_, rfl⟩
    have hf : Fr0 none' w7 W8 := by rw [← hW8]; exact ((Fr0.refl none' w7).alloc _).alloc _
    rw [hW8]
    have HQ := Lib.hid (HQ.out.later hf)
    have HR := Lib.hid (HR.out.later hf)
    have HB := Lib.hid (And.intro (HB.out.1.fr0 hf id) HB.out.2)
    clear hf
    clear hW8
    have hfrm := HQ.out.1.from_ ⟨tt, 0, 0⟩ mm (by omega)
    obtain ⟨nn, hnn⟩ : ∃ nn, min mm (Z.length - C) = nn := ⟨_, rfl⟩
    have htk : (Z.drop C).take mm = (Z.drop C).take nn := by
      rw [List.take_eq_take_min, List.length_drop, hnn]
    rw [Hge.out, htk] at hfrm
    have hmn : (min (mm : Int) ((Z.length - C : Nat) : Int)) = (nn : Int) := by omega
    have hln : ((Z.drop C).take nn).length = nn := by rw [List.length_take, List.length_drop]; omega
    rw [hln] at hfrm
    refine hfrm.mono ?_
    rintro e w9 ⟨v9, rfl, hr9, hf⟩
    have HQ := Lib.hid (HQ.out.later hf)
    have HR := Lib.hid (HR.out.later hf)
    have HB := Lib.hid (And.intro (HB.out.1.fr0 hf id) HB.out.2)
    clear hf
    obtain ⟨sa, sc, rfl, _, hsa⟩ := EsIn.of_own hr9
    obtain ⟨_, _, hRe, hrz⟩ := HR.out.slice
    injection hRe with hE1 hE2 hE3
    subst hE1
    have hlate := hrz.restB (cap := rc) (by omega) C
    have Hln := Lib.hid hln
    have HEq := Lib.hid (sameEs_any sa (dB rc C ra) nn nn sc (rc - C) ((Z.drop C).take nn) ((Z.drop C).take nn) w9 hln hln (by have := HZ.out; omega) (by have := HZ.out; omega) hsa (hlate.take nn))
    rw [decide_eq_true rfl] at HEq
    have g1 : (0 : Int) ≤ (nn : Int) := by omega
    have g2 : (nn : Int) ≤ ((rc - C : Nat) : Int) := by omega
    clear hfrm htk hr9 hsa hrz hE2 hE3 hlate hln hnn
    go_wp2_with fail
    refine HEq.out.mono ?_
    rintro e w10 ⟨rfl, hf⟩
    have HQ := Lib.hid (HQ.out.later hf)
    have HR := Lib.hid (HR.out.later hf)
    have HB := Lib.hid (And.intro (HB.out.1.fr0 hf id) HB.out.2)
    clear hf
    clear HEq g1 g2 hmn
    have hcb := HB.out.1.cell
    go_wp2_with fail
    have hlC : (Z.take C).length = C := by rw [List.length_take]; omega
    have HlC := Lib.hid hlC
    refine (HQ.out.1.takeBefore tt (by omega)).mono ?_
    rintro e w11 ⟨v11, ft', rfl, hr, hq, hs, hd, hf⟩
    rw [Hbf.out] at hr
    rw [Haf.out] at hq
    have HB := Lib.hid (show Box w11 tb (.int .i64 tt) ∧ ¬ ft' tb from ⟨HB.out.1.fr0 hf HB.out.2, fun hk => (hs tb hk).elim HB.out.2 (fun g => by have := HB.out.1.lt; omega)⟩)
    have HR := Lib.hid (HR.out.step2 hs hf)
    have HQ := Lib.hid (HQ.out.step2 hq hs hf)
    have HT := Lib.hid (show KeptR w11 w10.heap.size v11 (Z.take C) ft' from ⟨hr, hd⟩)
    clear hr hq hs hd hf hlC hcb
    obtain ⟨ya, yc, hye, hyi⟩ := HT.out.slice
    subst hye
    rw [HlC.out]
    obtain ⟨_, _, hRe, hrz⟩ := HR.out.slice
    injection hRe with hE1 hE2 hE3
    subst hE1
    have HEq := Lib.hid (sameEs_any ya ra C C yc rc (Z.take C) (Z.take C) w11 HlC.out HlC.out (by have := HZ.out; omega) (by have := HZ.out; omega) hyi (hrz.take C))
    rw [decide_eq_true rfl] at HEq
    clear hyi hrz hE2 hE3
    go_wp2_with fail
    refine HEq.out.mono ?_
    rintro e w12 ⟨rfl, hf⟩
    have HQ := Lib.hid (HQ.out.later hf)
    have HR := Lib.hid (HR.out.later hf)
    have HB := Lib.hid (And.intro (HB.out.1.fr0 hf id) HB.out.2)
    clear hf
    clear HEq HT
    go_wp2_with fail
    refine HQ.out.1.all.mono ?_
    rintro e w13 ⟨v13, rfl, hr13, hf⟩
    have HQ := Lib.hid (HQ.out.later hf)
    have HR := Lib.hid (HR.out.later hf)
    have HB := Lib.hid (And.intro (HB.out.1.fr0 hf id) HB.out.2)
    clear hf
    have hld : (Z.drop C).length = Z.length - C := List.length_drop
    have Hld := Lib.hid hld
    rw [hld] at hr13
    obtain ⟨za, zc, rfl, _, hza⟩ := EsIn.of_own hr13
    obtain ⟨_, _, hRe, hrz⟩ := HR.out.slice
    injection hRe with hE1 hE2 hE3
    subst hE1
    have HEq := Lib.hid (sameEs_any za (dB rc C ra) (Z.length - C) (Z.length - C) zc (rc - C) (Z.drop C) (Z.drop C) w13 hld hld (by have := HZ.out; omega) (by have := HZ.out; omega) hza (hrz.restB (cap := rc) (by omega) C))
    rw [decide_eq_true rfl] at HEq
    clear hr13 hza hrz hE2 hE3 hld
    go_wp2_with fail
    refine HEq.out.mono ?_
    rintro e w14 ⟨rfl, hf⟩
    have HQ := Lib.hid (HQ.out.later hf)
    have HR := Lib.hid (HR.out.later hf)
    have HB := Lib.hid (And.intro (HB.out.1.fr0 hf id) HB.out.2)
    clear hf
    clear HEq
    have hcb := HB.out.1.cell
    go_wp2_with fail
    refine (HQ.out.1.takeBefore tt (by omega)).mono ?_
    rintro e w15 ⟨v15, ft2, rfl, hr, hq, hs, hd, hf⟩
    have hb0 : befE tt (Z.drop C) = [] := by
      rw [← Haf.out]
      unfold befE aftE
      rw [List.filter_eq_nil_iff]
      intro y hy
      have := (List.mem_filter.1 hy).2
      simpa using this
    have ha0 : aftE tt (Z.drop C) = Z.drop C := by
      rw [← Haf.out]
      unfold aftE
      rw [List.filter_filter]
      simp
    rw [hb0] at hr
    rw [ha0] at hq
    have HQ := Lib.hid (HQ.out.step2 hq hs hf)
    obtain ⟨xa, xc, rfl, _, _⟩ := EsIn.of_own (L := []) hr
    clear hr hq hs hd hf hcb hb0 ha0
    have hrm := HQ.out.1.room
    rw [Hld.out] at hrm
    have HRm := Lib.hid hrm
    have wr' : IntKind.i64.wrap (60 - ((Z.length - C : Nat) : Int)) = ((60 - (Z.length - C) : Nat) : Int) := by have := HZ.out; rw [IntWalk.i64_in _ (by omega)]; omega
    clear hrm
    simp only [List.length_nil]
    go_wp2_with fail
    refine HRm.out.mono ?_
    rintro e w16 ⟨rfl, hf⟩
    have HF := Lib.hid (HQ.out.2.1.trans hf)
    clear HRm hf
    go_wp2_with fail
    go_ret
    exact ⟨rfl, HF.out⟩
  · rw [hi]
    have d1 : decide ((-1 : Int) < 0) = true := by decide
    have hZC : (Z.length : Int) = (C : Int) := by omega
    clear hCe hi
    have c1 : (0 : Int) ≤ (C : Int) := by omega
    have c2 : (C : Int) ≤ (Z.length : Int) := by have := HCz.out; omega
    have c3 : (C : Int) ≤ (rc : Int) := by have := HCz.out; omega
    have c4 : (Z.length : Int) ≤ (rc : Int) := by omega
    go_wp2_with fail
    try clear hZC
    refine wp_region_held_drew (S := fun W' => Fr0 none' w5 W') (by kernel_rfl) ((Fr0.refl none' w5).drew) (fun hHeld => ?_)
    refine take_on (i := 0) (v := .slice ra Z.length rc) rfl (by kernel_rfl) (by kernel_rfl) (by kernel_rfl) (fun _ _ _ h => h) (by kernel_rfl) (fun W' hSW => ?_) (by assumption) ?_
    · first | (go_simp; done) | exact rfl | (go_simp; rfl) | (go_simp; omega)
    try simp only [Act.put, List.setIfInBounds_toArray, List.set_cons_zero, List.set_cons_succ]
    refine take_on (i := 1) (v := .int .i64 C) rfl (by kernel_rfl) (by kernel_rfl) (by kernel_rfl) (fun _ _ _ h => h) (by kernel_rfl) (fun W' hSW => ?_) (by assumption) ?_
    · first | (go_simp; done) | exact rfl | (go_simp; rfl) | (go_simp; omega)
    try simp only [Act.put, List.setIfInBounds_toArray, List.set_cons_zero, List.set_cons_succ]
    refine take_on (i := 2) (v := .slice ra C rc) rfl (by kernel_rfl) (by kernel_rfl) (by kernel_rfl) (fun _ _ _ h => h) (by kernel_rfl) (fun W' hSW => ?_) (by assumption) ?_
    · first | (go_simp; done) | exact rfl | (go_simp; rfl) | (go_simp; omega)
    try simp only [Act.put, List.setIfInBounds_toArray, List.set_cons_zero, List.set_cons_succ]
    refine take_on (i := 3) (v := .slice ra Z.length rc) rfl (by kernel_rfl) (by kernel_rfl) (by kernel_rfl) (fun _ _ _ h => h) (by kernel_rfl) (fun W' hSW => ?_) (by assumption) ?_
    · first | (go_simp; done) | exact rfl | (go_simp; rfl) | (go_simp; omega)
    try simp only [Act.put, List.setIfInBounds_toArray, List.set_cons_zero, List.set_cons_succ]
    refine take_on (i := 4) (v := .int .i64 C) rfl (by kernel_rfl) (by kernel_rfl) (by kernel_rfl) (fun _ _ _ h => h) (by kernel_rfl) (fun W' hSW => ?_) (by assumption) ?_
    · first | (go_simp; done) | exact rfl | (go_simp; rfl) | (go_simp; omega)
    try simp only [Act.put, List.setIfInBounds_toArray, List.set_cons_zero, List.set_cons_succ]
    refine take_on (i := 5) (v := .slice (dB rc C ra) (Z.length - C) (rc - C)) rfl (by kernel_rfl) (by kernel_rfl) (by kernel_rfl) (fun _ _ _ h => h) (by kernel_rfl) (fun W' hSW => ?_) (by assumption) ?_
    · go_simp
      unfold dB
      first | done | rfl | simp
    try simp only [Act.put, List.setIfInBounds_toArray, List.set_cons_zero, List.set_cons_succ]
    refine take_on (i := 6) (v := .slice ra C rc) rfl (by kernel_rfl) (by kernel_rfl) (by kernel_rfl) (fun _ _ _ h => h) (by kernel_rfl) (fun W' hSW => ?_) (by assumption) ?_
    · first | (go_simp; done) | exact rfl | (go_simp; rfl) | (go_simp; omega)
    try simp only [Act.put, List.setIfInBounds_toArray, List.set_cons_zero, List.set_cons_succ]
    refine take_on (i := 7) (v := .slice (dB rc C ra) (Z.length - C) (rc - C)) rfl (by kernel_rfl) (by kernel_rfl) (by kernel_rfl) (fun _ _ _ h => h) (by kernel_rfl) (fun W' hSW => ?_) (by assumption) ?_
    · first | (go_simp; done) | exact rfl | (go_simp; rfl) | (go_simp; omega)
    try simp only [Act.put, List.setIfInBounds_toArray, List.set_cons_zero, List.set_cons_succ]
    refine wpAnyH_done (by kernel_rfl) ?_ _
    have HQ := Lib.hid (HQ.out.later hHeld)
    have HR := Lib.hid (HR.out.later hHeld)
    have HB := Lib.hid (show Box _ tb (.int .i64 tt) ∧ ¬ ft tb from ⟨HB.out.1.fr0 hHeld id, HB.out.2⟩)
    clear hHeld c1 c2 c3 c4 d1
    obtain ⟨W6, hW6⟩ : ∃ W, w5.drew = W := ⟨_, rfl⟩
    rw [hW6] at HQ HR HB ⊢
    clear hW6
    have hcb := HB.out.1.cell
    go_wp2_with fail
    have hen := Ends_any tt W6
    rw [show endsV tt = (⟨tt, 0, 0⟩, ⟨tt, 16, 4294967295⟩, 0) from if_pos ⟨htb.1, by omega⟩] at hen
    refine hen.mono ?_
    rintro e w7 ⟨rfl, hf⟩
    have HQ := Lib.hid (HQ.out.later hf)
    have HR := Lib.hid (HR.out.later hf)
    have HB := Lib.hid (And.intro (HB.out.1.fr0 hf id) HB.out.2)
    clear hf
    clear hen hcb
    simp only [keyV]
    go_wp2_with fail
    obtain ⟨W8, hW8⟩ : ∃ W, (w7.alloc (.cells #[.int .i64 tt, .int .i64 0, .int .i64 0] 32)).alloc (.cells #[.int .i64 tt, .int .i64 16, .int .i64 4294967295] 32) = W := ⟨_, rfl⟩
    have hf : Fr0 none' w7 W8 := by rw [← hW8]; exact ((Fr0.refl none' w7).alloc _).alloc _
    rw [hW8]
    have HQ := Lib.hid (HQ.out.later hf)
    have HR := Lib.hid (HR.out.later hf)
    have HB := Lib.hid (And.intro (HB.out.1.fr0 hf id) HB.out.2)
    clear hf
    clear hW8
    have hfrm := HQ.out.1.from_ ⟨tt, 0, 0⟩ mm (by omega)
    obtain ⟨nn, hnn⟩ : ∃ nn, min mm (Z.length - C) = nn := ⟨_, rfl⟩
    have htk : (Z.drop C).take mm = (Z.drop C).take nn := by
      rw [List.take_eq_take_min, List.length_drop, hnn]
    rw [Hge.out, htk] at hfrm
    have hmn : (min (mm : Int) ((Z.length - C : Nat) : Int)) = (nn : Int) := by omega
    have hln : ((Z.drop C).take nn).length = nn := by rw [List.length_take, List.length_drop]; omega
    rw [hln] at hfrm
    refine hfrm.mono ?_
    rintro e w9 ⟨v9, rfl, hr9, hf⟩
    have HQ := Lib.hid (HQ.out.later hf)
    have HR := Lib.hid (HR.out.later hf)
    have HB := Lib.hid (And.intro (HB.out.1.fr0 hf id) HB.out.2)
    clear hf
    obtain ⟨sa, sc, rfl, _, hsa⟩ := EsIn.of_own hr9
    obtain ⟨_, _, hRe, hrz⟩ := HR.out.slice
    injection hRe with hE1 hE2 hE3
    subst hE1
    have hlate := hrz.restB (cap := rc) (by omega) C
    have Hln := Lib.hid hln
    have HEq := Lib.hid (sameEs_any sa (dB rc C ra) nn nn sc (rc - C) ((Z.drop C).take nn) ((Z.drop C).take nn) w9 hln hln (by have := HZ.out; omega) (by have := HZ.out; omega) hsa (hlate.take nn))
    rw [decide_eq_true rfl] at HEq
    have g1 : (0 : Int) ≤ (nn : Int) := by omega
    have g2 : (nn : Int) ≤ ((rc - C : Nat) : Int) := by omega
    clear hfrm htk hr9 hsa hrz hE2 hE3 hlate hln hnn
    go_wp2_with fail
    refine HEq.out.mono ?_
    rintro e w10 ⟨rfl, hf⟩
    have HQ := Lib.hid (HQ.out.later hf)
    have HR := Lib.hid (HR.out.later hf)
    have HB := Lib.hid (And.intro (HB.out.1.fr0 hf id) HB.out.2)
    clear hf
    clear HEq g1 g2 hmn
    have hcb := HB.out.1.cell
    go_wp2_with fail
    have hlC : (Z.take C).length = C := by rw [List.length_take]; omega
    have HlC := Lib.hid hlC
    refine (HQ.out.1.takeBefore tt (by omega)).mono ?_
    rintro e w11 ⟨v11, ft', rfl, hr, hq, hs, hd, hf⟩
    rw [Hbf.out] at hr
    rw [Haf.out] at hq
    have HB := Lib.hid (show Box w11 tb (.int .i64 tt) ∧ ¬ ft' tb from ⟨HB.out.1.fr0 hf HB.out.2, fun hk => (hs tb hk).elim HB.out.2 (fun g => by have := HB.out.1.lt; omega)⟩)
    have HR := Lib.hid (HR.out.step2 hs hf)
    have HQ := Lib.hid (HQ.out.step2 hq hs hf)
    have HT := Lib.hid (show KeptR w11 w10.heap.size v11 (Z.take C) ft' from ⟨hr, hd⟩)
    clear hr hq hs hd hf hlC hcb
    obtain ⟨ya, yc, hye, hyi⟩ := HT.out.slice
    subst hye
    rw [HlC.out]
    obtain ⟨_, _, hRe, hrz⟩ := HR.out.slice
    injection hRe with hE1 hE2 hE3
    subst hE1
    have HEq := Lib.hid (sameEs_any ya ra C C yc rc (Z.take C) (Z.take C) w11 HlC.out HlC.out (by have := HZ.out; omega) (by have := HZ.out; omega) hyi (hrz.take C))
    rw [decide_eq_true rfl] at HEq
    clear hyi hrz hE2 hE3
    go_wp2_with fail
    refine HEq.out.mono ?_
    rintro e w12 ⟨rfl, hf⟩
    have HQ := Lib.hid (HQ.out.later hf)
    have HR := Lib.hid (HR.out.later hf)
    have HB := Lib.hid (And.intro (HB.out.1.fr0 hf id) HB.out.2)
    clear hf
    clear HEq HT
    go_wp2_with fail
    refine HQ.out.1.all.mono ?_
    rintro e w13 ⟨v13, rfl, hr13, hf⟩
    have HQ := Lib.hid (HQ.out.later hf)
    have HR := Lib.hid (HR.out.later hf)
    have HB := Lib.hid (And.intro (HB.out.1.fr0 hf id) HB.out.2)
    clear hf
    have hld : (Z.drop C).length = Z.length - C := List.length_drop
    have Hld := Lib.hid hld
    rw [hld] at hr13
    obtain ⟨za, zc, rfl, _, hza⟩ := EsIn.of_own hr13
    obtain ⟨_, _, hRe, hrz⟩ := HR.out.slice
    injection hRe with hE1 hE2 hE3
    subst hE1
    have HEq := Lib.hid (sameEs_any za (dB rc C ra) (Z.length - C) (Z.length - C) zc (rc - C) (Z.drop C) (Z.drop C) w13 hld hld (by have := HZ.out; omega) (by have := HZ.out; omega) hza (hrz.restB (cap := rc) (by omega) C))
    rw [decide_eq_true rfl] at HEq
    clear hr13 hza hrz hE2 hE3 hld
    go_wp2_with fail
    refine HEq.out.mono ?_
    rintro e w14 ⟨rfl, hf⟩
    have HQ := Lib.hid (HQ.out.later hf)
    have HR := Lib.hid (HR.out.later hf)
    have HB := Lib.hid (And.intro (HB.out.1.fr0 hf id) HB.out.2)
    clear hf
    clear HEq
    have hcb := HB.out.1.cell
    go_wp2_with fail
    refine (HQ.out.1.takeBefore tt (by omega)).mono ?_
    rintro e w15 ⟨v15, ft2, rfl, hr, hq, hs, hd, hf⟩
    have hb0 : befE tt (Z.drop C) = [] := by
      rw [← Haf.out]
      unfold befE aftE
      rw [List.filter_eq_nil_iff]
      intro y hy
      have := (List.mem_filter.1 hy).2
      simpa using this
    have ha0 : aftE tt (Z.drop C) = Z.drop C := by
      rw [← Haf.out]
      unfold aftE
      rw [List.filter_filter]
      simp
    rw [hb0] at hr
    rw [ha0] at hq
    have HQ := Lib.hid (HQ.out.step2 hq hs hf)
    obtain ⟨xa, xc, rfl, _, _⟩ := EsIn.of_own (L := []) hr
    clear hr hq hs hd hf hcb hb0 ha0
    have hrm := HQ.out.1.room
    rw [Hld.out] at hrm
    have HRm := Lib.hid hrm
    have wr' : IntKind.i64.wrap (60 - ((Z.length - C : Nat) : Int)) = ((60 - (Z.length - C) : Nat) : Int) := by have := HZ.out; rw [IntWalk.i64_in _ (by omega)]; omega
    clear hrm
    simp only [List.length_nil]
    go_wp2_with fail
    refine HRm.out.mono ?_
    rintro e w16 ⟨rfl, hf⟩
    have HF := Lib.hid (HQ.out.2.1.trans hf)
    clear HRm hf
    go_wp2_with fail
    go_ret
    exact ⟨rfl, HF.out⟩
end Go.Proofs.Ytmcgipilopfgoaa

namespace Go.Proofs.Ytmcgipilopfgoaa.evqCuts
open Go.ChangeShapes Go.WideShapes Go.ChangeAt Go.RowKit Go.Proofs.Ytmcgipilopfgoaa

set_option maxRecDepth 100000 in
theorem lifted (os : Os) (started : os.Started) (H : Type) (enc : TypeId × Value → H) :
    ReturnsInHanded {} Try.checked os 5 .any (Rows.evqCutsSpec.pre6 enc Try.prog Try.f5 Rows.evqCutsRow.domain false) (Rows.evqCutsSpec.post enc Try.prog Try.f5 false true false false) := by
  refine returnsInHanded_of_change (C := Try.checked) own_knob started (by kernel_rfl) Try.func5
    (ChangeSpec.witness6 (enc := enc) (C := Try.checked) false ⟨#[], #[.slice none 0 0, .int .u8 0, .int .u8 0], []⟩ 8 (by kernel_rfl) (by kernel_rfl) (by kernel_rfl) (by kernel_rfl)) ?_
  intro W base args ds gs before hval0 hW hcnd _
  have hval : ∀ (j : Nat) t v, Try.f5.params[j]? = some t → args[j]? = some v → Value.okWide Try.prog W .any base t v := hval0
  have hW' := hW
  obtain ⟨p, q, hA0, hV, rfl, hfz, hnd⟩ := hW
  have hA : DataW.TrodAll enc Try.prog W 0 (fun _ => true) true Try.f5.params.toList args.toList ds p := hA0
  rw [Try.params5] at hA hval
  obtain ⟨v0, vs0, d0, ds0, p0, q0, hargs, rfl, rfl, h0, r0⟩ := trodAll_cons hA
  obtain ⟨v1, vs1, d1, ds1, p1, q1, rfl, rfl, rfl, h1, r1⟩ := trodAll_cons r0
  obtain ⟨v2, vs2, d2, ds2, p2, q2, rfl, rfl, rfl, h2, r2⟩ := trodAll_cons r1
  obtain ⟨rfl, rfl, rfl⟩ := trodAll_nil r2
  obtain rfl : args = #[v0, v1, v2] := by cases args; simp_all
  obtain ⟨rfl, rfl⟩ := trodVars_none hV
  clear hA0 hval0
  simp only [List.append_nil] at hW'
  have l0 : ∀ x ∈ p0, x.block < W.heap.size := fun x hx => hW'.lt x (by simp [hx])
  have t0 := fun W' (hb : Below W.heap.size W W') => Below.trod laid_own (by kernel_rfl) (of_decide_eq_true (by kernel_rfl)) h0 hb l0
  have l1 : ∀ x ∈ p1, x.block < W.heap.size := fun x hx => hW'.lt x (by simp [hx])
  have t1 := fun W' (hb : Below W.heap.size W W') => Below.trod laid_own (by kernel_rfl) (of_decide_eq_true (by kernel_rfl)) h1 hb l1
  have l2 : ∀ x ∈ p2, x.block < W.heap.size := fun x hx => hW'.lt x (by simp [hx])
  have t2 := fun W' (hb : Below W.heap.size W W') => Below.trod laid_own (by kernel_rfl) (of_decide_eq_true (by kernel_rfl)) h2 hb l2
  obtain ⟨xs0, hx0⟩ := smalls_arg (hval 0 22 v0 rfl rfl) h0
  obtain ⟨a1, rfl, _, _, w1⟩ := open_int Try.underlying5 (hval 1 5 v1 rfl rfl) h1
  have b1 : 0 ≤ a1 ∧ a1 < 256 := by
    have := bounds_u8 w1
    omega
  obtain ⟨a2, rfl, _, _, w2⟩ := open_int Try.underlying5 (hval 2 5 v2 rfl rfl) h2
  have b2 : 0 ≤ a2 ∧ a2 < 256 := by
    have := bounds_u8 w2
    omega
  refine (EvqCuts_any hx0 b1 b2).mono fun e W' ⟨he, hf⟩ => ?_
  have hg : Below W.heap.size W W' := hf.below (Nat.le_refl _) (fun _ _ h => h)
  subst he
  exact ⟨_, rfl, post_below2 (pa := p0 ++ (p1 ++ (p2 ++ ([])))) (pv := []) hW' (fun _ _ _ => (trodAll_cons_mk (shut_bool Try.underlying4 _) trodAll_mk0)) (trodAll_cons_mk (t0 _ hg) (trodAll_cons_mk (t1 _ hg) (trodAll_cons_mk (t2 _ hg) trodAll_mk0))) (fun _ _ => rfl) hg⟩

theorem over : Rows.evqCutsRow.holds Try.pinned (OpenSpec.ofChange Rows.evqCutsSpec) :=
  OpenClaim.holds_of_wide 5 Try.f5 rfl rfl rfl rfl rfl rfl rfl ⟨rfl, rfl, rfl, rfl, rfl⟩ rfl rfl rfl rfl rfl (by kernel_rfl) Try.func5 (by kernel_rfl)
    (of_decide_eq_true (by kernel_rfl)) (by unfold Func.isWrapper; first | (rw [if_pos (by decide +kernel)]; kernel_rfl) | (rw [if_neg (by decide +kernel)]; exact ⟨rfl, rfl⟩))
    (fun os started H enc _ => lifted os started H enc)

theorem proved : Rows.EvqCutsSaid := over
#print axioms proved
end Go.Proofs.Ytmcgipilopfgoaa.evqCuts
