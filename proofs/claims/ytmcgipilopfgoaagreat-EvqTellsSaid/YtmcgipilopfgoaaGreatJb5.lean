/-
  The queue of events: what each function of the package does, and what the laws make of it.
-/
import Derived.Test.YtmcgipilopfgoaaGreatJb4
import Derived.Test.YtmcgipilopfgoaaGreatJb2
import Derived.Test.YtmcgipilopfgoaaGreatJb3
import Derived.Test.YtmcgipilopfgoaaGreatJb1
set_option linter.unusedSimpArgs false
set_option linter.unusedVariables false

/-
  The queue: Ready.
-/
namespace Go.Proofs.YtmcgipilopfgoaaGreat
open Go Go.RowKit Go.ChangeMaps
attribute [local go_sem ↓] Go.wp_at_zero Go.wp_at_succ
attribute [local go_sem] Oper.semAt_some wide_fn wide_depth wide_fnR wide_depthR
variable {w w' : World} {qb n T : Nat} {E : List Ev} {ft : Nat → Prop}

theorem to_snoc {t : Int} {E : List Ev} {i : Nat} {x : Ev} (hx : E[i]? = some x) : toE t (E.take (i + 1)) = toE t (E.take i) ++ if x.key.time < t then [x.to] else [] := by
  unfold toE befE
  rw [List.take_add_one, hx, List.filter_append, List.map_append]
  congr 1
  by_cases h : x.key.time < t
  · simp [h]
  · simp [h]
set_option maxRecDepth 100000 in
set_option maxHeartbeats 2000000 in
theorem QReady_in (h : QIs w qb n T E ft) (t : Int) : CallsIn Fence.wide 0 Tryz.prog 13 #[.pointer (some ⟨qb, 0, none⟩), .int .i64 t] w fun e w' => ∃ v, e = .returned v ∧ w'.ownsRow w.heap.size 3 1 v (rdyE t E 17).length ((rdyE t E 17).map natV') ∧ Fr0 none' w w' := by
  obtain ⟨i0, hi, hz0, hz1, hz2⟩ := info_parts info_int
  have H := Lib.hid h
  have HG := Lib.hid h.good
  have HE := Lib.hid h.le
  have hrl := ready_len (t := t) h.good.2.2
  have hre := ready_eq (t := t) h.good.2.2
  obtain ⟨R, hR⟩ : ∃ R, rdyE t E 17 = R := ⟨_, rfl⟩
  rw [hR] at hrl hre ⊢
  have Hrl := Lib.hid hrl
  have Hre := Lib.hid hre
  clear h hrl hre hR
  refine callsIn_of_wp_marks Tryz.func13 rfl trivial ?_ rfl
  simp only [Tryz.ntmps13, List.size_toArray, List.length_cons, List.length_nil, Nat.reduceAdd, Nat.reduceSub, Array.replicate_succ, Array.replicate_zero, List.push_toArray, List.append_toArray, List.nil_append, List.cons_append]
  gi_wp2_with fail
  obtain ⟨N0, hN0⟩ : ∃ N0, w.heap.size = N0 := ⟨_, rfl⟩
  obtain ⟨W3, hW3⟩ : ∃ W, (w.alloc (.cells #[.int .i64 t] 3)).alloc (.cells #[.slice none 0 0] 33) = W := ⟨_, rfl⟩
  have hs1 : (w.alloc (.cells #[.int .i64 t] 3)).heap.size = N0 + 1 := by rw [World.size_alloc, hN0]
  have Hs3 := Lib.hid (show W3.heap.size = N0 + 2 by rw [← hW3, World.size_alloc, hs1])
  have F3 := Lib.hid (show Fr0 none' w W3 by rw [← hW3]; exact ((Fr0.refl _ _).alloc _).alloc _)
  have HM3 := Lib.hid (show Box W3 N0 (.int .i64 t) by
    rw [← hW3]
    have h1 := Box.new w (.int .i64 t) 3
    rw [hN0] at h1
    exact h1.alloc _)
  have HO3 := Lib.hid (show Box W3 (N0 + 1) (.slice none 0 0) by
    rw [← hW3, ← hs1]
    exact Box.new _ _ _)
  rw [hW3]
  try rw [hN0]
  have HN0 := Lib.hid hN0
  clear hW3 hN0 hs1
  refine (callsIn_wide.2 (ordered_any qb W3)).mono ?_
  rintro e w4 ⟨rfl, hw4⟩
  rw [Hs3.out]
  obtain ⟨W4, hW4⟩ : ∃ W, W3.alloc (.cells #[.pointer (some ⟨qb, 0, none⟩)] 35) = W := ⟨_, rfl⟩
  rw [hW4] at hw4
  subst hw4
  have F34 := Lib.hid (show Fr0 none' W3 w4 by rw [← hW4]; exact (Fr0.refl _ _).alloc _)
  have Bq4 := Lib.hid (show Box w4 (N0 + 2) (.pointer (some ⟨qb, 0, none⟩)) by rw [← hW4, ← Hs3.out]; exact Box.new _ _ _)
  have Hs4 := Lib.hid (show w4.heap.size = N0 + 3 by rw [← hW4, World.size_alloc, Hs3.out])
  have F4 := Lib.hid (show Fr0 none' w w4 from F3.out.trans F34.out)
  have H4 := Lib.hid (H.out.later F4.out)
  have HM4 := Lib.hid (HM3.out.fr0 F34.out id)
  have HO4 := Lib.hid (HO3.out.fr0 F34.out id)
  clear hW4
  obtain ⟨rd, it, hrd⟩ := H4.out.ordered (N0 + 2) Bq4.out
  have Hrd := Lib.hid hrd
  clear hrd
  have hlf := H.out.lt
  gi_wp2_with fail
  refine wpIn_iterS0 (σ := Option Nat) (gf := 69) (lb := #[.pointer (some ⟨N0 + 2, 0, none⟩)]) rfl (by intro args w; rfl) it (Keep.refl _ _) (fun _ => rfl) (fun k hk => hk.elim) (fun k hk => by
      rw [Hs4.out]
      rcases Hrd.out k hk with rfl | h
      · omega
      · have := hlf k h
        have := HN0.out
        omega)
    (fun i s W => ∃ v, v.ownBlock = s ∧ Box W (N0 + 1) v ∧ W.ownsRow (N0 + 5) 3 1 v (toE t (E.take i)).length ((toE t (E.take i)).map (Value.int .i64)) ∧ (toE t (E.take i)).length ≤ i ∧ Box W N0 (.int .i64 t) ∧ Fr0 none' w W)
    (fun s j => j = N0 + 1 ∨ s = some j)
    (fun _ _ => False) ?hInv ?hlt (fun _ _ _ h _ => h.elim) none ?h0 ?hf0
    (fun (x : Ev) W a' => ∃ B, a' = { tmps := #[.pointer (some ⟨qb, 0, none⟩), .int .i64 t, undef, .pointer (some ⟨N0, 0, none⟩), .slice none 0 0, .pointer (some ⟨N0 + 1, 0, none⟩), .pointer (some ⟨B, 0, none⟩), .pointer (some ⟨qb, 0, none⟩), .func (.func 69) #[] #[.pointer (some ⟨N0 + 2, 0, none⟩)], .agg #[.int .i64 x.key.time, .int .i64 x.key.source, .int .i64 x.key.seq, .int .i64 x.to, .int .i64 x.value], undef, undef, undef, undef, undef, undef, undef, undef, undef, undef, undef, undef, undef, undef], defers := [] } ∧ N0 + 4 < B ∧ W.heap[B]? = some (.cells (cev x).toArray 28 (0, 0)))
    ?assign ?keep ?body ?done (fun _ _ _ _ h _ => h.elim)
  case hInv =>
    rintro i s W1 W2 ⟨v, rfl, h2, h3, h4, h6, h7⟩ hf
    rw [Hs4.out] at hf
    refine ⟨v, rfl, h2.fr0 hf (fun hs => hs.2 (.inl rfl)), ownsRow_fr0 h3 hf (fun g hg hs => hs.2 (.inr hg)), h4, h6.fr0 hf (fun hs => ?_), h7.trans' hf (fun j hj hs => ?_)⟩
    · rcases hs.1 with h | h
      · exact h
      · omega
    · rcases hs.1 with h | h
      · exact h
      · have := HN0.out; omega
  case hlt =>
    rintro i s W j ⟨v, rfl, h2, h3, h4, h6, h7⟩ (rfl | hk)
    · exact h2.lt
    · exact (h3.lt j hk).2
  case h0 => exact ⟨.slice none 0 0, rfl, HO4.out, World.ownsRow_nil _ _ _ _, Nat.zero_le _, HM4.out, F4.out⟩
  case hf0 =>
    rintro j (rfl | hk)
    · refine ⟨id, fun hr => ?_⟩
      rcases Hrd.out _ hr with h | h
      · omega
      · have := hlf _ h
        have := HN0.out
        omega
    · cases hk
  case assign =>
    intro l x W K hlt hK
    rw [Hs4.out] at hlt
    simp only [evV]
    gi_wp2
    exact hK _ _ ⟨W.heap.size, rfl, by omega, World.alloc_heap_new W _⟩ ((Fr0.refl _ _).alloc _)
  case keep =>
    rintro x W4 W5 a' ⟨B, rfl, hB, hc⟩ hf
    exact ⟨B, rfl, hB, (hf.block B (Array.getElem?_eq_some_iff.1 hc).1 (by rw [Hs4.out]; omega)).trans hc⟩
  case body =>
    rintro l i x s W a' hxi ⟨v, rfl, h2, h3, h4, h6, h7⟩ hfoot hsz ⟨B, rfl, hB, hcB⟩
    have hlt : i < E.length := (List.getElem?_eq_some_iff.1 hxi).1
    have b0 := cells_in hcB 0
    have b1 := cells_in hcB 1
    have b2 := cells_in hcB 2
    have b3 := cells_in hcB 3
    have b4 := cells_in hcB 4
    simp [cev] at b0 b1 b2 b3 b4
    have cO := h2.cell
    have cM := h6.cell
    have hil := HE.out
    obtain ⟨G, hG⟩ : ∃ G, toE t (E.take i) = G := ⟨_, rfl⟩
    have hsn := to_snoc (t := t) hxi
    rw [hG] at h3 h4 hsn
    obtain ⟨gl, hgl⟩ : ∃ gl, G.length = gl := ⟨_, rfl⟩
    rw [hgl] at h3 h4
    obtain ⟨va, vc, rfl⟩ : ∃ va vc, v = .slice va gl vc := by
      rcases h3.2 with ⟨e1, e2⟩ | ⟨g, cap, cur, hv, _⟩
      · exact ⟨none, 0, by rw [e1, e2]⟩
      · exact ⟨_, _, hv⟩
    have H2 := Lib.hid h2
    have H3 := Lib.hid h3
    have H6 := Lib.hid h6
    have H7 := Lib.hid h7
    have Hgl := Lib.hid hgl
    have cF := h2.frozen
    have hgl5 : gl ≤ 1000 := by omega
    by_cases ht : x.key.time < t
    · have d1 : decide (x.key.time < t) = true := decide_eq_true ht
      rw [if_pos ht] at hsn
      have Hsn := Lib.hid hsn
      have hsrc := Src.newRow (P := Tryz.prog) (size := 1) (tx := 33) (ty := 3) W Tryz.underlying33 1 1 [.int .i64 x.to] rfl (by simp [Value.oneCell'])
      have hbase : N0 + 5 ≤ W.heap.size := by rw [Hs4.out] at hsz; omega
      clear h2 h3 h6 h7 hgl hG hsn ht hxi
      gi_wp2_with (gi_at_builtin; refine wpListIn_append_k rfl _ _ 33 33 rfl (N0 + 5) 3 i0 (.int .i64 0) 1 8 Tryz.underlying33 hi hz0 hz1 hz2 rfl (by decide) (.slice va gl vc) gl _ rfl (ownsRow_fr0 H3.out ((Fr0.refl none' W).alloc _) (fun _ _ h => h)) (.slice (some ⟨W.heap.size, 0, none⟩) 1 1) 1 _ rfl hsrc (by unfold maxLen; omega) (by omega) (by simp; omega) ?_; intro v' w6 hown' hgrow hdr hob; obtain ⟨g', cap', rfl⟩ := ownsRow_k_succ hown'; have hfg := ((Fr0.refl (fun k => (Value.slice va gl vc).ownBlock = some k) W).alloc _).grown hgrow (fun k hk _ => hk); have hb1 := H2.out.fr0 hfg (fun h => by have := (H3.out.lt _ h).1; omega); have hc1 := hb1.cell; have hf1 := hb1.frozen)
      have hb2 := hb1.set (.slice (some ⟨g', 0, none⟩) (gl + 1) cap')
      have hf2 := (hfg.mono (S' := fun k => k = N0 + 1 ∨ (Value.slice va gl vc).ownBlock = some k) (fun k _ h => .inr h)).setCell (b := N0 + 1) (o := 0) (fun _ => .inl rfl) (.slice (some ⟨g', 0, none⟩) (gl + 1) cap')
      refine ⟨_, ⟨(.slice (some ⟨g', 0, none⟩) (gl + 1) cap'), rfl, hb2, ?_, ?_, ?_, ?_⟩, hf2, ?_⟩
      · have h3 := ownsRow_setCell_below hown' (a := ⟨N0 + 1, 0, none⟩) (by simp) (.slice (some ⟨g', 0, none⟩) (gl + 1) cap')
        rw [Hsn.out, List.length_append, List.length_singleton, Hgl.out, List.map_append]
        exact h3
      · rw [Hsn.out, List.length_append, List.length_singleton, Hgl.out]
        omega
      · refine H6.out.fr0 hf2 (fun hs => ?_)
        rcases hs with h | h
        · omega
        · have := (H3.out.lt _ h).1; omega
      · refine H7.out.trans' hf2 (fun j hj hs => ?_)
        rcases hs with h | h
        · have := HN0.out; omega
        · have := (H3.out.lt _ h).1; have := HN0.out; omega
      · rintro j (rfl | hj)
        · exact .inl (.inl rfl)
        · rcases hob with h | h
          · rw [h] at hj
            exact .inl (.inr hj)
          · rw [h] at hj
            injection hj with hj
            rw [World.size_alloc] at hj
            exact .inr (by omega)
    · have d1 : decide (x.key.time < t) = false := decide_eq_false ht
      rw [if_neg ht, List.append_nil] at hsn
      have Hsn := Lib.hid hsn
      clear h2 h3 h6 h7 hgl hG hsn ht hxi
      gi_wp2_with fail
      refine ⟨_, ⟨.slice va gl vc, rfl, H2.out, ?_, ?_, H6.out, H7.out⟩, Fr0.refl _ _, fun j hj => .inl hj⟩
      · rw [Hsn.out, Hgl.out]
        exact H3.out
      · rw [Hsn.out, Hgl.out]
        omega
  case done =>
    rintro D s W hDe ⟨v, rfl, h2, h3, h4, h6, h7⟩ hDf hK
    rw [Hs4.out] at hDe
    subst hDe
    rw [List.take_length] at h3 h4
    have hnl : (toE t E).length ≤ 256 := by have h1 := HE.out; omega
    have HK := Lib.hid hK
    have hc := h2.cell
    clear hDf hK it h6
    rcases h3.2 with ⟨rfl, h0⟩ | ⟨g, cap, cur, rfl, hg, hgW, _⟩
    · have hnil : toE t E = [] := List.eq_nil_of_length_eq_zero h0
      rw [hnil] at Hre
      have hR0 : R = [] := by
        have := Hre.out
        simpa [sortI, Lib.compact, Lib.compactUpTo] using this
      subst hR0
      have hfp : Fr0 (fun k => k = N0 + 3) W (W.putObj (N0 + 3) (.deferred none)) := Fr0.putNew _ _ rfl
      have HF := Lib.hid (show Fr0 none' w (W.putObj (N0 + 3) (.deferred none)) from h7.trans' hfp (fun j hj e => by have := HN0.out; omega))
      clear h2 h3 h7 hfp hnil h0
      gi_wp2_with fail
      refine (callsIn_wide.2 (Tryz.slices_Sort_int_none none 0 W)).mono ?_
      rintro e w5 ⟨rfl, rfl⟩
      gi_wp2_with fail
      refine (callsIn_wide.2 (Tryz.slices_Compact_int_empty none 0 _)).mono ?_
      rintro e w6 ⟨rfl, rfl⟩
      gi_wp2
      refine ⟨by simp, .inl ⟨_, _, rfl, run_takeDeferred HK.out, ?_⟩⟩
      exact ⟨_, results_tmp rfl _ _ _, .slice none 0 0, rfl, World.ownsRow_nil _ _ _ _, HF.out⟩
    · have H3 := Lib.hid h3
      have H7 := Lib.hid h7
      have H2 := Lib.hid h2
      clear h2 h3 h7
      gi_wp2_with fail
      refine (callsIn_wide.2 (sort_row (toE t E) H3.out (by omega))).mono ?_
      rintro e w5 ⟨rfl, hrow5, hf5⟩
      have hlt5 := hrow5.lt g rfl
      have HK5 := Lib.hid ((hf5.block (N0 + 3) (Array.getElem?_eq_some_iff.1 HK.out).1 (fun e => by omega)).trans HK.out)
      have H25 := Lib.hid (H2.out.fr0 hf5 (fun e => by omega))
      have hc5 := H25.out.cell
      have H75 := Lib.hid (H7.out.trans' hf5 (fun j hj e => by have := HN0.out; omega))
      have Hrow5 := Lib.hid hrow5
      clear hc hrow5 hf5
      gi_wp2_with fail
      refine (callsIn_wide.2 (compact_row (sortI (toE t E)) Hrow5.out (by omega))).mono ?_
      rintro e w6 ⟨rfl, hrow6, hf6⟩
      have HK6 := Lib.hid ((hf6.block (N0 + 3) (Array.getElem?_eq_some_iff.1 HK5.out).1 (fun e => by omega)).trans HK5.out)
      have hfp : Fr0 (fun k => k = N0 + 3) w6 (w6.putObj (N0 + 3) (.deferred none)) := Fr0.putNew _ _ rfl
      rw [Hre.out, Hrl.out] at hrow6
      have HF := Lib.hid (show (w6.putObj (N0 + 3) (.deferred none)).ownsRow w.heap.size 3 1 (.slice (some ⟨g, 0, none⟩) R.length cap) R.length (R.map natV') ∧ Fr0 none' w (w6.putObj (N0 + 3) (.deferred none)) from ⟨own_low (ownsRow_fr0 hrow6 hfp (fun g hg e => by have := (hrow6.lt g hg).1; omega)) (show w.heap.size ≤ N0 + 5 by have := HN0.out; omega), (H75.out.trans' hf6 (fun j hj e => by have := HN0.out; omega)).trans' hfp (fun j hj e => by have := HN0.out; omega)⟩)
      rw [Hrl.out]
      clear hc5 hrow6 hf6 hfp
      gi_wp2
      refine ⟨by simp, .inl ⟨_, _, rfl, run_takeDeferred HK6.out, ?_⟩⟩
      exact ⟨_, results_tmp rfl _ _ _, .slice (some ⟨g, 0, none⟩) R.length cap, rfl, HF.out⟩
theorem QIs.ready (h : QIs w qb n T E ft) (t : Int) : Calls Tryz.prog 13 #[.pointer (some ⟨qb, 0, none⟩), .int .i64 t] w fun e w' => ∃ v, e = .returned v ∧ w'.ownsRow w.heap.size 3 1 v (rdyE t E 17).length ((rdyE t E 17).map natV') ∧ Fr0 none' w w' := callsIn_wide.1 (QReady_in h t)
end Go.Proofs.YtmcgipilopfgoaaGreat

/-
  slices.Contains, slices.ContainsFunc at ints and at events; the closures of EvqReady.
-/
namespace Go.Proofs.YtmcgipilopfgoaaGreat
open Go Go.RowKit
attribute [local go_sem ↓] Go.wp_at_zero Go.wp_at_succ
attribute [local go_sem] Oper.semAt_some wide_fn wide_depth wide_fnR wide_depthR

/-- The cells of a row of numbers. -/
def PsIn (w : World) (a : Option Addr) (L : List Nat) : Prop := ∀ i x, L[i]? = some x → ∃ g, a = some ⟨g, 0, none⟩ ∧ w.cell? ⟨g, i, none⟩ = some (.int .i64 ((x : Nat) : Int))
theorem PsIn.later {w w' : World} {a : Option Addr} {L : List Nat} (h : PsIn w a L) (hf : Fr0 none' w w') : PsIn w' a L := fun i x hx => by
  obtain ⟨g, e, hc⟩ := h i x hx
  exact ⟨g, e, hf.later hc⟩
theorem PsIn.of_own {w : World} {base : Nat} {v : Value} {n : Nat} {L : List Nat} (h : w.ownsRow base 3 1 v n (L.map natV')) : ∃ a cap, v = .slice a n cap ∧ L.length = n ∧ PsIn w a L := by
  have hl : L.length = n := by simpa using h.1
  rcases h.2 with ⟨rfl, h0⟩ | ⟨g, cap, cur, rfl, hb, hg, hn, hcm, hs, ht⟩
  · have : L = [] := List.eq_nil_of_length_eq_zero (by omega)
    subst this
    exact ⟨none, 0, by rw [h0], hl, fun i x hx => by simp at hx⟩
  · refine ⟨some ⟨g, 0, none⟩, cap, rfl, hl, fun i x hx => ⟨g, rfl, ?_⟩⟩
    have hil : i < n * 1 := by have := (List.getElem?_eq_some_iff.1 hx).1; omega
    have hm : (L.map natV')[i]? = some (natV' x) := by rw [List.getElem?_map, hx]; rfl
    rw [cells_in hg, ← Array.getElem?_toList]
    rw [← ht, List.getElem?_take_of_lt hil] at hm
    exact hm
theorem idxI_any (f : Ev → Bool) (L : List Ev) : decide (idxI f L ≥ 0) = L.any f := by
  rcases idxI_cases f L with ⟨h1, h2⟩ | ⟨k, h1, _, x, hx, hfx, _⟩
  · rw [h1]
    have : L.any f = false := by rw [List.any_eq_false]; intro x hx; simp [h2 x hx]
    rw [this]
    rfl
  · rw [h1]
    have : L.any f = true := List.any_eq_true.2 ⟨x, List.mem_of_getElem? hx, hfx⟩
    rw [this]
    exact decide_eq_true (by simp)
set_option maxRecDepth 100000 in
theorem ContainsFE {w : World} {a : Option Addr} {n cap : Nat} (L : List Ev) (h : EsIn w a L) (hl : L.length = n) (hn : n ≤ 1000000) (g : Nat) (lb : Array Value) (f : Ev → Bool)
    (eg : ∀ args w, (callFunc g args).run Tryz.prog w = .ok (.enter g args) w)
    (hf : ∀ x W, Fr0 none' w W → Calls Tryz.prog g (#[evV x] ++ lb) W fun e w' => e = .returned (.bool (f x)) ∧ Fr0 none' W w') :
    Calls Tryz.prog 17 #[.slice a n cap, .func (.func g) #[] lb] w fun e w' => e = .returned (.bool (L.any f)) ∧ Fr0 none' w w' := by
  have HI := Lib.hid (IndexE (cap := cap) L h hl hn g lb f eg hf)
  have hd := idxI_any f L
  obtain ⟨i, hi⟩ : ∃ i, idxI f L = i := ⟨_, rfl⟩
  rw [hi] at HI hd
  rw [← hd]
  clear hi hd h hl hf
  go_enter Tryz.func17, Tryz.ntmps17
  go_wp2_with fail
  refine HI.out.mono ?_
  rintro e w1 ⟨rfl, hf⟩
  go_wp2_with fail
  go_ret
  exact ⟨rfl, hf⟩
set_option maxRecDepth 100000 in
set_option maxHeartbeats 2000000 in
/-- Whether an event is one of a process before a time. -/
theorem has_any {w : World} {pb tb : Nat} {p t : Int} (hp : Box w pb (.int .i64 p)) (ht : Box w tb (.int .i64 t)) (x : Ev) :
    Calls Tryz.prog 18 #[evV x, .pointer (some ⟨pb, 0, none⟩), .pointer (some ⟨tb, 0, none⟩)] w fun e w' => e = .returned (.bool (x.to == p && decide (x.key.time < t))) ∧ Fr0 none' w w' := by
  obtain ⟨W, hW⟩ : ∃ W, w.alloc (.cells #[.int .i64 x.key.time, .int .i64 x.key.source, .int .i64 x.key.seq, .int .i64 x.to, .int .i64 x.value] 28) = W := ⟨_, rfl⟩
  have hf : Fr0 none' w W := by rw [← hW]; exact (Fr0.refl _ _).alloc _
  have hb : W.heap[w.heap.size]? = some (.cells #[.int .i64 x.key.time, .int .i64 x.key.source, .int .i64 x.key.seq, .int .i64 x.to, .int .i64 x.value] 28 (0, 0)) := by rw [← hW]; exact World.alloc_heap_new _ _
  have cp := (hp.fr0 hf id).cell
  have ct := (ht.fr0 hf id).cell
  have x0 := cells_in hb 0
  have x1 := cells_in hb 1
  have x2 := cells_in hb 2
  have x3 := cells_in hb 3
  have x4 := cells_in hb 4
  simp at x0 x1 x2 x3 x4
  have HF := Lib.hid hf
  unfold evV
  clear hf hb hp ht
  obtain ⟨R, hR⟩ : ∃ R, (x.to == p && decide (x.key.time < t)) = R := ⟨_, rfl⟩
  rw [hR]
  by_cases h1 : x.to = p
  · have d1 : (x.to == p) = true := by simpa using h1
    by_cases h2 : x.key.time < t
    · have d2 : decide (x.key.time < t) = true := decide_eq_true h2
      obtain rfl : R = true := by rw [← hR, d1, d2]; rfl
      clear hR h1 h2
      go_enter Tryz.func18, Tryz.ntmps18
      subst hW
      go_wp2_with fail
      go_ret
      exact ⟨rfl, HF.out⟩
    · have d2 : decide (x.key.time < t) = false := decide_eq_false h2
      obtain rfl : R = false := by rw [← hR, d1, d2]; rfl
      clear hR h1 h2
      go_enter Tryz.func18, Tryz.ntmps18
      subst hW
      go_wp2_with fail
      go_ret
      exact ⟨rfl, HF.out⟩
  · have d1 : (x.to == p) = false := by simpa using h1
    obtain rfl : R = false := by rw [← hR, d1]; rfl
    clear hR h1
    go_enter Tryz.func18, Tryz.ntmps18
    subst hW
    go_wp2_with fail
    go_ret
    exact ⟨rfl, HF.out⟩
set_option maxRecDepth 100000 in
set_option maxHeartbeats 2000000 in
/-- Whether a process has no event before a time. -/
theorem hasnt_any {w : World} {sb tb : Nat} {a : Option Addr} {n cap : Nat} {t : Int} {E : List Ev} (hs : Box w sb (.slice a n cap)) (hE : EsIn w a E) (hl : E.length = n) (hn : n ≤ 1000000) (ht : Box w tb (.int .i64 t)) (p : Nat) :
    Calls Tryz.prog 16 #[.int .i64 (p : Int), .pointer (some ⟨sb, 0, none⟩), .pointer (some ⟨tb, 0, none⟩)] w fun e w' => e = .returned (.bool (!hasE t E p)) ∧ Fr0 none' w w' := by
  obtain ⟨W, hW⟩ : ∃ W, w.alloc (.cells #[.int .i64 (p : Int)] 3) = W := ⟨_, rfl⟩
  obtain ⟨pb, hpb⟩ : ∃ b, w.heap.size = b := ⟨_, rfl⟩
  have hf : Fr0 none' w W := by rw [← hW]; exact (Fr0.refl _ _).alloc _
  have hbx : Box W pb (.int .i64 (p : Int)) := by rw [← hW, ← hpb]; exact Box.new _ _ _
  have ht1 := ht.fr0 hf id
  have cs := (hs.fr0 hf id).cell
  have HC := Lib.hid (fun (W' : World) (hf' : Fr0 none' W W') => ContainsFE (cap := cap) E (hE.later (hf.trans hf')) hl hn 18 #[.pointer (some ⟨pb, 0, none⟩), .pointer (some ⟨tb, 0, none⟩)] (fun x => x.to == (p : Int) && decide (x.key.time < t)) (by intro args w; rfl) (fun x W2 hf2 => has_any (hbx.fr0 (hf'.trans hf2) id) (ht1.fr0 (hf'.trans hf2) id) x))
  have HF := Lib.hid hf
  obtain ⟨R, hR⟩ : ∃ R, hasE t E p = R := ⟨_, rfl⟩
  rw [hR]
  have HC := Lib.hid (show ∀ W', Fr0 none' W W' → Calls Tryz.prog 17 #[.slice a n cap, .func (.func 18) #[] #[.pointer (some ⟨pb, 0, none⟩), .pointer (some ⟨tb, 0, none⟩)]] W' fun e w' => e = .returned (.bool R) ∧ Fr0 none' W' w' from by rw [← hR]; exact HC.out)
  clear hf hbx ht1 hs hE ht hR
  go_enter Tryz.func16, Tryz.ntmps16
  have HCW := Lib.hid (HC.out W (Fr0.refl _ _))
  subst hW
  go_wp2_with fail
  refine HCW.out.mono ?_
  rintro e w1 ⟨rfl, hf⟩
  have HFF := Lib.hid (HF.out.trans hf)
  clear hf
  go_wp2_with fail
  go_ret
  exact ⟨rfl, HFF.out⟩
end Go.Proofs.YtmcgipilopfgoaaGreat

/-
  The queue: From, for any number.
-/
namespace Go.Proofs.YtmcgipilopfgoaaGreat
open Go Go.RowKit Go.ChangeMaps
attribute [local go_sem ↓] Go.wp_at_zero Go.wp_at_succ
attribute [local go_sem] Oper.semAt_some wide_fn wide_depth wide_fnR wide_depthR
variable {w w' : World} {qb n T : Nat} {E : List Ev} {ft : Nat → Prop}

set_option maxRecDepth 100000 in
set_option maxHeartbeats 2000000 in
theorem QFromZ_in (h : QIs w qb n T E ft) (k : Key3) (mz : Int) : CallsIn Fence.wide 0 Tryz.prog 34 #[.pointer (some ⟨qb, 0, none⟩), .agg #[.int .i64 k.time, .int .i64 k.source, .int .i64 k.seq], .int .i64 mz] w fun e w' => ∃ v, e = .returned v ∧ w'.ownsRow w.heap.size 28 5 v ((geE k E).take mz.toNat).length (flatEv ((geE k E).take mz.toNat)) ∧ Fr0 none' w w' := by
  obtain ⟨most, hm⟩ : ∃ m, mz.toNat = m := ⟨_, rfl⟩
  rw [hm]
  obtain ⟨i0, hi, hz0, hz1, hz2⟩ := info_parts info_event0
  have H := Lib.hid h
  have HG := Lib.hid h.good
  have HE := Lib.hid h.le
  clear h
  refine callsIn_of_wp_marks Tryz.func34 rfl trivial ?_ rfl
  simp only [Tryz.ntmps34, List.size_toArray, List.length_cons, List.length_nil, Nat.reduceAdd, Nat.reduceSub, Array.replicate_succ, Array.replicate_zero, List.push_toArray, List.append_toArray, List.nil_append, List.cons_append]
  gi_wp2_with fail
  apply wpIn_scope_straight
  gi_wp2_with fail
  apply wpIn_label
  gi_wp2_with fail
  obtain ⟨N0, hN0⟩ : ∃ N0, w.heap.size = N0 := ⟨_, rfl⟩
  obtain ⟨W3, hW3⟩ : ∃ W, ((w.alloc (.cells #[.int .i64 k.time, .int .i64 k.source, .int .i64 k.seq] 26)).alloc (.cells #[.int .i64 mz] 3)).alloc (.cells #[.slice none 0 0] 30) = W := ⟨_, rfl⟩
  have hs1 : (w.alloc (.cells #[.int .i64 k.time, .int .i64 k.source, .int .i64 k.seq] 26)).heap.size = N0 + 1 := by rw [World.size_alloc, hN0]
  have hs2 : ((w.alloc (.cells #[.int .i64 k.time, .int .i64 k.source, .int .i64 k.seq] 26)).alloc (.cells #[.int .i64 mz] 3)).heap.size = N0 + 1 + 1 := by rw [World.size_alloc, hs1]
  have Hs3 := Lib.hid (show W3.heap.size = N0 + 3 by rw [← hW3, World.size_alloc, hs2])
  have F3 := Lib.hid (show Fr0 none' w W3 by rw [← hW3]; exact (((Fr0.refl _ _).alloc _).alloc _).alloc _)
  have HK3 := Lib.hid (show W3.heap[N0]? = some (.cells #[.int .i64 k.time, .int .i64 k.source, .int .i64 k.seq] 26 (0, 0)) by
    rw [← hW3, ← hN0]
    exact ((((Fr0.refl none' (w.alloc (.cells #[.int .i64 k.time, .int .i64 k.source, .int .i64 k.seq] 26))).alloc _).alloc _).block w.heap.size (by rw [World.size_alloc]; omega) id).trans (World.alloc_heap_new w _))
  have HM3 := Lib.hid (show Box W3 (N0 + 1) (.int .i64 mz) by
    rw [← hW3]
    have h1 := Box.new (w.alloc (.cells #[.int .i64 k.time, .int .i64 k.source, .int .i64 k.seq] 26)) (.int .i64 mz) 3
    rw [hs1] at h1
    exact h1.alloc _)
  have HO3 := Lib.hid (show Box W3 (N0 + 1 + 1) (.slice none 0 0) by
    rw [← hW3, ← hs2]
    exact Box.new _ _ _)
  rw [hW3]
  try rw [hN0]
  have HN0 := Lib.hid hN0
  clear hW3 hN0 hs1 hs2
  refine (callsIn_wide.2 (ordered_any qb W3)).mono ?_
  rintro e w4 ⟨rfl, hw4⟩
  rw [Hs3.out]
  obtain ⟨W4, hW4⟩ : ∃ W, W3.alloc (.cells #[.pointer (some ⟨qb, 0, none⟩)] 35) = W := ⟨_, rfl⟩
  rw [hW4] at hw4
  subst hw4
  have F34 := Lib.hid (show Fr0 none' W3 w4 by rw [← hW4]; exact (Fr0.refl _ _).alloc _)
  have Bq4 := Lib.hid (show Box w4 (N0 + 3) (.pointer (some ⟨qb, 0, none⟩)) by rw [← hW4, ← Hs3.out]; exact Box.new _ _ _)
  have Hs4 := Lib.hid (show w4.heap.size = N0 + 4 by rw [← hW4, World.size_alloc, Hs3.out])
  have F4 := Lib.hid (show Fr0 none' w w4 from F3.out.trans F34.out)
  have H4 := Lib.hid (H.out.later F4.out)
  have HK4 := Lib.hid ((F34.out.block N0 (Array.getElem?_eq_some_iff.1 HK3.out).1 id).trans HK3.out)
  have HM4 := Lib.hid (HM3.out.fr0 F34.out id)
  have HO4 := Lib.hid (HO3.out.fr0 F34.out id)
  clear hW4
  obtain ⟨rd, it, hrd⟩ := H4.out.ordered (N0 + 3) Bq4.out
  have Hrd := Lib.hid hrd
  clear hrd
  have hlf := H.out.lt
  gi_wp2_with fail
  refine wpIn_iterS0 (σ := Option Nat) (gf := 69) (lb := #[.pointer (some ⟨N0 + 3, 0, none⟩)]) rfl (by intro args w; rfl) it (Keep.refl _ _) (fun _ => rfl) (fun k hk => hk.elim) (fun k hk => by
      rw [Hs4.out]
      rcases Hrd.out k hk with rfl | h
      · omega
      · have := hlf k h
        have := HN0.out
        omega)
    (fun i s W => ∃ v, v.ownBlock = s ∧ Box W (N0 + 1 + 1) v ∧ W.ownsRow (N0 + 6) 28 5 v (geE k (E.take i)).length (flatEv (geE k (E.take i))) ∧ (geE k (E.take i)).length ≤ most ∧ W.heap[N0]? = some (.cells #[.int .i64 k.time, .int .i64 k.source, .int .i64 k.seq] 26 (0, 0)) ∧ Box W (N0 + 1) (.int .i64 mz) ∧ Fr0 none' w W)
    (fun s j => j = N0 + 1 + 1 ∨ s = some j)
    (fun c W => c = .exit 0 ∧ ∃ v, Box W (N0 + 1 + 1) v ∧ W.ownsRow (N0 + 6) 28 5 v ((geE k E).take most).length (flatEv ((geE k E).take most)) ∧ Fr0 none' w W) ?hInv ?hlt ?hIx none ?h0 ?hf0
    (fun (x : Ev) W a' => ∃ B, a' = { tmps := #[.pointer (some ⟨qb, 0, none⟩), .agg #[.int .i64 k.time, .int .i64 k.source, .int .i64 k.seq], .int .i64 mz, undef, .pointer (some ⟨N0, 0, none⟩), .pointer (some ⟨N0 + 1, 0, none⟩), .slice none 0 0, .pointer (some ⟨N0 + 1 + 1, 0, none⟩), .pointer (some ⟨B, 0, none⟩), undef, undef, .pointer (some ⟨qb, 0, none⟩), .func (.func 69) #[] #[.pointer (some ⟨N0 + 3, 0, none⟩)], .agg #[.int .i64 x.key.time, .int .i64 x.key.source, .int .i64 x.key.seq, .int .i64 x.to, .int .i64 x.value], undef, undef, undef, undef, undef, undef, undef, undef, undef, undef, undef, undef, undef, undef, undef, undef, undef, undef], defers := [] } ∧ N0 + 5 < B ∧ W.heap[B]? = some (.cells (cev x).toArray 28 (0, 0)))
    ?assign ?keep ?body ?done ?stop
  case hInv =>
    rintro i s W1 W2 ⟨v, rfl, h2, h3, h4, h5, h6, h7⟩ hf
    rw [Hs4.out] at hf
    refine ⟨v, rfl, h2.fr0 hf (fun hs => hs.2 (.inl rfl)), ownsRow_fr0 h3 hf (fun g hg hs => hs.2 (.inr hg)), h4, (hf.block N0 (Array.getElem?_eq_some_iff.1 h5).1 (fun hs => ?_)).trans h5, h6.fr0 hf (fun hs => ?_), h7.trans' hf (fun j hj hs => ?_)⟩
    · rcases hs.1 with h | h
      · exact h
      · omega
    · rcases hs.1 with h | h
      · exact h
      · omega
    · rcases hs.1 with h | h
      · exact h
      · have := HN0.out; omega
  case hlt =>
    rintro i s W j ⟨v, rfl, h2, h3, h4, h5, h6, h7⟩ (rfl | hk)
    · exact h2.lt
    · exact (h3.lt j hk).2
  case hIx =>
    rintro c W1 W2 ⟨h0, v, h1, h2, h3⟩ hf
    rw [Hs4.out] at hf
    have hge : ∀ j, (none' j ∨ j = N0 + 4 ∨ j = N0 + 4 + 1) → j = N0 + 4 ∨ j = N0 + 5 := fun j h => by
      rcases h with h | h | h
      · exact h.elim
      · exact .inl h
      · exact .inr h
    exact ⟨h0, v, h1.fr0 hf (fun h => by have := hge _ h; omega), ownsRow_fr0 h2 hf (fun g hg h => by have := hge _ h; have := (h2.lt g hg).1; omega), h3.trans' hf (fun j hj h => by have := hge _ h; have := HN0.out; omega)⟩
  case h0 => exact ⟨.slice none 0 0, rfl, HO4.out, World.ownsRow_nil _ _ _ _, Nat.zero_le _, HK4.out, HM4.out, F4.out⟩
  case hf0 =>
    rintro j (rfl | hk)
    · refine ⟨id, fun hr => ?_⟩
      rcases Hrd.out _ hr with h | h
      · omega
      · have := hlf _ h
        have := HN0.out
        omega
    · cases hk
  case assign =>
    intro l x W K hlt hK
    rw [Hs4.out] at hlt
    simp only [evV]
    gi_wp2
    exact hK _ _ ⟨W.heap.size, rfl, by omega, World.alloc_heap_new W _⟩ ((Fr0.refl _ _).alloc _)
  case keep =>
    rintro x W4 W5 a' ⟨B, rfl, hB, hc⟩ hf
    exact ⟨B, rfl, hB, (hf.block B (Array.getElem?_eq_some_iff.1 hc).1 (by rw [Hs4.out]; omega)).trans hc⟩
  case body =>
    rintro l i x s W a' hxi ⟨v, rfl, h2, h3, h4, h5, h6, h7⟩ hfoot hsz ⟨B, rfl, hB, hcB⟩
    have hlt : i < E.length := (List.getElem?_eq_some_iff.1 hxi).1
    have b0 := cells_in hcB 0
    have b1 := cells_in hcB 1
    have b2 := cells_in hcB 2
    have b3 := cells_in hcB 3
    have b4 := cells_in hcB 4
    simp [cev] at b0 b1 b2 b3 b4
    have k0 := cells_in h5 0
    have k1 := cells_in h5 1
    have k2 := cells_in h5 2
    simp at k0 k1 k2
    have cO := h2.cell
    have cM := h6.cell
    obtain ⟨va, vc, rfl, _, _⟩ := EsIn.of_own h3
    obtain ⟨G, hG⟩ : ∃ G, geE k (E.take i) = G := ⟨_, rfl⟩
    rw [hG] at h3 h4 cO h2 ⊢
    obtain ⟨gl, hgl⟩ : ∃ gl, G.length = gl := ⟨_, rfl⟩
    rw [hgl] at h3 h4 cO h2 ⊢
    have hgl9 : gl ≤ 1000 := by
      have h9 := HE.out
      have h8 : (geE k (E.take i)).length ≤ (E.take i).length := List.length_filter_le _ _
      rw [List.length_take] at h8
      rw [hG, hgl] at h8
      omega
    by_cases hfull : most ≤ gl
    · have d1 : decide ((gl : Int) ≥ mz) = true := decide_eq_true (by omega)
      have d2 : decide (mz ≤ (gl : Int)) = true := decide_eq_true (by omega)
      gi_wp2_with fail
      have hge : gl = most := by omega
      have hrow := h3
      refine ⟨Fr0.refl _ _, rfl, _, h2, ?_, h7⟩
      have hff := ge_full (k := k) (E := E) (i := i) (most := most) (by rw [hG, hgl]; exact hge)
      rw [← List.length_take, hff, hG, hgl]
      exact h3
    · have d1 : decide ((gl : Int) ≥ mz) = false := decide_eq_false (by omega)
      have d2 : decide (mz ≤ (gl : Int)) = false := decide_eq_false (by omega)
      gi_wp2_with fail
      have hsn := ge_snoc (k := k) (E := E) (i := i) (x := x) hxi
      rw [hG] at hsn
      have HC := Compare_any x.key k W
      simp only [keyV] at HC
      obtain ⟨c, hc⟩ : ∃ c, cmpK x.key k = c := ⟨_, rfl⟩
      rw [hc] at HC hsn
      have Hsn := Lib.hid hsn
      have H3 := Lib.hid h3
      have H7 := Lib.hid h7
      have H5 := Lib.hid h5
      have H6 := Lib.hid h6
      have H2 := Lib.hid h2
      have Hgl := Lib.hid hgl
      have Hsz := Lib.hid hsz
      clear hc hsn h3 h7 h5 h6 h2 hG hgl k0 k1 k2 hxi hsz
      refine (callsIn_wide.2 HC).mono ?_
      rintro e w5 ⟨rfl, hf0⟩
      have hf5 : Fr0 none' W w5 := hf0.to0
      obtain ⟨fv, hfv⟩ : ∃ fv, fieldK x.key k = fv := ⟨_, rfl⟩
      rw [hfv]
      have hcB5 := (hf5.block B (Array.getElem?_eq_some_iff.1 hcB).1 id).trans hcB
      have h25 := H2.out.fr0 hf5 id
      have HRow := Lib.hid (ownsRow_fr0 H3.out hf5 (fun _ _ h => h))
      have h55 := Lib.hid ((hf5.block N0 (Array.getElem?_eq_some_iff.1 H5.out).1 id).trans H5.out)
      have h65 := Lib.hid (H6.out.fr0 hf5 id)
      have h75 := Lib.hid (H7.out.trans hf5)
      have F5 := Lib.hid hf5
      clear hf0 hfv HC b0 b1 b2 b3 b4 cO cM
      have b0 := cells_in hcB5 0
      have b1 := cells_in hcB5 1
      have b2 := cells_in hcB5 2
      have b3 := cells_in hcB5 3
      have b4 := cells_in hcB5 4
      simp [cev] at b0 b1 b2 b3 b4
      have cO := h25.cell
      have cF := h25.frozen
      have H25 := Lib.hid h25
      clear hcB hcB5 hf5 h25
      by_cases hc0 : 0 ≤ c
      · have dd : decide (c ≥ 0) = true := decide_eq_true hc0
        have dd2 : decide (0 ≤ c) = true := decide_eq_true hc0
        have hsn := Hsn.out
        rw [if_pos hc0] at hsn
        have Hsn := Lib.hid hsn
        have hsrc := Src.newRow (P := Tryz.prog) (size := 5) (tx := 30) (ty := 28) w5 Tryz.underlying30 1 1 (cev x) rfl (by simp [Value.oneCell', cev])
        simp only [cev] at hsrc
        have hbase : N0 + 6 ≤ w5.heap.size := by have := Hsz.out; rw [Hs4.out] at this; have := F5.out.size; omega
        have hgl5 : gl ≤ 1000 := hgl9
        clear hsn hc0
        gi_wp2_with (gi_at_builtin; refine wpListIn_append_k rfl _ _ 30 30 rfl (N0 + 6) 28 i0 (.agg #[.int .i64 0, .int .i64 0, .int .i64 0, .int .i64 0, .int .i64 0]) 5 40 Tryz.underlying30 hi hz0 hz1 hz2 rfl (by decide) (.slice va gl vc) gl _ rfl (ownsRow_fr0 HRow.out ((Fr0.refl none' w5).alloc _) (fun _ _ h => h)) (.slice (some ⟨w5.heap.size, 0, none⟩) 1 1) 1 _ rfl hsrc (by unfold maxLen; omega) (by omega) (by simp; omega) ?_; intro v' w6 hown' hgrow hdr hob; obtain ⟨g', cap', rfl⟩ := ownsRow_k_succ hown'; have hfg := ((Fr0.refl (fun k => (Value.slice va gl vc).ownBlock = some k) w5).alloc _).grown hgrow (fun k hk _ => hk); have hb1 := H25.out.fr0 hfg (fun h => by have := (HRow.out.lt _ h).1; omega); have hc1 := hb1.cell; have hf1 := hb1.frozen)
        have hb2 := hb1.set (.slice (some ⟨g', 0, none⟩) (gl + 1) cap')
        have hf2 := (hfg.mono (S' := fun k => k = N0 + 1 + 1 ∨ (Value.slice va gl vc).ownBlock = some k) (fun k _ h => .inr h)).setCell (b := N0 + 1 + 1) (o := 0) (fun _ => .inl rfl) (.slice (some ⟨g', 0, none⟩) (gl + 1) cap')
        refine ⟨_, ⟨(.slice (some ⟨g', 0, none⟩) (gl + 1) cap'), rfl, hb2, ?_, ?_, ?_, ?_, ?_⟩, (F5.out.mono (fun _ _ h => h.elim)).trans hf2, ?_⟩
        · have h3 := ownsRow_setCell_below hown' (a := ⟨N0 + 1 + 1, 0, none⟩) (by simp) (.slice (some ⟨g', 0, none⟩) (gl + 1) cap')
          have h4 : flatEv (G ++ [x]) = flatEv G ++ [.int .i64 x.key.time, .int .i64 x.key.source, .int .i64 x.key.seq, .int .i64 x.to, .int .i64 x.value] := by rw [flatEv_append, flatEv_single]; rfl
          rw [Hsn.out, List.length_append, List.length_singleton, Hgl.out, h4]
          exact h3
        · rw [Hsn.out, List.length_append, List.length_singleton, Hgl.out]
          omega
        · refine (hf2.block N0 (Array.getElem?_eq_some_iff.1 h55.out).1 (fun hs => ?_)).trans h55.out
          rcases hs with h | h
          · omega
          · have := (HRow.out.lt _ h).1; omega
        · refine h65.out.fr0 hf2 (fun hs => ?_)
          rcases hs with h | h
          · omega
          · have := (HRow.out.lt _ h).1; omega
        · refine h75.out.trans' hf2 (fun j hj hs => ?_)
          rcases hs with h | h
          · have := HN0.out; omega
          · have := (HRow.out.lt _ h).1; have := HN0.out; omega
        · rintro j (rfl | hj)
          · exact .inl (.inl rfl)
          · rcases hob with h | h
            · rw [h] at hj
              exact .inl (.inr hj)
            · rw [h] at hj
              injection hj with hj
              rw [World.size_alloc] at hj
              have := F5.out.size
              exact .inr (by omega)
      · have dd : decide (c ≥ 0) = false := decide_eq_false hc0
        have dd2 : decide (0 ≤ c) = false := decide_eq_false hc0
        have hsn := Hsn.out
        rw [if_neg hc0, List.append_nil] at hsn
        have Hsn := Lib.hid hsn
        clear hsn hc0
        gi_wp2_with fail
        refine ⟨_, ⟨.slice va gl vc, rfl, H25.out, ?_, ?_, h55.out, h65.out, h75.out⟩, F5.out.mono (fun _ _ h => h.elim), fun j hj => .inl hj⟩
        · rw [Hsn.out, Hgl.out]
          exact HRow.out
        · rw [Hsn.out, Hgl.out]
          omega
  case done =>
    rintro D s W hDe ⟨v, rfl, h2, h3, h4, h5, h6, h7⟩ hDf hK
    rw [Hs4.out] at hDe
    subst hDe
    rw [List.take_length] at h3 h4
    have htk : (geE k E).take most = geE k E := List.take_of_length_le h4
    have hc := h2.cell
    have hfp : Fr0 (fun k => k = N0 + 4) W (W.putObj (N0 + 4) (.deferred none)) := Fr0.putNew _ _ rfl
    have hfin := Lib.hid (show (W.putObj (N0 + 4) (.deferred none)).ownsRow w.heap.size 28 5 v ((geE k E).take most).length (flatEv ((geE k E).take most)) ∧ Fr0 none' w (W.putObj (N0 + 4) (.deferred none)) from ⟨by rw [htk]; exact own_up (ownsRow_fr0 h3 hfp (fun g hg e => by have := (h3.lt g hg).1; omega)) (by have := HN0.out; omega), h7.trans' hfp (fun j hj e => by have := HN0.out; omega)⟩)
    have HK := Lib.hid hK
    clear h2 h3 h4 h5 h6 h7 hDf hK hfp it htk
    gi_wp2
    refine ⟨by simp, .inl ⟨_, _, rfl, run_takeDeferred HK.out, ?_⟩⟩
    refine ⟨_, results_tmp rfl _ _ _, v, rfl, hfin.out⟩
  case stop =>
    rintro D c W hDe ⟨rfl, v, h2, h3, h7⟩ hK
    rw [Hs4.out] at hDe
    subst hDe
    have hc := h2.cell
    have hfp : Fr0 (fun k => k = N0 + 4) W (W.putObj (N0 + 4) (.deferred none)) := Fr0.putNew _ _ rfl
    have hfin := Lib.hid (show (W.putObj (N0 + 4) (.deferred none)).ownsRow w.heap.size 28 5 v ((geE k E).take most).length (flatEv ((geE k E).take most)) ∧ Fr0 none' w (W.putObj (N0 + 4) (.deferred none)) from ⟨own_up (ownsRow_fr0 h3 hfp (fun g hg e => by have := (h3.lt g hg).1; omega)) (by have := HN0.out; omega), h7.trans' hfp (fun j hj e => by have := HN0.out; omega)⟩)
    have HK := Lib.hid hK
    clear h2 h3 h7 hK hfp it
    gi_wp2
    refine ⟨by simp, .inl ⟨_, _, rfl, run_takeDeferred HK.out, ?_⟩⟩
    refine ⟨_, results_tmp rfl _ _ _, v, rfl, hfin.out⟩
theorem QIs.fromZ (h : QIs w qb n T E ft) (k : Key3) (mz : Int) : Calls Tryz.prog 34 #[.pointer (some ⟨qb, 0, none⟩), .agg #[.int .i64 k.time, .int .i64 k.source, .int .i64 k.seq], .int .i64 mz] w fun e w' => ∃ v, e = .returned v ∧ w'.ownsRow w.heap.size 28 5 v ((geE k E).take mz.toNat).length (flatEv ((geE k E).take mz.toNat)) ∧ Fr0 none' w w' := callsIn_wide.1 (QFromZ_in h k mz)
section
variable {w w' : World}
set_option maxRecDepth 100000 in
set_option maxHeartbeats 2000000 in
theorem sameP_any (a a' : Option Addr) (n cap cap' : Nat) (L : List Nat) (w : World) (hn : L.length = n) (hm : n ≤ 1000000) (hc : PsIn w a L) (hc' : PsIn w a' L) :
    Calls Tryz.prog 53 #[.slice a n cap, .slice a' n cap'] w fun e w' => e = .returned (.bool true) ∧ Fr0 none' w w' := by
  have Hn := Lib.hid hn
  have Hc := Lib.hid hc
  have Hc' := Lib.hid hc'
  clear hn hc hc'
  have d0 : ((n : Int) != (n : Int)) = false := by simp
  go_enter Tryz.func53, Tryz.ntmps53
  go_wp2
  clear d0
  go_loopw [13] (fun i wr => ∃ k : Nat, k ≤ n ∧ i = .int .i64 k ∧ Hid (Fr0 none' w wr)) (fun i _ => n - (Go.RowKit.intOf i).toNat)
  case atStart => exact ⟨0, Nat.zero_le _, rfl, Fr0.refl _ _⟩
  case round =>
    obtain ⟨k, hk, rfl, hb⟩ := hrel
    by_cases hlt : k < n
    · have h1 : k < L.length := by rw [Hn.out]; exact hlt
      obtain ⟨x, hx⟩ : ∃ x, L[k]? = some x := ⟨_, List.getElem?_eq_getElem h1⟩
      obtain ⟨g, rfl, hcx⟩ := Hc.out k x hx
      obtain ⟨g', rfl, hcy⟩ := Hc'.out k x hx
      have z0 := hb.out.later hcx
      have z1 := hb.out.later hcy
      have FW := hb
      clear hx h1 hcx hcy
      have c1 : (0 : Int) ≤ (k : Int) := by omega
      have c2 : (k : Int) < (n : Int) := by omega
      have d1 : ((x : Nat) : Int) == (x : Nat) := by simp
      go_wp2
      go_quiet (fail)

      go_wp2
      refine ⟨⟨k + 1, by omega, by go_num, by first | exact FW | exact ⟨FW.out.os, FW.out.tape, FW.out.output, FW.out.size, FW.out.block⟩⟩, ?_⟩
      simp [Go.RowKit.intOf]; omega
    · go_wp2
      go_ret
      exact ⟨rfl, hb.out⟩
end
end Go.Proofs.YtmcgipilopfgoaaGreat

/-
  EvqTells: acts: looking.
-/
namespace Go.Proofs.YtmcgipilopfgoaaGreat
open Go Go.RowKit Go.ChangeMaps
attribute [local go_sem ↓] Go.wp_at_zero Go.wp_at_succ
attribute [local go_sem] Oper.semAt_some wide_fn wide_depth wide_fnR wide_depthR
attribute [local go_sem high] run_eql_ev run_neq_ev

set_option maxRecDepth 100000 in
set_option maxHeartbeats 4000000 in
theorem do_7 {w : World} {qb n T m rc lk lc : Nat} {E : List Ev} {ft : Nat → Prop} {ra la : Option Addr} {kd t : Int} {x : Ev} (h : QIs w qb n T E ft) (hT : T ≤ 1000000) (hr : RsK w n E ra rc ft) (hm : E.length = m) (hkd : 0 ≤ kd ∧ kd < 256)
    (hk : kd % 10 = 7) (hx64 : I64 x.key.source ∧ I64 x.key.seq) :
    Calls Tryz.prog 20 #[.pointer (some ⟨qb, 0, none⟩), .agg #[.int .i64 n, .slice ra m rc], actV kd x la lk lc t] w (DoPost n T w ft ra) := by
  have H := Lib.hid h
  have HR := Lib.hid hr
  have Hm := Lib.hid hm
  have hle := h.le
  have hmrc : m ≤ rc := by have := hr.2.1; rw [hm] at this; exact this
  have hm256 : m ≤ 256 := by omega
  have HX64 := Lib.hid hx64
  clear hx64
  unfold actV
  clear h hr hle hm
  go_enter Tryz.func20, Tryz.ntmps20
  go_wp2_with fail
  have hkt : kd.tmod 10 = 7 := by rw [Int.tmod_eq_emod_of_nonneg hkd.1]; exact hk
  clear hk
  obtain ⟨SB, hSB⟩ : ∃ B, w.heap.size = B := ⟨_, rfl⟩
  obtain ⟨W1, hW1⟩ : ∃ W, w.alloc (.cells #[.int .i64 n, .slice ra m rc] 50) = W := ⟨_, rfl⟩
  have hs1 : W1.heap[SB]? = some (.cells #[.int .i64 n, .slice ra m rc] 50 (0, 0)) := by rw [← hW1, ← hSB]; exact World.alloc_heap_new w _
  have f1 : Fr0 none' w W1 := by rw [← hW1]; exact (Fr0.refl _ _).alloc _
  have z1 : W1.heap.size = SB + 1 := by rw [← hW1, World.size_alloc, hSB]
  rw [hW1]
  try rw [hSB]
  obtain ⟨W2, hW2⟩ : ∃ W, W1.alloc (.cells #[.int .u8 kd, .int .i64 x.key.time, .int .i64 x.key.source, .int .i64 x.key.seq, .int .i64 x.to, .int .i64 x.value, .slice la lk lc, .int .i64 t] 32) = W := ⟨_, rfl⟩
  have f2 : Fr0 none' W1 W2 := by rw [← hW2]; exact (Fr0.refl _ _).alloc _
  have hx2 : W2.heap[SB + 1]? = some (.cells #[.int .u8 kd, .int .i64 x.key.time, .int .i64 x.key.source, .int .i64 x.key.seq, .int .i64 x.to, .int .i64 x.value, .slice la lk lc, .int .i64 t] 32 (0, 0)) := by rw [← hW2, ← z1]; exact World.alloc_heap_new W1 _
  have z2 : W2.heap.size = SB + 1 + 1 := by rw [← hW2, World.size_alloc, z1]
  rw [hW2]
  obtain ⟨W3, hW3⟩ : ∃ W, W2.alloc (.cells #[.int .i64 0, .slice none 0 0] 50) = W := ⟨_, rfl⟩
  have f3 : Fr0 none' W2 W3 := by rw [← hW3]; exact (Fr0.refl _ _).alloc _
  have HRB := Lib.hid (show W3.heap[SB + 1 + 1]? = some (.cells #[.int .i64 0, .slice none 0 0] 50 (0, 0)) by rw [← hW3, ← z2]; exact World.alloc_heap_new W2 _)
  have HA := Lib.hid ((f3.block (SB + 1) (Array.getElem?_eq_some_iff.1 hx2).1 id).trans hx2)
  have HS := Lib.hid (((f2.trans f3).block SB (Array.getElem?_eq_some_iff.1 hs1).1 id).trans hs1)
  have HF := Lib.hid ((f1.trans f2).trans f3)
  have HSB := Lib.hid hSB
  have z3 : W3.heap.size = SB + 1 + 1 + 1 := by rw [← hW3, World.size_alloc, z2]
  have Hz3 := Lib.hid z3
  rw [hW3]
  clear hW1 hSB hs1 f1 hW2 f2 f3 hW3 z1 z2 hx2 z3
  have HZ := Lib.hid (fun (W' : World) (hf : Fr0 none' W3 W') => (show W'.cell? ⟨SB + 1, 0, none⟩ = some (.int .u8 kd) ∧ W'.cell? ⟨SB + 1, 1, none⟩ = some (.int .i64 x.key.time) ∧ W'.cell? ⟨SB + 1, 2, none⟩ = some (.int .i64 x.key.source) ∧ W'.cell? ⟨SB + 1, 3, none⟩ = some (.int .i64 x.key.seq) ∧ W'.cell? ⟨SB + 1, 4, none⟩ = some (.int .i64 x.to) ∧ W'.cell? ⟨SB + 1, 5, none⟩ = some (.int .i64 x.value) ∧ W'.cell? ⟨SB + 1, 6, none⟩ = some (.slice la lk lc) ∧ W'.cell? ⟨SB + 1, 7, none⟩ = some (.int .i64 t) from by
    have h1 := (hf.block (SB + 1) (Array.getElem?_eq_some_iff.1 HA.out).1 id).trans HA.out
    refine ⟨?_, ?_, ?_, ?_, ?_, ?_, ?_, ?_⟩ <;> (rw [cells_in h1]; rfl)))
  refine wp_region_held_drew (S := fun W' => Fr0 none' W3 W') (by kernel_rfl) ((Fr0.refl _ W3).drew) (fun hHeld => ?_)
  refine take_on (i := 0) (v := .pointer (some ⟨SB + 1, 0, none⟩)) rfl (by kernel_rfl) (by kernel_rfl) (by kernel_rfl) (fun _ _ _ h => h) (by kernel_rfl) (fun W' hSW => ?_) (by assumption) ?_
  · obtain ⟨a0, a1, a2, a3, a4, a5, a6, a7⟩ := HZ.out W' hSW
    first | (go_simp; done) | exact rfl | (go_simp; rfl) | (go_simp; omega)
  try simp only [Act.put, List.setIfInBounds_toArray, List.set_cons_zero, List.set_cons_succ]
  refine take_on (i := 1) (v := .int .u8 kd) rfl (by kernel_rfl) (by kernel_rfl) (by kernel_rfl) (fun _ _ _ h => h) (by kernel_rfl) (fun W' hSW => ?_) (by assumption) ?_
  · obtain ⟨a0, a1, a2, a3, a4, a5, a6, a7⟩ := HZ.out W' hSW
    first | (go_simp; done) | exact rfl | (go_simp; rfl) | (go_simp; omega)
  try simp only [Act.put, List.setIfInBounds_toArray, List.set_cons_zero, List.set_cons_succ]
  refine take_on (i := 2) (v := .int .u8 7) rfl (by kernel_rfl) (by kernel_rfl) (by kernel_rfl) (fun _ _ _ h => h) (by kernel_rfl) (fun W' hSW => ?_) (by assumption) ?_
  · obtain ⟨a0, a1, a2, a3, a4, a5, a6, a7⟩ := HZ.out W' hSW
    first | (go_simp; done) | exact rfl | (go_simp; rfl) | (go_simp; omega)
  try simp only [Act.put, List.setIfInBounds_toArray, List.set_cons_zero, List.set_cons_succ]
  refine take_on (i := 3) (v := .pointer (some ⟨SB + 1, 1, none⟩)) rfl (by kernel_rfl) (by kernel_rfl) (by kernel_rfl) (fun _ _ _ h => h) (by kernel_rfl) (fun W' hSW => ?_) (by assumption) ?_
  · obtain ⟨a0, a1, a2, a3, a4, a5, a6, a7⟩ := HZ.out W' hSW
    first | (go_simp; done) | exact rfl | (go_simp; rfl) | (go_simp; omega)
  try simp only [Act.put, List.setIfInBounds_toArray, List.set_cons_zero, List.set_cons_succ]
  refine take_on (i := 4) (v := .pointer (some ⟨SB + 1, 1, none⟩)) rfl (by kernel_rfl) (by kernel_rfl) (by kernel_rfl) (fun _ _ _ h => h) (by kernel_rfl) (fun W' hSW => ?_) (by assumption) ?_
  · obtain ⟨a0, a1, a2, a3, a4, a5, a6, a7⟩ := HZ.out W' hSW
    first | (go_simp; done) | exact rfl | (go_simp; rfl) | (go_simp; omega)
  try simp only [Act.put, List.setIfInBounds_toArray, List.set_cons_zero, List.set_cons_succ]
  refine take_on (i := 5) (v := .agg #[.int .i64 x.key.time, .int .i64 x.key.source, .int .i64 x.key.seq]) rfl (by kernel_rfl) (by kernel_rfl) (by kernel_rfl) (fun _ _ _ h => h) (by kernel_rfl) (fun W' hSW => ?_) (by assumption) ?_
  · obtain ⟨a0, a1, a2, a3, a4, a5, a6, a7⟩ := HZ.out W' hSW
    first | (go_simp; done) | exact rfl | (go_simp; rfl) | (go_simp; omega)
  try simp only [Act.put, List.setIfInBounds_toArray, List.set_cons_zero, List.set_cons_succ]
  refine take_call (i := 6) rfl (by kernel_rfl) (by kernel_rfl) (fun K hK => ?_)
  go_simp
  rw [Hz3.out]
  obtain ⟨V1, hV1⟩ : ∃ W, W3.alloc (.cells #[.int .i64 0, .int .i64 0, .int .i64 0] 26) = W := ⟨_, rfl⟩
  have fV : Fr0 none' W3 V1 := by rw [← hV1]; exact (Fr0.refl _ _).alloc _
  have hk1 : V1.heap[SB + 1 + 1 + 1]? = some (.cells #[.int .i64 0, .int .i64 0, .int .i64 0] 26 (0, 0)) := by rw [← hV1, ← Hz3.out]; exact World.alloc_heap_new W3 _
  rw [hV1]
  refine hK.out _ _ fV.drew (fun hS => ?_)
  clear hK K hV1 hHeld
  try simp only [Act.put, List.setIfInBounds_toArray, List.set_cons_zero, List.set_cons_succ]
  refine take_on (i := 7) (v := .int .u8 7) rfl (by kernel_rfl) (by kernel_rfl) (by kernel_rfl) (fun _ _ _ h => h) (by kernel_rfl) (fun W' hSW => ?_) (by assumption) ?_
  · obtain ⟨a0, a1, a2, a3, a4, a5, a6, a7⟩ := HZ.out W' hSW
    first | (go_simp; done) | exact rfl | (go_simp; rfl) | (go_simp; omega)
  try simp only [Act.put, List.setIfInBounds_toArray, List.set_cons_zero, List.set_cons_succ]
  refine take_call (i := 8) rfl (by kernel_rfl) (by kernel_rfl) (fun K hK => ?_)
  have t0 := thaw_in hk1 0
  have t1 := thaw_in hk1 1
  have t2 := thaw_in hk1 2
  have u0 := cells_in hk1 0
  have u1 := cells_in hk1 1
  have u2 := cells_in hk1 2
  simp at u0 u1 u2
  go_simp
  obtain ⟨V2, hV2⟩ : ∃ W, ((V1.setCell ⟨SB + 1 + 1 + 1, 0, none⟩ (.int .i64 x.key.time)).setCell ⟨SB + 1 + 1 + 1, 1, none⟩ (.int .i64 x.key.source)).setCell ⟨SB + 1 + 1 + 1, 2, none⟩ (.int .i64 x.key.seq) = W := ⟨_, rfl⟩
  have hg3 : SB + 1 + 1 + 1 < W3.heap.size → none' (SB + 1 + 1 + 1) := fun e => by have := Hz3.out; omega
  have fV2 : Fr0 none' W3 V2 := by rw [← hV2]; exact ((fV.setCell hg3 _).setCell hg3 _).setCell hg3 _
  have hk2 : V2.heap[SB + 1 + 1 + 1]? = some (.cells #[.int .i64 x.key.time, .int .i64 x.key.source, .int .i64 x.key.seq] 26 (0, 0)) := by rw [← hV2]; exact heap_set_cell (heap_set_cell (heap_set_cell hk1 _) _) _
  rw [hV2]
  refine hK.out _ _ fV2.drew (fun hS => ?_)
  clear hK K hV2 t0 t1 t2 u0 u1 u2 hg3 fV hk1
  try simp only [Act.put, List.setIfInBounds_toArray, List.set_cons_zero, List.set_cons_succ]
  refine wpAnyH_done (by kernel_rfl) ?_ _
  obtain ⟨V, hV⟩ : ∃ W, V2.drew = W := ⟨_, rfl⟩
  have fV : Fr0 none' W3 V := by rw [← hV]; exact fV2.drew
  have HK := Lib.hid (show V.heap[SB + 1 + 1 + 1]? = some (.cells #[.int .i64 x.key.time, .int .i64 x.key.source, .int .i64 x.key.seq] 26 (0, 0)) by rw [← hV]; exact hk2)
  have HRB := Lib.hid ((fV.block (SB + 1 + 1) (Array.getElem?_eq_some_iff.1 HRB.out).1 id).trans HRB.out)
  have HA := Lib.hid ((fV.block (SB + 1) (Array.getElem?_eq_some_iff.1 HA.out).1 id).trans HA.out)
  have HS := Lib.hid ((fV.block SB (Array.getElem?_eq_some_iff.1 HS.out).1 id).trans HS.out)
  have HF := Lib.hid (HF.out.trans fV)
  rw [hV]
  clear hV hk2 fV2 fV HZ Hz3 hS
  clear hkt
  have a0 := cells_in HA.out 0
  have a1 := cells_in HA.out 1
  have a2 := cells_in HA.out 2
  have a3 := cells_in HA.out 3
  have a4 := cells_in HA.out 4
  have a5 := cells_in HA.out 5
  have a6 := cells_in HA.out 6
  have a7 := cells_in HA.out 7
  have s0 := cells_in HS.out 0
  have s1 := cells_in HS.out 1
  have k0 := cells_in HK.out 0
  have k1 := cells_in HK.out 1
  have k2 := cells_in HK.out 2
  simp at a0 a1 a2 a3 a4 a5 a6 a7 s0 s1 k0 k1 k2
  go_wp2_with fail
  have HKv := HK
  have Hft := Lib.hid (show ∀ k, ft k → k < SB from fun k hk => by have := H.out.lt k hk; have := HSB.out; omega)
  have HFv := HF
  have HP := (H.out.later HF.out).find (nm := (x.key.source, x.key.seq)) HX64.out.1 HX64.out.2
  obtain ⟨X, hX⟩ : ∃ X, (findE (x.key.source, x.key.seq) E).getD zeroEv = X := ⟨_, rfl⟩
  obtain ⟨c, hc⟩ : ∃ c : Bool, (findE (x.key.source, x.key.seq) E).isSome = c := ⟨_, rfl⟩
  rw [hX, hc] at HP
  have HX := Lib.hid hX
  have Hc := Lib.hid hc
  unfold evV at HP
  refine HP.mono ?_
  rintro e w5 ⟨rfl, hf5⟩
  clear a0 a1 a2 a3 a4 a5 a6 a7 s0 s1 k0 k1 k2
  have HK := Lib.hid ((hf5.block (SB + 1 + 1 + 1) (Array.getElem?_eq_some_iff.1 HK.out).1 id).trans HK.out)
  have HRB := Lib.hid ((hf5.block (SB + 1 + 1) (Array.getElem?_eq_some_iff.1 HRB.out).1 id).trans HRB.out)
  have HA := Lib.hid ((hf5.block (SB + 1) (Array.getElem?_eq_some_iff.1 HA.out).1 id).trans HA.out)
  have HS := Lib.hid ((hf5.block SB (Array.getElem?_eq_some_iff.1 HS.out).1 id).trans HS.out)
  have F5 := Lib.hid (show Fr0 none' w w5 from HF.out.trans hf5)
  clear HP hf5 hc hX
  obtain ⟨XB, hXB⟩ : ∃ b, w5.heap.size = b := ⟨_, rfl⟩
  obtain ⟨V5, hV5⟩ : ∃ W, w5.alloc (.cells #[.int .i64 X.key.time, .int .i64 X.key.source, .int .i64 X.key.seq, .int .i64 X.to, .int .i64 X.value] 28) = W := ⟨_, rfl⟩
  have hf : Fr0 none' w5 V5 := by rw [← hV5]; exact (Fr0.refl _ _).alloc _
  have HXB := Lib.hid (show V5.heap[XB]? = some (.cells (cev X).toArray 28 (0, 0)) by rw [← hV5, ← hXB]; exact World.alloc_heap_new _ _)
  have HKb := Lib.hid (show SB + 1 + 1 + 1 < XB by rw [← hXB]; exact (Array.getElem?_eq_some_iff.1 HK.out).1)
  have HK := Lib.hid ((hf.block (SB + 1 + 1 + 1) (Array.getElem?_eq_some_iff.1 HK.out).1 id).trans HK.out)
  have HRB := Lib.hid ((hf.block (SB + 1 + 1) (Array.getElem?_eq_some_iff.1 HRB.out).1 id).trans HRB.out)
  have HA := Lib.hid ((hf.block (SB + 1) (Array.getElem?_eq_some_iff.1 HA.out).1 id).trans HA.out)
  have HS := Lib.hid ((hf.block SB (Array.getElem?_eq_some_iff.1 HS.out).1 id).trans HS.out)
  have F6 := Lib.hid (F5.out.trans hf)
  clear hf
  have a0 := cells_in HA.out 0
  have a1 := cells_in HA.out 1
  have a2 := cells_in HA.out 2
  have a3 := cells_in HA.out 3
  have a4 := cells_in HA.out 4
  have a5 := cells_in HA.out 5
  have a6 := cells_in HA.out 6
  have a7 := cells_in HA.out 7
  have s0 := cells_in HS.out 0
  have s1 := cells_in HS.out 1
  have k0 := cells_in HK.out 0
  have k1 := cells_in HK.out 1
  have k2 := cells_in HK.out 2
  simp at a0 a1 a2 a3 a4 a5 a6 a7 s0 s1 k0 k1 k2
  subst hV5
  go_wp2_with fail
  have hPr := rFind_any (cap := rc) (n : Int) E (HR.out.1.later F6.out) Hm.out (by omega) (x.key.source, x.key.seq)
  rw [show (⟨⟨0, 0, 0⟩, 0, 0⟩ : Ev) = zeroEv from rfl, HX.out, Hc.out] at hPr
  unfold evV at hPr
  refine hPr.mono ?_
  rintro e w6 ⟨rfl, hf⟩
  clear a0 a1 a2 a3 a4 a5 a6 a7 s0 s1 k0 k1 k2
  have HK := Lib.hid ((hf.block (SB + 1 + 1 + 1) (Array.getElem?_eq_some_iff.1 HK.out).1 id).trans HK.out)
  have HRB := Lib.hid ((hf.block (SB + 1 + 1) (Array.getElem?_eq_some_iff.1 HRB.out).1 id).trans HRB.out)
  have HA := Lib.hid ((hf.block (SB + 1) (Array.getElem?_eq_some_iff.1 HA.out).1 id).trans HA.out)
  have HS := Lib.hid ((hf.block SB (Array.getElem?_eq_some_iff.1 HS.out).1 id).trans HS.out)
  have HXB := Lib.hid ((hf.block XB (Array.getElem?_eq_some_iff.1 HXB.out).1 id).trans HXB.out)
  have F6 := Lib.hid (F6.out.trans hf)
  have HXs := Lib.hid (show XB < w6.heap.size from (Array.getElem?_eq_some_iff.1 HXB.out).1)
  clear hPr hf
  go_wp2_with fail
  obtain ⟨YB, hYB⟩ : ∃ b, w6.heap.size = b := ⟨_, rfl⟩
  obtain ⟨W7, hW7⟩ : ∃ W, w6.alloc (.cells #[.int .i64 X.key.time, .int .i64 X.key.source, .int .i64 X.key.seq, .int .i64 X.to, .int .i64 X.value] 28) = W := ⟨_, rfl⟩
  have hf : Fr0 none' w6 W7 := by rw [← hW7]; exact (Fr0.refl _ _).alloc _
  have HYB := Lib.hid (show W7.heap[YB]? = some (.cells (cev X).toArray 28 (0, 0)) by rw [← hW7, ← hYB]; exact World.alloc_heap_new _ _)
  have HK := Lib.hid ((hf.block (SB + 1 + 1 + 1) (Array.getElem?_eq_some_iff.1 HK.out).1 id).trans HK.out)
  have HRB := Lib.hid ((hf.block (SB + 1 + 1) (Array.getElem?_eq_some_iff.1 HRB.out).1 id).trans HRB.out)
  have HA := Lib.hid ((hf.block (SB + 1) (Array.getElem?_eq_some_iff.1 HA.out).1 id).trans HA.out)
  have HS := Lib.hid ((hf.block SB (Array.getElem?_eq_some_iff.1 HS.out).1 id).trans HS.out)
  have HXB := Lib.hid ((hf.block XB (Array.getElem?_eq_some_iff.1 HXB.out).1 id).trans HXB.out)
  have F7 := Lib.hid (F6.out.trans hf)
  rw [hW7]
  try rw [hYB]
  have HXY := Lib.hid (show SB + 1 + 1 + 1 < XB ∧ XB < YB from ⟨by have := HKb.out; omega, by have := HXs.out; omega⟩)
  clear hf hW7 hYB
  have a0 := cells_in HA.out 0
  have a1 := cells_in HA.out 1
  have a2 := cells_in HA.out 2
  have a3 := cells_in HA.out 3
  have a4 := cells_in HA.out 4
  have a5 := cells_in HA.out 5
  have a6 := cells_in HA.out 6
  have a7 := cells_in HA.out 7
  have s0 := cells_in HS.out 0
  have s1 := cells_in HS.out 1
  have k0 := cells_in HK.out 0
  have k1 := cells_in HK.out 1
  have k2 := cells_in HK.out 2
  simp at a0 a1 a2 a3 a4 a5 a6 a7 s0 s1 k0 k1 k2
  have x0 := cells_in HXB.out 0
  have x1 := cells_in HXB.out 1
  have x2 := cells_in HXB.out 2
  have x3 := cells_in HXB.out 3
  have x4 := cells_in HXB.out 4
  have y0 := cells_in HYB.out 0
  have y1 := cells_in HYB.out 1
  have y2 := cells_in HYB.out 2
  have y3 := cells_in HYB.out 3
  have y4 := cells_in HYB.out 4
  simp [cev] at x0 x1 x2 x3 x4 y0 y1 y2 y3 y4
  go_wp2_with fail
  have HY := Lib.hid (fun (W' : World) (hf : Fr0 (fun k => k = SB + 1 + 1) W7 W') => (show (W'.cell? ⟨SB, 0, none⟩ = some (.int .i64 n) ∧ W'.cell? ⟨SB, 1, none⟩ = some (.slice ra m rc)) ∧ W'.cell? ⟨SB + 1, 7, none⟩ = some (.int .i64 t) ∧ (W'.cell? ⟨SB + 1 + 1 + 1, 0, none⟩ = some (.int .i64 x.key.time) ∧ W'.cell? ⟨SB + 1 + 1 + 1, 1, none⟩ = some (.int .i64 x.key.source) ∧ W'.cell? ⟨SB + 1 + 1 + 1, 2, none⟩ = some (.int .i64 x.key.seq)) ∧ (W'.cell? ⟨XB, 0, none⟩ = some (.int .i64 X.key.time) ∧ W'.cell? ⟨XB, 1, none⟩ = some (.int .i64 X.key.source) ∧ W'.cell? ⟨XB, 2, none⟩ = some (.int .i64 X.key.seq) ∧ W'.cell? ⟨XB, 3, none⟩ = some (.int .i64 X.to) ∧ W'.cell? ⟨XB, 4, none⟩ = some (.int .i64 X.value)) ∧ W'.cell? ⟨YB, 0, none⟩ = some (.int .i64 X.key.time) ∧ W'.cell? ⟨YB, 1, none⟩ = some (.int .i64 X.key.source) ∧ W'.cell? ⟨YB, 2, none⟩ = some (.int .i64 X.key.seq) ∧ W'.cell? ⟨YB, 3, none⟩ = some (.int .i64 X.to) ∧ W'.cell? ⟨YB, 4, none⟩ = some (.int .i64 X.value) from by
    have hq := HXY.out
    have h1 := (hf.block (SB + 1) (Array.getElem?_eq_some_iff.1 HA.out).1 (fun e => by omega)).trans HA.out
    have h2 := (hf.block SB (Array.getElem?_eq_some_iff.1 HS.out).1 (fun e => by omega)).trans HS.out
    have h3 := (hf.block (SB + 1 + 1 + 1) (Array.getElem?_eq_some_iff.1 HK.out).1 (fun e => by omega)).trans HK.out
    have h4 := (hf.block XB (Array.getElem?_eq_some_iff.1 HXB.out).1 (fun e => by omega)).trans HXB.out
    have h5 := (hf.block YB (Array.getElem?_eq_some_iff.1 HYB.out).1 (fun e => by omega)).trans HYB.out
    refine ⟨⟨?_, ?_⟩, ?_, ⟨?_, ?_, ?_⟩, ⟨?_, ?_, ?_, ?_, ?_⟩, ?_, ?_, ?_, ?_, ?_⟩
    · rw [cells_in h2]; rfl
    · rw [cells_in h2]; rfl
    · rw [cells_in h1]; rfl
    · rw [cells_in h3]; rfl
    · rw [cells_in h3]; rfl
    · rw [cells_in h3]; rfl
    iterate 5 (· rw [cells_in h4]; rfl)
    iterate 5 (· rw [cells_in h5]; rfl)))
  have HQ7 := Lib.hid (H.out.later F7.out)
  have HRE := Lib.hid (HR.out.1.later F7.out)
  have hn7 : Fr0 none' W7 W7.drew := (Fr0.refl none' W7).drew
  have hgl : ((geE x.key E).take t.toNat).length ≤ 256 := by
    have h1 : (geE x.key E).length ≤ E.length := List.length_filter_le _ _
    have := Hm.out
    rw [List.length_take]
    omega
  have hrl := rdy_len t E 17
  have HF1 := Lib.hid (fun (W : World) (hf : Fr0 none' W7 W) => (HQ7.out.later hf).fromZ x.key t)
  have HF2 := Lib.hid (fun (W : World) (hf : Fr0 none' W7 W) => rFrom_any (cap := rc) (n : Int) E (HRE.out.later hf) Hm.out (by omega) x.key t)
  have HY1 := Lib.hid (fun (W : World) (hf : Fr0 none' W7 W) => (HQ7.out.later hf).ready t)
  have HY2 := Lib.hid (fun (W : World) (hf : Fr0 none' W7 W) => rReady_any (cap := rc) (n : Int) E (HRE.out.later hf) Hm.out (by omega) t)
  obtain ⟨G, hG⟩ : ∃ G, (geE x.key E).take t.toNat = G := ⟨_, rfl⟩
  obtain ⟨D, hD⟩ : ∃ D, rdyE t E 17 = D := ⟨_, rfl⟩
  rw [hG] at HF1 HF2 hgl
  rw [hD] at HY1 HY2 hrl
  obtain ⟨gl, hgn⟩ : ∃ g, G.length = g := ⟨_, rfl⟩
  obtain ⟨dl, hdn⟩ : ∃ g, D.length = g := ⟨_, rfl⟩
  rw [hgn] at HF1 HF2 hgl
  rw [hdn] at HY1 HY2 hrl
  have Hgn := Lib.hid hgn
  have Hdn := Lib.hid hdn
  clear hG hD hgn hdn
  refine wp_region_held_drew (S := fun W' => Fr0 (fun k => k = SB + 1 + 1) W7 W') (by kernel_rfl) ((Fr0.refl _ W7).drew) (fun hHeld => ?_)
  refine take_on (i := 0) (v := .pointer (some ⟨qb, 0, none⟩)) rfl (by kernel_rfl) (by kernel_rfl) (by kernel_rfl) (fun _ _ _ h => h) (by kernel_rfl) (fun W' hSW => ?_) (by assumption) ?_
  · obtain ⟨⟨s0, s1⟩, a7, ⟨k0, k1, k2⟩, ⟨x0, x1, x2, x3, x4⟩, y0, y1, y2, y3, y4⟩ := HY.out W' hSW
    first | (go_simp; done) | exact rfl | (go_simp; rfl) | (go_simp; omega)
  try simp only [Act.put, List.setIfInBounds_toArray, List.set_cons_zero, List.set_cons_succ]
  refine take_on (i := 1) (v := .agg #[.int .i64 n, .slice ra m rc]) rfl (by kernel_rfl) (by kernel_rfl) (by kernel_rfl) (fun _ _ _ h => h) (by kernel_rfl) (fun W' hSW => ?_) (by assumption) ?_
  · obtain ⟨⟨s0, s1⟩, a7, ⟨k0, k1, k2⟩, ⟨x0, x1, x2, x3, x4⟩, y0, y1, y2, y3, y4⟩ := HY.out W' hSW
    first | (go_simp; done) | exact rfl | (go_simp; rfl) | (go_simp; omega)
  try simp only [Act.put, List.setIfInBounds_toArray, List.set_cons_zero, List.set_cons_succ]
  refine take_on (i := 2) (v := .agg #[.int .i64 X.key.time, .int .i64 X.key.source, .int .i64 X.key.seq, .int .i64 X.to, .int .i64 X.value]) rfl (by kernel_rfl) (by kernel_rfl) (by kernel_rfl) (fun _ _ _ h => h) (by kernel_rfl) (fun W' hSW => ?_) (by assumption) ?_
  · obtain ⟨⟨s0, s1⟩, a7, ⟨k0, k1, k2⟩, ⟨x0, x1, x2, x3, x4⟩, y0, y1, y2, y3, y4⟩ := HY.out W' hSW
    first | (go_simp; done) | exact rfl | (go_simp; rfl) | (go_simp; omega)
  try simp only [Act.put, List.setIfInBounds_toArray, List.set_cons_zero, List.set_cons_succ]
  refine take_on (i := 3) (v := .agg #[.int .i64 X.key.time, .int .i64 X.key.source, .int .i64 X.key.seq, .int .i64 X.to, .int .i64 X.value]) rfl (by kernel_rfl) (by kernel_rfl) (by kernel_rfl) (fun _ _ _ h => h) (by kernel_rfl) (fun W' hSW => ?_) (by assumption) ?_
  · obtain ⟨⟨s0, s1⟩, a7, ⟨k0, k1, k2⟩, ⟨x0, x1, x2, x3, x4⟩, y0, y1, y2, y3, y4⟩ := HY.out W' hSW
    first | (go_simp; done) | exact rfl | (go_simp; rfl) | (go_simp; omega)
  try simp only [Act.put, List.setIfInBounds_toArray, List.set_cons_zero, List.set_cons_succ]
  refine take_on (i := 4) (v := .bool true) rfl (by kernel_rfl) (by kernel_rfl) (by kernel_rfl) (fun _ _ _ h => h) (by kernel_rfl) (fun W' hSW => ?_) (by assumption) ?_
  · obtain ⟨⟨s0, s1⟩, a7, ⟨k0, k1, k2⟩, ⟨x0, x1, x2, x3, x4⟩, y0, y1, y2, y3, y4⟩ := HY.out W' hSW
    first | (go_simp; done) | exact rfl | (go_simp; rfl) | (go_simp; omega)
  try simp only [Act.put, List.setIfInBounds_toArray, List.set_cons_zero, List.set_cons_succ]
  refine take_on (i := 5) (v := .bool true) rfl (by kernel_rfl) (by kernel_rfl) (by kernel_rfl) (fun _ _ _ h => h) (by kernel_rfl) (fun W' hSW => ?_) (by assumption) ?_
  · obtain ⟨⟨s0, s1⟩, a7, ⟨k0, k1, k2⟩, ⟨x0, x1, x2, x3, x4⟩, y0, y1, y2, y3, y4⟩ := HY.out W' hSW
    first | (go_simp; done) | exact rfl | (go_simp; rfl) | (go_simp; omega)
  try simp only [Act.put, List.setIfInBounds_toArray, List.set_cons_zero, List.set_cons_succ]
  refine take_on (i := 6) (v := .bool c) rfl (by kernel_rfl) (by kernel_rfl) (by kernel_rfl) (fun _ _ _ h => h) (by kernel_rfl) (fun W' hSW => ?_) (by assumption) ?_
  · obtain ⟨⟨s0, s1⟩, a7, ⟨k0, k1, k2⟩, ⟨x0, x1, x2, x3, x4⟩, y0, y1, y2, y3, y4⟩ := HY.out W' hSW
    first | (go_simp; done) | exact rfl | (go_simp; rfl) | (go_simp; omega)
  try simp only [Act.put, List.setIfInBounds_toArray, List.set_cons_zero, List.set_cons_succ]
  refine take_on (i := 7) (v := .bool c) rfl (by kernel_rfl) (by kernel_rfl) (by kernel_rfl) (fun _ _ _ h => h) (by kernel_rfl) (fun W' hSW => ?_) (by assumption) ?_
  · obtain ⟨⟨s0, s1⟩, a7, ⟨k0, k1, k2⟩, ⟨x0, x1, x2, x3, x4⟩, y0, y1, y2, y3, y4⟩ := HY.out W' hSW
    first | (go_simp; done) | exact rfl | (go_simp; rfl) | (go_simp; omega)
  try simp only [Act.put, List.setIfInBounds_toArray, List.set_cons_zero, List.set_cons_succ]
  refine take_on (i := 8) (v := .bool true) rfl (by kernel_rfl) (by kernel_rfl) (by kernel_rfl) (fun _ _ _ h => h) (by kernel_rfl) (fun W' hSW => ?_) (by assumption) ?_
  · obtain ⟨⟨s0, s1⟩, a7, ⟨k0, k1, k2⟩, ⟨x0, x1, x2, x3, x4⟩, y0, y1, y2, y3, y4⟩ := HY.out W' hSW
    first | (go_simp; done) | exact rfl | (go_simp; rfl) | (go_simp; omega)
  try simp only [Act.put, List.setIfInBounds_toArray, List.set_cons_zero, List.set_cons_succ]
  refine take_on (i := 9) (v := .bool true) rfl (by kernel_rfl) (by kernel_rfl) (by kernel_rfl) (fun _ _ _ h => h) (by kernel_rfl) (fun W' hSW => ?_) (by assumption) ?_
  · obtain ⟨⟨s0, s1⟩, a7, ⟨k0, k1, k2⟩, ⟨x0, x1, x2, x3, x4⟩, y0, y1, y2, y3, y4⟩ := HY.out W' hSW
    first | (go_simp; done) | exact rfl | (go_simp; rfl) | (go_simp; omega)
  try simp only [Act.put, List.setIfInBounds_toArray, List.set_cons_zero, List.set_cons_succ]
  refine take_on (i := 10) (v := .bool true) rfl (by kernel_rfl) (by kernel_rfl) (by kernel_rfl) (fun _ _ _ h => h) (by kernel_rfl) (fun W' hSW => ?_) (by assumption) ?_
  · obtain ⟨⟨s0, s1⟩, a7, ⟨k0, k1, k2⟩, ⟨x0, x1, x2, x3, x4⟩, y0, y1, y2, y3, y4⟩ := HY.out W' hSW
    first | (go_simp; done) | exact rfl | (go_simp; rfl) | (go_simp; omega)
  try simp only [Act.put, List.setIfInBounds_toArray, List.set_cons_zero, List.set_cons_succ]
  refine take_on (i := 11) (v := .pointer (some ⟨qb, 0, none⟩)) rfl (by kernel_rfl) (by kernel_rfl) (by kernel_rfl) (fun _ _ _ h => h) (by kernel_rfl) (fun W' hSW => ?_) (by assumption) ?_
  · obtain ⟨⟨s0, s1⟩, a7, ⟨k0, k1, k2⟩, ⟨x0, x1, x2, x3, x4⟩, y0, y1, y2, y3, y4⟩ := HY.out W' hSW
    first | (go_simp; done) | exact rfl | (go_simp; rfl) | (go_simp; omega)
  try simp only [Act.put, List.setIfInBounds_toArray, List.set_cons_zero, List.set_cons_succ]
  refine take_on (i := 12) (v := .agg #[.int .i64 x.key.time, .int .i64 x.key.source, .int .i64 x.key.seq]) rfl (by kernel_rfl) (by kernel_rfl) (by kernel_rfl) (fun _ _ _ h => h) (by kernel_rfl) (fun W' hSW => ?_) (by assumption) ?_
  · obtain ⟨⟨s0, s1⟩, a7, ⟨k0, k1, k2⟩, ⟨x0, x1, x2, x3, x4⟩, y0, y1, y2, y3, y4⟩ := HY.out W' hSW
    first | (go_simp; done) | exact rfl | (go_simp; rfl) | (go_simp; omega)
  try simp only [Act.put, List.setIfInBounds_toArray, List.set_cons_zero, List.set_cons_succ]
  refine take_on (i := 13) (v := .pointer (some ⟨SB + 1, 7, none⟩)) rfl (by kernel_rfl) (by kernel_rfl) (by kernel_rfl) (fun _ _ _ h => h) (by kernel_rfl) (fun W' hSW => ?_) (by assumption) ?_
  · obtain ⟨⟨s0, s1⟩, a7, ⟨k0, k1, k2⟩, ⟨x0, x1, x2, x3, x4⟩, y0, y1, y2, y3, y4⟩ := HY.out W' hSW
    first | (go_simp; done) | exact rfl | (go_simp; rfl) | (go_simp; omega)
  try simp only [Act.put, List.setIfInBounds_toArray, List.set_cons_zero, List.set_cons_succ]
  refine take_on (i := 14) (v := .int .i64 t) rfl (by kernel_rfl) (by kernel_rfl) (by kernel_rfl) (fun _ _ _ h => h) (by kernel_rfl) (fun W' hSW => ?_) (by assumption) ?_
  · obtain ⟨⟨s0, s1⟩, a7, ⟨k0, k1, k2⟩, ⟨x0, x1, x2, x3, x4⟩, y0, y1, y2, y3, y4⟩ := HY.out W' hSW
    first | (go_simp; done) | exact rfl | (go_simp; rfl) | (go_simp; omega)
  try simp only [Act.put, List.setIfInBounds_toArray, List.set_cons_zero, List.set_cons_succ]
  refine take_on (i := 16) (v := .agg #[.int .i64 n, .slice ra m rc]) rfl (by kernel_rfl) (by kernel_rfl) (by kernel_rfl) (fun _ _ _ h => h) (by kernel_rfl) (fun W' hSW => ?_) (by assumption) ?_
  · obtain ⟨⟨s0, s1⟩, a7, ⟨k0, k1, k2⟩, ⟨x0, x1, x2, x3, x4⟩, y0, y1, y2, y3, y4⟩ := HY.out W' hSW
    first | (go_simp; done) | exact rfl | (go_simp; rfl) | (go_simp; omega)
  try simp only [Act.put, List.setIfInBounds_toArray, List.set_cons_zero, List.set_cons_succ]
  refine take_on (i := 17) (v := .agg #[.int .i64 x.key.time, .int .i64 x.key.source, .int .i64 x.key.seq]) rfl (by kernel_rfl) (by kernel_rfl) (by kernel_rfl) (fun _ _ _ h => h) (by kernel_rfl) (fun W' hSW => ?_) (by assumption) ?_
  · obtain ⟨⟨s0, s1⟩, a7, ⟨k0, k1, k2⟩, ⟨x0, x1, x2, x3, x4⟩, y0, y1, y2, y3, y4⟩ := HY.out W' hSW
    first | (go_simp; done) | exact rfl | (go_simp; rfl) | (go_simp; omega)
  try simp only [Act.put, List.setIfInBounds_toArray, List.set_cons_zero, List.set_cons_succ]
  refine take_on (i := 18) (v := .pointer (some ⟨SB + 1, 7, none⟩)) rfl (by kernel_rfl) (by kernel_rfl) (by kernel_rfl) (fun _ _ _ h => h) (by kernel_rfl) (fun W' hSW => ?_) (by assumption) ?_
  · obtain ⟨⟨s0, s1⟩, a7, ⟨k0, k1, k2⟩, ⟨x0, x1, x2, x3, x4⟩, y0, y1, y2, y3, y4⟩ := HY.out W' hSW
    first | (go_simp; done) | exact rfl | (go_simp; rfl) | (go_simp; omega)
  try simp only [Act.put, List.setIfInBounds_toArray, List.set_cons_zero, List.set_cons_succ]
  refine take_on (i := 19) (v := .int .i64 t) rfl (by kernel_rfl) (by kernel_rfl) (by kernel_rfl) (fun _ _ _ h => h) (by kernel_rfl) (fun W' hSW => ?_) (by assumption) ?_
  · obtain ⟨⟨s0, s1⟩, a7, ⟨k0, k1, k2⟩, ⟨x0, x1, x2, x3, x4⟩, y0, y1, y2, y3, y4⟩ := HY.out W' hSW
    first | (go_simp; done) | exact rfl | (go_simp; rfl) | (go_simp; omega)
  try simp only [Act.put, List.setIfInBounds_toArray, List.set_cons_zero, List.set_cons_succ]
  refine take_call (i := 15) rfl (by kernel_rfl) (by kernel_rfl) (fun K hK => ?_)
  go_simp
  refine (HF1.out _ hn7).mono ?_
  rintro e w8 ⟨v, rfl, hrow, hf⟩
  obtain ⟨a1, c1, rfl, _, he1⟩ := EsIn.of_own hrow
  clear hrow
  have f8 : Fr0 none' W7 w8 := hn7.trans hf
  clear hf
  go_wp2_with fail
  refine hK.out _ _ (f8.mono (fun _ _ h => h.elim)) (fun hS => ?_)
  clear hK K
  try simp only [Act.put, List.setIfInBounds_toArray, List.set_cons_zero, List.set_cons_succ]
  refine take_call (i := 20) rfl (by kernel_rfl) (by kernel_rfl) (fun K hK => ?_)
  go_simp
  refine (HF2.out _ f8).mono ?_
  rintro e w9 ⟨v, rfl, hrow, hf⟩
  obtain ⟨a2, c2, rfl, _, he2⟩ := EsIn.of_own hrow
  have he1 := he1.later hf
  clear hrow
  have f9 : Fr0 none' W7 w9 := f8.trans hf
  clear hf
  go_wp2_with fail
  refine hK.out _ _ (f9.mono (fun _ _ h => h.elim)) (fun hS => ?_)
  clear hK K
  try simp only [Act.put, List.setIfInBounds_toArray, List.set_cons_zero, List.set_cons_succ]
  refine take_call (i := 21) rfl (by kernel_rfl) (by kernel_rfl) (fun K hK => ?_)
  go_simp
  refine (sameEs_any a1 a2 _ _ c1 c2 G G _ Hgn.out Hgn.out (by omega) (by omega) he1 he2).mono ?_
  rintro e wa ⟨hr, hf⟩
  rw [decide_eq_true rfl] at hr
  subst hr
  have fa : Fr0 none' W7 wa := f9.trans hf
  clear hf
  go_wp2_with fail
  refine hK.out _ _ (fa.mono (fun _ _ h => h.elim)) (fun hS => ?_)
  clear hK K
  try simp only [Act.put, List.setIfInBounds_toArray, List.set_cons_zero, List.set_cons_succ]
  refine take_on (i := 22) (v := .bool true) rfl (by kernel_rfl) (by kernel_rfl) (by kernel_rfl) (fun _ _ _ h => h) (by kernel_rfl) (fun W' hSW => ?_) (by assumption) ?_
  · obtain ⟨⟨s0, s1⟩, a7, ⟨k0, k1, k2⟩, ⟨x0, x1, x2, x3, x4⟩, y0, y1, y2, y3, y4⟩ := HY.out W' hSW
    first | (go_simp; done) | exact rfl | (go_simp; rfl) | (go_simp; omega)
  try simp only [Act.put, List.setIfInBounds_toArray, List.set_cons_zero, List.set_cons_succ]
  refine take_on (i := 23) (v := .bool true) rfl (by kernel_rfl) (by kernel_rfl) (by kernel_rfl) (fun _ _ _ h => h) (by kernel_rfl) (fun W' hSW => ?_) (by assumption) ?_
  · obtain ⟨⟨s0, s1⟩, a7, ⟨k0, k1, k2⟩, ⟨x0, x1, x2, x3, x4⟩, y0, y1, y2, y3, y4⟩ := HY.out W' hSW
    first | (go_simp; done) | exact rfl | (go_simp; rfl) | (go_simp; omega)
  try simp only [Act.put, List.setIfInBounds_toArray, List.set_cons_zero, List.set_cons_succ]
  refine take_on (i := 24) (v := .pointer (some ⟨qb, 0, none⟩)) rfl (by kernel_rfl) (by kernel_rfl) (by kernel_rfl) (fun _ _ _ h => h) (by kernel_rfl) (fun W' hSW => ?_) (by assumption) ?_
  · obtain ⟨⟨s0, s1⟩, a7, ⟨k0, k1, k2⟩, ⟨x0, x1, x2, x3, x4⟩, y0, y1, y2, y3, y4⟩ := HY.out W' hSW
    first | (go_simp; done) | exact rfl | (go_simp; rfl) | (go_simp; omega)
  try simp only [Act.put, List.setIfInBounds_toArray, List.set_cons_zero, List.set_cons_succ]
  refine take_on (i := 25) (v := .pointer (some ⟨SB + 1, 7, none⟩)) rfl (by kernel_rfl) (by kernel_rfl) (by kernel_rfl) (fun _ _ _ h => h) (by kernel_rfl) (fun W' hSW => ?_) (by assumption) ?_
  · obtain ⟨⟨s0, s1⟩, a7, ⟨k0, k1, k2⟩, ⟨x0, x1, x2, x3, x4⟩, y0, y1, y2, y3, y4⟩ := HY.out W' hSW
    first | (go_simp; done) | exact rfl | (go_simp; rfl) | (go_simp; omega)
  try simp only [Act.put, List.setIfInBounds_toArray, List.set_cons_zero, List.set_cons_succ]
  refine take_on (i := 26) (v := .int .i64 t) rfl (by kernel_rfl) (by kernel_rfl) (by kernel_rfl) (fun _ _ _ h => h) (by kernel_rfl) (fun W' hSW => ?_) (by assumption) ?_
  · obtain ⟨⟨s0, s1⟩, a7, ⟨k0, k1, k2⟩, ⟨x0, x1, x2, x3, x4⟩, y0, y1, y2, y3, y4⟩ := HY.out W' hSW
    first | (go_simp; done) | exact rfl | (go_simp; rfl) | (go_simp; omega)
  try simp only [Act.put, List.setIfInBounds_toArray, List.set_cons_zero, List.set_cons_succ]
  refine take_on (i := 28) (v := .agg #[.int .i64 n, .slice ra m rc]) rfl (by kernel_rfl) (by kernel_rfl) (by kernel_rfl) (fun _ _ _ h => h) (by kernel_rfl) (fun W' hSW => ?_) (by assumption) ?_
  · obtain ⟨⟨s0, s1⟩, a7, ⟨k0, k1, k2⟩, ⟨x0, x1, x2, x3, x4⟩, y0, y1, y2, y3, y4⟩ := HY.out W' hSW
    first | (go_simp; done) | exact rfl | (go_simp; rfl) | (go_simp; omega)
  try simp only [Act.put, List.setIfInBounds_toArray, List.set_cons_zero, List.set_cons_succ]
  refine take_on (i := 29) (v := .pointer (some ⟨SB + 1, 7, none⟩)) rfl (by kernel_rfl) (by kernel_rfl) (by kernel_rfl) (fun _ _ _ h => h) (by kernel_rfl) (fun W' hSW => ?_) (by assumption) ?_
  · obtain ⟨⟨s0, s1⟩, a7, ⟨k0, k1, k2⟩, ⟨x0, x1, x2, x3, x4⟩, y0, y1, y2, y3, y4⟩ := HY.out W' hSW
    first | (go_simp; done) | exact rfl | (go_simp; rfl) | (go_simp; omega)
  try simp only [Act.put, List.setIfInBounds_toArray, List.set_cons_zero, List.set_cons_succ]
  refine take_on (i := 30) (v := .int .i64 t) rfl (by kernel_rfl) (by kernel_rfl) (by kernel_rfl) (fun _ _ _ h => h) (by kernel_rfl) (fun W' hSW => ?_) (by assumption) ?_
  · obtain ⟨⟨s0, s1⟩, a7, ⟨k0, k1, k2⟩, ⟨x0, x1, x2, x3, x4⟩, y0, y1, y2, y3, y4⟩ := HY.out W' hSW
    first | (go_simp; done) | exact rfl | (go_simp; rfl) | (go_simp; omega)
  try simp only [Act.put, List.setIfInBounds_toArray, List.set_cons_zero, List.set_cons_succ]
  refine take_call (i := 27) rfl (by kernel_rfl) (by kernel_rfl) (fun K hK => ?_)
  go_simp
  refine (HY1.out _ fa).mono ?_
  rintro e wb ⟨v, rfl, hrow, hf⟩
  obtain ⟨a3, c3, rfl, _, he3⟩ := PsIn.of_own hrow
  clear hrow
  have fb : Fr0 none' W7 wb := fa.trans hf
  clear hf
  go_wp2_with fail
  refine hK.out _ _ (fb.mono (fun _ _ h => h.elim)) (fun hS => ?_)
  clear hK K
  try simp only [Act.put, List.setIfInBounds_toArray, List.set_cons_zero, List.set_cons_succ]
  refine take_call (i := 31) rfl (by kernel_rfl) (by kernel_rfl) (fun K hK => ?_)
  go_simp
  refine (HY2.out _ fb).mono ?_
  rintro e wc ⟨v, rfl, hrow, hf⟩
  obtain ⟨a4, c4, rfl, _, he4⟩ := PsIn.of_own hrow
  have he3 := he3.later hf
  clear hrow
  have fc : Fr0 none' W7 wc := fb.trans hf
  clear hf
  go_wp2_with fail
  refine hK.out _ _ (fc.mono (fun _ _ h => h.elim)) (fun hS => ?_)
  clear hK K
  try simp only [Act.put, List.setIfInBounds_toArray, List.set_cons_zero, List.set_cons_succ]
  refine take_call (i := 32) rfl (by kernel_rfl) (by kernel_rfl) (fun K hK => ?_)
  go_simp
  refine (sameP_any a3 a4 _ c3 c4 D _ Hdn.out (by omega) he3 he4).mono ?_
  rintro e wd ⟨rfl, hf⟩
  have fd : Fr0 none' W7 wd := fc.trans hf
  clear hf
  go_wp2_with fail
  refine hK.out _ _ (fd.mono (fun _ _ h => h.elim)) (fun hS => ?_)
  clear hK K
  try simp only [Act.put, List.setIfInBounds_toArray, List.set_cons_zero, List.set_cons_succ]
  refine take_on (i := 33) (v := .bool true) rfl (by kernel_rfl) (by kernel_rfl) (by kernel_rfl) (fun _ _ _ h => h) (by kernel_rfl) (fun W' hSW => ?_) (by assumption) ?_
  · obtain ⟨⟨s0, s1⟩, a7, ⟨k0, k1, k2⟩, ⟨x0, x1, x2, x3, x4⟩, y0, y1, y2, y3, y4⟩ := HY.out W' hSW
    first | (go_simp; done) | exact rfl | (go_simp; rfl) | (go_simp; omega)
  try simp only [Act.put, List.setIfInBounds_toArray, List.set_cons_zero, List.set_cons_succ]
  refine take_on (i := 34) (v := .pointer (some ⟨qb, 0, none⟩)) rfl (by kernel_rfl) (by kernel_rfl) (by kernel_rfl) (fun _ _ _ h => h) (by kernel_rfl) (fun W' hSW => ?_) (by assumption) ?_
  · obtain ⟨⟨s0, s1⟩, a7, ⟨k0, k1, k2⟩, ⟨x0, x1, x2, x3, x4⟩, y0, y1, y2, y3, y4⟩ := HY.out W' hSW
    first | (go_simp; done) | exact rfl | (go_simp; rfl) | (go_simp; omega)
  try simp only [Act.put, List.setIfInBounds_toArray, List.set_cons_zero, List.set_cons_succ]
  clear hHeld
  have hHeld : Fr0 (fun k => k = SB + 1 + 1) W7 wd := fd.mono (fun _ _ h => h.elim)
  have HRB := Lib.hid ((fd.block (SB + 1 + 1) (Array.getElem?_eq_some_iff.1 HRB.out).1 id).trans HRB.out)
  have t0 := thaw_in HRB.out 0
  have t1 := thaw_in HRB.out 1
  have u0 := cells_in HRB.out 0
  have u1 := cells_in HRB.out 1
  simp at u0 u1
  refine take_call (i := 35) rfl (by kernel_rfl) (by kernel_rfl) (fun K hK => ?_)
  go_simp
  obtain ⟨W9, hW9⟩ : ∃ W, ((wd).setCell ⟨SB + 1 + 1, 0, none⟩ (.int .i64 n)).setCell ⟨SB + 1 + 1, 1, none⟩ (.slice ra m rc) = W := ⟨_, rfl⟩
  have f9 : Fr0 (fun k => k = SB + 1 + 1) (wd) W9 := by rw [← hW9]; exact ((Fr0.refl (fun k => k = SB + 1 + 1) (wd)).setCell (fun _ => rfl) _).setCell (fun _ => rfl) _
  have hb9 : W9.heap[SB + 1 + 1]? = some (.cells #[.int .i64 n, .slice ra m rc] 50 (0, 0)) := by rw [← hW9]; exact heap_set_cell (heap_set_cell HRB.out _) _
  rw [hW9]
  refine hK.out _ _ (hHeld.trans f9) (fun hS => ?_)
  clear hK K hW9 t0 t1 u0 u1
  try simp only [Act.put, List.setIfInBounds_toArray, List.set_cons_zero, List.set_cons_succ]
  refine take_on (i := 36) (v := .bool true) rfl (by kernel_rfl) (by kernel_rfl) (by kernel_rfl) (fun _ _ _ h => h) (by kernel_rfl) (fun W' hSW => ?_) (by assumption) ?_
  · obtain ⟨⟨s0, s1⟩, a7, ⟨k0, k1, k2⟩, ⟨x0, x1, x2, x3, x4⟩, y0, y1, y2, y3, y4⟩ := HY.out W' hSW
    first | (go_simp; done) | exact rfl | (go_simp; rfl) | (go_simp; omega)
  try simp only [Act.put, List.setIfInBounds_toArray, List.set_cons_zero, List.set_cons_succ]
  refine wpAnyH_done (by kernel_rfl) ?_ _
  have f79 : Fr0 (fun k => k = SB + 1 + 1) W7 W9 := hHeld.trans f9
  have r0 := cells_in hb9 0
  have r1 := cells_in hb9 1
  simp at r0 r1
  have HQ9 := Lib.hid (HQ7.out.fr0 f79 (fun k hk e => by have := Hft.out _ hk; omega))
  have F9 := Lib.hid (show Fr0 none' w W9 from F7.out.trans' f79 (fun k hk e => by have := HSB.out; omega))
  clear f79 f9 hHeld hS HY hn7 fd fc fb fa f8
  go_wp2_with fail
  refine bodyPost_ret (v := .tuple #[.pointer (some ⟨qb, 0, none⟩), .agg #[.int .i64 n, .slice ra m rc], .bool true]) (by simp [results, Tryz.results20, go_sem, r0, r1]) rfl ⟨qb, T, E, ft, ra, rc, by rw [Hm.out], HQ9.out, by omega, fun k hk => Or.inl hk, ⟨HR.out.1.later F9.out, HR.out.2.1, fun g o s e => ⟨(HR.out.2.2 g o s e).1, Nat.lt_of_lt_of_le (HR.out.2.2 g o s e).2 F9.out.size⟩⟩, F9.out.mono (fun _ _ h => h.elim), fun g o s e => .inl ⟨o, s, e⟩⟩
end Go.Proofs.YtmcgipilopfgoaaGreat

/-
  EvqTells: acts: putting a list.
-/
namespace Go.Proofs.YtmcgipilopfgoaaGreat
open Go Go.RowKit Go.ChangeMaps
attribute [local go_sem ↓] Go.wp_at_zero Go.wp_at_succ
attribute [local go_sem] Oper.semAt_some wide_fn wide_depth wide_fnR wide_depthR
attribute [local go_sem high] run_eql_ev run_neq_ev

set_option maxRecDepth 100000 in
set_option maxHeartbeats 4000000 in
theorem do_2 {w : World} {qb n T m rc lk lc : Nat} {E : List Ev} {ft : Nat → Prop} {ra la : Option Addr} {kd t : Int} {x : Ev} (h : QIs w qb n T E ft) (hT : T ≤ 1000000) (hr : RsK w n E ra rc ft) (hm : E.length = m) (hkd : 0 ≤ kd ∧ kd < 256)
    (hk : kd % 10 = 2) (L : List Ev) (hL : EsIn w la L) (hlk : L.length = lk) (hk30 : lk ≤ 30) (hlc : lk ≤ lc) (hla : L ≠ [] → ∀ g o s, la = some ⟨g, o, s⟩ → ¬ ft g) :
    Calls Tryz.prog 20 #[.pointer (some ⟨qb, 0, none⟩), .agg #[.int .i64 n, .slice ra m rc], actV kd x la lk lc t] w (DoPost n T w ft ra) := by
  have H := Lib.hid h
  have HR := Lib.hid hr
  have Hm := Lib.hid hm
  have hle := h.le
  have hmrc : m ≤ rc := by have := hr.2.1; rw [hm] at this; exact this
  have hm256 : m ≤ 256 := by omega
  have HLL := Lib.hid hL
  have Hlk := Lib.hid hlk
  have Hla := Lib.hid hla
  clear hL hlk hla
  unfold actV
  clear h hr hle hm
  go_enter Tryz.func20, Tryz.ntmps20
  go_wp2_with fail
  have hkt : kd.tmod 10 = 2 := by rw [Int.tmod_eq_emod_of_nonneg hkd.1]; exact hk
  clear hk
  obtain ⟨SB, hSB⟩ : ∃ B, w.heap.size = B := ⟨_, rfl⟩
  obtain ⟨W1, hW1⟩ : ∃ W, w.alloc (.cells #[.int .i64 n, .slice ra m rc] 50) = W := ⟨_, rfl⟩
  have hs1 : W1.heap[SB]? = some (.cells #[.int .i64 n, .slice ra m rc] 50 (0, 0)) := by rw [← hW1, ← hSB]; exact World.alloc_heap_new w _
  have f1 : Fr0 none' w W1 := by rw [← hW1]; exact (Fr0.refl _ _).alloc _
  have z1 : W1.heap.size = SB + 1 := by rw [← hW1, World.size_alloc, hSB]
  rw [hW1]
  try rw [hSB]
  obtain ⟨W2, hW2⟩ : ∃ W, W1.alloc (.cells #[.int .u8 kd, .int .i64 x.key.time, .int .i64 x.key.source, .int .i64 x.key.seq, .int .i64 x.to, .int .i64 x.value, .slice la lk lc, .int .i64 t] 32) = W := ⟨_, rfl⟩
  have f2 : Fr0 none' W1 W2 := by rw [← hW2]; exact (Fr0.refl _ _).alloc _
  have hx2 : W2.heap[SB + 1]? = some (.cells #[.int .u8 kd, .int .i64 x.key.time, .int .i64 x.key.source, .int .i64 x.key.seq, .int .i64 x.to, .int .i64 x.value, .slice la lk lc, .int .i64 t] 32 (0, 0)) := by rw [← hW2, ← z1]; exact World.alloc_heap_new W1 _
  have z2 : W2.heap.size = SB + 1 + 1 := by rw [← hW2, World.size_alloc, z1]
  rw [hW2]
  obtain ⟨W3, hW3⟩ : ∃ W, W2.alloc (.cells #[.int .i64 0, .slice none 0 0] 50) = W := ⟨_, rfl⟩
  have f3 : Fr0 none' W2 W3 := by rw [← hW3]; exact (Fr0.refl _ _).alloc _
  have HRB := Lib.hid (show W3.heap[SB + 1 + 1]? = some (.cells #[.int .i64 0, .slice none 0 0] 50 (0, 0)) by rw [← hW3, ← z2]; exact World.alloc_heap_new W2 _)
  have HA := Lib.hid ((f3.block (SB + 1) (Array.getElem?_eq_some_iff.1 hx2).1 id).trans hx2)
  have HS := Lib.hid (((f2.trans f3).block SB (Array.getElem?_eq_some_iff.1 hs1).1 id).trans hs1)
  have HF := Lib.hid ((f1.trans f2).trans f3)
  have HSB := Lib.hid hSB
  have z3 : W3.heap.size = SB + 1 + 1 + 1 := by rw [← hW3, World.size_alloc, z2]
  have Hz3 := Lib.hid z3
  rw [hW3]
  clear hW1 hSB hs1 f1 hW2 f2 f3 hW3 z1 z2 hx2 z3
  have HZ := Lib.hid (fun (W' : World) (hf : Fr0 none' W3 W') => (show W'.cell? ⟨SB + 1, 0, none⟩ = some (.int .u8 kd) ∧ W'.cell? ⟨SB + 1, 1, none⟩ = some (.int .i64 x.key.time) ∧ W'.cell? ⟨SB + 1, 2, none⟩ = some (.int .i64 x.key.source) ∧ W'.cell? ⟨SB + 1, 3, none⟩ = some (.int .i64 x.key.seq) ∧ W'.cell? ⟨SB + 1, 4, none⟩ = some (.int .i64 x.to) ∧ W'.cell? ⟨SB + 1, 5, none⟩ = some (.int .i64 x.value) ∧ W'.cell? ⟨SB + 1, 6, none⟩ = some (.slice la lk lc) ∧ W'.cell? ⟨SB + 1, 7, none⟩ = some (.int .i64 t) from by
    have h1 := (hf.block (SB + 1) (Array.getElem?_eq_some_iff.1 HA.out).1 id).trans HA.out
    refine ⟨?_, ?_, ?_, ?_, ?_, ?_, ?_, ?_⟩ <;> (rw [cells_in h1]; rfl)))
  refine wp_region_held_drew (S := fun W' => Fr0 none' W3 W') (by kernel_rfl) ((Fr0.refl _ W3).drew) (fun hHeld => ?_)
  refine take_on (i := 0) (v := .pointer (some ⟨SB + 1, 0, none⟩)) rfl (by kernel_rfl) (by kernel_rfl) (by kernel_rfl) (fun _ _ _ h => h) (by kernel_rfl) (fun W' hSW => ?_) (by assumption) ?_
  · obtain ⟨a0, a1, a2, a3, a4, a5, a6, a7⟩ := HZ.out W' hSW
    first | (go_simp; done) | exact rfl | (go_simp; rfl) | (go_simp; omega)
  try simp only [Act.put, List.setIfInBounds_toArray, List.set_cons_zero, List.set_cons_succ]
  refine take_on (i := 1) (v := .int .u8 kd) rfl (by kernel_rfl) (by kernel_rfl) (by kernel_rfl) (fun _ _ _ h => h) (by kernel_rfl) (fun W' hSW => ?_) (by assumption) ?_
  · obtain ⟨a0, a1, a2, a3, a4, a5, a6, a7⟩ := HZ.out W' hSW
    first | (go_simp; done) | exact rfl | (go_simp; rfl) | (go_simp; omega)
  try simp only [Act.put, List.setIfInBounds_toArray, List.set_cons_zero, List.set_cons_succ]
  refine take_on (i := 2) (v := .int .u8 2) rfl (by kernel_rfl) (by kernel_rfl) (by kernel_rfl) (fun _ _ _ h => h) (by kernel_rfl) (fun W' hSW => ?_) (by assumption) ?_
  · obtain ⟨a0, a1, a2, a3, a4, a5, a6, a7⟩ := HZ.out W' hSW
    first | (go_simp; done) | exact rfl | (go_simp; rfl) | (go_simp; omega)
  try simp only [Act.put, List.setIfInBounds_toArray, List.set_cons_zero, List.set_cons_succ]
  refine take_on (i := 3) (v := .pointer (some ⟨SB + 1, 1, none⟩)) rfl (by kernel_rfl) (by kernel_rfl) (by kernel_rfl) (fun _ _ _ h => h) (by kernel_rfl) (fun W' hSW => ?_) (by assumption) ?_
  · obtain ⟨a0, a1, a2, a3, a4, a5, a6, a7⟩ := HZ.out W' hSW
    first | (go_simp; done) | exact rfl | (go_simp; rfl) | (go_simp; omega)
  try simp only [Act.put, List.setIfInBounds_toArray, List.set_cons_zero, List.set_cons_succ]
  refine take_on (i := 4) (v := .pointer (some ⟨SB + 1, 1, none⟩)) rfl (by kernel_rfl) (by kernel_rfl) (by kernel_rfl) (fun _ _ _ h => h) (by kernel_rfl) (fun W' hSW => ?_) (by assumption) ?_
  · obtain ⟨a0, a1, a2, a3, a4, a5, a6, a7⟩ := HZ.out W' hSW
    first | (go_simp; done) | exact rfl | (go_simp; rfl) | (go_simp; omega)
  try simp only [Act.put, List.setIfInBounds_toArray, List.set_cons_zero, List.set_cons_succ]
  refine take_on (i := 5) (v := .agg #[.int .i64 x.key.time, .int .i64 x.key.source, .int .i64 x.key.seq]) rfl (by kernel_rfl) (by kernel_rfl) (by kernel_rfl) (fun _ _ _ h => h) (by kernel_rfl) (fun W' hSW => ?_) (by assumption) ?_
  · obtain ⟨a0, a1, a2, a3, a4, a5, a6, a7⟩ := HZ.out W' hSW
    first | (go_simp; done) | exact rfl | (go_simp; rfl) | (go_simp; omega)
  try simp only [Act.put, List.setIfInBounds_toArray, List.set_cons_zero, List.set_cons_succ]
  refine take_call (i := 6) rfl (by kernel_rfl) (by kernel_rfl) (fun K hK => ?_)
  go_simp
  rw [Hz3.out]
  obtain ⟨V1, hV1⟩ : ∃ W, W3.alloc (.cells #[.int .i64 0, .int .i64 0, .int .i64 0] 26) = W := ⟨_, rfl⟩
  have fV : Fr0 none' W3 V1 := by rw [← hV1]; exact (Fr0.refl _ _).alloc _
  have hk1 : V1.heap[SB + 1 + 1 + 1]? = some (.cells #[.int .i64 0, .int .i64 0, .int .i64 0] 26 (0, 0)) := by rw [← hV1, ← Hz3.out]; exact World.alloc_heap_new W3 _
  rw [hV1]
  refine hK.out _ _ fV.drew (fun hS => ?_)
  clear hK K hV1 hHeld
  try simp only [Act.put, List.setIfInBounds_toArray, List.set_cons_zero, List.set_cons_succ]
  refine take_on (i := 7) (v := .int .u8 2) rfl (by kernel_rfl) (by kernel_rfl) (by kernel_rfl) (fun _ _ _ h => h) (by kernel_rfl) (fun W' hSW => ?_) (by assumption) ?_
  · obtain ⟨a0, a1, a2, a3, a4, a5, a6, a7⟩ := HZ.out W' hSW
    first | (go_simp; done) | exact rfl | (go_simp; rfl) | (go_simp; omega)
  try simp only [Act.put, List.setIfInBounds_toArray, List.set_cons_zero, List.set_cons_succ]
  refine take_call (i := 8) rfl (by kernel_rfl) (by kernel_rfl) (fun K hK => ?_)
  have t0 := thaw_in hk1 0
  have t1 := thaw_in hk1 1
  have t2 := thaw_in hk1 2
  have u0 := cells_in hk1 0
  have u1 := cells_in hk1 1
  have u2 := cells_in hk1 2
  simp at u0 u1 u2
  go_simp
  obtain ⟨V2, hV2⟩ : ∃ W, ((V1.setCell ⟨SB + 1 + 1 + 1, 0, none⟩ (.int .i64 x.key.time)).setCell ⟨SB + 1 + 1 + 1, 1, none⟩ (.int .i64 x.key.source)).setCell ⟨SB + 1 + 1 + 1, 2, none⟩ (.int .i64 x.key.seq) = W := ⟨_, rfl⟩
  have hg3 : SB + 1 + 1 + 1 < W3.heap.size → none' (SB + 1 + 1 + 1) := fun e => by have := Hz3.out; omega
  have fV2 : Fr0 none' W3 V2 := by rw [← hV2]; exact ((fV.setCell hg3 _).setCell hg3 _).setCell hg3 _
  have hk2 : V2.heap[SB + 1 + 1 + 1]? = some (.cells #[.int .i64 x.key.time, .int .i64 x.key.source, .int .i64 x.key.seq] 26 (0, 0)) := by rw [← hV2]; exact heap_set_cell (heap_set_cell (heap_set_cell hk1 _) _) _
  rw [hV2]
  refine hK.out _ _ fV2.drew (fun hS => ?_)
  clear hK K hV2 t0 t1 t2 u0 u1 u2 hg3 fV hk1
  try simp only [Act.put, List.setIfInBounds_toArray, List.set_cons_zero, List.set_cons_succ]
  refine wpAnyH_done (by kernel_rfl) ?_ _
  obtain ⟨V, hV⟩ : ∃ W, V2.drew = W := ⟨_, rfl⟩
  have fV : Fr0 none' W3 V := by rw [← hV]; exact fV2.drew
  have HK := Lib.hid (show V.heap[SB + 1 + 1 + 1]? = some (.cells #[.int .i64 x.key.time, .int .i64 x.key.source, .int .i64 x.key.seq] 26 (0, 0)) by rw [← hV]; exact hk2)
  have HRB := Lib.hid ((fV.block (SB + 1 + 1) (Array.getElem?_eq_some_iff.1 HRB.out).1 id).trans HRB.out)
  have HA := Lib.hid ((fV.block (SB + 1) (Array.getElem?_eq_some_iff.1 HA.out).1 id).trans HA.out)
  have HS := Lib.hid ((fV.block SB (Array.getElem?_eq_some_iff.1 HS.out).1 id).trans HS.out)
  have HF := Lib.hid (HF.out.trans fV)
  rw [hV]
  clear hV hk2 fV2 fV HZ Hz3 hS
  clear hkt
  have a0 := cells_in HA.out 0
  have a1 := cells_in HA.out 1
  have a2 := cells_in HA.out 2
  have a3 := cells_in HA.out 3
  have a4 := cells_in HA.out 4
  have a5 := cells_in HA.out 5
  have a6 := cells_in HA.out 6
  have a7 := cells_in HA.out 7
  have s0 := cells_in HS.out 0
  have s1 := cells_in HS.out 1
  have k0 := cells_in HK.out 0
  have k1 := cells_in HK.out 1
  have k2 := cells_in HK.out 2
  simp at a0 a1 a2 a3 a4 a5 a6 a7 s0 s1 k0 k1 k2
  go_wp2_with fail
  have HKv := HK
  have Hft := Lib.hid (show ∀ k, ft k → k < SB from fun k hk => by have := H.out.lt k hk; have := HSB.out; omega)
  have HFv := HF
  refine (CloneE (cap := lc) L (HLL.out.later HF.out) Hlk.out (by omega)).mono ?_
  rintro e w4 ⟨v, rfl, hrow, hf4⟩
  obtain ⟨oa, oc, rfl, _, hoe⟩ := EsIn.of_own hrow
  have HO := Lib.hid hoe
  have HOr := Lib.hid (fun g o s (e : oa = some ⟨g, o, s⟩) => (hrow.lt g (by rw [e]; rfl)).1)
  clear a0 a1 a2 a3 a4 a5 a6 a7 s0 s1 k0 k1 k2
  have HK := Lib.hid ((hf4.block (SB + 1 + 1 + 1) (Array.getElem?_eq_some_iff.1 HK.out).1 id).trans HK.out)
  have HRB := Lib.hid ((hf4.block (SB + 1 + 1) (Array.getElem?_eq_some_iff.1 HRB.out).1 id).trans HRB.out)
  have HA := Lib.hid ((hf4.block (SB + 1) (Array.getElem?_eq_some_iff.1 HA.out).1 id).trans HA.out)
  have HS := Lib.hid ((hf4.block SB (Array.getElem?_eq_some_iff.1 HS.out).1 id).trans HS.out)
  have F4 := Lib.hid (show Fr0 none' w w4 from HF.out.trans hf4)
  clear hrow hf4 hoe
  go_wp2_with fail
  have HVs := Lib.hid (show w.heap.size ≤ V.heap.size from HF.out.size)
  have HP := (H.out.later F4.out).putAll (cap := oc) L HO.out Hlk.out (by omega) (by omega) (fun g o s e hk => by have h1 := HOr.out g o s e; have h2 := Hft.out g hk; have := HSB.out; have := HVs.out; omega)
  obtain ⟨i, hi⟩ : ∃ i, (allV n E L).1 = i := ⟨_, rfl⟩
  obtain ⟨c, hc⟩ : ∃ c, (allV n E L).2 = c := ⟨_, rfl⟩
  obtain ⟨E', hE'⟩ : ∃ E', allE n E L = E' := ⟨_, rfl⟩
  rw [hi, hc, hE'] at HP
  have Hi := Lib.hid hi
  have Hc := Lib.hid hc
  have HE' := Lib.hid hE'
  have HK4 := Lib.hid (show SB + 1 + 1 + 1 < w4.heap.size from (Array.getElem?_eq_some_iff.1 HK.out).1)
  have HV4 := Lib.hid (show w.heap.size ≤ w4.heap.size from F4.out.size)
  refine HP.mono ?_
  rintro e w5 ⟨rfl, hq5, hf5⟩
  have HQ5 := Lib.hid hq5
  have HK := Lib.hid ((hf5.block (SB + 1 + 1 + 1) (Array.getElem?_eq_some_iff.1 HK.out).1 (fun h => by have := Hft.out _ h; omega)).trans HK.out)
  have HRB := Lib.hid ((hf5.block (SB + 1 + 1) (Array.getElem?_eq_some_iff.1 HRB.out).1 (fun h => by have := Hft.out _ h; omega)).trans HRB.out)
  have HA := Lib.hid ((hf5.block (SB + 1) (Array.getElem?_eq_some_iff.1 HA.out).1 (fun h => by have := Hft.out _ h; omega)).trans HA.out)
  have HS := Lib.hid ((hf5.block SB (Array.getElem?_eq_some_iff.1 HS.out).1 (fun h => by have := Hft.out _ h; omega)).trans HS.out)
  have F5 := Lib.hid (show Fr0 ft w w5 from (F4.out.mono (fun _ _ h => h.elim)).trans hf5)
  have HGR := Lib.hid (show ∀ k, qgrow ft w4 w5 k → ft k ∨ w.heap.size ≤ k from fun k hk => hk.imp id (fun h => Nat.le_trans HV4.out h.1))
  have HKv5 := Lib.hid (show SB + 1 + 1 + 1 < w5.heap.size from (Array.getElem?_eq_some_iff.1 HK.out).1)
  have HRE := Lib.hid (HR.out.1.fr0 F5.out (fun g o s e => (HR.out.2.2 g o s e).1))
  have HO := Lib.hid (HO.out.fr0 hf5 (fun g o s e hk => by have h1 := HOr.out g o s e; have h2 := Hft.out g hk; have := HSB.out; have := HVs.out; omega))
  have HLL := Lib.hid (show EsIn w5 la L from by
    by_cases h0 : L = []
    · rw [h0]; intro i y e; simp at e
    · exact HLL.out.fr0 F5.out (Hla.out h0))
  have Hrs := Lib.hid (fun g o s (e : ra = some ⟨g, o, s⟩) => Nat.lt_of_lt_of_le (HR.out.2.2 g o s e).2 F5.out.size)
  clear HP hq5 hf5 hi hc hE'
  have a0 := cells_in HA.out 0
  have a1 := cells_in HA.out 1
  have a2 := cells_in HA.out 2
  have a3 := cells_in HA.out 3
  have a4 := cells_in HA.out 4
  have a5 := cells_in HA.out 5
  have a6 := cells_in HA.out 6
  have a7 := cells_in HA.out 7
  have s0 := cells_in HS.out 0
  have s1 := cells_in HS.out 1
  have k0 := cells_in HK.out 0
  have k1 := cells_in HK.out 1
  have k2 := cells_in HK.out 2
  simp at a0 a1 a2 a3 a4 a5 a6 a7 s0 s1 k0 k1 k2
  go_wp2_with fail
  have hPr := rPutAll_any (n := n) (cap := rc) (lc := lc) E L HRE.out Hm.out (by omega) hmrc (by have := H.out.le.1; rw [Hm.out] at this; exact this) H.out.le.2 HLL.out Hlk.out (by omega) hlc Hrs.out H.out.good.2.1
  rw [Hi.out, Hc.out, HE'.out] at hPr
  refine hPr.mono ?_
  rintro e w6 ⟨v, rfl, hA, hf⟩
  obtain ⟨na, nc, rfl, hnc, hne, hnb⟩ := hA
  obtain ⟨nm, hnm⟩ : ∃ nm, E'.length = nm := ⟨_, rfl⟩
  rw [hnm] at hnc ⊢
  have Hnm := Lib.hid hnm
  have HNE := Lib.hid hne
  have HNB := Lib.hid hnb
  have HQ6 := Lib.hid (HQ5.out.later hf)
  have HO := Lib.hid (HO.out.later hf)
  have HLL := Lib.hid (HLL.out.later hf)
  clear a0 a1 a2 a3 a4 a5 a6 a7 s0 s1 k0 k1 k2
  have HK := Lib.hid ((hf.block (SB + 1 + 1 + 1) (Array.getElem?_eq_some_iff.1 HK.out).1 id).trans HK.out)
  have HRB := Lib.hid ((hf.block (SB + 1 + 1) (Array.getElem?_eq_some_iff.1 HRB.out).1 id).trans HRB.out)
  have HA := Lib.hid ((hf.block (SB + 1) (Array.getElem?_eq_some_iff.1 HA.out).1 id).trans HA.out)
  have HS := Lib.hid ((hf.block SB (Array.getElem?_eq_some_iff.1 HS.out).1 id).trans HS.out)
  have F6 := Lib.hid (F5.out.trans (hf.mono (fun _ _ h => h.elim)))
  clear hPr hf hnm hne hnb
  have HKo := HK
  go_wp2_with fail
  obtain ⟨NB, hNB⟩ : ∃ B, (w6).heap.size = B := ⟨_, rfl⟩
  obtain ⟨W7, hW7⟩ : ∃ W, (w6).alloc (.cells #[.int .i64 n, .slice na nm nc] 50) = W := ⟨_, rfl⟩
  have f7 : Fr0 none' (w6) W7 := by rw [← hW7]; exact (Fr0.refl _ _).alloc _
  have HN := Lib.hid (show W7.heap[NB]? = some (.cells #[.int .i64 n, .slice na nm nc] 50 (0, 0)) by rw [← hW7, ← hNB]; exact World.alloc_heap_new _ _)
  have HK := Lib.hid ((f7.block (SB + 1 + 1 + 1) (Array.getElem?_eq_some_iff.1 HK.out).1 id).trans HK.out)
  have HRB := Lib.hid ((f7.block (SB + 1 + 1) (Array.getElem?_eq_some_iff.1 HRB.out).1 id).trans HRB.out)
  have HA := Lib.hid ((f7.block (SB + 1) (Array.getElem?_eq_some_iff.1 HA.out).1 id).trans HA.out)
  have HS := Lib.hid ((f7.block SB (Array.getElem?_eq_some_iff.1 HS.out).1 id).trans HS.out)
  have HQ7 := Lib.hid (HQ6.out.later f7)
  have F7 := Lib.hid (F6.out.trans (f7.mono (fun _ _ h => h.elim)))
  have HNE := Lib.hid (HNE.out.later f7)
  have HNB := Lib.hid (show ∀ g o s, (na : Option Addr) = some ⟨g, o, s⟩ → (∃ o' s', ra = some ⟨g, o', s'⟩) ∨ (w5.heap.size ≤ g ∧ g < W7.heap.size) from fun g o s e => (HNB.out g o s e).imp id (fun h => ⟨h.1, Nat.lt_of_lt_of_le h.2 f7.size⟩))
  have HNr := Lib.hid (show SB + 1 + 1 ≠ NB ∧ SB + 1 ≠ NB ∧ SB ≠ NB by have h9 := (Array.getElem?_eq_some_iff.1 HK.out).1; rw [← hNB]; have h8 := (Array.getElem?_eq_some_iff.1 HKo.out).1; omega)
  have HN7 := Lib.hid f7
  rw [hW7]
  try rw [hNB]
  clear hW7 hNB f7
  have HY := Lib.hid (fun (W' : World) (hf : Fr0 (fun k => k = SB + 1 + 1) W7 W') => (show (W'.cell? ⟨SB, 0, none⟩ = some (.int .i64 n) ∧ W'.cell? ⟨SB, 1, none⟩ = some (.slice ra m rc)) ∧ (W'.cell? ⟨NB, 0, none⟩ = some (.int .i64 n) ∧ W'.cell? ⟨NB, 1, none⟩ = some (.slice na nm nc)) ∧ W'.cell? ⟨SB + 1, 0, none⟩ = some (.int .u8 kd) ∧ W'.cell? ⟨SB + 1, 1, none⟩ = some (.int .i64 x.key.time) ∧ W'.cell? ⟨SB + 1, 2, none⟩ = some (.int .i64 x.key.source) ∧ W'.cell? ⟨SB + 1, 3, none⟩ = some (.int .i64 x.key.seq) ∧ W'.cell? ⟨SB + 1, 4, none⟩ = some (.int .i64 x.to) ∧ W'.cell? ⟨SB + 1, 5, none⟩ = some (.int .i64 x.value) ∧ W'.cell? ⟨SB + 1, 6, none⟩ = some (.slice la lk lc) ∧ W'.cell? ⟨SB + 1, 7, none⟩ = some (.int .i64 t) from by
    have hn := HNr.out
    have h1 := (hf.block (SB + 1) (Array.getElem?_eq_some_iff.1 HA.out).1 (fun e => by omega)).trans HA.out
    have h2 := (hf.block SB (Array.getElem?_eq_some_iff.1 HS.out).1 (fun e => by omega)).trans HS.out
    have h3 := (hf.block NB (Array.getElem?_eq_some_iff.1 HN.out).1 (fun e => hn.1 e.symm)).trans HN.out
    refine ⟨⟨?_, ?_⟩, ⟨?_, ?_⟩, ?_, ?_, ?_, ?_, ?_, ?_, ?_, ?_⟩
    · rw [cells_in h2]; rfl
    · rw [cells_in h2]; rfl
    · rw [cells_in h3]; rfl
    · rw [cells_in h3]; rfl
    all_goals (rw [cells_in h1]; rfl)))
  have HEq := Lib.hid (fun (W : World) (hf : Fr0 none' W7 W) => sameEs_any oa la _ _ oc lc L L W Hlk.out Hlk.out (by omega) (by omega) ((HO.out.later HN7.out).later hf) ((HLL.out.later HN7.out).later hf))
  rw [decide_eq_true rfl] at HEq
  refine wp_region_held_drew (S := fun W' => Fr0 (fun k => k = SB + 1 + 1) W7 W') (by kernel_rfl) ((Fr0.refl _ W7).drew) (fun hHeld => ?_)
  refine take_on (i := 0) (v := .pointer (some ⟨qb, 0, none⟩)) rfl (by kernel_rfl) (by kernel_rfl) (by kernel_rfl) (fun _ _ _ h => h) (by kernel_rfl) (fun W' hSW => ?_) (by assumption) ?_
  · obtain ⟨⟨s0, s1⟩, ⟨n0, n1⟩, a0, a1, a2, a3, a4, a5, a6, a7⟩ := HY.out W' hSW
    first | (go_simp; done) | exact rfl | (go_simp; rfl) | (go_simp; omega)
  try simp only [Act.put, List.setIfInBounds_toArray, List.set_cons_zero, List.set_cons_succ]
  refine take_on (i := 1) (v := .agg #[.int .i64 n, .slice na nm nc]) rfl (by kernel_rfl) (by kernel_rfl) (by kernel_rfl) (fun _ _ _ h => h) (by kernel_rfl) (fun W' hSW => ?_) (by assumption) ?_
  · obtain ⟨⟨s0, s1⟩, ⟨n0, n1⟩, a0, a1, a2, a3, a4, a5, a6, a7⟩ := HY.out W' hSW
    first | (go_simp; done) | exact rfl | (go_simp; rfl) | (go_simp; omega)
  try simp only [Act.put, List.setIfInBounds_toArray, List.set_cons_zero, List.set_cons_succ]
  refine take_on (i := 2) (v := .int .i64 i) rfl (by kernel_rfl) (by kernel_rfl) (by kernel_rfl) (fun _ _ _ h => h) (by kernel_rfl) (fun W' hSW => ?_) (by assumption) ?_
  · obtain ⟨⟨s0, s1⟩, ⟨n0, n1⟩, a0, a1, a2, a3, a4, a5, a6, a7⟩ := HY.out W' hSW
    first | (go_simp; done) | exact rfl | (go_simp; rfl) | (go_simp; omega)
  try simp only [Act.put, List.setIfInBounds_toArray, List.set_cons_zero, List.set_cons_succ]
  refine take_on (i := 3) (v := .int .i64 i) rfl (by kernel_rfl) (by kernel_rfl) (by kernel_rfl) (fun _ _ _ h => h) (by kernel_rfl) (fun W' hSW => ?_) (by assumption) ?_
  · obtain ⟨⟨s0, s1⟩, ⟨n0, n1⟩, a0, a1, a2, a3, a4, a5, a6, a7⟩ := HY.out W' hSW
    first | (go_simp; done) | exact rfl | (go_simp; rfl) | (go_simp; omega)
  try simp only [Act.put, List.setIfInBounds_toArray, List.set_cons_zero, List.set_cons_succ]
  refine take_on (i := 4) (v := .bool true) rfl (by kernel_rfl) (by kernel_rfl) (by kernel_rfl) (fun _ _ _ h => h) (by kernel_rfl) (fun W' hSW => ?_) (by assumption) ?_
  · obtain ⟨⟨s0, s1⟩, ⟨n0, n1⟩, a0, a1, a2, a3, a4, a5, a6, a7⟩ := HY.out W' hSW
    first | (go_simp; done) | exact rfl | (go_simp; rfl) | (go_simp; omega)
  try simp only [Act.put, List.setIfInBounds_toArray, List.set_cons_zero, List.set_cons_succ]
  refine take_on (i := 5) (v := .bool true) rfl (by kernel_rfl) (by kernel_rfl) (by kernel_rfl) (fun _ _ _ h => h) (by kernel_rfl) (fun W' hSW => ?_) (by assumption) ?_
  · obtain ⟨⟨s0, s1⟩, ⟨n0, n1⟩, a0, a1, a2, a3, a4, a5, a6, a7⟩ := HY.out W' hSW
    first | (go_simp; done) | exact rfl | (go_simp; rfl) | (go_simp; omega)
  try simp only [Act.put, List.setIfInBounds_toArray, List.set_cons_zero, List.set_cons_succ]
  refine take_on (i := 6) (v := .int .i64 c) rfl (by kernel_rfl) (by kernel_rfl) (by kernel_rfl) (fun _ _ _ h => h) (by kernel_rfl) (fun W' hSW => ?_) (by assumption) ?_
  · obtain ⟨⟨s0, s1⟩, ⟨n0, n1⟩, a0, a1, a2, a3, a4, a5, a6, a7⟩ := HY.out W' hSW
    first | (go_simp; done) | exact rfl | (go_simp; rfl) | (go_simp; omega)
  try simp only [Act.put, List.setIfInBounds_toArray, List.set_cons_zero, List.set_cons_succ]
  refine take_on (i := 7) (v := .int .i64 c) rfl (by kernel_rfl) (by kernel_rfl) (by kernel_rfl) (fun _ _ _ h => h) (by kernel_rfl) (fun W' hSW => ?_) (by assumption) ?_
  · obtain ⟨⟨s0, s1⟩, ⟨n0, n1⟩, a0, a1, a2, a3, a4, a5, a6, a7⟩ := HY.out W' hSW
    first | (go_simp; done) | exact rfl | (go_simp; rfl) | (go_simp; omega)
  try simp only [Act.put, List.setIfInBounds_toArray, List.set_cons_zero, List.set_cons_succ]
  refine take_on (i := 8) (v := .bool true) rfl (by kernel_rfl) (by kernel_rfl) (by kernel_rfl) (fun _ _ _ h => h) (by kernel_rfl) (fun W' hSW => ?_) (by assumption) ?_
  · obtain ⟨⟨s0, s1⟩, ⟨n0, n1⟩, a0, a1, a2, a3, a4, a5, a6, a7⟩ := HY.out W' hSW
    first | (go_simp; done) | exact rfl | (go_simp; rfl) | (go_simp; omega)
  try simp only [Act.put, List.setIfInBounds_toArray, List.set_cons_zero, List.set_cons_succ]
  refine take_on (i := 9) (v := .bool true) rfl (by kernel_rfl) (by kernel_rfl) (by kernel_rfl) (fun _ _ _ h => h) (by kernel_rfl) (fun W' hSW => ?_) (by assumption) ?_
  · obtain ⟨⟨s0, s1⟩, ⟨n0, n1⟩, a0, a1, a2, a3, a4, a5, a6, a7⟩ := HY.out W' hSW
    first | (go_simp; done) | exact rfl | (go_simp; rfl) | (go_simp; omega)
  try simp only [Act.put, List.setIfInBounds_toArray, List.set_cons_zero, List.set_cons_succ]
  refine take_on (i := 10) (v := .bool true) rfl (by kernel_rfl) (by kernel_rfl) (by kernel_rfl) (fun _ _ _ h => h) (by kernel_rfl) (fun W' hSW => ?_) (by assumption) ?_
  · obtain ⟨⟨s0, s1⟩, ⟨n0, n1⟩, a0, a1, a2, a3, a4, a5, a6, a7⟩ := HY.out W' hSW
    first | (go_simp; done) | exact rfl | (go_simp; rfl) | (go_simp; omega)
  try simp only [Act.put, List.setIfInBounds_toArray, List.set_cons_zero, List.set_cons_succ]
  refine take_on (i := 11) (v := .slice oa lk oc) rfl (by kernel_rfl) (by kernel_rfl) (by kernel_rfl) (fun _ _ _ h => h) (by kernel_rfl) (fun W' hSW => ?_) (by assumption) ?_
  · obtain ⟨⟨s0, s1⟩, ⟨n0, n1⟩, a0, a1, a2, a3, a4, a5, a6, a7⟩ := HY.out W' hSW
    first | (go_simp; done) | exact rfl | (go_simp; rfl) | (go_simp; omega)
  try simp only [Act.put, List.setIfInBounds_toArray, List.set_cons_zero, List.set_cons_succ]
  refine take_on (i := 12) (v := .pointer (some ⟨SB + 1, 6, none⟩)) rfl (by kernel_rfl) (by kernel_rfl) (by kernel_rfl) (fun _ _ _ h => h) (by kernel_rfl) (fun W' hSW => ?_) (by assumption) ?_
  · obtain ⟨⟨s0, s1⟩, ⟨n0, n1⟩, a0, a1, a2, a3, a4, a5, a6, a7⟩ := HY.out W' hSW
    first | (go_simp; done) | exact rfl | (go_simp; rfl) | (go_simp; omega)
  try simp only [Act.put, List.setIfInBounds_toArray, List.set_cons_zero, List.set_cons_succ]
  refine take_on (i := 13) (v := .slice la lk lc) rfl (by kernel_rfl) (by kernel_rfl) (by kernel_rfl) (fun _ _ _ h => h) (by kernel_rfl) (fun W' hSW => ?_) (by assumption) ?_
  · obtain ⟨⟨s0, s1⟩, ⟨n0, n1⟩, a0, a1, a2, a3, a4, a5, a6, a7⟩ := HY.out W' hSW
    first | (go_simp; done) | exact rfl | (go_simp; rfl) | (go_simp; omega)
  try simp only [Act.put, List.setIfInBounds_toArray, List.set_cons_zero, List.set_cons_succ]
  refine take_call (i := 14) rfl (by kernel_rfl) (by kernel_rfl) (fun K hK => ?_)
  go_simp
  refine (HEq.out _ ((Fr0.refl none' W7).drew)).mono ?_
  rintro e w9 ⟨rfl, hf⟩
  have h9 : Fr0 none' W7 w9 := ((Fr0.refl none' W7).drew).trans hf
  clear hf
  go_wp2_with fail
  refine hK.out _ _ (h9.mono (fun _ _ h => h.elim)) (fun hS => ?_)
  clear hK K
  try simp only [Act.put, List.setIfInBounds_toArray, List.set_cons_zero, List.set_cons_succ]
  clear hHeld
  have hHeld : Fr0 (fun k => k = SB + 1 + 1) W7 w9 := h9.mono (fun _ _ h => h.elim)
  refine take_on (i := 15) (v := .bool true) rfl (by kernel_rfl) (by kernel_rfl) (by kernel_rfl) (fun _ _ _ h => h) (by kernel_rfl) (fun W' hSW => ?_) (by assumption) ?_
  · obtain ⟨⟨s0, s1⟩, ⟨n0, n1⟩, a0, a1, a2, a3, a4, a5, a6, a7⟩ := HY.out W' hSW
    first | (go_simp; done) | exact rfl | (go_simp; rfl) | (go_simp; omega)
  try simp only [Act.put, List.setIfInBounds_toArray, List.set_cons_zero, List.set_cons_succ]
  refine take_on (i := 16) (v := .pointer (some ⟨qb, 0, none⟩)) rfl (by kernel_rfl) (by kernel_rfl) (by kernel_rfl) (fun _ _ _ h => h) (by kernel_rfl) (fun W' hSW => ?_) (by assumption) ?_
  · obtain ⟨⟨s0, s1⟩, ⟨n0, n1⟩, a0, a1, a2, a3, a4, a5, a6, a7⟩ := HY.out W' hSW
    first | (go_simp; done) | exact rfl | (go_simp; rfl) | (go_simp; omega)
  try simp only [Act.put, List.setIfInBounds_toArray, List.set_cons_zero, List.set_cons_succ]
  have HK := Lib.hid ((h9.block (SB + 1 + 1 + 1) (Array.getElem?_eq_some_iff.1 HK.out).1 id).trans HK.out)
  have HRB := Lib.hid ((h9.block (SB + 1 + 1) (Array.getElem?_eq_some_iff.1 HRB.out).1 id).trans HRB.out)
  have HA := Lib.hid ((h9.block (SB + 1) (Array.getElem?_eq_some_iff.1 HA.out).1 id).trans HA.out)
  have HS := Lib.hid ((h9.block SB (Array.getElem?_eq_some_iff.1 HS.out).1 id).trans HS.out)
  have t0 := thaw_in HRB.out 0
  have t1 := thaw_in HRB.out 1
  have u0 := cells_in HRB.out 0
  have u1 := cells_in HRB.out 1
  simp at u0 u1
  refine take_call (i := 17) rfl (by kernel_rfl) (by kernel_rfl) (fun K hK => ?_)
  go_simp
  obtain ⟨W9, hW9⟩ : ∃ W, ((w9).setCell ⟨SB + 1 + 1, 0, none⟩ (.int .i64 n)).setCell ⟨SB + 1 + 1, 1, none⟩ (.slice na nm nc) = W := ⟨_, rfl⟩
  have f9 : Fr0 (fun k => k = SB + 1 + 1) (w9) W9 := by rw [← hW9]; exact ((Fr0.refl (fun k => k = SB + 1 + 1) (w9)).setCell (fun _ => rfl) _).setCell (fun _ => rfl) _
  have hb9 : W9.heap[SB + 1 + 1]? = some (.cells #[.int .i64 n, .slice na nm nc] 50 (0, 0)) := by rw [← hW9]; exact heap_set_cell (heap_set_cell HRB.out _) _
  rw [hW9]
  refine hK.out _ _ (hHeld.trans f9) (fun hS => ?_)
  clear hK K hW9 t0 t1 u0 u1
  try simp only [Act.put, List.setIfInBounds_toArray, List.set_cons_zero, List.set_cons_succ]
  refine take_on (i := 18) (v := .bool true) rfl (by kernel_rfl) (by kernel_rfl) (by kernel_rfl) (fun _ _ _ h => h) (by kernel_rfl) (fun W' hSW => ?_) (by assumption) ?_
  · obtain ⟨⟨s0, s1⟩, ⟨n0, n1⟩, a0, a1, a2, a3, a4, a5, a6, a7⟩ := HY.out W' hSW
    first | (go_simp; done) | exact rfl | (go_simp; rfl) | (go_simp; omega)
  try simp only [Act.put, List.setIfInBounds_toArray, List.set_cons_zero, List.set_cons_succ]
  refine wpAnyH_done (by kernel_rfl) ?_ _
  have f79 : Fr0 (fun k => k = SB + 1 + 1) W7 W9 := hHeld.trans f9
  have r0 := cells_in hb9 0
  have r1 := cells_in hb9 1
  simp at r0 r1
  have HQ9 := Lib.hid (HQ7.out.fr0 f79 (fun k hk e => by
    subst e
    rcases hk with hk | hk
    · have := Hft.out _ hk; omega
    · have := hk.1; have := HK4.out; omega))
  have F79 := Lib.hid f79
  clear f79 f9 hHeld h9 hS HY
  go_wp2_with fail
  have hgr := HGR.out
  have hlt5 := HQ5.out.lt
  have hcr := HR.out.2.2
  have hcase : ∀ g o s, (na : Option Addr) = some ⟨g, o, s⟩ → g < (W9).heap.size ∧ g ≠ SB + 1 + 1 ∧ ¬ (qgrow ft w4 w5) g := fun g o s e => by
    have h2 := F79.out.size
    rcases HNB.out g o s e with ⟨o', s', e'⟩ | h1
    · obtain ⟨h3, h4⟩ := hcr g o' s' e'
      have := HSB.out
      have := F7.out.size
      refine ⟨by omega, by omega, fun hk => ?_⟩
      rcases hgr g hk with h5 | h5
      · exact h3 h5
      · omega
    · have := HKv5.out
      refine ⟨by omega, by omega, fun hk => ?_⟩
      have := hlt5 g hk
      omega
  refine bodyPost_ret (v := .tuple #[.pointer (some ⟨qb, 0, none⟩), .agg #[.int .i64 n, .slice na nm nc], .bool true]) (by simp [results, Tryz.results20, go_sem, r0, r1]) rfl ⟨qb, T + lk, E', qgrow ft w4 w5, na, nc, by rw [Hnm.out], HQ9.out, by omega, hgr, ⟨HNE.out.fr0 F79.out (fun g o s e => (hcase g o s e).2.1), by rw [Hnm.out]; exact hnc, fun g o s e => ⟨(hcase g o s e).2.2, (hcase g o s e).1⟩⟩, F7.out.trans' F79.out (fun k hk e => by have := HSB.out; omega), fun g o s e => (HNB.out g o s e).imp id (fun h => by have := HSB.out; have := HKv5.out; omega)⟩
end Go.Proofs.YtmcgipilopfgoaaGreat

/-
  EvqTells: an act, whatever its kind.
-/
namespace Go.Proofs.YtmcgipilopfgoaaGreat
open Go Go.RowKit

theorem do_any {w : World} {qb n T m rc lk lc : Nat} {E : List Ev} {ft : Nat → Prop} {ra la : Option Addr} {kd t : Int} {x : Ev} (h : QIs w qb n T E ft) (hT : T ≤ 1000000) (hr : RsK w n E ra rc ft) (hm : E.length = m) (hkd : 0 ≤ kd ∧ kd < 256)
    (hx64 : I64 x.key.source ∧ I64 x.key.seq) (ht : I64 t) (L : List Ev) (hL : EsIn w la L) (hlk : L.length = lk) (hk30 : lk ≤ 30) (hlc : lk ≤ lc) (hla : L ≠ [] → ∀ g o s, la = some ⟨g, o, s⟩ → ¬ ft g) :
    Calls Tryz.prog 20 #[.pointer (some ⟨qb, 0, none⟩), .agg #[.int .i64 n, .slice ra m rc], actV kd x la lk lc t] w (DoPost n T w ft ra) := by
  by_cases h0 : kd % 10 = 0
  · exact do_0 h hT hr hm hkd h0
  by_cases h1 : kd % 10 = 1
  · exact do_1 h hT hr hm hkd h1
  by_cases h2 : kd % 10 = 2
  · exact do_2 h hT hr hm hkd h2 L hL hlk hk30 hlc hla
  by_cases h3 : kd % 10 = 3
  · exact do_3 h hT hr hm hkd h3
  by_cases h4 : kd % 10 = 4
  · exact do_4 h hT hr hm hkd h4
  by_cases h5 : kd % 10 = 5
  · exact do_5 h hT hr hm hkd h5 hx64
  by_cases h6 : kd % 10 = 6
  · by_cases hm0 : m = 0
    · exact do_6n h hT hr hm hkd h6 hx64 hm0
    · exact do_6 h hT hr hm hkd h6 ht (by omega)
  by_cases h7 : kd % 10 = 7
  · exact do_7 h hT hr hm hkd h7 hx64
  by_cases h8 : kd % 10 = 8
  · exact do_8 h hT hr hm hkd h8
  have h9 : kd % 10 = 9 := by omega
  by_cases h10 : t = 0
  · exact do_9c h hT hr hm hkd h9 h10
  · exact do_9 h hT hr hm hkd h9 h10

/-- An act, its list beside it. -/
structure Ac where
  kd : Int
  x : Ev
  la : Option Addr
  lk : Nat
  lc : Nat
  t : Int
  L : List Ev
def Ac.ok (w : World) (a : Ac) : Prop := (0 ≤ a.kd ∧ a.kd < 256) ∧ (I64 a.x.key.source ∧ I64 a.x.key.seq) ∧ I64 a.t ∧ EsIn w a.la a.L ∧ a.L.length = a.lk ∧ a.lk ≤ a.lc
/-- The values of an act's cells. -/
def Ac.vs (a : Ac) : List Value := [.int .u8 a.kd, .int .i64 a.x.key.time, .int .i64 a.x.key.source, .int .i64 a.x.key.seq, .int .i64 a.x.to, .int .i64 a.x.value, .slice a.la a.lk a.lc, .int .i64 a.t]
def AcIn (w : World) (g o : Nat) (a : Ac) : Prop := w.cell? ⟨g, o, none⟩ = some (.int .u8 a.kd) ∧ w.cell? ⟨g, o + 1, none⟩ = some (.int .i64 a.x.key.time) ∧ w.cell? ⟨g, o + 2, none⟩ = some (.int .i64 a.x.key.source) ∧ w.cell? ⟨g, o + 3, none⟩ = some (.int .i64 a.x.key.seq) ∧ w.cell? ⟨g, o + 4, none⟩ = some (.int .i64 a.x.to) ∧ w.cell? ⟨g, o + 5, none⟩ = some (.int .i64 a.x.value) ∧ w.cell? ⟨g, o + 6, none⟩ = some (.slice a.la a.lk a.lc) ∧ w.cell? ⟨g, o + 7, none⟩ = some (.int .i64 a.t)
/-- A slice of acts. -/
def AcsAt (w : World) (u : Value) (xs : List Ac) : Prop := ∃ a cap, u = .slice a xs.length cap ∧ ∀ j x, xs[j]? = some x → x.ok w ∧ ∃ g o, a = some ⟨g, o, none⟩ ∧ AcIn w g (o + j * 8) x
theorem AcIn.later {w w' : World} {g o : Nat} {a : Ac} (h : AcIn w g o a) (hf : Fr0 none' w w') : AcIn w' g o a := by
  obtain ⟨h0, h1, h2, h3, h4, h5, h6, h7⟩ := h
  exact ⟨hf.later h0, hf.later h1, hf.later h2, hf.later h3, hf.later h4, hf.later h5, hf.later h6, hf.later h7⟩
theorem Ac.ok.later {w w' : World} {a : Ac} (h : a.ok w) (hf : Fr0 none' w w') : a.ok w' := by
  obtain ⟨h0, h1, h2, h3, h4, h5⟩ := h
  exact ⟨h0, h1, h2, h3.later hf, h4, h5⟩
theorem EsIn.lt {w : World} {a : Option Addr} {L : List Ev} (h : EsIn w a L) (h0 : L ≠ []) : ∀ g o s, a = some ⟨g, o, s⟩ → g < w.heap.size := by
  intro g o s e
  cases L with
  | nil => exact absurd rfl h0
  | cons y r =>
    obtain ⟨g', o', e', hc, _⟩ := h 0 y rfl
    rw [e] at e'
    injection e' with e'
    injection e' with e1 e2 e3
    subst e1
    exact World.block_lt_of_cell? _ _ hc
end Go.Proofs.YtmcgipilopfgoaaGreat

/-
  EvqWrong: its parts.
-/
namespace Go.Proofs.YtmcgipilopfgoaaGreat
open Go Go.RowKit Go.ChangeMaps
attribute [local go_sem ↓] Go.wp_at_zero Go.wp_at_succ
attribute [local go_sem] Oper.semAt_some wide_fn wide_depth wide_fnR wide_depthR

set_option maxRecDepth 100000 in
theorem QNew_bad (n : Int) (hn : n < 0 ∨ 256 < n) (w : World) : Calls Tryz.prog 19 #[.int .i64 n] w fun e w' => e = .returned (.tuple #[.pointer none, .int .i64 2]) ∧ w = w' := by
  by_cases h : n < 0
  · have d1 : decide (n < 0) = true := decide_eq_true h
    clear hn h
    go_enter Tryz.func19, Tryz.ntmps19
    go_wp2_with fail
    go_ret2
    exact ⟨rfl, rfl⟩
  · have d1 : decide (n < 0) = false := decide_eq_false h
    have d2 : decide (256 < n) = true := decide_eq_true (by omega)
    have d3 : decide (n > 256) = true := decide_eq_true (by omega)
    clear hn h
    go_enter Tryz.func19, Tryz.ntmps19
    go_wp2_with fail
    go_ret2
    exact ⟨rfl, rfl⟩
end Go.Proofs.YtmcgipilopfgoaaGreat

/-
  EvqTells: tells.
-/
namespace Go.Proofs.YtmcgipilopfgoaaGreat
open Go Go.RowKit
attribute [local go_sem ↓] Go.wp_at_zero Go.wp_at_succ
attribute [local go_sem] Oper.semAt_some wide_fn wide_depth wide_fnR wide_depthR

set_option maxRecDepth 100000 in
set_option maxHeartbeats 2000000 in
theorem tells_bad {w : World} {u : Value} (n : Int) (hn : n < 0 ∨ 256 < n) : Calls Tryz.prog 6 #[.int .i64 n, u] w fun e w' => e = .returned (.bool true) ∧ Fr0 none' w w' := by
  have HN := Lib.hid (fun W => QNew_bad n hn W)
  go_enter Tryz.func6, Tryz.ntmps6
  go_wp2_with fail
  refine (HN.out _).mono ?_
  rintro e w' ⟨rfl, rfl⟩
  go_wp2_with fail
  all_goals (go_ret; exact ⟨rfl, Fr0.refl _ _⟩)

set_option maxRecDepth 100000 in
set_option maxHeartbeats 2000000 in
theorem tells_ok {w : World} {u : Value} {xs : List Ac} (n : Nat) (hn : n ≤ 256) (hu : AcsAt w u xs) (hl : xs.length ≤ 100) : Calls Tryz.prog 6 #[.int .i64 n, u] w fun e w' => e = .returned (.bool true) ∧ Fr0 none' w w' := by
  obtain ⟨a, cap, rfl, hx⟩ := hu
  obtain ⟨k, hk⟩ : ∃ k, xs.length = k := ⟨_, rfl⟩
  rw [hk] at hl ⊢
  have HX := Lib.hid hx
  have Hk := Lib.hid hk
  clear hx hk
  have d1 : decide ((n : Int) < 0) = false := decide_eq_false (by omega)
  have d2 : decide ((n : Int) > 256) = false := decide_eq_false (by omega)
  have d3 : decide ((256 : Int) < (n : Int)) = false := decide_eq_false (by omega)
  go_enter Tryz.func6, Tryz.ntmps6
  go_wp2_with fail
  refine (QNew_is n hn w).mono ?_
  rintro e w1 ⟨qb, ft, rfl, hq, hf, hs⟩
  have HQ := Lib.hid hq
  have HS := Lib.hid hs
  have F1 := Lib.hid hf
  have hq1 := hq
  clear hq hs hf
  go_wp2_with fail
  obtain ⟨RB, hRB⟩ : ∃ b, w1.heap.size = b := ⟨_, rfl⟩
  obtain ⟨W2, hW2⟩ : ∃ W, w1.alloc (.cells #[.int .i64 n, .slice none 0 0] 50) = W := ⟨_, rfl⟩
  have hf : Fr0 none' w1 W2 := by rw [← hW2]; exact (Fr0.refl _ _).alloc _
  have HB := Lib.hid (show W2.heap[RB]? = some (.cells #[.int .i64 n, .slice none 0 0] 50 (0, 0)) by rw [← hW2, ← hRB]; exact World.alloc_heap_new _ _)
  have HQ := Lib.hid (HQ.out.later hf)
  have HS := Lib.hid (show ∀ k, ft k → w.heap.size ≤ k ∧ k ≠ RB from fun k hk => ⟨HS.out k hk, fun e => by have := hq1.lt k hk; omega⟩)
  have HRw := Lib.hid (show w.heap.size ≤ RB from by rw [← hRB]; exact F1.out.size)
  have F2 := Lib.hid (F1.out.trans hf)
  rw [hW2]
  try rw [hRB]
  clear hW2 hRB hf hq1
  have HR : Hid (RsK W2 n [] none 0 ft) := ⟨fun i y e => by simp at e, by simp, fun g o s e => by cases e⟩
  go_loopw [5, 9, 10, 38] (fun q _ _ i wr => ∃ (j T : Nat) (E : List Ev) (ft : Nat → Prop) (ra : Option Addr) (rc qb m : Nat), j ≤ k ∧ i = .int .i64 j ∧ q = .pointer (some ⟨qb, 0, none⟩) ∧ T ≤ 300 * j ∧ E.length = m ∧ Hid (QIs wr qb n T E ft) ∧ Hid (RsK wr n E ra rc ft) ∧ Hid (wr.heap[RB]? = some (.cells #[.int .i64 n, .slice ra m rc] 50 (0, 0))) ∧ Hid (∀ k, ft k → w.heap.size ≤ k ∧ k ≠ RB) ∧ Hid (∀ g o s, ra = some ⟨g, o, s⟩ → g ≠ RB) ∧ Hid (Fr0 none' w wr)) (fun _ _ _ i _ => k - (Go.RowKit.intOf i).toNat)
  case atStart => exact ⟨0, 0, [], ft, none, 0, qb, 0, Nat.zero_le _, rfl, rfl, Nat.zero_le _, rfl, HQ, HR, HB, HS, (fun g o s e => by cases e), F2⟩
  case round =>
    clear HQ HR HB HS F2 F1
    obtain ⟨j, T, E, ft', ra, rc, qb', m, hj, rfl, rfl, hT, hm, HQ, HR, HB, HS, HN, HF⟩ := hrel
    have b0 := cells_in HB.out 0
    have b1 := cells_in HB.out 1
    simp at b0 b1
    have hRB : RB < wr.heap.size := (Array.getElem?_eq_some_iff.1 HB.out).1
    by_cases hlt : j < k
    · obtain ⟨x, hx⟩ : ∃ x, xs[j]? = some x := ⟨_, List.getElem?_eq_getElem (by rw [Hk.out]; exact hlt)⟩
      obtain ⟨hok, g, o, rfl, hin⟩ := HX.out j x hx
      have Hok := Lib.hid (hok.later HF.out)
      obtain ⟨c0, c1, c2, c3, c4, c5, c6, c7⟩ := hin.later HF.out
      have Hin := Lib.hid hin
      have k1 : (0 : Int) ≤ (j : Int) := by omega
      have k2 : (j : Int) < (k : Int) := by omega
      obtain ⟨kd, x, la, lk, lc, t, L⟩ := x
      simp only at c0 c1 c2 c3 c4 c5 c6 c7
      have Hm := Lib.hid hm
      have Hlw := Lib.hid (show L ≠ [] → ∀ g o s, la = some ⟨g, o, s⟩ → g < w.heap.size from hok.2.2.2.1.lt)
      clear hok hin hx hm
      by_cases hl30 : lk ≤ 30
      · have e1 : decide ((lk : Int) > 30) = false := decide_eq_false (by omega)
        have e2 : decide ((30 : Int) < (lk : Int)) = false := decide_eq_false (by omega)
        go_wp2_with fail
        obtain ⟨W4, hW4⟩ : ∃ W, wr.alloc (.cells #[.int .u8 kd, .int .i64 x.key.time, .int .i64 x.key.source, .int .i64 x.key.seq, .int .i64 x.to, .int .i64 x.value, .slice la lk lc, .int .i64 t] 32) = W := ⟨_, rfl⟩
        have f4 : Fr0 none' wr W4 := by rw [← hW4]; exact (Fr0.refl _ _).alloc _
        have HB4 := Lib.hid ((f4.block RB hRB id).trans HB.out)
        have HQ4 := Lib.hid (HQ.out.later f4)
        have HR4 : Hid (RsK W4 n E ra rc ft') := ⟨HR.out.1.later f4, HR.out.2.1, fun g o s e => ⟨(HR.out.2.2 g o s e).1, Nat.lt_of_lt_of_le (HR.out.2.2 g o s e).2 f4.size⟩⟩
        have F4 := Lib.hid (HF.out.trans f4)
        have Hok := Lib.hid (Hok.out.later f4)
        rw [hW4]
        have hRB4 := Lib.hid (Nat.lt_of_lt_of_le hRB f4.size)
        clear hW4 f4 c0 c1 c2 c3 c4 c5 c6 c7 b0 b1 hRB HQ HR HB HF
        have hd := do_any (kd := kd) (x := x) (la := la) (lk := lk) (lc := lc) (t := t) HQ4.out (by omega) HR4.out Hm.out Hok.out.1 Hok.out.2.1 Hok.out.2.2.1 L Hok.out.2.2.2.1 Hok.out.2.2.2.2.1 hl30 Hok.out.2.2.2.2.2 (fun h0 g o s e hk => by have h1 := Hlw.out h0 g o s e; have h2 := (HS.out g hk).1; omega)
        unfold actV at hd
        refine hd.mono ?_
        rintro e w5 ⟨qb5, T5, E5, ft5, ra5, rc5, rfl, hq5, hT5, hft5, hr5, hf5, hra5⟩
        obtain ⟨m5, hm5⟩ : ∃ m, E5.length = m := ⟨_, rfl⟩
        rw [hm5]
        have Hm5 := Lib.hid hm5
        have HQ5 := Lib.hid hq5
        have HR5 := Lib.hid hr5
        have HS5 := Lib.hid (show ∀ k, ft5 k → w.heap.size ≤ k ∧ k ≠ RB from fun k hk => by
          rcases hft5 k hk with h | h
          · exact HS.out k h
          · have := F4.out.size
            have := hRB4.out
            omega)
        have HN5 := Lib.hid (show ∀ g o s, ra5 = some ⟨g, o, s⟩ → g ≠ RB from fun g o s e => by
          rcases hra5 g o s e with ⟨o', s', h⟩ | h
          · exact HN.out g o' s' h
          · have := hRB4.out
            omega)
        have HB5 := Lib.hid ((hf5.block RB hRB4.out (fun hk => (HS.out RB hk).2 rfl)).trans HB4.out)
        have F5 := Lib.hid (show Fr0 none' w w5 from F4.out.trans' hf5 (fun k hk h => by have := (HS.out k h).1; omega))
        have u0 := cells_in HB5.out 0
        have u1 := cells_in HB5.out 1
        have t0 := thaw_in HB5.out 0
        have t1 := thaw_in HB5.out 1
        simp at u0 u1
        clear hd hq5 hr5 hft5 hra5 hf5 hm5
        go_wp2_with fail
        obtain ⟨W6, hW6⟩ : ∃ W, (w5.setCell ⟨RB, 0, none⟩ (.int .i64 n)).setCell ⟨RB, 1, none⟩ (.slice ra5 m5 rc5) = W := ⟨_, rfl⟩
        have f6 : Fr0 (fun k => k = RB) w5 W6 := by rw [← hW6]; exact ((Fr0.refl (fun k => k = RB) w5).setCell (fun _ => rfl) _).setCell (fun _ => rfl) _
        have HB6 := Lib.hid (show W6.heap[RB]? = some (.cells #[.int .i64 n, .slice ra5 m5 rc5] 50 (0, 0)) by rw [← hW6]; exact heap_set_cell (heap_set_cell HB5.out _) _)
        rw [hW6]
        have HQ6 := Lib.hid (HQ5.out.fr0 f6 (fun k hk => (HS5.out k hk).2))
        have HR6 := Lib.hid (show RsK W6 n E5 ra5 rc5 ft5 from ⟨HR5.out.1.fr0 f6 (fun g o s e h => HN5.out g o s e h), HR5.out.2.1, fun g o s e => ⟨(HR5.out.2.2 g o s e).1, Nat.lt_of_lt_of_le (HR5.out.2.2 g o s e).2 f6.size⟩⟩)
        have F6 := Lib.hid (show Fr0 none' w W6 from F5.out.trans' f6 (fun k hk h => by have := HRw.out; omega))
        clear hW6 f6 u0 u1 t0 t1
        refine (same_any HQ6.out HR6.out.1 Hm5.out (by have := HR6.out.2.1; rw [Hm5.out] at this; exact this)).mono ?_
        rintro e w7 ⟨rfl, hf7⟩
        have HQ7 := Lib.hid (HQ6.out.later hf7)
        have HR7 := Lib.hid (show RsK w7 n E5 ra5 rc5 ft5 from ⟨HR6.out.1.later hf7, HR6.out.2.1, fun g o s e => ⟨(HR6.out.2.2 g o s e).1, Nat.lt_of_lt_of_le (HR6.out.2.2 g o s e).2 hf7.size⟩⟩)
        have HB7 := Lib.hid ((hf7.block RB (Array.getElem?_eq_some_iff.1 HB6.out).1 id).trans HB6.out)
        have F7 := Lib.hid (F6.out.trans hf7)
        clear hf7
        go_wp2_with fail
        refine ⟨⟨j + 1, T5, E5, ft5, ra5, rc5, qb5, m5, by omega, by go_num, rfl, by omega, Hm5.out, HQ7, HR7, HB7, HS5, HN5, F7⟩, ?_⟩
        simp [Go.RowKit.intOf]; omega
      · have e1 : decide ((lk : Int) > 30) = true := decide_eq_true (by omega)
        have e2 : decide ((30 : Int) < (lk : Int)) = true := decide_eq_true (by omega)
        go_wp2_with fail
        obtain ⟨W4, hW4⟩ : ∃ W, wr.alloc (.cells #[.int .u8 kd, .int .i64 x.key.time, .int .i64 x.key.source, .int .i64 x.key.seq, .int .i64 x.to, .int .i64 x.value, .slice la lk lc, .int .i64 t] 32) = W := ⟨_, rfl⟩
        have f4 : Fr0 none' wr W4 := by rw [← hW4]; exact (Fr0.refl _ _).alloc _
        have HB4 := Lib.hid ((f4.block RB hRB id).trans HB.out)
        have HQ4 := Lib.hid (HQ.out.later f4)
        have HR4 : Hid (RsK W4 n E ra rc ft') := ⟨HR.out.1.later f4, HR.out.2.1, fun g o s e => ⟨(HR.out.2.2 g o s e).1, Nat.lt_of_lt_of_le (HR.out.2.2 g o s e).2 f4.size⟩⟩
        have F4 := Lib.hid (HF.out.trans f4)
        have Hok := Lib.hid (Hok.out.later f4)
        refine ⟨⟨j + 1, T, E, ft', ra, rc, qb', m, by omega, by go_num, rfl, by omega, Hm.out, ?_⟩, ?_⟩
        · rw [hW4]
          exact ⟨HQ4, HR4, HB4, HS, HN, F4⟩
        · simp [Go.RowKit.intOf]; omega
    · go_wp2_with fail
      refine (same_any HQ.out HR.out.1 hm (by have := HR.out.2.1; rw [hm] at this; exact this)).mono ?_
      rintro e w7 ⟨rfl, hf7⟩
      have F7 := Lib.hid (HF.out.trans hf7)
      clear hf7
      go_wp2_with fail
      go_ret
      exact ⟨rfl, F7.out⟩

theorem tells_any {w : World} {u : Value} {xs : List Ac} (c : Int) (hu : AcsAt w u xs) (hl : xs.length ≤ 100) : Calls Tryz.prog 6 #[.int .i64 c, u] w fun e w' => e = .returned (.bool true) ∧ Fr0 none' w w' := by
  by_cases h : c < 0 ∨ 256 < c
  · exact tells_bad c h
  · have hc : c = ((c.toNat : Nat) : Int) := by omega
    rw [hc]
    exact tells_ok c.toNat (by omega) hu hl
end Go.Proofs.YtmcgipilopfgoaaGreat
