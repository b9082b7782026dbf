/-
  name.Parts.
-/
import Derived.Test.YtnanleopoedgfaaName
set_option linter.unusedSimpArgs false
set_option linter.unusedVariables false
namespace Go.Proofs.Ytnanleopoedgfaa
open Go.RowKit
attribute [local go_sem] Oper.semAt_some wide_fn wide_depth wide_fnR wide_depthR

set_option maxRecDepth 100000 in
set_option maxHeartbeats 2000000 in
theorem Parts_yes (s : ByteArray) (w : World) (hs : s.size ≤ 100000) (hr : rightB s.data.toList = true) :
    Calls Try.prog 14 #[.string s] w fun e w' =>
      ∃ v, e = .returned (.tuple #[v, .int .i64 0]) ∧ w'.ownsRow w.heap.size 9 1 v (cut s.data.toList).length ((cut s.data.toList).map strV) ∧ Below w.heap.size w w' := by
  obtain ⟨i0, hi, hz0, hz1, hz2⟩ := info_parts info_str
  have b1 : s.size ≤ maxLen := by unfold maxLen; omega
  have hl := cut_length s.data.toList
  have hss : s.data.toList.length = s.size := by simp
  have R1 := Right_any s w b1
  rw [hr] at R1
  have H1 := Lib.hid R1
  have HB : Box ((w.alloc (.cells #[.slice none 0 0] 22)).alloc (.cells #[.string s] 9)) (w.heap.size + 1) (.string s) := by
    have := Box.new (w.alloc (.cells #[.slice none 0 0] 22)) (.string s) 9
    simpa using this
  have hit := parts_iter s (w.heap.size + 1) _ b1 HB
  obtain ⟨xs, hxs⟩ : ∃ xs, cut s.data.toList = xs := ⟨_, rfl⟩
  rw [hxs] at hit hl ⊢
  have Hl : xs.length ≤ 200000 := by omega
  have Hit := Lib.hid hit
  clear R1 hit hl hxs hss HB
  refine callsIn_wide.1 (callsIn_of_wp_marks (n := 0) Try.func14 rfl trivial ?_ rfl)
  simp only [Try.ntmps14, List.size_toArray, List.length_cons, List.length_nil, Nat.reduceAdd, Nat.reduceSub, Array.replicate_succ, Array.replicate_zero, List.push_toArray, List.append_toArray, List.nil_append, List.cons_append]
  gi_wp2_with fail
  refine (callsIn_wide.2 H1.out).mono ?_
  rintro e w' ⟨rfl, rfl⟩
  gi_wp2_with fail
  refine (callsIn_wide.2 (parts_any s _)).mono ?_
  rintro e w' ⟨rfl, rfl⟩
  gi_wp2_with fail
  refine wpIn_iter rfl (by intro args w; rfl) Hit.out (Keep.refl _ _) (fun _ => rfl) (fun k hk => by subst hk; simp) (fun k hk => by subst hk; simp)
    (fun i W => ∃ v, Box W w.heap.size v ∧ W.ownsRow (w.heap.size + 4) 9 1 v i ((xs.take i).map strV) ∧ Fr none' w W)
    (fun _ _ => False) ?hI (fun _ _ _ h _ => h.elim) ?h0
    (fun x _ a' => a' = { tmps := #[.string s, undef, .slice none 0 0, .int .i64 0, .pointer (some ⟨w.heap.size, 0, none⟩), .string (bs x), .string s, .bool true, .bool false, .string s, .func (.func 61) #[] #[.pointer (some ⟨w.heap.size + 1, 0, none⟩)], .string (bs x), undef, undef, undef, undef, undef], defers := [] })
    ?assign (fun _ _ _ _ h _ => h) ?body ?done (fun _ _ _ _ h _ => h.elim)
  case hI =>
    rintro i W1 W2 ⟨v, hb, hrow, hfr⟩ hf
    simp only [World.size_alloc] at hf
    refine ⟨v, hb.fr hf (fun h => by omega), ownsRow_fr hrow hf (fun g hg h => ?_), hfr.trans' hf (fun k hk h => by omega)⟩
    have hlt := (hrow.lt g hg).1
    omega
  case h0 =>
    exact ⟨_, (Box.new w _ _).alloc _, World.ownsRow_nil _ _ _ _, ((Fr.refl _ _).alloc _).alloc _⟩
  case assign =>
    intro l x W K hlt hK
    gi_wp2
    exact hK _ _ (by simp) (Fr.refl _ _)
  case body =>
    rintro l i x W a' r hxi ⟨v, hb, hrow, hfr⟩ rfl hD hL
    have hlt : i < xs.length := (List.getElem?_eq_some_iff.1 hxi).1
    have hsz : w.heap.size + 3 < W.heap.size := by have := (Array.getElem?_eq_some_iff.1 hL).1; simpa using this
    have hc := hb.cell
    have hf := hb.frozen
    have Hxi := Lib.hid hxi
    clear hxi hD hL
    gi_wp2_with (gi_at_builtin; refine wpListIn_append_dr rfl _ _ 22 22 rfl (w.heap.size + 4) 9 i0 (.string ⟨#[]⟩) 16 Try.underlying22 hi hz0 hz1 hz2 rfl v i _ rfl (hrow.alloc _) (.slice (some ⟨W.heap.size, 0, none⟩) 1 1) 1 [strV x] rfl (Src.ofSlice _ Try.underlying22 _ 1 1 _ rfl (cell_one_new _ _ _) (by simp [Value.oneCell', strV])) (by unfold maxLen; omega) (by omega) (by simp; omega) ?_; intro v' w1 hown' hgrow hdr; obtain ⟨g', cap', rfl⟩ := ownsRow_succ hown'; have hfg := ((Fr.refl (from' (w.heap.size + 4)) W).alloc _).grown hgrow hdr (fun k hk _ => (hrow.lt k hk).1); have hb1 := hb.fr hfg (by unfold from'; omega); have hc1 := hb1.cell; have hf1 := hb1.frozen)
    have hb2 := hb1.set (.slice (some ⟨g', 0, none⟩) (i + 1) cap')
    have hf2 := (hfg.mono (S' := fun k => k = w.heap.size ∨ w.heap.size + 4 ≤ k) (fun k _ h => .inr h)).setCell (b := w.heap.size) (o := 0) (fun _ => .inl rfl) (.slice (some ⟨g', 0, none⟩) (i + 1) cap')
    refine ⟨_, hf2, ?_, ⟨_, hb2, ?_, ?_⟩⟩
    · intro k h1 h2
      simp only [World.size_alloc] at h2
      omega
    · have h3 := ownsRow_setCell_below hown' (a := ⟨w.heap.size, 0, none⟩) (by simp) (.slice (some ⟨g', 0, none⟩) (i + 1) cap')
      rw [show List.map strV (List.take (i + 1) xs) = List.map strV (List.take i xs) ++ [strV x] from by
        rw [List.take_add_one, Hxi.out]; simp]
      exact h3
    · exact hfr.trans' hf2 (fun k hk h => by omega)
  case done =>
    rintro D W hDe ⟨v, hb, hrow, hfr⟩ hK
    obtain rfl : D = w.heap.size + 2 := by simpa using hDe
    have hc := hb.cell
    rw [List.take_of_length_le (Nat.le_refl _)] at hrow
    have hD : w.heap.size + 2 < W.heap.size := (Array.getElem?_eq_some_iff.1 hK).1
    have hfe : Fr none' w (W.putObj (w.heap.size + 2) (.deferred none)) := hfr.putObj (fun h => by omega) _
    have hrow' : (W.putObj (w.heap.size + 2) (.deferred none)).ownsRow w.heap.size 9 1 v xs.length (xs.map strV) := by
      refine ownsRow_fr (ownsRow_mono hrow (by omega)) (Fr.putNew (S := fun k => k = w.heap.size + 2) _ _ rfl) (fun g hg h => ?_)
      have := (hrow.lt g hg).1; omega
    have hK' := hK
    have hfv : ∃ a n c, v = .slice a n c := by
      rcases hrow.2 with ⟨rfl, _⟩ | ⟨g, cap, cur, rfl, _⟩
      · exact ⟨_, _, _, rfl⟩
      · exact ⟨_, _, _, rfl⟩
    clear hrow hb hfr hK
    obtain ⟨sa, sn, sc, rfl⟩ := hfv
    gi_wp2
    refine ⟨by simp, .inl ⟨_, _, rfl, run_takeDeferred hK', ?_⟩⟩
    refine ⟨_, results_tmp2 rfl _ _ _, _, rfl, hrow', hfe.below (Nat.le_refl _) (fun _ _ => id)⟩

set_option maxRecDepth 100000 in
set_option maxHeartbeats 2000000 in
theorem Parts_no (s : ByteArray) (w : World) (hs : s.size ≤ 100000) (hr : rightB s.data.toList = false) :
    Calls Try.prog 14 #[.string s] w fun e w' => e = .returned (.tuple #[.slice none 0 0, .int .i64 40]) ∧ w = w' := by
  have b1 : s.size ≤ maxLen := by unfold maxLen; omega
  have R1 := Right_any s w b1
  rw [hr] at R1
  have H1 := Lib.hid R1
  clear R1
  go_enter Try.func14, Try.ntmps14
  go_wp2_with fail
  refine H1.out.mono ?_
  rintro e w' ⟨rfl, rfl⟩
  go_wp2
  go_ret2
  exact ⟨rfl, rfl⟩
end Go.Proofs.Ytnanleopoedgfaa
