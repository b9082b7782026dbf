/-
  slices.Collect and slices.AppendSeq at strings, over an iterator.
-/
import Derived.Test.YtnanleopoedgfaaParts
import Derived.Test.YtnanleopoedgfaaAppD
import Derived.Maps.AppendAt
set_option linter.unusedSimpArgs false
set_option linter.unusedVariables false
namespace Go.Proofs.Ytnanleopoedgfaa
open Go.RowKit
attribute [local go_sem] Oper.semAt_some wide_fn wide_depth wide_fnR wide_depthR

theorem ownsRow_fr {S : Nat → Prop} {w w' : World} {base : Nat} {e : TypeId} {size : Nat} {v : Value} {n : Nat} {xs : List Value} (h : w.ownsRow base e size v n xs) (hf : Fr S w w')
    (hs : ∀ g, v.ownBlock = some g → ¬ S g) : w'.ownsRow base e size v n xs := by
  obtain ⟨h1, h2⟩ := h
  refine ⟨h1, ?_⟩
  rcases h2 with h2 | ⟨g, cap, cur, hv, hg, hh, r⟩
  · exact Or.inl h2
  · refine Or.inr ⟨g, cap, cur, hv, hg, ?_, r⟩
    rw [hf.block g (Array.getElem?_eq_some_iff.1 hh).1 (hs g (by rw [hv]; rfl))]; exact hh
theorem ownsRow_mono {w : World} {base base' : Nat} {e : TypeId} {size : Nat} {v : Value} {n : Nat} {xs : List Value} (h : w.ownsRow base e size v n xs) (hb : base' ≤ base) : w.ownsRow base' e size v n xs := by
  obtain ⟨h1, h2⟩ := h
  refine ⟨h1, ?_⟩
  rcases h2 with h2 | ⟨g, cap, cur, hv, hg, hh, r⟩
  · exact Or.inl h2
  · exact Or.inr ⟨g, cap, cur, hv, Nat.le_trans hb hg, hh, r⟩
theorem info_str : (Try.prog.info? 9).map (fun i => (i.zero, i.size, i.bytes)) = some (some (.string ⟨#[]⟩), 1, 16) := by kernel_rfl

def strV (p : Bs) : Value := .string (bs p)

set_option maxRecDepth 100000 in
set_option maxHeartbeats 2000000 in
theorem AppendSeq_nil (gf : Nat) (lb : Array Value) (xs : List Bs) (own rd : Nat → Prop) (w : World) (eg : ∀ args w, (callFunc gf args).run Try.prog w = .ok (.enter gf args) w)
    (hit : Iter Try.prog gf lb (fun p : Bs => #[.string (bs p)]) xs own rd w) (ho : ∀ k, own k → k < w.heap.size) (hr : ∀ k, rd k → k < w.heap.size) (hlen : xs.length ≤ 1000000) :
    CallsIn Fence.wide 0 Try.prog 76 #[.slice none 0 0, .func (.func gf) #[] lb] w fun e w' =>
      ∃ v, e = .returned v ∧ w'.ownsRow w.heap.size 9 1 v xs.length (xs.map strV) ∧ Fr own w w' := by
  obtain ⟨i0, hi, hz0, hz1, hz2⟩ := info_parts info_str
  refine callsIn_of_wp_marks Try.func76 rfl trivial ?_ rfl
  simp only [Try.ntmps76, List.size_toArray, List.length_cons, List.length_nil, Nat.reduceAdd, Nat.reduceSub, Array.replicate_succ, Array.replicate_zero, List.push_toArray, List.append_toArray, List.nil_append, List.cons_append]
  gi_wp2_with fail
  refine wpIn_iter (gf := gf) (lb := lb) rfl eg hit (Fr.keep ((Fr.refl none' w).alloc _) (fun k hk => ⟨hr k hk, id⟩)) (fun _ => rfl) (fun k hk => by have := ho k hk; simp; omega) (fun k hk => by have := hr k hk; simp; omega)
    (fun i W => ∃ v, Box W w.heap.size v ∧ W.ownsRow (w.heap.size + 3) 9 1 v i ((xs.take i).map strV) ∧ Fr own w W)
    (fun _ _ => False) ?hI (fun _ _ _ h _ => h.elim) ?h0
    (fun x _ a' => a' = { tmps := #[.slice none 0 0, .func (.func gf) #[] lb, .pointer (some ⟨w.heap.size, 0, none⟩), undef, .slice none 0 0, .string (bs x), .func (.func gf) #[] lb, .string (bs x), undef, undef, undef, undef, undef], defers := [] })
    ?assign (fun _ _ _ _ h _ => h) ?body ?done (fun _ _ _ _ h _ => h.elim)
  case hI =>
    rintro i W1 W2 ⟨v, hb, hrow, hfr⟩ hf
    simp only [World.size_alloc] at hf
    refine ⟨v, hb.fr hf (fun h => ?_), ownsRow_fr hrow hf (fun g hg h => ?_), hfr.trans' hf (fun k hk h => ?_)⟩
    · rcases h with h | h | h
      · have := ho _ h; omega
      · omega
      · omega
    · have hlt := hrow.lt g hg
      rcases h with h | h | h
      · have := ho _ h; omega
      · omega
      · omega
    · rcases h with h | h | h
      · exact h
      · omega
      · omega
  case h0 =>
    exact ⟨_, Box.new w _ _, World.ownsRow_nil _ _ _ _, (Fr.refl _ _).alloc _⟩
  case assign =>
    intro l x W K hlt hK
    gi_wp2
    exact hK _ _ rfl (Fr.refl _ _)
  case body =>
    rintro l i x W a' r hxi ⟨v, hb, hrow, hfr⟩ rfl hD hL
    have hlt : i < xs.length := (List.getElem?_eq_some_iff.1 hxi).1
    have hsz : w.heap.size + 2 < W.heap.size := by have := (Array.getElem?_eq_some_iff.1 hL).1; simpa using this
    have hc := hb.cell
    have hf := hb.frozen
    have Hxi := Lib.hid hxi
    clear hxi hD hL
    gi_wp2_with (gi_at_builtin; refine wpListIn_append_dr rfl _ _ 22 22 rfl (w.heap.size + 3) 9 i0 (.string ⟨#[]⟩) 16 Try.underlying22 hi hz0 hz1 hz2 rfl v i _ rfl (hrow.alloc _) (.slice (some ⟨W.heap.size, 0, none⟩) 1 1) 1 [strV x] rfl (Src.ofSlice _ Try.underlying22 _ 1 1 _ rfl (cell_one_new _ _ _) (by simp [Value.oneCell', strV])) (by unfold maxLen; omega) (by omega) (by simp; omega) ?_; intro v' w1 hown' hgrow hdr; obtain ⟨g', cap', rfl⟩ := ownsRow_succ hown'; have hfg := ((Fr.refl (from' (w.heap.size + 3)) W).alloc _).grown hgrow hdr (fun k hk _ => (hrow.lt k hk).1); have hb1 := hb.fr hfg (by unfold from'; omega); have hc1 := hb1.cell; have hf1 := hb1.frozen)
    have hb2 := hb1.set (.slice (some ⟨g', 0, none⟩) (i + 1) cap')
    have hf2 := (hfg.mono (S' := fun k => k = w.heap.size ∨ w.heap.size + 3 ≤ k) (fun k _ h => .inr h)).setCell (b := w.heap.size) (o := 0) (fun _ => .inl rfl) (.slice (some ⟨g', 0, none⟩) (i + 1) cap')
    refine ⟨_, hf2, ?_, ⟨_, hb2, ?_, ?_⟩⟩
    · intro k h1 h2
      simp only [World.size_alloc] at h2
      rcases h2 with h | h | h
      · have := hr _ h; omega
      · omega
      · omega
    · have h3 := ownsRow_setCell_below hown' (a := ⟨w.heap.size, 0, none⟩) (by simp) (.slice (some ⟨g', 0, none⟩) (i + 1) cap')
      rw [show List.map strV (List.take (i + 1) xs) = List.map strV (List.take i xs) ++ [strV x] from by
        rw [List.take_add_one, Hxi.out]; simp]
      exact h3
    · exact hfr.trans' hf2 (fun k hk h => by omega)
  case done =>
    rintro D W hDe ⟨v, hb, hrow, hfr⟩ hK
    obtain rfl : D = w.heap.size + 1 := by simpa using hDe
    have hc := hb.cell
    rw [List.take_of_length_le (Nat.le_refl _)] at hrow
    have hD : w.heap.size + 1 < W.heap.size := by have := (Array.getElem?_eq_some_iff.1 hK).1; simpa using this
    have hfe : Fr own w (W.putObj (w.heap.size + 1) (.deferred none)) := hfr.putObj (fun h => by omega) _
    have hrow' : (W.putObj (w.heap.size + 1) (.deferred none)).ownsRow w.heap.size 9 1 v xs.length (xs.map strV) := by
      refine ownsRow_fr (ownsRow_mono hrow (by omega)) (Fr.putNew (S := fun k => k = w.heap.size + 1) _ _ rfl) (fun g hg h => ?_)
      have := (hrow.lt g hg).1; omega
    have hK' := hK
    have hfv : ∃ a n c, v = .slice a n c := by
      rcases hrow.2 with ⟨rfl, _⟩ | ⟨g, cap, cur, rfl, _⟩
      · exact ⟨_, _, _, rfl⟩
      · exact ⟨_, _, _, rfl⟩
    clear hrow hb hfr hK
    obtain ⟨sa, sn, sc, rfl⟩ := hfv
    gi_wp2
    refine ⟨by simp, .inl ⟨_, _, rfl, run_takeDeferred hK', ?_⟩⟩
    refine ⟨_, results_tmp rfl _ _ _, _, rfl, ?_, hfe⟩
    exact hrow'

set_option maxRecDepth 100000 in
set_option maxHeartbeats 2000000 in
theorem Collect_any (gf : Nat) (lb : Array Value) (xs : List Bs) (own rd : Nat → Prop) (w : World) (eg : ∀ args w, (callFunc gf args).run Try.prog w = .ok (.enter gf args) w)
    (hit : Iter Try.prog gf lb (fun p : Bs => #[.string (bs p)]) xs own rd w) (ho : ∀ k, own k → k < w.heap.size) (hr : ∀ k, rd k → k < w.heap.size) (hlen : xs.length ≤ 1000000) :
    Calls Try.prog 60 #[.func (.func gf) #[] lb] w fun e w' =>
      ∃ v, e = .returned v ∧ w'.ownsRow w.heap.size 9 1 v xs.length (xs.map strV) ∧ Fr own w w' := by
  have HC := Lib.hid (callsIn_wide.1 (AppendSeq_nil gf lb xs own rd w eg hit ho hr hlen))
  clear hit
  go_enter Try.func60, Try.ntmps60
  go_wp2_with fail
  refine HC.out.mono ?_
  rintro e w1 ⟨v, rfl, hrow, hfr⟩
  go_wp2
  go_ret
  exact ⟨_, rfl, hrow, hfr⟩
end Go.Proofs.Ytnanleopoedgfaa
