/-
  slices.Collect at the fields of a key.
-/
import Derived.Test.YtbpmdhngobdilaaKf1
import Derived.Test.YtbpmdhngobdilaaAppK
import Derived.Maps.AppendAt
namespace Go.Proofs.Ytbpmdhngobdilaa
open Go.RowKit
attribute [local go_sem] Oper.semAt_some wide_fn wide_depth wide_fnR wide_depthR

theorem info_field : (Try.prog.info? 81).map (fun i => (i.zero, i.size, i.bytes)) = some (some (.agg #[.pointer none, .int .i64 0, .int .i64 0, .string ⟨#[]⟩]), 4, 40) := by kernel_rfl
theorem ownsRow_k_succ {w : World} {base : Nat} {e : TypeId} {size : Nat} {v : Value} {n : Nat} {xs : List Value} (h : w.ownsRow base e size v (n + 1) xs) : ∃ g cap, v = .slice (some ⟨g, 0, none⟩) (n + 1) cap := by
  rcases h.2 with ⟨_, h⟩ | ⟨g, cap, cur, h, _⟩
  · omega
  · exact ⟨g, cap, h⟩
def fCs (b : Nat) (l : List Nat) : List Value := l.flatMap (fC b)
theorem fCs_snoc (b : Nat) (l : List Nat) (i : Nat) : fCs b (l ++ [i]) = fCs b l ++ fC b i := by simp [fCs]

set_option maxRecDepth 100000 in
set_option maxHeartbeats 2000000 in
theorem AppendSeqF (gf : Nat) (lb : Array Value) (b : Nat) (xs : List Nat) (own rd : Nat → Prop) (w : World) (eg : ∀ args w, (callFunc gf args).run Try.prog w = .ok (.enter gf args) w)
    (hit : IterX Try.prog gf lb (fun i : Nat => #[fV b i]) xs own rd w) (ho : ∀ k, own k → k < w.heap.size) (hr : ∀ k, rd k → k < w.heap.size) (hlen : xs.length ≤ 1000000) :
    CallsIn Fence.wide 0 Try.prog 52 #[.slice none 0 0, .func (.func gf) #[] lb] w fun e w' =>
      ∃ v, e = .returned v ∧ w'.ownsRow w.heap.size 81 4 v xs.length (fCs b xs) ∧ Fr own w w' := by
  obtain ⟨i0, hi, hz0, hz1, hz2⟩ := info_parts info_field
  refine callsIn_of_wp_marks Try.func52 rfl trivial ?_ rfl
  simp only [Try.ntmps52, List.size_toArray, List.length_cons, List.length_nil, Nat.reduceAdd, Nat.reduceSub, Array.replicate_succ, Array.replicate_zero, List.push_toArray, List.append_toArray, List.nil_append, List.cons_append]
  gi_wp2_with fail
  refine wpIn_iterX (gf := gf) (lb := lb) rfl eg hit (Fr.keep ((Fr.refl none' w).alloc _) (fun k hk => ⟨hr k hk, id⟩)) (fun _ => rfl) (fun k hk => by have := ho k hk; simp; omega) (fun k hk => by have := hr k hk; simp; omega)
    (fun i X W => ∃ v, Box W w.heap.size v ∧ W.ownsRow (w.heap.size + 3) 81 4 v i (fCs b (xs.take i)) ∧ Fr own w W ∧ ∀ g, v.ownBlock = some g → ¬ X g)
    (fun _ _ => False) ?hI (fun _ _ _ h _ => h.elim) ?h0
    (fun x W a' => ∃ B, a' = { tmps := #[.slice none 0 0, .func (.func gf) #[] lb, .pointer (some ⟨w.heap.size, 0, none⟩), undef, .slice none 0 0, .pointer (some ⟨B, 0, none⟩), .func (.func gf) #[] lb, fV b x, undef, undef, undef, undef, undef], defers := [] } ∧ w.heap.size + 2 < B ∧ W.heap[B]? = some (.cells (fC b x).toArray 81 (0, 0)))
    ?assign ?keep ?body ?done (fun _ _ _ _ h _ => h.elim)
  case hI =>
    rintro i X Y W1 W2 ⟨v, hb, hrow, hfr, hX⟩ hXb hf hY
    simp only [World.size_alloc] at hf hXb
    refine ⟨v, hb.fr hf (fun h => ?_), ownsRow_k_fr hrow hf (fun g hg h => ?_), hfr.trans' hf (fun k hk h => ?_), fun g hg hy => ?_⟩
    · rcases h with h | h | h | h
      · have := ho _ h; omega
      · have := hXb _ h; omega
      · omega
      · omega
    · have hlt := hrow.lt g hg
      rcases h with h | h | h | h
      · have := ho _ h; omega
      · exact hX g hg h
      · omega
      · omega
    · rcases h with h | h | h | h
      · exact h
      · have := hXb _ h; omega
      · omega
      · omega
    · rcases hY g hy with h | h
      · exact hX g hg h
      · have := hrow.lt g hg; omega
  case h0 =>
    exact ⟨_, Box.new w _ _, World.ownsRow_nil _ _ _ _, (Fr.refl _ _).alloc _, fun g hg => by cases hg⟩
  case keep =>
    rintro x W1 W2 a' ⟨B, rfl, hB, hc⟩ hf
    refine ⟨B, rfl, hB, (hf.block B (Array.getElem?_eq_some_iff.1 hc).1 (by simp; omega)).trans hc⟩
  case assign =>
    intro l x W K hlt hK
    simp only [World.size_alloc] at hlt
    simp only [fV]
    gi_wp2
    exact hK _ _ ⟨W.heap.size, by simp [fV], by omega, World.alloc_heap_new W _⟩ ((Fr.refl _ _).alloc _)
  case body =>
    rintro l i x X W a' r hxi ⟨v, hb, hrow, hfr, hX⟩ hXb ⟨B, rfl, hB, hcB⟩ hD hL
    have hlt : i < xs.length := (List.getElem?_eq_some_iff.1 hxi).1
    have hsz : w.heap.size + 2 < W.heap.size := by have := (Array.getElem?_eq_some_iff.1 hL).1; simpa using this
    have hc := hb.cell
    have hf := hb.frozen
    simp only [World.size_alloc] at hXb
    have Hxi := Lib.hid hxi
    have b0 := cells_of hcB 0
    have b1 := cells_of hcB 1
    have b2 := cells_of hcB 2
    have b3 := cells_of hcB 3
    simp [fC] at b0 b1 b2 b3
    have HX := Lib.hid hX
    have HXb := Lib.hid hXb
    clear hxi hD hL hcB hX hXb
    have hsrc := Src.newRow (P := Try.prog) (size := 4) (tx := 77) (ty := 81) W Try.underlying77 1 1 (fC b x) rfl (by simp [Value.oneCell', fC])
    simp only [fC] at hsrc
    gi_wp2_with (gi_at_builtin; refine wpListIn_append_k rfl _ _ 77 77 rfl (w.heap.size + 3) 81 i0 (.agg #[.pointer none, .int .i64 0, .int .i64 0, .string ⟨#[]⟩]) 4 40 Try.underlying77 hi hz0 hz1 hz2 rfl (by decide) v i _ rfl (hrow.alloc _) (.slice (some ⟨W.heap.size, 0, none⟩) 1 1) 1 _ rfl hsrc (by unfold maxLen; omega) (by omega) (by simp; omega) ?_; intro v' w1 hown' hgrow hdr hob; obtain ⟨g', cap', rfl⟩ := ownsRow_k_succ hown'; have hfg := ((Fr.refl (fun k => v.ownBlock = some k) W).alloc _).grown hgrow hdr (fun k hk _ => hk); have hb1 := hb.fr hfg (fun h => by have := (hrow.lt _ h).1; omega); have hc1 := hb1.cell; have hf1 := hb1.frozen)
    have hb2 := hb1.set (.slice (some ⟨g', 0, none⟩) (i + 1) cap')
    have hf2 := (hfg.mono (S' := fun k => k = w.heap.size ∨ v.ownBlock = some k) (fun k _ h => .inr h)).setCell (b := w.heap.size) (o := 0) (fun _ => .inl rfl) (.slice (some ⟨g', 0, none⟩) (i + 1) cap')
    refine ⟨_, hf2, ?_, ⟨_, hb2, ?_, ?_, ?_⟩⟩
    · intro k h1 h2
      simp only [World.size_alloc] at h2
      rcases h1 with h1 | h1
      · rcases h2 with h | h | h | h
        · have := hr _ h; omega
        · have := HXb.out _ h; omega
        · omega
        · omega
      · have h3 := hrow.lt _ h1
        rcases h2 with h | h | h | h
        · have := hr _ h; omega
        · exact HX.out _ h1 h
        · omega
        · omega
    · have h3 := ownsRow_setCell_below hown' (a := ⟨w.heap.size, 0, none⟩) (by simp) (.slice (some ⟨g', 0, none⟩) (i + 1) cap')
      rw [show List.take (i + 1) xs = List.take i xs ++ [x] from by
        rw [List.take_add_one, Hxi.out]; simp, fCs_snoc]
      exact h3
    · exact hfr.trans' hf2 (fun k hk h => by
        rcases h with h | h
        · omega
        · have := hrow.lt _ h; omega)
    · intro g hg hXg
      rcases hob with h | h
      · rw [hg] at h; exact HX.out _ h.symm hXg
      · rw [hg] at h
        injection h with h
        have := HXb.out _ hXg
        simp at h; omega
  case done =>
    rintro D X W hDe ⟨v, hb, hrow, hfr, _⟩ hK
    obtain rfl : D = w.heap.size + 1 := by simpa using hDe
    have hc := hb.cell
    rw [List.take_of_length_le (Nat.le_refl _)] at hrow
    have hD : w.heap.size + 1 < W.heap.size := by have := (Array.getElem?_eq_some_iff.1 hK).1; simpa using this
    have hfe : Fr own w (W.putObj (w.heap.size + 1) (.deferred none)) := hfr.putObj (fun h => by omega) _
    have hrow' : (W.putObj (w.heap.size + 1) (.deferred none)).ownsRow w.heap.size 81 4 v xs.length (fCs b xs) := by
      refine ownsRow_k_fr (ownsRow_k_mono hrow (by omega)) (Fr.putNew (S := fun k => k = w.heap.size + 1) _ _ rfl) (fun g hg h => ?_)
      have := (hrow.lt g hg).1; omega
    have hK' := hK
    have hfv : ∃ a n c, v = .slice a n c := by
      rcases hrow.2 with ⟨rfl, _⟩ | ⟨g, cap, cur, rfl, _⟩
      · exact ⟨_, _, _, rfl⟩
      · exact ⟨_, _, _, rfl⟩
    clear hrow hb hfr hK
    obtain ⟨sa, sn, sc, rfl⟩ := hfv
    gi_wp2
    refine ⟨by simp, .inl ⟨_, _, rfl, run_takeDeferred hK', ?_⟩⟩
    refine ⟨_, results_tmp rfl _ _ _, _, rfl, ?_, hfe⟩
    exact hrow'

set_option maxRecDepth 100000 in
set_option maxHeartbeats 2000000 in
theorem CollectF (gf : Nat) (lb : Array Value) (b : Nat) (xs : List Nat) (own rd : Nat → Prop) (w : World) (eg : ∀ args w, (callFunc gf args).run Try.prog w = .ok (.enter gf args) w)
    (hit : IterX Try.prog gf lb (fun i : Nat => #[fV b i]) xs own rd w) (ho : ∀ k, own k → k < w.heap.size) (hr : ∀ k, rd k → k < w.heap.size) (hlen : xs.length ≤ 1000000) :
    Calls Try.prog 38 #[.func (.func gf) #[] lb] w fun e w' =>
      ∃ v, e = .returned v ∧ w'.ownsRow w.heap.size 81 4 v xs.length (fCs b xs) ∧ Fr own w w' := by
  have HC := Lib.hid (callsIn_wide.1 (AppendSeqF gf lb b xs own rd w eg hit ho hr hlen))
  clear hit
  go_enter Try.func38, Try.ntmps38
  go_wp2_with fail
  refine HC.out.mono ?_
  rintro e w1 ⟨v, rfl, hrow, hfr⟩
  go_wp2
  go_ret
  exact ⟨_, rfl, hrow, hfr⟩
end Go.Proofs.Ytbpmdhngobdilaa
