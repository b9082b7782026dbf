/-
  heap.places, Tree.
-/
import Derived.Test.YtbpmdhngobdilaaHpE
import Derived.OwnWalk
namespace Go.Proofs.Ytbpmdhngobdilaa
open Go.RowKit
attribute [local go_sem ↓] Go.wp_at_zero Go.wp_at_succ

def placesV (t : List Ent) : List Value := t.map (fun e => natV e.place)
theorem placesV_take (t : List Ent) (k : Nat) (h : k < t.length) : placesV (t.take (k + 1)) = placesV (t.take k) ++ [natV (at' t k).place] := by
  unfold placesV
  rw [List.take_succ_eq_append_getElem h, List.map_append, at_get h]; rfl
/-- The cells of a row of entries. -/
theorem row_ent {w : World} {base : Nat} {g cap : Nat} {t : List Ent} {n : Nat} (h : w.ownsRow base 70 4 (.slice (some ⟨g, 0, none⟩) n cap) t.length (flatE t)) {i : Nat} (hi : i < t.length) :
    w.cell? ⟨g, i * 4, none⟩ = some (.int .i64 (at' t i).key.time) ∧ w.cell? ⟨g, i * 4 + 1, none⟩ = some (.int .i64 (at' t i).key.source) ∧ w.cell? ⟨g, i * 4 + 2, none⟩ = some (.int .i64 (at' t i).key.seq) ∧ w.cell? ⟨g, i * 4 + 3, none⟩ = some (.int .i64 (at' t i).place) := by
  have hc := h.cells (g := g) rfl
  have key : ∀ c, c < 4 → ∀ u, (entCells (at' t i))[c]? = some u → w.cell? ⟨g, i * 4 + c, none⟩ = some u := fun c h4 u hu => by
    have := hc (4 * i + c) u ((flatE_get t i c hi h4).trans hu)
    unfold Addr.add at this
    split at this
    · next h0 => rw [show i * 4 + c = 0 by omega]; exact this
    · simp at this; rw [show i * 4 + c = 4 * i + c by omega]; exact this
  exact ⟨key 0 (by omega) _ rfl, key 1 (by omega) _ rfl, key 2 (by omega) _ rfl, key 3 (by omega) _ rfl⟩

set_option maxRecDepth 100000 in
set_option maxHeartbeats 2000000 in
theorem places_any {w : World} {base : Nat} {v : Value} {t : List Ent} (hrow : w.ownsRow base 70 4 v t.length (flatE t)) (hm : t.length ≤ 5000) :
    Calls Try.prog 37 #[v] w fun e w' => ∃ v', e = .returned v' ∧ w'.ownsRow w.heap.size 3 1 v' t.length (placesV t) ∧ Fr none' w w' := by
  obtain ⟨m, hm'⟩ : ∃ m, t.length = m := ⟨_, rfl⟩
  obtain ⟨i0, hi, hz0, hz1, hz2⟩ := info_parts info_int
  obtain ⟨a, cap, rfl⟩ : ∃ a cap, v = .slice a m cap := by
    rcases hrow.2 with ⟨h1, h0⟩ | ⟨g, cap, cur, rfl, _⟩
    · exact ⟨none, 0, by rw [h1, ← hm', h0]⟩
    · exact ⟨_, _, by rw [hm']⟩
  obtain ⟨N, hN⟩ : ∃ N, w.heap.size = N := ⟨_, rfl⟩
  rw [hm'] at hm
  have Hrow := Lib.hid hrow
  have Hm := Lib.hid hm'
  have HN := Lib.hid hN
  rw [hN, hm']
  clear hrow hm' hN
  go_enter Try.func37, Try.ntmps37
  go_wp2
  go_loopw [3, 5, 8] (fun out _ i wr => ∃ k : Nat, k ≤ m ∧ i = .int .i64 k ∧ Hid (wr.ownsRow N 3 1 out k (placesV (t.take k))) ∧ Hid (Fr none' w wr)) (fun _ _ i _ => m - (intOf i).toNat)
  case atStart => exact ⟨0, Nat.zero_le _, rfl, World.ownsRow_nil _ _ _ _, Fr.refl _ _⟩
  case round =>
    obtain ⟨k, hk, rfl, hown, hfr⟩ := hrel
    by_cases hlt : k < m
    · have hkt : k < t.length := by rw [Hm.out]; exact hlt
      obtain ⟨x, hx⟩ : ∃ x, at' t k = x := ⟨_, rfl⟩
      have hrow1 := ownsRow_k_fr Hrow.out hfr.out (fun _ _ h => h)
      obtain ⟨g, rfl⟩ : ∃ g, a = some ⟨g, 0, none⟩ := by
        rcases hrow1.2 with ⟨_, h0⟩ | ⟨g, cap, cur, h, _⟩
        · omega
        · injection h with h; exact ⟨g, h⟩
      obtain ⟨s0, s1, s2, s3⟩ := row_ent hrow1 hkt
      rw [hx] at s0 s1 s2 s3
      have hNr : N ≤ wr.heap.size := by rw [← HN.out]; exact hfr.out.size
      obtain ⟨M, hM⟩ : ∃ M, wr.heap.size = M := ⟨_, rfl⟩
      have hgl : g < wr.heap.size := World.block_lt_of_cell? wr _ s0
      have hsrc := Src.newRow (P := Try.prog) (size := 1) (tx := 44) (ty := 3) (wr.alloc (.cells #[.int .i64 x.key.time, .int .i64 x.key.source, .int .i64 x.key.seq, .int .i64 x.place] 70)) Try.underlying44 1 1 [.int .i64 x.place] rfl (by simp [Value.oneCell'])
      rw [World.size_alloc] at hsrc
      have Hx := Lib.hid hx
      have HM := Lib.hid hM
      have hown2 := (hown.out.alloc (.cells #[.int .i64 x.key.time, .int .i64 x.key.source, .int .i64 x.key.seq, .int .i64 x.place] 70)).alloc (.cells [Value.int .i64 x.place].toArray 3)
      have fr2 : Fr none' w ((wr.alloc (.cells #[.int .i64 x.key.time, .int .i64 x.key.source, .int .i64 x.key.seq, .int .i64 x.place] 70)).alloc (.cells [Value.int .i64 x.place].toArray 3)) := (hfr.out.alloc _).alloc _
      have Fr2 := Lib.hid fr2
      have Hown2 := Lib.hid hown2
      have Hsrc := Lib.hid hsrc
      clear hrow1 hx hM fr2 hown2 hsrc
      go_wp2_with (at_builtin; refine wpList_append_k rfl _ _ 44 44 rfl N 3 i0 (.int .i64 0) 1 8 Try.underlying44 hi hz0 hz1 hz2 rfl (by decide) _ k _ rfl Hown2.out (.slice (some ⟨wr.heap.size + 1, 0, none⟩) 1 1) 1 _ rfl Hsrc.out (by unfold maxLen; omega) (by omega) (by simp; omega) ?_; intro v' w1 hown' hgrow hdr hob)
      have hfin : Fr none' w w1 := Fr2.out.grown hgrow hdr (fun j hj hl => by
        have h1 := (Hown2.out.lt j hj).1
        rw [HN.out] at hl; omega)
      have Hfin := Lib.hid hfin
      have Hown' := Lib.hid hown'
      obtain ⟨g', cap', rfl⟩ := ownsRow_k_succ hown'
      clear hgrow hdr hob hfin hown'
      go_wp2
      go_roundw
      case rel =>
        refine ⟨k + 1, by omega, by go_num, ?_, Hfin.out⟩
        have h1 := Hown'.out
        have h2 := placesV_take t k hkt
        rw [Hx.out] at h2
        show World.ownsRow _ _ _ _ _ _ (placesV (List.take (k + 1) t))
        rw [h2]
        exact h1
      case measure => simp [intOf]; omega
    · have hkm : k = m := by omega
      subst hkm
      have hfin : Hid (wr.ownsRow N 3 1 u3 k (placesV t)) := by
        have h1 := hown.out
        rw [List.take_of_length_le (by rw [Hm.out]; exact Nat.le_refl _)] at h1
        exact h1
      clear hown
      go_wp2
      go_ret
      exact ⟨_, rfl, hfin.out, hfr.out⟩

set_option maxRecDepth 100000 in
set_option maxHeartbeats 1000000 in
theorem Tree_is {w : World} {hb ba n : Nat} {v : Value} {L : List Ent} (h : HeapIs w hb ba v n L) :
    Calls Try.prog 21 #[.pointer (some ⟨hb, 0, none⟩)] w fun e w' => ∃ v' t, e = .returned v' ∧ t.Perm L ∧ Heap4 ordE t ∧ w'.ownsRow w.heap.size 3 1 v' t.length (placesV t) ∧ Fr none' w w' := by
  have hLn := h.len
  obtain ⟨⟨ca, t, A, hIn, hOk, hPe⟩, hSo, hOn, hPl, hNn⟩ := h
  have h0 : w.cell? ⟨hb, 0, none⟩ = some (.bool true) := by rw [cells_at hIn.hd]; rfl
  have h1 : w.cell? ⟨hb, 1, none⟩ = some v := by rw [cells_at hIn.hd]; rfl
  have HP := places_any hIn.tr (by rw [hPe.length_eq]; omega)
  have HPe := Lib.hid hPe
  have HOk := Lib.hid hOk
  have HP' := Lib.hid HP
  clear HP hIn hOk hPe hSo hOn hPl hNn hLn
  go_enter Try.func21, Try.ntmps21
  go_wp2_with fail
  refine (is_made hb true _ h0).mono ?_
  rintro e w' ⟨rfl, rfl⟩
  go_wp2_with fail
  refine HP'.out.mono ?_
  rintro e w2 ⟨v', rfl, hown, hf⟩
  have Hown := Lib.hid hown
  have Hf := Lib.hid hf
  clear hown hf
  go_wp2
  go_ret
  exact ⟨_, t, rfl, HPe.out, HOk.out.heap, Hown.out, Hf.out⟩
end Go.Proofs.Ytbpmdhngobdilaa
