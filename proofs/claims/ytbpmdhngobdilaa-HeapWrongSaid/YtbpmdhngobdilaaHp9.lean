/-
  The acts of a heap that only tell.
-/
import Derived.Test.YtbpmdhngobdilaaHp8
namespace Go.Proofs.Ytbpmdhngobdilaa
open Go.RowKit
attribute [local go_sem ↓] Go.wp_at_zero Go.wp_at_succ

theorem set3 {W : World} {N : Nat} {a b c : Value} {ty : TypeId} (h : W.heap[N]? = some (.cells #[a, b, c] ty (0, 0))) (p q r : Value) :
    (((W.setCell ⟨N, 0, none⟩ p).setCell ⟨N, 1, none⟩ q).setCell ⟨N, 2, none⟩ r).heap[N]? = some (.cells #[p, q, r] ty (0, 0)) := by
  simp [World.setCell, Array.getElem?_modify, h]
def zeroK : Key3 := ⟨0, 0, 0⟩
/-- The key of a place, or none. -/
def keyP (n : Nat) (L : List Ent) (p : Int) : Key3 := if errP n L p = 0 then (look L p.toNat).getD zeroK else zeroK

set_option maxRecDepth 100000 in
set_option maxHeartbeats 1000000 in
theorem Has_is {w : World} {hb ba n : Nat} {v : Value} {L : List Ent} (h : HeapIs w hb ba v n L) (p : Int) :
    Calls Try.prog 24 #[.pointer (some ⟨hb, 0, none⟩), .int .i64 p] w fun e w' => e = .returned (.bool (errP n L p == 0)) ∧ Fr none' w w' := by
  have hLn := h.len
  obtain ⟨⟨ca, t, A, hIn, hOk, hPe⟩, hSo, hOn, hPl, hNn⟩ := h
  have HF := find_is hIn hOk hPe hOn hNn hLn p
  obtain ⟨i, hi⟩ : ∃ i, (findR p A).1 = i := ⟨_, rfl⟩
  obtain ⟨c, hc⟩ : ∃ c, errP n L p = c := ⟨_, rfl⟩
  rw [hi, hc] at HF
  rw [hc]
  have HF' := Lib.hid HF
  clear HF hi hc hIn hOk hPe hSo hOn hPl hNn hLn
  go_enter Try.func24, Try.ntmps24
  go_wp2_with fail
  refine HF'.out.mono ?_
  rintro e w1 ⟨rfl, hf⟩
  have Hf := Lib.hid hf
  clear hf
  go_wp2
  go_ret
  exact ⟨rfl, Hf.out⟩

set_option maxRecDepth 100000 in
set_option maxHeartbeats 1000000 in
theorem Len_is {w : World} {hb ba n : Nat} {v : Value} {L : List Ent} (h : HeapIs w hb ba v n L) :
    Calls Try.prog 20 #[.pointer (some ⟨hb, 0, none⟩)] w fun e w' => e = .returned (.int .i64 (L.length : Nat)) ∧ w = w' := by
  obtain ⟨⟨ca, t, A, hIn, hOk, hPe⟩, hSo, hOn, hPl, hNn⟩ := h
  obtain ⟨a, cap, rfl⟩ := hIn.nil_or
  rw [hPe.length_eq] at hIn
  have h0 : w.cell? ⟨hb, 0, none⟩ = some (.bool true) := by rw [cells_at hIn.hd]; rfl
  have h1 : w.cell? ⟨hb, 1, none⟩ = some (.slice a L.length cap) := by rw [cells_at hIn.hd]; rfl
  clear hIn hOk hPe hSo hOn hPl hNn
  go_enter Try.func20, Try.ntmps20
  go_wp2_with (go_at_call 33; refine (is_made hb true _ h0).mono ?_; rintro e w' ⟨rfl, rfl⟩)
  go_ret
  exact ⟨rfl, rfl⟩

set_option maxRecDepth 100000 in
set_option maxHeartbeats 1000000 in
theorem Key_is {w : World} {hb ba n : Nat} {v : Value} {L : List Ent} (h : HeapIs w hb ba v n L) (p : Int) :
    Calls Try.prog 25 #[.pointer (some ⟨hb, 0, none⟩), .int .i64 p] w fun e w' => e = .returned (.tuple #[keyV (keyP n L p), .int .i64 (errP n L p)]) ∧ Fr none' w w' := by
  have hLn := h.len
  obtain ⟨⟨ca, t, A, hIn, hOk, hPe⟩, hSo, hOn, hPl, hNn⟩ := h
  obtain ⟨N, hN⟩ : ∃ N, w.heap.size = N := ⟨_, rfl⟩
  obtain ⟨W0, hW0⟩ : ∃ W0, w.alloc (.cells #[.int .i64 0, .int .i64 0, .int .i64 0] 26) = W0 := ⟨_, rfl⟩
  have f0 : Fr none' w W0 := by rw [← hW0]; exact (Fr.refl _ _).alloc _
  have kz : KeyAt W0 N zeroK := by rw [← hW0, ← hN]; exact World.alloc_heap_new w _
  have hI0 := hIn.fr f0 (fun _ _ h => h)
  have HF := find_is hI0 hOk hPe hOn hNn hLn p
  have Hzero : ∀ W, KeyAt W N zeroK → W.cell? ⟨N, 0, none⟩ = some (.int .i64 0) ∧ W.cell? ⟨N, 1, none⟩ = some (.int .i64 0) ∧ W.cell? ⟨N, 2, none⟩ = some (.int .i64 0) ∧ W.frozen? ⟨N, 0, none⟩ = false ∧ W.frozen? ⟨N, 1, none⟩ = false ∧ W.frozen? ⟨N, 2, none⟩ = false := fun W h => by
    refine ⟨?_, ?_, ?_, frozen_at h 0, frozen_at h 1, frozen_at h 2⟩ <;> rw [cells_at h] <;> rfl
  have HHzero := Lib.hid Hzero
  clear Hzero
  by_cases hc : errP n L p = 0
  · obtain ⟨i, hi1, hi2, hi3, hi4⟩ := (find_tells hIn hOk hPe hOn p).2 hc
    have hk : keyP n L p = (at' t i).key := by rw [keyP, if_pos hc, hi4]; rfl
    obtain ⟨bt, cap, rfl, hM⟩ := hIn.mem (by intro h; rw [h] at hi2; simp at hi2)
    obtain ⟨x, hx⟩ : ∃ x, at' t i = x := ⟨_, rfl⟩
    rw [hx] at hk
    rw [hc, hi1] at HF
    rw [hc, hk]
    obtain ⟨m, hm⟩ : ∃ m, t.length = m := ⟨_, rfl⟩
    have q1 : (0 : Int) ≤ (i : Int) := by omega
    have q2 : (i : Int) < (m : Int) := by omega
    have Hm := Lib.hid hm
    have Hx := Lib.hid hx
    have HM := Lib.hid hM
    have Hi2 := Lib.hid hi2
    have HF' := Lib.hid HF
    have F0 := Lib.hid f0
    have Kz := Lib.hid kz
    have HN := Lib.hid hN
    have HW0 := Lib.hid hW0
    clear HF hi1 hi2 hi3 hi4 hk hM hx hm hc hIn hI0 hOk hPe hSo hOn hPl hNn hLn f0 kz hN hW0
    simp only [keyV]
    go_enter Try.func25, Try.ntmps25
    go_wp2_with fail
    rw [HN.out, HW0.out]
    refine HF'.out.mono ?_
    rintro e w1 ⟨rfl, hf⟩
    have f1 : Fr none' w w1 := F0.out.trans hf
    have mW := HM.out.fr f1 id id id
    obtain ⟨s0, s1, s2, s3⟩ := mW.ent (i := i) Hi2.out
    rw [Hx.out] at s0 s1 s2 s3
    have k1 : w1.cell? ⟨hb, 1, none⟩ = some (.slice (some ⟨bt, 0, none⟩) m cap) := by rw [cells_at mW.hd, Hm.out]; rfl
    have kz1 := Kz.out.fr hf id
    obtain ⟨z0, z1, z2, y0, y1, y2⟩ := HHzero.out w1 kz1
    have zz := set3 kz1 (.int .i64 x.key.time) (.int .i64 x.key.source) (.int .i64 x.key.seq)
    have w0 := cells_of zz 0
    have w1' := cells_of zz 1
    have w2 := cells_of zz 2
    simp at w0 w1' w2
    have F1 := Lib.hid f1
    clear hf f1 mW kz1 zz
    go_wp2
    refine bodyPost_ret (v := .tuple #[.agg #[.int .i64 x.key.time, .int .i64 x.key.source, .int .i64 x.key.seq], .int .i64 0]) (by simp [results, Try.results25, go_sem, w0, w1', w2]) rfl ⟨rfl, ?_⟩
    have nN : N < w.heap.size → False := fun h => by rw [HN.out] at h; omega
    exact ((F1.out.setCell nN _).setCell nN _).setCell nN _
  · have hk : keyP n L p = zeroK := by rw [keyP, if_neg hc]
    rw [hk]
    obtain ⟨i, hi⟩ : ∃ i, (findR p A).1 = i := ⟨_, rfl⟩
    obtain ⟨c, hcc⟩ : ∃ c, errP n L p = c := ⟨_, rfl⟩
    rw [hi, hcc] at HF
    rw [hcc] at hc ⊢
    have hb : (c != 0) = true := by simpa using hc
    have HF' := Lib.hid HF
    have F0 := Lib.hid f0
    have Kz := Lib.hid kz
    have HN := Lib.hid hN
    have HW0 := Lib.hid hW0
    clear HF hk hi hcc hIn hI0 hOk hPe hSo hOn hPl hNn hLn f0 kz hN hW0
    simp only [keyV, zeroK]
    go_enter Try.func25, Try.ntmps25
    go_wp2_with fail
    rw [HN.out, HW0.out]
    refine HF'.out.mono ?_
    rintro e w1 ⟨rfl, hf⟩
    have f1 : Fr none' w w1 := F0.out.trans hf
    have kz1 := Kz.out.fr hf id
    obtain ⟨z0, z1, z2, y0, y1, y2⟩ := HHzero.out w1 kz1
    have zz := set3 kz1 (.int .i64 0) (.int .i64 0) (.int .i64 0)
    have w0 := cells_of zz 0
    have w1' := cells_of zz 1
    have w2 := cells_of zz 2
    simp at w0 w1' w2
    have F1 := Lib.hid f1
    clear hf f1 kz1 zz
    go_wp2
    refine bodyPost_ret (v := .tuple #[.agg #[.int .i64 0, .int .i64 0, .int .i64 0], .int .i64 c]) (by simp [results, Try.results25, go_sem, w0, w1', w2]) rfl ⟨rfl, ?_⟩
    have nN : N < w.heap.size → False := fun h => by rw [HN.out] at h; omega
    exact ((F1.out.setCell nN _).setCell nN _).setCell nN _
end Go.Proofs.Ytbpmdhngobdilaa
