/-
  Change, New.
-/
import Derived.Test.YtbpmdhngobdilaaHpD
import Derived.OwnWalk
namespace Go.Proofs.Ytbpmdhngobdilaa
open Go.RowKit
attribute [local go_sem ↓] Go.wp_at_zero Go.wp_at_succ

set_option maxRecDepth 100000 in
set_option maxHeartbeats 1000000 in
theorem Change_no {hb : Nat} {w : World} (p c i : Int) (k : Key3) (hc : c ≠ 0) (HF : ∀ W, Fr none' w W → Calls Try.prog 29 #[.pointer (some ⟨hb, 0, none⟩), .int .i64 p] W fun e w' => e = .returned (.tuple #[.int .i64 i, .int .i64 c]) ∧ Fr none' W w') :
    Calls Try.prog 15 #[.pointer (some ⟨hb, 0, none⟩), .int .i64 p, keyV k] w fun e w' => e = .returned (.tuple #[keyV zeroK, .int .i64 c]) ∧ Fr none' w w' := by
  obtain ⟨N, hN⟩ : ∃ N, w.heap.size = N := ⟨_, rfl⟩
  obtain ⟨W0, hW0⟩ : ∃ W0, (w.alloc (.cells #[.int .i64 k.time, .int .i64 k.source, .int .i64 k.seq] 26)).alloc (.cells #[.int .i64 0, .int .i64 0, .int .i64 0] 26) = W0 := ⟨_, rfl⟩
  have f0 : Fr none' w W0 := by rw [← hW0]; exact ((Fr.refl _ _).alloc _).alloc _
  have kz : KeyAt W0 (N + 1) zeroK := by
    rw [← hW0, ← hN]
    have := World.alloc_heap_new (w.alloc (.cells #[.int .i64 k.time, .int .i64 k.source, .int .i64 k.seq] 26)) (.cells #[.int .i64 0, .int .i64 0, .int .i64 0] 26)
    rwa [World.size_alloc] at this
  have hb' : (c != 0) = true := by simpa using hc
  have HF' := Lib.hid HF
  have F0 := Lib.hid f0
  have Kz := Lib.hid kz
  have HN := Lib.hid hN
  have HW0 := Lib.hid hW0
  clear HF f0 kz hN hW0
  simp only [keyV, zeroK]
  go_enter Try.func15, Try.ntmps15
  go_wp2_with fail
  rw [HN.out, HW0.out]
  refine (HF'.out W0 F0.out).mono ?_
  rintro e w1 ⟨rfl, hf⟩
  have kz1 := Kz.out.fr hf id
  obtain ⟨z0, z1, z2⟩ : w1.cell? ⟨N + 1, 0, none⟩ = some (.int .i64 0) ∧ w1.cell? ⟨N + 1, 1, none⟩ = some (.int .i64 0) ∧ w1.cell? ⟨N + 1, 2, none⟩ = some (.int .i64 0) := ⟨kz1.cell (i := 0) (by omega), kz1.cell (i := 1) (by omega), kz1.cell (i := 2) (by omega)⟩
  have y0 := frozen_at kz1 0
  have y1 := frozen_at kz1 1
  have y2 := frozen_at kz1 2
  have zz := set3 kz1 (.int .i64 0) (.int .i64 0) (.int .i64 0)
  have w0 := cells_of zz 0
  have w1' := cells_of zz 1
  have w2 := cells_of zz 2
  simp at w0 w1' w2
  have F1 := Lib.hid (F0.out.trans hf)
  clear hf kz1 zz
  go_wp2
  have nN : N + 1 < w.heap.size → False := fun h => by rw [HN.out] at h; omega
  have hfin : Fr none' w _ := ((F1.out.setCell (o := 0) nN (.int .i64 0)).setCell (o := 1) nN (.int .i64 0)).setCell (o := 2) nN (.int .i64 0)
  exact bodyPost_ret (v := .tuple #[.agg #[.int .i64 0, .int .i64 0, .int .i64 0], .int .i64 c]) (by simp [results, Try.results15, go_sem, w0, w1', w2]) rfl ⟨rfl, hfin⟩

theorem Change_is {w : World} {hb ba n : Nat} {v : Value} {L : List Ent} (h : HeapIs w hb ba v n L) (p : Int) (k : Key3) :
    Calls Try.prog 15 #[.pointer (some ⟨hb, 0, none⟩), .int .i64 p, keyV k] w fun e w' => e = .returned (.tuple #[keyV (keyP n L p), .int .i64 (errP n L p)]) ∧ ∃ v', HeapIs w' hb ba v' n (chgL n L p k) ∧ HStep hb ba v v' w w' := by
  have hLn := h.len
  have h' := h
  obtain ⟨⟨ca, t, A, hIn, hOk, hPe⟩, hSo, hOn, hPl, hNn⟩ := h
  have hF : ∀ W, Fr none' w W → _ := fun W hW => find_is (hIn.fr hW (fun _ _ h => h)) hOk hPe hOn hNn hLn p
  by_cases hc : errP n L p = 0
  · obtain ⟨i, hi1, hi2, hi3, hi4⟩ := (find_tells hIn hOk hPe hOn p).2 hc
    have hk : keyP n L p = (at' t i).key := by rw [keyP, if_pos hc, hi4]; rfl
    have hd : chgL n L p k = insL ⟨k, p.toNat⟩ (delL p.toNat L) := by rw [chgL, if_pos hc]
    rw [hc, hi1] at hF
    rw [hk, hd, hc]
    rcases errP_cases n L p with h1 | ⟨h1, _⟩ | ⟨_, h2, _⟩
    · omega
    · omega
    obtain ⟨q, rfl⟩ : ∃ q : Nat, p = q := ⟨p.toNat, by omega⟩
    rw [Int.toNat_natCast] at hi3 ⊢
    exact Change_yes hIn hOk hPe hSo hOn hPl hNn hLn q k hi2 hi3 hF
  · have hk : keyP n L p = zeroK := by rw [keyP, if_neg hc]
    have hd : chgL n L p k = L := by rw [chgL, if_neg hc]
    rw [hk, hd]
    exact (Change_no p (errP n L p) _ k hc hF).mono fun _ _ h => ⟨h.1, v, h'.later h.2, (HStep.refl _ _ _ _).later h.2⟩

set_option maxRecDepth 100000 in
set_option maxHeartbeats 1000000 in
theorem New_no (n : Int) (w : World) (hn : n < 0 ∨ 4096 < n) : Calls Try.prog 12 #[.int .i64 n] w fun e w' => e = .returned (.tuple #[.pointer none, .int .i64 2]) ∧ Fr none' w w' := by
  by_cases h0 : n < 0
  · have d1 : decide (n < 0) = true := decide_eq_true h0
    go_enter Try.func12, Try.ntmps12
    go_wp2
    go_ret2
    exact ⟨rfl, Fr.refl _ _⟩
  · have d1 : decide (n < 0) = false := decide_eq_false h0
    have d2 : decide (4096 < n) = true := decide_eq_true (by omega)
    go_enter Try.func12, Try.ntmps12
    go_wp2
    go_ret2
    exact ⟨rfl, Fr.refl _ _⟩
theorem info_int : (Try.prog.info? 3).map (fun i => (i.zero, i.size, i.bytes)) = some (some (.int .i64 0), 1, 8) := by kernel_rfl
theorem make_ints (n : Nat) (hn : n ≤ 1000000) (w : World) : (Go.Instr.makeSlice 44 (.int .i64 n) (.int .i64 n)).run Try.prog w = .ok (.slice (some ⟨w.heap.size, 0, none⟩) n n) (w.alloc (.cells (Array.replicate n (.int .i64 0)) 3)) := by
  obtain ⟨i0, hi, hz0, hz1, hz2⟩ := info_parts info_int
  have := run_make (P := Try.prog) w 44 3 i0 (.int .i64 0) Try.underlying44 hi hz0 .i64 .i64 (n : Int) (n : Int) (by omega) (Int.le_refl _) (by rw [hz2]; omega) (by omega)
  have he : madeCells (Value.int .i64 0).cells ((n : Int).toNat * 1) = Array.replicate n (.int .i64 0) := by
    simp only [madeCells, Value.cells, Int.toNat_natCast, Nat.mul_one]
    apply Array.ext
    · simp
    · intro j h1 h2
      simp [Nat.mod_one]
  rw [this, hz1, he]
  simp
theorem tab_nil (n : Nat) : HeapOK ordE Ent.place [] (List.replicate n 0) :=
  ⟨fun j _ h => by simp at h, ⟨fun k h => by simp at h, fun p hp _ => by simp at hp; simp [hp]⟩⟩
set_option maxRecDepth 100000 in
set_option maxHeartbeats 1000000 in
theorem New_is (n : Nat) (w : World) (hn : n ≤ 4096) : Calls Try.prog 12 #[.int .i64 n] w fun e w' => ∃ hb ba, e = .returned (.tuple #[.pointer (some ⟨hb, 0, none⟩), .int .i64 0]) ∧ HeapIs w' hb ba (.slice none 0 0) n [] ∧ Fr none' w w' ∧ w.heap.size ≤ hb ∧ w.heap.size ≤ ba := by
  have d1 : decide ((n : Int) < 0) = false := decide_eq_false (by omega)
  have d2 : decide (4096 < (n : Int)) = false := decide_eq_false (by omega)
  have hmk := make_ints n (by omega)
  go_enter Try.func12, Try.ntmps12
  go_wp2
  go_ret2
  refine ⟨_, w.heap.size, rfl, ⟨⟨n, [], List.replicate n 0, ⟨?_, World.ownsRow_nil _ _ _ _, ⟨Array.replicate n (.int .i64 0), ?_, by simp, by simp, fun p x hx => ?_⟩, (fun g hg => by cases hg), ?_⟩, tab_nil n, List.Perm.refl _⟩, List.Pairwise.nil, List.nodup_nil, (fun e he => by cases he), hn⟩, ?_, ?_, Nat.le_refl _⟩
  · have := World.alloc_heap_new (w.alloc (.cells (Array.replicate n (.int .i64 0)) 3)) (.cells #[.bool true, .slice none 0 0, .slice (some ⟨w.heap.size, 0, none⟩) n n] 64)
    rw [World.size_alloc] at this
    exact this
  · exact (Below.heap_alloc _ _ _ (by simp)).trans (World.alloc_heap_new w _)
  · have hp : p < n := by have := (List.getElem?_eq_some_iff.1 hx).1; simpa using this
    rw [List.getElem?_replicate, if_pos hp] at hx
    injection hx with hx
    subst hx
    simp [hp, natV]
  · simp
  · exact ((Fr.refl _ _).alloc _).alloc _
  · simp
end Go.Proofs.Ytbpmdhngobdilaa
