/-
  Take, Least, New.
-/
import Derived.Test.YtbpmdhngobdilaaHpB
namespace Go.Proofs.Ytbpmdhngobdilaa
open Go.RowKit
attribute [local go_sem ↓] Go.wp_at_zero Go.wp_at_succ

/-- The least comes first. -/
theorem first_is {t : List Ent} {x : Ent} {r : List Ent} (hh : Heap4 ordE t) (hPe : t.Perm (x :: r)) (hSo : Sorted (x :: r)) : 0 < t.length ∧ at' t 0 = x := by
  have hl : 0 < t.length := by rw [hPe.length_eq]; simp
  refine ⟨hl, ?_⟩
  have h1 : at' t 0 ∈ x :: r := hPe.mem_iff.1 (by rw [at_get hl]; exact List.getElem_mem _)
  have h2 : x ∈ t := hPe.mem_iff.2 List.mem_cons_self
  obtain ⟨k, hk, he⟩ := List.getElem_of_mem h2
  have h3 := heap_first ordE_ord hh k hk
  rw [at_get hk, he] at h3
  rcases List.mem_cons.1 h1 with h4 | h4
  · exact h4
  · have h5 := (List.pairwise_cons.1 hSo).1 _ h4
    have := ordE_ord.anti x (at' t 0)
    omega

def leastP : List Ent → Int
  | [] => 0
  | x :: _ => x.place
def leastB : List Ent → Bool
  | [] => false
  | _ :: _ => true
set_option maxRecDepth 100000 in
set_option maxHeartbeats 1000000 in
theorem Least_is {w : World} {hb ba n : Nat} {v : Value} {L : List Ent} (h : HeapIs w hb ba v n L) :
    Calls Try.prog 26 #[.pointer (some ⟨hb, 0, none⟩)] w fun e w' => e = .returned (.tuple #[.int .i64 (leastP L), .bool (leastB L)]) ∧ w = w' := by
  obtain ⟨⟨ca, t, A, hIn, hOk, hPe⟩, hSo, hOn, hPl, hNn⟩ := h
  have hl := once_len hOn hPl
  cases L with
  | nil =>
    obtain ⟨a, cap, rfl⟩ := hIn.nil_or
    have h0 : w.cell? ⟨hb, 0, none⟩ = some (.bool true) := by rw [cells_at hIn.hd]; rfl
    have h1 : w.cell? ⟨hb, 1, none⟩ = some (.slice a 0 cap) := by rw [cells_at hIn.hd, hPe.length_eq]; rfl
    clear hIn hOk hPe hSo hOn hPl hNn hl
    simp only [leastP, leastB]
    go_enter Try.func26, Try.ntmps26
    go_wp2_with (go_at_call 33; refine (is_made hb true _ h0).mono ?_; rintro e w' ⟨rfl, rfl⟩)
    go_ret2
    exact ⟨rfl, rfl⟩
  | cons x r =>
    obtain ⟨ht, hx⟩ := first_is hOk.heap hPe hSo
    obtain ⟨bt, cap, rfl, hM⟩ := hIn.mem (by intro h; rw [h] at ht; simp at ht)
    obtain ⟨s0, s1, s2, s3⟩ := hM.ent ht
    rw [hx] at s3
    obtain ⟨m, hm⟩ : ∃ m, t.length = m + 1 := ⟨t.length - 1, by omega⟩
    have h0 : w.cell? ⟨hb, 0, none⟩ = some (.bool true) := by rw [cells_at hIn.hd]; rfl
    have h1 : w.cell? ⟨hb, 1, none⟩ = some (.slice (some ⟨bt, 0, none⟩) (m + 1) cap) := by rw [cells_at hIn.hd, hm]; rfl
    have hml : m + 1 ≤ 4096 := by rw [← hm, hPe.length_eq]; omega
    have d1 : (((m + 1 : Nat) : Int) == 0) = false := by simp; omega
    have d2 : (((m : Int) + 1) == 0) = false := by simp; omega
    rw [show 0 * 4 + 3 = 3 by rfl] at s3
    clear hIn hOk hPe hSo hOn hPl hNn hl hM hx ht s0 s1 s2 hm
    simp only [leastP, leastB]
    go_enter Try.func26, Try.ntmps26
    go_wp2_with (go_at_call 33; refine (is_made hb true _ h0).mono ?_; rintro e w' ⟨rfl, rfl⟩)
    go_ret2
    exact ⟨rfl, rfl⟩

def takeK : List Ent → Key3
  | [] => zeroK
  | x :: _ => x.key
def takeE : List Ent → Int
  | [] => 6
  | _ :: _ => 0
set_option maxRecDepth 100000 in
set_option maxHeartbeats 1000000 in
theorem Take_is {w : World} {hb ba n : Nat} {v : Value} {L : List Ent} (h : HeapIs w hb ba v n L) :
    Calls Try.prog 17 #[.pointer (some ⟨hb, 0, none⟩)] w fun e w' => e = .returned (.tuple #[.int .i64 (leastP L), keyV (takeK L), .int .i64 (takeE L)]) ∧ ∃ v', HeapIs w' hb ba v' n L.tail ∧ HStep hb ba v v' w w' := by
  have h' := h
  have hLn := h.len
  obtain ⟨⟨ca, t, A, hIn, hOk, hPe⟩, hSo, hOn, hPl, hNn⟩ := h
  obtain ⟨N, hN⟩ : ∃ N, w.heap.size = N := ⟨_, rfl⟩
  obtain ⟨W0, hW0⟩ : ∃ W0, w.alloc (.cells #[.int .i64 0, .int .i64 0, .int .i64 0] 26) = W0 := ⟨_, rfl⟩
  have f0 : Fr none' w W0 := by rw [← hW0]; exact (Fr.refl _ _).alloc _
  have kz : KeyAt W0 N zeroK := by rw [← hW0, ← hN]; exact World.alloc_heap_new w _
  have hI0 := hIn.fr f0 (fun _ _ h => h)
  have hft : ∀ k, foot hb ba v k → k < N := fun k hk => hN ▸ hIn.lt k hk
  have Hzero : ∀ W, KeyAt W N zeroK → W.cell? ⟨N, 0, none⟩ = some (.int .i64 0) ∧ W.cell? ⟨N, 1, none⟩ = some (.int .i64 0) ∧ W.cell? ⟨N, 2, none⟩ = some (.int .i64 0) ∧ W.frozen? ⟨N, 0, none⟩ = false ∧ W.frozen? ⟨N, 1, none⟩ = false ∧ W.frozen? ⟨N, 2, none⟩ = false := fun W h => by
    refine ⟨?_, ?_, ?_, frozen_at h 0, frozen_at h 1, frozen_at h 2⟩ <;> rw [cells_at h] <;> rfl
  have HHzero := Lib.hid Hzero
  clear Hzero
  cases L with
  | nil =>
    obtain ⟨a, cap, rfl⟩ := hI0.nil_or
    have h0 : W0.cell? ⟨hb, 0, none⟩ = some (.bool true) := by rw [cells_at hI0.hd]; rfl
    have h1 : W0.cell? ⟨hb, 1, none⟩ = some (.slice a 0 cap) := by rw [cells_at hI0.hd, hPe.length_eq]; rfl
    obtain ⟨z0, z1, z2, y0, y1, y2⟩ := HHzero.out W0 kz
    have zz := set3 kz (.int .i64 0) (.int .i64 0) (.int .i64 0)
    have w0 := cells_of zz 0
    have w1' := cells_of zz 1
    have w2 := cells_of zz 2
    simp at w0 w1' w2
    have HN := Lib.hid hN
    have HW0 := Lib.hid hW0
    have H' := Lib.hid h'
    have F0 := Lib.hid f0
    clear hIn hOk hPe hSo hOn hPl hNn hI0 hN hW0 h' hft hLn zz kz f0
    simp only [leastP, takeK, takeE, keyV, zeroK]
    go_enter Try.func17, Try.ntmps17
    go_wp2_with fail
    rw [HN.out, HW0.out]
    refine (is_made hb true _ h0).mono ?_
    rintro e w' ⟨rfl, rfl⟩
    go_wp2
    have nN : N < w.heap.size → False := fun h => by rw [HN.out] at h; omega
    have hfin : Fr none' w _ := ((F0.out.setCell (o := 0) nN (.int .i64 0)).setCell (o := 1) nN (.int .i64 0)).setCell (o := 2) nN (.int .i64 0)
    exact bodyPost_ret (v := .tuple #[.int .i64 0, .agg #[.int .i64 0, .int .i64 0, .int .i64 0], .int .i64 6]) (by simp [results, Try.results17, go_sem, w0, w1', w2]) rfl ⟨rfl, _, H'.out.later hfin, (HStep.refl _ _ _ _).later hfin⟩
  | cons x r =>
    obtain ⟨ht, hx⟩ := first_is hOk.heap hPe hSo
    have HC := cut_is hI0 hOk hPe hSo hOn hPl hNn hLn ht
    rw [hx, del_cons hOn] at HC
    simp only [entV] at HC
    obtain ⟨m, hm⟩ : ∃ m, t.length = m + 1 := ⟨t.length - 1, by omega⟩
    obtain ⟨bt, cap, hv, hM⟩ := hI0.mem (by intro h; rw [h] at ht; simp at ht)
    have h0 : W0.cell? ⟨hb, 0, none⟩ = some (.bool true) := by rw [cells_at hI0.hd]; rfl
    have h1 : W0.cell? ⟨hb, 1, none⟩ = some (.slice (some ⟨bt, 0, none⟩) (m + 1) cap) := by rw [cells_at hM.hd, hm]; rfl
    have hml : m + 1 ≤ 4096 := by rw [← hm, hPe.length_eq]; omega
    have d1 : (((m + 1 : Nat) : Int) == 0) = false := by simp; omega
    have d2 : (((m : Int) + 1) == 0) = false := by simp; omega
    have HN := Lib.hid hN
    have HW0 := Lib.hid hW0
    have F0 := Lib.hid f0
    have HC' := Lib.hid HC
    have Kz := Lib.hid kz
    have Hft := Lib.hid hft
    clear hIn hOk hPe hSo hOn hPl hNn hI0 hN hW0 h' hft hLn f0 HC kz hx ht hm hv hM
    simp only [leastP, takeK, takeE, keyV, List.tail_cons]
    go_enter Try.func17, Try.ntmps17
    go_wp2_with fail
    rw [HN.out, HW0.out]
    refine (is_made hb true _ h0).mono ?_
    rintro e w' ⟨rfl, rfl⟩
    go_wp2_with fail
    refine HC'.out.mono ?_
    rintro e w2 ⟨rfl, v', hI2, hst⟩
    have hlt1 : ∀ k, foot hb ba v k → k < N := Hft.out
    have hNf : ¬ foot hb ba v N := fun h => by have := hlt1 N h; omega
    have kz2 := Kz.out.fr hst.fr hNf
    have hN2 : N < w2.heap.size := (Array.getElem?_eq_some_iff.1 kz2).1
    have hNv : ¬ foot hb ba v' N := fun h => by
      rcases h with h | h | h
      · exact hNf (.inl h)
      · exact hNf (.inr (.inl h))
      · rcases hst.own N h with h1 | h1
        · exact hNf (.inr (.inr h1))
        · have := (Array.getElem?_eq_some_iff.1 Kz.out).1; omega
    obtain ⟨z0, z1, z2, y0, y1, y2⟩ := HHzero.out w2 kz2
    have Kz2 := Lib.hid kz2
    have HI2 := Lib.hid hI2
    have Hst := Lib.hid (HStep.before F0.out hst)
    have HNv := Lib.hid hNv
    clear hI2 hst hlt1 hNf hNv kz2 h0 h1
    go_wp2
    obtain ⟨V, hV⟩ : ∃ V, w2.alloc (.cells #[.int .i64 x.key.time, .int .i64 x.key.source, .int .i64 x.key.seq, .int .i64 x.place] 70) = V := ⟨_, rfl⟩
    obtain ⟨X, hX⟩ : ∃ X, w2.heap.size = X := ⟨_, rfl⟩
    have fV : Fr none' w2 V := by rw [← hV]; exact (Fr.refl none' w2).alloc _
    have kz3 : KeyAt V N zeroK := KeyAt.fr Kz2.out fV id
    have eV : EntAt V X x := by rw [← hV, ← hX]; exact EntAt.new w2 x
    obtain ⟨x0, x1, x2, x3⟩ := eV.ent
    rw [hV, hX]
    have HX := Lib.hid hX
    clear eV hX
    have HV := Lib.hid hV
    have FV := Lib.hid fV
    clear hV fV z0 z1 z2 y0 y1 y2
    obtain ⟨z0, z1, z2, y0, y1, y2⟩ := HHzero.out V kz3
    have zz := set3 kz3 (.int .i64 x.key.time) (.int .i64 x.key.source) (.int .i64 x.key.seq)
    have w0 := cells_of zz 0
    have w1' := cells_of zz 1
    have w2' := cells_of zz 2
    simp at w0 w1' w2'
    clear zz kz3
    go_still_tail 5, (by kernel_rfl)
    change wpList _ _ _ _ _ V.drew
    go_wp2
    refine bodyPost_ret (v := .tuple #[.int .i64 x.place, .agg #[.int .i64 x.key.time, .int .i64 x.key.source, .int .i64 x.key.seq], .int .i64 0]) (by simp [results, Try.results17, go_sem, w0, w1', w2']) rfl ⟨rfl, v', (HI2.out.later FV.out).fr (S := fun k => k = N) ?_ (fun k h e => HNv.out (e ▸ h)), ?_⟩
    · exact ((((Fr.refl (fun k => k = N) V).setCell (fun _ => rfl) _).setCell (fun _ => rfl) _).setCell (fun _ => rfl) _).drew
    · have nN : N < w.heap.size → foot hb ba v N := fun h => by rw [HN.out] at h; omega
      have h1 := Hst.out.later FV.out
      exact ⟨(((h1.fr.setCell nN _).setCell nN _).setCell nN _).drew, h1.own⟩
end Go.Proofs.Ytbpmdhngobdilaa
