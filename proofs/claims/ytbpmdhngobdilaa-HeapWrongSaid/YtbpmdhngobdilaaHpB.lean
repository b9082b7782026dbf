/-
  The acts that turn a heap: Put, Remove, Take; Least, New.
-/
import Derived.Test.YtbpmdhngobdilaaHpA
namespace Go.Proofs.Ytbpmdhngobdilaa
open Go.RowKit
attribute [local go_sem ↓] Go.wp_at_zero Go.wp_at_succ

/-- What Put tells. -/
def putE (n : Nat) (L : List Ent) (p : Int) : Int := if errP n L p = 0 then 81 else if errP n L p = 6 then 0 else errP n L p
def putL (n : Nat) (L : List Ent) (p : Int) (k : Key3) : List Ent := if errP n L p = 6 then insL ⟨k, p.toNat⟩ L else L
theorem errP_cases (n : Nat) (L : List Ent) (p : Int) : errP n L p = 80 ∨ (errP n L p = 6 ∧ 0 ≤ p ∧ p < n ∧ look L p.toNat = none) ∨ (errP n L p = 0 ∧ 0 ≤ p ∧ p < n ∧ ∃ k, look L p.toNat = some k) := by
  unfold errP
  split
  · exact .inl rfl
  · next h =>
    split
    · next h2 => exact .inr (.inl ⟨rfl, by omega, by omega, h2⟩)
    · next h2 => exact .inr (.inr ⟨rfl, by omega, by omega, Option.ne_none_iff_exists'.1 h2⟩)

set_option maxRecDepth 100000 in
set_option maxHeartbeats 1000000 in
theorem Put_no {hb : Nat} {w : World} (p c i : Int) (k : Key3) (hc : c ≠ 6) (HF : ∀ W, Fr none' w W → Calls Try.prog 29 #[.pointer (some ⟨hb, 0, none⟩), .int .i64 p] W fun e w' => e = .returned (.tuple #[.int .i64 i, .int .i64 c]) ∧ Fr none' W w') :
    Calls Try.prog 13 #[.pointer (some ⟨hb, 0, none⟩), .int .i64 p, keyV k] w fun e w' => e = .returned (.int .i64 (if c = 0 then 81 else c)) ∧ Fr none' w w' := by
  obtain ⟨W0, hW0⟩ : ∃ W0, w.alloc (.cells #[.int .i64 k.time, .int .i64 k.source, .int .i64 k.seq] 26) = W0 := ⟨_, rfl⟩
  have f0 : Fr none' w W0 := by rw [← hW0]; exact (Fr.refl _ _).alloc _
  have F0 := Lib.hid f0
  have HW0 := Lib.hid hW0
  have HF' := Lib.hid HF
  clear f0 hW0 HF
  simp only [keyV]
  by_cases h0 : c = 0
  · subst h0
    rw [if_pos rfl]
    go_enter Try.func13, Try.ntmps13
    go_wp2_with fail
    rw [HW0.out]
    refine (HF'.out W0 F0.out).mono ?_
    rintro e w1 ⟨rfl, hf⟩
    have F1 := Lib.hid hf
    clear hf
    go_wp2
    go_ret
    exact ⟨rfl, F0.out.trans F1.out⟩
  · rw [if_neg h0]
    have h0b : (c == 0) = false := by simpa using h0
    have h6b : (c == 6) = false := by simpa using hc
    go_enter Try.func13, Try.ntmps13
    go_wp2_with fail
    rw [HW0.out]
    refine (HF'.out W0 F0.out).mono ?_
    rintro e w1 ⟨rfl, hf⟩
    have F1 := Lib.hid hf
    clear hf
    go_wp2
    go_ret
    exact ⟨rfl, F0.out.trans F1.out⟩

theorem Put_is {w : World} {hb ba n : Nat} {v : Value} {L : List Ent} (h : HeapIs w hb ba v n L) (p : Int) (k : Key3) :
    Calls Try.prog 13 #[.pointer (some ⟨hb, 0, none⟩), .int .i64 p, keyV k] w fun e w' => e = .returned (.int .i64 (putE n L p)) ∧ ∃ v', HeapIs w' hb ba v' n (putL n L p k) ∧ HStep hb ba v v' w w' := by
  have hLn := h.len
  have h' := h
  obtain ⟨⟨ca, t, A, hIn, hOk, hPe⟩, hSo, hOn, hPl, hNn⟩ := h
  have hF : ∀ W, Fr none' w W → _ := fun W hW => find_is (hIn.fr hW (fun _ _ h => h)) hOk hPe hOn hNn hLn p
  rcases errP_cases n L p with hc | ⟨hc, h0, h1, h2⟩ | ⟨hc, h0, h1, h2⟩
  · have e1 : putE n L p = if (80 : Int) = 0 then 81 else 80 := by unfold putE; rw [hc]; rfl
    have e2 : putL n L p k = L := by unfold putL; rw [if_neg (by rw [hc]; omega)]
    rw [e1, e2]
    rw [hc] at hF
    exact (Put_no p 80 _ k (by omega) hF).mono fun _ _ h => ⟨h.1, v, h'.later h.2, (HStep.refl _ _ _ _).later h.2⟩
  · have e1 : putE n L p = 0 := by unfold putE; rw [if_neg (by omega), if_pos hc]
    have e2 : putL n L p k = insL ⟨k, p.toNat⟩ L := by unfold putL; rw [if_pos hc]
    rw [e1, e2]
    obtain ⟨q, rfl⟩ : ∃ q : Nat, p = q := ⟨p.toNat, by omega⟩
    rw [Int.toNat_natCast] at h2 ⊢
    have hn1 : ∀ x ∈ L, x.place ≠ q := look_none.1 h2
    have hmt : ∀ j, j < t.length → (at' t j) ∈ L := fun j hj => hPe.mem_iff.1 (by rw [at_get hj]; exact List.getElem_mem _)
    obtain ⟨_, _, _, hAl, _⟩ := hIn.tb
    have hfr0 : (findR (q : Int) A).1 = 0 := by
      have h3 := (find_tells hIn hOk hPe hOn (q : Int)).1
      rw [hc] at h3
      unfold findR at h3 ⊢
      by_cases c1 : ((q : Int) < 0 ∨ (A.length : Int) ≤ q)
      · rw [if_pos c1]
      · rw [if_neg c1] at h3 ⊢
        by_cases c2 : A.getD (q : Int).toNat 0 = 0
        · rw [if_pos c2]
        · rw [if_neg c2] at h3; simp at h3
    rw [hc, hfr0] at hF
    have ok := put_ok ordE_ord (f := ordE) (pl := Ent.place) hOk ⟨k, q⟩ (by rw [hAl]; simp; omega) (fun j hj => hn1 _ (hmt j hj))
    refine (Put_in hIn q k hF (by rw [hPe.length_eq]; omega) (fun e he => hPl e (hPe.mem_iff.1 he)) (by omega)).mono ?_
    rintro e w' ⟨rfl, v', hI, hst⟩
    refine ⟨rfl, v', ⟨⟨_, _, _, hI, ok.1, ?_⟩, insL_sorted hSo (fun x hx e => hn1 x hx (by rw [e])), insL_once hOn hn1, fun e he => ?_, hNn⟩, hst⟩
    · exact (ok.2.1.trans (hPe.append_right _)).trans (insL_perm _ L).symm
    · rcases insL_mem.1 he with rfl | he
      · simp; omega
      · exact hPl e he
  · have e1 : putE n L p = if (0 : Int) = 0 then 81 else 0 := by unfold putE; rw [if_pos hc]; rfl
    have e2 : putL n L p k = L := by unfold putL; rw [if_neg (by rw [hc]; omega)]
    rw [e1, e2]
    rw [hc] at hF
    exact (Put_no p 0 _ k (by omega) hF).mono fun _ _ h => ⟨h.1, v, h'.later h.2, (HStep.refl _ _ _ _).later h.2⟩

/-- What is cut out of a heap. -/
theorem cut_is {w : World} {hb ba n ca : Nat} {v : Value} {t : List Ent} {A : List Nat} {L : List Ent} (hIn : HeapIn w hb ba v n ca t A) (hOk : HeapOK ordE Ent.place t A) (hPe : t.Perm L) (hSo : Sorted L) (hOn : Once L) (hPl : ∀ e ∈ L, e.place < n) (hNn : n ≤ 4096) (hLn : L.length ≤ n) {i : Nat} (hi : i < t.length) :
    Calls Try.prog 32 #[.pointer (some ⟨hb, 0, none⟩), .int .i64 i] w fun e w' => e = .returned (entV (at' t i)) ∧ ∃ v', HeapIs w' hb ba v' n (delL (at' t i).place L) ∧ HStep hb ba v v' w w' := by
  obtain ⟨bt, cap, rfl, hM⟩ := hIn.mem (by intro h; rw [h] at hi; simp at hi)
  have hmt : ∀ j, j < t.length → (at' t j) ∈ L := fun j hj => hPe.mem_iff.1 (by rw [at_get hj]; exact List.getElem_mem _)
  refine (cut_mem hb bt ba cap n ca i t A w hM hOk hi (by rw [hPe.length_eq]; omega) (fun j hj => hPl _ (hmt j hj))).mono ?_
  rintro e w' ⟨rfl, t', A', m', ok', pe', hf⟩
  refine ⟨rfl, _, ⟨⟨_, t', A', m'.heapIn, ok', ?_⟩, delL_sorted hSo, delL_once hOn, fun e he => hPl e (delL_mem.1 he).1, hNn⟩, ⟨hf.mono (fun k _ h => ?_), fun g hg => .inl hg⟩⟩
  · exact List.Perm.cons_inv ((pe'.trans hPe).trans (del_perm hOn (hmt i hi)))
  · rcases h with h | h | h
    · exact .inl h
    · exact .inr (.inr (by rw [h]; rfl))
    · exact .inr (.inl h)

theorem fld_key (a b c d : Int) (w : World) : (Go.Instr.field 70 (.agg #[.int .i64 a, .int .i64 b, .int .i64 c, .int .i64 d]) 0).run Try.prog w = .ok (.agg #[.int .i64 a, .int .i64 b, .int .i64 c]) w := by kernel_rfl
def delP (n : Nat) (L : List Ent) (p : Int) : List Ent := if errP n L p = 0 then delL p.toNat L else L
set_option maxRecDepth 100000 in
set_option maxHeartbeats 1000000 in
theorem Remove_is {w : World} {hb ba n : Nat} {v : Value} {L : List Ent} (h : HeapIs w hb ba v n L) (p : Int) :
    Calls Try.prog 16 #[.pointer (some ⟨hb, 0, none⟩), .int .i64 p] w fun e w' => e = .returned (.tuple #[keyV (keyP n L p), .int .i64 (errP n L p)]) ∧ ∃ v', HeapIs w' hb ba v' n (delP n L p) ∧ HStep hb ba v v' w w' := by
  have hLn := h.len
  have h' := h
  obtain ⟨⟨ca, t, A, hIn, hOk, hPe⟩, hSo, hOn, hPl, hNn⟩ := h
  obtain ⟨N, hN⟩ : ∃ N, w.heap.size = N := ⟨_, rfl⟩
  obtain ⟨W0, hW0⟩ : ∃ W0, w.alloc (.cells #[.int .i64 0, .int .i64 0, .int .i64 0] 26) = W0 := ⟨_, rfl⟩
  have f0 : Fr none' w W0 := by rw [← hW0]; exact (Fr.refl _ _).alloc _
  have kz : KeyAt W0 N zeroK := by rw [← hW0, ← hN]; exact World.alloc_heap_new w _
  have hI0 := hIn.fr f0 (fun _ _ h => h)
  have HF := find_is hI0 hOk hPe hOn hNn hLn p
  have Hzero : ∀ W, KeyAt W N zeroK → W.cell? ⟨N, 0, none⟩ = some (.int .i64 0) ∧ W.cell? ⟨N, 1, none⟩ = some (.int .i64 0) ∧ W.cell? ⟨N, 2, none⟩ = some (.int .i64 0) ∧ W.frozen? ⟨N, 0, none⟩ = false ∧ W.frozen? ⟨N, 1, none⟩ = false ∧ W.frozen? ⟨N, 2, none⟩ = false := fun W h => by
    refine ⟨?_, ?_, ?_, frozen_at h 0, frozen_at h 1, frozen_at h 2⟩ <;> rw [cells_at h] <;> rfl
  have HHzero := Lib.hid Hzero
  clear Hzero
  have hft : ∀ k, foot hb ba v k → k < N := fun k hk => hN ▸ hIn.lt k hk
  by_cases hc : errP n L p = 0
  · obtain ⟨i, hi1, hi2, hi3, hi4⟩ := (find_tells hIn hOk hPe hOn p).2 hc
    have hk : keyP n L p = (at' t i).key := by rw [keyP, if_pos hc, hi4]; rfl
    have hd : delP n L p = delL (at' t i).place L := by rw [delP, if_pos hc, hi3]
    have HC := fun w1 (hf : Fr none' w w1) => cut_is (hIn.fr hf (fun _ _ h => h)) hOk hPe hSo hOn hPl hNn hLn hi2
    obtain ⟨x, hx⟩ : ∃ x, at' t i = x := ⟨_, rfl⟩
    rw [hx] at hk hd HC
    rw [hc, hi1] at HF
    rw [hc, hk, hd]
    simp only [entV] at HC
    have HF' := Lib.hid HF
    have HC' := Lib.hid HC
    have F0 := Lib.hid f0
    have Kz := Lib.hid kz
    have HN := Lib.hid hN
    have HW0 := Lib.hid hW0
    have Hft := Lib.hid hft
    have hfld := fld_key x.key.time x.key.source x.key.seq x.place
    clear HF HC hi1 hi2 hi3 hi4 hk hd hx hc hIn hI0 hOk hPe hSo hOn hPl hNn hLn f0 kz hN hW0 h' hft
    simp only [keyV]
    go_enter Try.func16, Try.ntmps16
    go_wp2_with fail
    rw [HN.out, HW0.out]
    refine HF'.out.mono ?_
    rintro e w1 ⟨rfl, hf⟩
    have f1 : Fr none' w w1 := F0.out.trans hf
    have F1 := Lib.hid f1
    have Kz1 := Lib.hid (Kz.out.fr hf id)
    clear hf f1
    go_wp2_with fail
    refine (HC'.out w1 F1.out).mono ?_
    rintro e w2 ⟨rfl, v', hI2, hst⟩
    have hlt1 : ∀ k, foot hb ba v k → k < N := Hft.out
    have hNf : ¬ foot hb ba v N := fun h => by have := hlt1 N h; omega
    have kz2 := Kz1.out.fr hst.fr hNf
    have hN2 : N < w2.heap.size := (Array.getElem?_eq_some_iff.1 kz2).1
    have hNv : ¬ foot hb ba v' N := fun h => by
      rcases h with h | h | h
      · exact hNf (.inl h)
      · exact hNf (.inr (.inl h))
      · rcases hst.own N h with h1 | h1
        · exact hNf (.inr (.inr h1))
        · have := (Array.getElem?_eq_some_iff.1 Kz1.out).1; omega
    obtain ⟨z0, z1, z2, y0, y1, y2⟩ := HHzero.out w2 kz2
    have zz := set3 kz2 (.int .i64 x.key.time) (.int .i64 x.key.source) (.int .i64 x.key.seq)
    have w0 := cells_of zz 0
    have w1' := cells_of zz 1
    have w2' := cells_of zz 2
    simp at w0 w1' w2'
    have HI2 := Lib.hid hI2
    have Hst := Lib.hid (HStep.before F1.out hst)
    have HNv := Lib.hid hNv
    clear hI2 hst kz2 zz hlt1 hNf hNv
    go_wp2
    refine bodyPost_ret (v := .tuple #[.agg #[.int .i64 x.key.time, .int .i64 x.key.source, .int .i64 x.key.seq], .int .i64 0]) (by simp [results, Try.results16, go_sem, w0, w1', w2']) rfl ⟨rfl, v', HI2.out.fr (S := fun k => k = N) ?_ (fun k h e => HNv.out (e ▸ h)), ?_⟩
    · exact (((Fr.refl (fun k => k = N) w2).setCell (fun _ => rfl) _).setCell (fun _ => rfl) _).setCell (fun _ => rfl) _
    · have nN : N < w.heap.size → foot hb ba v N := fun h => by rw [HN.out] at h; omega
      exact ⟨((Hst.out.fr.setCell nN _).setCell nN _).setCell nN _, Hst.out.own⟩
  · have hk : keyP n L p = zeroK := by rw [keyP, if_neg hc]
    have hd : delP n L p = L := by rw [delP, if_neg hc]
    rw [hk, hd]
    obtain ⟨i, hi⟩ : ∃ i, (findR p A).1 = i := ⟨_, rfl⟩
    obtain ⟨c, hcc⟩ : ∃ c, errP n L p = c := ⟨_, rfl⟩
    rw [hi, hcc] at HF
    rw [hcc] at hc ⊢
    have hb' : (c != 0) = true := by simpa using hc
    have HF' := Lib.hid HF
    have F0 := Lib.hid f0
    have Kz := Lib.hid kz
    have HN := Lib.hid hN
    have HW0 := Lib.hid hW0
    have H' := Lib.hid h'
    clear HF hk hd hi hcc hIn hI0 hOk hPe hSo hOn hPl hNn hLn f0 kz hN hW0 h' hft
    simp only [keyV, zeroK]
    go_enter Try.func16, Try.ntmps16
    go_wp2_with fail
    rw [HN.out, HW0.out]
    refine HF'.out.mono ?_
    rintro e w1 ⟨rfl, hf⟩
    have f1 : Fr none' w w1 := F0.out.trans hf
    have kz1 := Kz.out.fr hf id
    obtain ⟨z0, z1, z2, y0, y1, y2⟩ := HHzero.out w1 kz1
    have zz := set3 kz1 (.int .i64 0) (.int .i64 0) (.int .i64 0)
    have w0 := cells_of zz 0
    have w1' := cells_of zz 1
    have w2 := cells_of zz 2
    simp at w0 w1' w2
    have F1 := Lib.hid f1
    clear hf f1 kz1 zz
    go_wp2
    have nN : N < w.heap.size → False := fun h => by rw [HN.out] at h; omega
    have hfin : Fr none' w _ := ((F1.out.setCell (o := 0) nN (.int .i64 0)).setCell (o := 1) nN (.int .i64 0)).setCell (o := 2) nN (.int .i64 0)
    exact bodyPost_ret (v := .tuple #[.agg #[.int .i64 0, .int .i64 0, .int .i64 0], .int .i64 c]) (by simp [results, Try.results16, go_sem, w0, w1', w2]) rfl ⟨rfl, v, H'.out.later hfin, (HStep.refl _ _ _ _).later hfin⟩
end Go.Proofs.Ytbpmdhngobdilaa
