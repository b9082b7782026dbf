/-
  HeapTrees.
-/
import Derived.Test.YtbpmdhngobdilaaHl5
namespace Go.Proofs.Ytbpmdhngobdilaa
open Go Go.RowKit
attribute [local go_sem ↓] Go.wp_at_zero Go.wp_at_succ

/-- The marks behind k rounds. -/
structure Cleared (Ts : List Bool) (t : List Ent) (k : Nat) (Tk : List Bool) : Prop where
  len : Tk.length = 24
  tells : ∀ p, p < 24 → (Tk.getD p false = true ↔ Ts.getD p false = true ∧ ∀ j, j < k → (at' t j).place ≠ p)
theorem Cleared.next {Ts Tk : List Bool} {t : List Ent} {k : Nat} (h : Cleared Ts t k Tk) (hp : (at' t k).place < 24) : Cleared Ts t (k + 1) (Tk.set (at' t k).place false) := by
  refine ⟨by simp [h.len], fun p hp' => ?_⟩
  by_cases e : (at' t k).place = p
  · rw [← e, getD_set_self _ _ _ _ (by rw [h.len]; exact hp)]
    exact ⟨fun h => (by cases h), fun h => absurd rfl (h.2 k (by omega))⟩
  · rw [getD_set_other _ _ _ _ _ e, h.tells p hp']
    refine and_congr_right (fun _ => ⟨fun h j hj => ?_, fun h j hj => h j (by omega)⟩)
    by_cases hjk : j = k
    · subst hjk; exact e
    · exact h j (by omega)
theorem once_at {t : List Ent} (h : Once t) {i j : Nat} (hi : i < t.length) (hj : j < t.length) (e : (at' t i).place = (at' t j).place) : i = j := by
  have hi' : i < (t.map (·.place)).length := by simpa using hi
  have hj' : j < (t.map (·.place)).length := by simpa using hj
  have h1 := List.pairwise_iff_getElem.1 h
  have e' : (t.map (·.place))[i] = (t.map (·.place))[j] := by rw [List.getElem_map, List.getElem_map, ← at_get hi, ← at_get hj]; exact e
  rcases Nat.lt_trichotomy i j with hl | hl | hl
  · exact absurd e' (h1 i j hi' hj' hl)
  · exact hl
  · exact absurd e'.symm (h1 j i hj' hi' hl)
theorem plI_at {t : List Ent} {k : Nat} (h : k < t.length) : (plI t)[k]? = some ((at' t k).place : Int) := by rw [plI, List.getElem?_map, List.getElem?_eq_getElem h, at_get h]; rfl
theorem at_mem {t : List Ent} {i : Nat} (hi : i < t.length) : at' t i ∈ t := by rw [at_get hi]; exact List.getElem_mem hi
theorem Cleared.done {Ts Tk : List Bool} {Ks : List Key3} {L t : List Ent} (h : Cleared Ts t t.length Tk) (hh : Holds L Ks Ts) (ho : Once L) (hp : t.Perm L) : Tk = List.replicate 24 false := by
  refine List.ext_getElem? (fun p => ?_)
  by_cases hp24 : p < 24
  · have h1 : Tk.getD p false = false := by
      cases hc : Tk.getD p false
      · rfl
      · obtain ⟨h2, h3⟩ := (h.tells p hp24).1 hc
        have h4 := hh.look p hp24
        rw [h2, if_pos rfl] at h4
        have h5 := hp.mem_iff.2 ((look_some ho).1 h4)
        obtain ⟨j, hj, hjt⟩ := List.getElem_of_mem h5
        exact absurd (show (at' t j).place = p by rw [at_get hj, hjt]) (h3 j hj)
    have hl : p < Tk.length := by rw [h.len]; exact hp24
    rw [List.getD, List.getElem?_eq_getElem hl] at h1
    rw [List.getElem?_eq_getElem hl, List.getElem?_replicate, if_pos hp24]
    simpa using h1
  · rw [List.getElem?_eq_none (by rw [h.len]; omega), List.getElem?_eq_none (by simp; omega)]
theorem Holds.ent {Ts : List Bool} {Ks : List Key3} {L : List Ent} (hh : Holds L Ks Ts) (ho : Once L) {e : Ent} (he : e ∈ L) (hp : e.place < 24) : Ts.getD e.place false = true ∧ Ks.getD e.place zeroK = e.key := by
  have h1 := (look_some ho (p := e.place) (k := e.key)).2 he
  rw [hh.look _ hp] at h1
  cases hc : Ts.getD e.place false
  · rw [hc] at h1; cases h1
  · rw [hc, if_pos rfl] at h1
    injection h1 with h1
    exact ⟨rfl, h1⟩
theorem heap_lt {t : List Ent} (h : Heap4 ordE t) (ho : Once t) {k : Nat} (hk0 : 0 < k) (hk : k < t.length) : cmpK (at' t ((k - 1) / 4)).key (at' t k).key < 0 ∨ (cmpK (at' t ((k - 1) / 4)).key (at' t k).key = 0 ∧ (at' t ((k - 1) / 4)).place < (at' t k).place) := by
  have h1 := h k hk0 hk
  have hne : (at' t (par k)).place ≠ (at' t k).place := fun e => by
    have := once_at ho (show par k < t.length by unfold par; omega) hk e
    unfold par at this; omega
  unfold ordE cmpI at h1
  unfold par at h1 hne
  split at h1
  · exact .inl (by omega)
  · next hc =>
    refine .inr ⟨by simpa using hc, ?_⟩
    split at h1
    · omega
    · split at h1 <;> omega

set_option maxRecDepth 100000 in
set_option maxHeartbeats 4000000 in
theorem HeapTrees_any {w : World} {u : Value} {xs : List Sm4} (hu : SmallsAt w u xs) :
    Calls Try.prog 4 #[u] w fun e w' => e = .returned (.bool true) ∧ Below w.heap.size w w' := by
  have HU := fun (w1 : World) (hf : Fr0 none' w w1) => hu.later hf
  have HU' := Lib.hid HU
  clear HU hu
  go_enter Try.func4, Try.ntmps4
  go_wp2_with fail
  refine (awake_any _).mono ?_
  rintro e w1 ⟨rfl, hf1⟩
  have F1 := Lib.hid hf1
  clear hf1
  go_wp2_with fail
  refine (made_any (HU'.out w1 F1.out)).mono ?_
  rintro e w2 ⟨hb, ba, v, L, Ks, Ts, rfl, hO, hH⟩
  have HH := Lib.hid hH
  have HO := Lib.hid (show Own w w2 hb ba v 24 L from ⟨hO.is, F1.out.trans hO.fr, fun k hk => Nat.le_trans F1.out.size (hO.new k hk)⟩)
  have lK : (cellsK Ks).length = 72 := by rw [cellsK_length, hH.kl]
  have lB : (cellsB Ts).length = 24 := by rw [cellsB, List.length_map, hH.tl]
  have g1 := start_store w2 Ks hH.kl
  have g2 := start_store2 w2 Ks Ts hH.tl
  clear hO hH
  go_upto_region 4 with (fail)
  obtain ⟨W, hW⟩ : ∃ W, startW w2 Ks Ts = W := ⟨_, rfl⟩
  have S1 := Lib.hid (show St w W hb ba v L Ks Ts w2.heap.size (w2.heap.size + 1) [] from hW ▸ St.start HO.out HH.out.kl HH.out.tl)
  clear g1 g2 lK lB
  rw [hW]
  obtain ⟨KB, hKB⟩ : ∃ KB, w2.heap.size = KB := ⟨_, rfl⟩
  rw [hKB] at S1 ⊢
  clear hW hKB HO
  go_wp2_with fail
  have HT := Tree_is S1.out.own.is
  refine HT.mono ?_
  rintro e W2 ⟨tv, t, rfl, hPe, hHp, hrow, hf⟩
  have HL := S1.out.own.is
  rw [placesV_eq] at hrow
  have hlen : t.length ≤ 24 := by rw [hPe.length_eq]; exact HL.len
  have hblk : ∀ g, tv.ownBlock = some g → g ≠ KB + 1 := fun g hg => by
    have h1 := ownBlock_base hrow g hg
    have h2 := S1.out.marks.lt
    omega
  obtain ⟨ta, tc, rfl, hcl⟩ := IntsAt.of_own hrow
  have hOt : Once t := HL.once.perm hPe.symm
  have htp : ∀ j, j < t.length → (at' t j).place < 24 := fun j hj => HL.place _ (hPe.mem_iff.1 (at_mem hj))
  have hte : ∀ j, j < t.length → Ts.getD (at' t j).place false = true ∧ Ks.getD (at' t j).place zeroK = (at' t j).key := fun j hj => HH.out.ent HL.once (hPe.mem_iff.1 (at_mem hj)) (htp j hj)
  obtain ⟨m, hm⟩ : ∃ m, t.length = m := ⟨_, rfl⟩
  rw [show (plI t).length = m by rw [plI, List.length_map, hm]] at hblk ⊢
  rw [hm] at hlen htp hte
  have Row := Lib.hid (show IntsAt W2 (.slice ta m tc) (plI t) from ⟨ta, tc, by rw [plI, List.length_map, hm], hcl⟩)
  have S2 := Lib.hid (S1.out.later hf.to0)
  have HB := Lib.hid hblk
  have Htp := Lib.hid htp
  have Hte := Lib.hid hte
  have Hm := Lib.hid hm
  have HO := Lib.hid hOt
  have HP := Lib.hid hPe
  have HHp := Lib.hid hHp
  have C0 := Lib.hid (show Cleared Ts t 0 Ts from ⟨HH.out.tl, fun p hp => ⟨fun h => ⟨h, fun j hj => by omega⟩, fun h => h.1⟩⟩)
  clear HT HL hrow hcl hblk hOt htp hte hPe hHp hf hm S1
  go_wp2_with fail
  go_loopw [30] (fun i wr => ∃ (k : Nat) (Tk : List Bool), k ≤ m ∧ i = .int .i64 k ∧ Hid (St w wr hb ba v L Ks Tk KB (KB + 1) []) ∧ Hid (Cleared Ts t k Tk) ∧ Hid (IntsAt wr (.slice ta m tc) (plI t))) (fun i _ => m - (intOf i).toNat)
  case atStart => exact ⟨0, _, Nat.zero_le _, rfl, S2, C0, Row⟩
  case round =>
    obtain ⟨k, Tk, hk, rfl, S2, C, Row⟩ := hrel
    by_cases hlt : k < m
    · have hkt : k < t.length := by rw [Hm.out]; exact hlt
      have hpl := Htp.out k hlt
      obtain ⟨ht, hke⟩ := Hte.out k hlt
      have htk := (C.out.tells _ hpl).2 ⟨ht, fun j hj e => by have := once_at HO.out (by omega) hkt e; omega⟩
      have HN := Lib.hid (C.out.next hpl)
      obtain ⟨_, _, hsl, hcl⟩ := Row.out
      injection hsl with hsl h2 h3
      subst hsl
      clear h2 h3
      obtain ⟨g, rfl, hc⟩ := hcl k (at' t k).place (plI_at hkt)
      have HC := fun (hk0 : 0 < k) => heap_lt HHp.out HO.out hk0 hkt
      have tm := S2.out.mark (p := (at' t k).place) (by rw [C.out.len]; exact hpl)
      have tf := S2.out.thawB (at' t k).place
      rw [htk] at tm
      have S3 := Lib.hid (S2.out.setMark (at' t k).place false)
      have hkk := S3.out.key (p := (at' t k).place) (by rw [HH.out.kl]; exact hpl)
      rw [hke] at hkk
      have Row3 := Lib.hid (Row.out.fr0 (S := fun b => b = KB + 1) (((Fr.refl (fun b => b = KB + 1) wr).setCell (b := KB + 1) (o := (at' t k).place) (fun _ => rfl) (.bool false)).to0) (fun g' hg e => HB.out g' hg e))
      have HCl := Lib.hid hcl
      obtain ⟨⟨⟨ka, kb, kc⟩, p⟩, he⟩ : ∃ e, at' t k = e := ⟨_, rfl⟩
      rw [he] at hpl hc HC tm tf hkk HN S3 Row3
      simp only at hpl hc tm tf hkk
      have p1 : (0 : Int) ≤ (p : Int) := by omega
      have p2 : (p : Int) < 24 := by omega
      have p3 : decide ((24 : Int) ≤ (p : Int)) = false := by simp; omega
      have p4 : decide ((p : Int) < 0) = false := by simp
      have k1 : (0 : Int) ≤ (k : Int) := by omega
      have k2 : (k : Int) < (m : Int) := by omega
      have He := Lib.hid he
      clear ht hke htk hcl he
      go_upto_region 13 with (fail)
      obtain ⟨W3, hW3⟩ : ∃ W3, wr.setCell ⟨KB + 1, p, none⟩ (.bool false) = W3 := ⟨_, rfl⟩
      rw [hW3] at S3 Row3 hkk ⊢
      clear hW3 tm tf hc Row S2 C
      by_cases hk0 : k = 0
      · subst hk0
        clear HC hkk
        go_wp2
        go_roundw
        case rel => exact ⟨1, _, by omega, by go_num, S3, HN, Row3⟩
        case measure => simp [intOf]; omega
      · have hkp : 0 < k := by omega
        have HC2 := HC hkp
        obtain ⟨j, hj⟩ : ∃ j, (k - 1) / 4 = j := ⟨_, rfl⟩
        rw [hj] at HC2
        have hjm : j < m := by omega
        have hup := Htp.out j hjm
        obtain ⟨_, hue⟩ := Hte.out j hjm
        obtain ⟨_, _, hsl, hcl⟩ := Row3.out
        injection hsl with hsl h2 h3
        clear h2 h3
        obtain ⟨g', hg', hcu⟩ := hcl j (at' t j).place (plI_at (show j < t.length by rw [Hm.out]; exact hjm))
        rw [← hsl] at hg'
        injection hg' with hg'
        injection hg' with hg'
        subst hg'
        have huk := S3.out.key (p := (at' t j).place) (by rw [HH.out.kl]; exact hup)
        rw [hue] at huk
        obtain ⟨⟨⟨ua, ub, uc⟩, up⟩, hu⟩ : ∃ e, at' t j = e := ⟨_, rfl⟩
        rw [hu] at hup hcu huk HC2
        simp only at hup hcu huk HC2
        obtain ⟨b0, b1, b2⟩ := hkk
        obtain ⟨a0, a1, a2⟩ := huk
        try simp only at a0 a1 a2 b0 b1 b2
        have u1 : (0 : Int) ≤ (up : Int) := by omega
        have u2 : (up : Int) < 24 := by omega
        have k3 : (0 : Int) < (k : Int) := by omega
        have k4 : ((k : Int) - 1) / 4 = (j : Int) := by omega
        have k5 : decide ((0 : Int) < (k : Int)) = true := by simp; omega
        have HC3 := Lib.hid HC2
        clear HC HC2 hue hcl hsl hu
        go_upto_region 15 with (fail)
        have HCp := fun w => Compare_any ⟨ua, ub, uc⟩ ⟨ka, kb, kc⟩ w
        obtain ⟨c, hcc⟩ : ∃ c, cmpK ⟨ua, ub, uc⟩ ⟨ka, kb, kc⟩ = c := ⟨_, rfl⟩
        obtain ⟨d, hdd⟩ : ∃ d, fieldK ⟨ua, ub, uc⟩ ⟨ka, kb, kc⟩ = d := ⟨_, rfl⟩
        have hcs := HC3.out
        rw [hcc] at hcs
        simp only [hcc, hdd, keyV] at HCp
        have HCp' := Lib.hid HCp
        clear HCp hcc hdd HC3
        refine wp_region_held_drew (S := fun W' => W'.cell? ⟨KB, up * 3, none⟩ = some (.int .i64 ua) ∧ W'.cell? ⟨KB, up * 3 + 1, none⟩ = some (.int .i64 ub) ∧ W'.cell? ⟨KB, up * 3 + 2, none⟩ = some (.int .i64 uc) ∧ W'.cell? ⟨KB, p * 3, none⟩ = some (.int .i64 ka) ∧ W'.cell? ⟨KB, p * 3 + 1, none⟩ = some (.int .i64 kb) ∧ W'.cell? ⟨KB, p * 3 + 2, none⟩ = some (.int .i64 kc)) (by kernel_rfl) ⟨a0, a1, a2, b0, b1, b2⟩ (fun hHeld => ?_)
        refine take_on (i := 0) (v := .int .i64 up) rfl (by kernel_rfl) (by kernel_rfl) (by kernel_rfl) (fun _ _ _ h => h) (by kernel_rfl) (fun W' hSW => ?_) (by assumption) ?_
        · (try dsimp only at hSW)
          first | (go_simp; done) | exact rfl | (go_simp; rfl) | (go_simp; omega)
        try simp only [Act.put, List.setIfInBounds_toArray, List.set_cons_zero, List.set_cons_succ]
        refine take_on (i := 1) (v := .pointer (some ⟨KB, up * 3, none⟩)) rfl (by kernel_rfl) (by kernel_rfl) (by kernel_rfl) (fun _ _ _ h => h) (by kernel_rfl) (fun W' hSW => ?_) (by assumption) ?_
        · (try dsimp only at hSW)
          first | (go_simp; done) | exact rfl | (go_simp; rfl) | (go_simp; omega)
        try simp only [Act.put, List.setIfInBounds_toArray, List.set_cons_zero, List.set_cons_succ]
        refine take_on (i := 2) (v := .agg #[.int .i64 ua, .int .i64 ub, .int .i64 uc]) rfl (by kernel_rfl) (by kernel_rfl) (by kernel_rfl) (fun _ _ _ h => h) (by kernel_rfl) (fun W' hSW => ?_) (by assumption) ?_
        · (try dsimp only at hSW)
          first | (go_simp; done) | exact rfl | (go_simp; rfl) | (go_simp; omega)
        try simp only [Act.put, List.setIfInBounds_toArray, List.set_cons_zero, List.set_cons_succ]
        refine take_on (i := 3) (v := .int .i64 p) rfl (by kernel_rfl) (by kernel_rfl) (by kernel_rfl) (fun _ _ _ h => h) (by kernel_rfl) (fun W' hSW => ?_) (by assumption) ?_
        · (try dsimp only at hSW)
          first | (go_simp; done) | exact rfl | (go_simp; rfl) | (go_simp; omega)
        try simp only [Act.put, List.setIfInBounds_toArray, List.set_cons_zero, List.set_cons_succ]
        refine take_on (i := 4) (v := .pointer (some ⟨KB, p * 3, none⟩)) rfl (by kernel_rfl) (by kernel_rfl) (by kernel_rfl) (fun _ _ _ h => h) (by kernel_rfl) (fun W' hSW => ?_) (by assumption) ?_
        · (try dsimp only at hSW)
          first | (go_simp; done) | exact rfl | (go_simp; rfl) | (go_simp; omega)
        try simp only [Act.put, List.setIfInBounds_toArray, List.set_cons_zero, List.set_cons_succ]
        refine take_on (i := 5) (v := .agg #[.int .i64 ka, .int .i64 kb, .int .i64 kc]) rfl (by kernel_rfl) (by kernel_rfl) (by kernel_rfl) (fun _ _ _ h => h) (by kernel_rfl) (fun W' hSW => ?_) (by assumption) ?_
        · (try dsimp only at hSW)
          first | (go_simp; done) | exact rfl | (go_simp; rfl) | (go_simp; omega)
        try simp only [Act.put, List.setIfInBounds_toArray, List.set_cons_zero, List.set_cons_succ]
        refine take_call (i := 6) rfl (by kernel_rfl) (by kernel_rfl) (fun K hK => ?_)
        go_simp
        refine (HCp'.out _).mono ?_
        rintro e W4 ⟨rfl, hf4⟩
        have S4 := Lib.hid (S3.out.later ((Fr.refl none' W3).drew.trans hf4).to0)
        have Row4 := Lib.hid (Row3.out.later ((Fr.refl none' W3).drew.trans hf4).to0)
        have q0 := hf4.later (p := ⟨KB, up * 3, none⟩) (v := .int .i64 ua) a0
        have q1 := hf4.later (p := ⟨KB, up * 3 + 1, none⟩) (v := .int .i64 ub) a1
        have q2 := hf4.later (p := ⟨KB, up * 3 + 2, none⟩) (v := .int .i64 uc) a2
        have q3 := hf4.later (p := ⟨KB, p * 3, none⟩) (v := .int .i64 ka) b0
        have q4 := hf4.later (p := ⟨KB, p * 3 + 1, none⟩) (v := .int .i64 kb) b1
        have q5 := hf4.later (p := ⟨KB, p * 3 + 2, none⟩) (v := .int .i64 kc) b2
        clear hf4 HCp' S3 Row3 a0 a1 a2 b0 b1 b2 hcu k3 k4 k5
        go_wp2_with fail
        refine hK.out _ _ ⟨q0, q1, q2, q3, q4, q5⟩ (fun hHeld2 => ?_)
        clear hK K
        try simp only [Act.put, List.setIfInBounds_toArray, List.set_cons_zero, List.set_cons_succ]
        refine take_on (i := 7) (v := .tuple #[.int .i64 c, .int .i64 d]) rfl (by kernel_rfl) (by kernel_rfl) (by kernel_rfl) (fun _ _ _ h => h) (by kernel_rfl) (fun W' hSW => ?_) (by assumption) ?_
        · (try dsimp only at hSW)
          first | (go_simp; done) | exact rfl | (go_simp; rfl) | (go_simp; omega)
        try simp only [Act.put, List.setIfInBounds_toArray, List.set_cons_zero, List.set_cons_succ]
        refine take_on (i := 8) (v := .int .i64 c) rfl (by kernel_rfl) (by kernel_rfl) (by kernel_rfl) (fun _ _ _ h => h) (by kernel_rfl) (fun W' hSW => ?_) (by assumption) ?_
        · (try dsimp only at hSW)
          first | (go_simp; done) | exact rfl | (go_simp; rfl) | (go_simp; omega)
        try simp only [Act.put, List.setIfInBounds_toArray, List.set_cons_zero, List.set_cons_succ]
        refine take_on (i := 9) (v := .int .i64 d) rfl (by kernel_rfl) (by kernel_rfl) (by kernel_rfl) (fun _ _ _ h => h) (by kernel_rfl) (fun W' hSW => ?_) (by assumption) ?_
        · (try dsimp only at hSW)
          first | (go_simp; done) | exact rfl | (go_simp; rfl) | (go_simp; omega)
        try simp only [Act.put, List.setIfInBounds_toArray, List.set_cons_zero, List.set_cons_succ]
        refine take_on (i := 10) (v := .int .i64 c) rfl (by kernel_rfl) (by kernel_rfl) (by kernel_rfl) (fun _ _ _ h => h) (by kernel_rfl) (fun W' hSW => ?_) (by assumption) ?_
        · (try dsimp only at hSW)
          first | (go_simp; done) | exact rfl | (go_simp; rfl) | (go_simp; omega)
        try simp only [Act.put, List.setIfInBounds_toArray, List.set_cons_zero, List.set_cons_succ]
        refine take_on (i := 11) (v := .int .i64 d) rfl (by kernel_rfl) (by kernel_rfl) (by kernel_rfl) (fun _ _ _ h => h) (by kernel_rfl) (fun W' hSW => ?_) (by assumption) ?_
        · (try dsimp only at hSW)
          first | (go_simp; done) | exact rfl | (go_simp; rfl) | (go_simp; omega)
        try simp only [Act.put, List.setIfInBounds_toArray, List.set_cons_zero, List.set_cons_succ]
        refine wpAnyH_done (by kernel_rfl) ?_ _
        clear hHeld hHeld2 q0 q1 q2 q3 q4 q5
        rcases hcs with hcs | ⟨rfl, hpp⟩
        · have d1 : decide (0 < c) = false := by simp; omega
          have d2 : (c == 0) = false := by simp; omega
          go_wp2
          go_roundw
          case rel => exact ⟨k + 1, _, by omega, by go_num, S4, HN, Row4⟩
          case measure => simp [intOf]; omega
        · have d3 : decide ((p : Int) ≤ (up : Int)) = false := by simp; omega
          go_wp2
          go_roundw
          case rel => exact ⟨k + 1, _, by omega, by go_num, S4, HN, Row4⟩
          case measure => simp [intOf]; omega
    · have hkm : k = m := by omega
      subst hkm
      have hTk := (show Cleared Ts t t.length Tk from by rw [Hm.out]; exact C.out).done HH.out S2.out.own.is.once HP.out
      subst hTk
      obtain ⟨Z, hZ⟩ : ∃ Z, List.replicate 24 false = Z := ⟨_, rfl⟩
      have o2 := S2.out.marks.obj
      rw [hZ] at o2
      have O2 := Lib.hid o2
      have HZ := Lib.hid hZ
      clear o2 hZ
      go_wp2_with (refine wpList_load_row rfl 28 (.tmp 5) rfl (KB + 1) rfl 28 (cellsB Z).toArray (0, 0) _ O2.out Try.underlying28 rfl (by rw [← HZ.out]; kernel_rfl) ?_)
      have Wr0 := Lib.hid (rfl : wr = wr)
      go_loopw [80] (fun i wx => ∃ j : Nat, j ≤ 24 ∧ i = .int .i64 j ∧ wx = wr) (fun i _ => 24 - (intOf i).toNat)
      case atStart => exact ⟨0, by omega, rfl, rfl⟩
      case round =>
        obtain ⟨j, hj, rfl, rfl⟩ := hrel
        by_cases hjl : j < 24
        · have ij := index_marks Z (by rw [← HZ.out]; rfl) wr j hjl
          rw [show Z.getD j false = false by rw [← HZ.out, List.getD, List.getElem?_replicate]; split <;> rfl] at ij
          have j1 : (j : Int) < 24 := by omega
          go_wp2
          go_roundw
          case rel => exact ⟨j + 1, by omega, by go_num, trivial⟩
          case measure => simp [intOf]; omega
        · have hj24 : j = 24 := by omega
          subst hj24
          go_wp2_with fail
          refine (Len_is S2.out.own.is).mono ?_
          rintro e W4 ⟨rfl, rfl⟩
          have hll : ((L.length : Nat) : Int) = (k : Int) := by rw [← HP.out.length_eq, Hm.out]
          rw [hll]
          go_wp2
          go_ret
          exact ⟨rfl, S2.out.own.fr.below (Nat.le_refl _) (fun _ _ h => h)⟩
end Go.Proofs.Ytbpmdhngobdilaa
