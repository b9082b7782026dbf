/-
  HeapDrains.
-/
import Derived.Test.YtbpmdhngobdilaaLTrees
import Derived.Test.YtbpmdhngobdilaaHl6
namespace Go.Proofs.Ytbpmdhngobdilaa
open Go Go.RowKit
attribute [local go_sem ↓] Go.wp_at_zero Go.wp_at_succ

/-- How many of the first k places are there. -/
def cnt (Ts : List Bool) (k : Nat) : Nat := ((List.range k).filter (fun p => Ts.getD p false)).length
theorem cnt_succ (Ts : List Bool) (k : Nat) : cnt Ts (k + 1) = cnt Ts k + (if Ts.getD k false = true then 1 else 0) := by
  unfold cnt
  rw [List.range_succ, List.filter_append, List.length_append]
  cases h : Ts.getD k false
  · have h' : Ts[k]?.getD false = false := by simpa [List.getD] using h
    simp [List.filter_cons, h, h']
  · have h' : Ts[k]?.getD false = true := by simpa [List.getD] using h
    simp [List.filter_cons, h, h']
theorem cnt_le (Ts : List Bool) (k : Nat) : cnt Ts k ≤ k := by
  have := List.length_filter_le (fun p => Ts.getD p false) (List.range k)
  simpa [cnt] using this
theorem Holds.count {L : List Ent} {Ks : List Key3} {Ts : List Bool} (h : Holds L Ks Ts) (ho : Once L) (hp : ∀ e ∈ L, e.place < 24) : cnt Ts 24 = L.length := by
  have h1 : ((List.range 24).filter (fun p => Ts.getD p false)).Perm (L.map (·.place)) := by
    refine (List.perm_ext_iff_of_nodup (List.nodup_range.filter _) ho).2 (fun p => ?_)
    rw [List.mem_filter, List.mem_range, List.mem_map]
    constructor
    · rintro ⟨h2, h3⟩
      have h4 := h.look p h2
      rw [h3, if_pos rfl] at h4
      exact ⟨_, (look_some ho).1 h4, rfl⟩
    · rintro ⟨e, he, rfl⟩
      exact ⟨hp e he, (h.ent ho he (hp e he)).1⟩
  have := h1.length_eq
  rw [List.length_map] at this
  exact this
theorem IntsBox.setMark {w : World} {hb ba tb p : Nat} {v u x : Value} {xs : List Int} (h : IntsBox w hb ba v u xs) (hne : ∀ g, u.ownBlock = some g → g ≠ tb) : IntsBox (w.setCell ⟨tb, p, none⟩ x) hb ba v u xs :=
  ⟨h.row.fr0 (((Fr.refl (fun b => b = tb) w).setCell (b := tb) (o := p) (fun _ => rfl) x).to0) (fun g hg e => hne g hg e), fun g hg => ⟨(h.out g hg).1, by simp [World.setCell]; exact (h.out g hg).2⟩⟩
/-- The place that was taken last. -/
def lastP (L : List Ent) (k : Nat) : Int := if k = 0 then -1 else (at' L (k - 1)).place
theorem drop_at {L : List Ent} {k : Nat} (h : k < L.length) : L.drop k = at' L k :: L.drop (k + 1) := by rw [at_get h, List.drop_eq_getElem_cons h]
theorem sorted_at {L : List Ent} (h : Sorted L) {k : Nat} (h0 : 0 < k) (hk : k < L.length) : cmpK (at' L (k - 1)).key (at' L k).key < 0 ∨ (cmpK (at' L (k - 1)).key (at' L k).key = 0 ∧ (at' L (k - 1)).place < (at' L k).place) := by
  have h1 := List.pairwise_iff_getElem.1 h (k - 1) k (by omega) hk (by omega)
  rw [← at_get (show k - 1 < L.length by omega), ← at_get hk] at h1
  unfold ordE cmpI at h1
  split at h1
  · exact .inl (by omega)
  · next hc =>
    refine .inr ⟨by simpa using hc, ?_⟩
    split at h1
    · omega
    · split at h1 <;> omega

set_option maxRecDepth 100000 in
set_option maxHeartbeats 4000000 in
theorem HeapDrains_any {w : World} {u : Value} {xs : List Sm4} (hu : SmallsAt w u xs) :
    Calls Try.prog 6 #[u] w fun e w' => e = .returned (.bool true) ∧ Below w.heap.size w w' := by
  have HU := fun (w1 : World) (hf : Fr0 none' w w1) => hu.later hf
  have HU' := Lib.hid HU
  clear HU hu
  go_enter Try.func6, Try.ntmps6
  go_wp2_with fail
  refine (awake_any _).mono ?_
  rintro e w1 ⟨rfl, hf1⟩
  have F1 := Lib.hid hf1
  clear hf1
  go_wp2_with fail
  refine (made_any (HU'.out w1 F1.out)).mono ?_
  rintro e w2 ⟨hb, ba, v, L, Ks, Ts, rfl, hO, hH⟩
  have HH := Lib.hid hH
  have HO := Lib.hid (show Own w w2 hb ba v 24 L from ⟨hO.is, F1.out.trans hO.fr, fun k hk => Nat.le_trans F1.out.size (hO.new k hk)⟩)
  have lK : (cellsK Ks).length = 72 := by rw [cellsK_length, hH.kl]
  have lB : (cellsB Ts).length = 24 := by rw [cellsB, List.length_map, hH.tl]
  have g1 := start_store w2 Ks hH.kl
  have g2 := start_store2 w2 Ks Ts hH.tl
  clear hO hH
  go_upto_region 4 with (fail)
  obtain ⟨W, hW⟩ : ∃ W, startW w2 Ks Ts = W := ⟨_, rfl⟩
  have S1 := Lib.hid (show St w W hb ba v L Ks Ts w2.heap.size (w2.heap.size + 1) [] from hW ▸ St.start HO.out HH.out.kl HH.out.tl)
  clear g1 g2 lK lB
  rw [hW]
  obtain ⟨KB, hKB⟩ : ∃ KB, w2.heap.size = KB := ⟨_, rfl⟩
  rw [hKB] at S1 ⊢
  clear hW hKB HO
  have o2 := S1.out.marks.obj
  have O2 := Lib.hid o2
  clear o2
  go_wp2_with (refine wpList_load_row rfl 28 (.tmp 5) rfl (KB + 1) rfl 28 (cellsB Ts).toArray (0, 0) _ O2.out Try.underlying28 rfl (by rw [List.size_toArray, cellsB, List.length_map, HH.out.tl]; kernel_rfl) ?_)
  clear O2
  go_loopw [7, 37] (fun nn i wr => ∃ (k : Nat), k ≤ 24 ∧ nn = .int .i64 (cnt Ts k : Nat) ∧ i = .int .i64 k ∧ Hid (St w wr hb ba v L Ks Ts KB (KB + 1) [])) (fun _ i _ => 24 - (intOf i).toNat)
  case atStart => exact ⟨0, by omega, rfl, rfl, S1⟩
  case round =>
    obtain ⟨k, hk, rfl, rfl, S1⟩ := hrel
    obtain ⟨n, hn⟩ : ∃ n, cnt Ts k = n := ⟨_, rfl⟩
    have hnk := cnt_le Ts k
    rw [hn] at hnk ⊢
    by_cases hk24 : k < 24
    · have j1 : (k : Int) < 24 := by omega
      cases ht : Ts.getD k false
      · rw [← hn] at *
        have ij := index_marks Ts HH.out.tl wr k hk24
        rw [ht] at ij
        have hcn : cnt Ts (k + 1) = cnt Ts k  := by rw [cnt_succ, ht]; rfl
        have hee := HH.out.err hk24
        rw [ht] at hee
        simp only [if_true, if_false, Bool.false_eq_true] at hee
        obtain ⟨⟨na, nb, nc⟩, hnk⟩ : ∃ nk, keyP 24 L (k : Int) = nk := ⟨_, rfl⟩
        have HP := Key_is S1.out.own.is (k : Int)
        rw [hee, hnk] at HP
        simp only [keyV] at HP

        have Hnk := Lib.hid hnk
        have HP' := Lib.hid HP
        have Ht := Lib.hid ht
        have Hcn := Lib.hid hcn
        clear hee hnk HP ht hcn
        go_wp2_with fail
        clear ij
        refine HP'.out.mono ?_
        rintro e W5 ⟨rfl, hf⟩
        have S1 := Lib.hid (S1.out.later hf.to0)
        clear hf HP'
        go_upto_region 13 with (fail)
        obtain ⟨W6, hW6⟩ : ∃ W6, W5.alloc (.cells #[.int .i64 na, .int .i64 nb, .int .i64 nc] 26) = W6 := ⟨_, rfl⟩
        rw [hW6]
        have S1 := Lib.hid (show St w W6 hb ba v L Ks Ts KB (KB + 1) _ from hW6 ▸ S1.out.alloc _)
        obtain ⟨ZB, hZB⟩ : ∃ ZB, W5.heap.size = ZB := ⟨_, rfl⟩
        rw [hZB] at S1 ⊢
        clear hW6 hZB
        have hcel : ∀ (W' : World) (v' : Value) (L' : List Ent), St w W' hb ba v' L' Ks Ts KB (KB + 1) [(ZB, .cells #[.int .i64 na, .int .i64 nb, .int .i64 nc] 26)] → W'.cell? ⟨ZB, 0, none⟩ = some (.int .i64 na) ∧ W'.cell? ⟨ZB, 1, none⟩ = some (.int .i64 nb) ∧ W'.cell? ⟨ZB, 2, none⟩ = some (.int .i64 nc) := by
          intro W' v' L' S
          have hbz := S.box (List.mem_cons_self ..)
          exact ⟨by rw [cells_at hbz]; rfl, by rw [cells_at hbz]; rfl, by rw [cells_at hbz]; rfl⟩
        have HC := Lib.hid hcel
        clear hcel
        refine wp_region_held_drew (S := fun W' => W'.cell? ⟨ZB, 0, none⟩ = some (.int .i64 na) ∧ W'.cell? ⟨ZB, 1, none⟩ = some (.int .i64 nb) ∧ W'.cell? ⟨ZB, 2, none⟩ = some (.int .i64 nc)) (by kernel_rfl) (HC.out _ _ _ (S1.out.later (Fr.refl none' W6).drew.to0)) (fun hHeld => ?_)
        have S1 := Lib.hid (S1.out.later (Fr.refl none' W6).drew.to0)
        refine take_on (i := 0) (v := .pointer (some ⟨hb, 0, none⟩)) rfl (by kernel_rfl) (by kernel_rfl) (by kernel_rfl) (fun _ _ _ h => h) (by kernel_rfl) (fun W' hSW => ?_) (by assumption) ?_
        · (try dsimp only at hSW)
          first | (go_simp; done) | exact rfl | (go_simp; rfl) | (go_simp; omega)
        try simp only [Act.put, List.setIfInBounds_toArray, List.set_cons_zero, List.set_cons_succ]
        refine take_on (i := 1) (v := .int .i64 k) rfl (by kernel_rfl) (by kernel_rfl) (by kernel_rfl) (fun _ _ _ h => h) (by kernel_rfl) (fun W' hSW => ?_) (by assumption) ?_
        · (try dsimp only at hSW)
          first | (go_simp; done) | exact rfl | (go_simp; rfl) | (go_simp; omega)
        try simp only [Act.put, List.setIfInBounds_toArray, List.set_cons_zero, List.set_cons_succ]
        refine take_on (i := 3) (v := .bool false) rfl (by kernel_rfl) (by kernel_rfl) (by kernel_rfl) (fun _ _ _ h => h) (by kernel_rfl) (fun W' hSW => ?_) (by assumption) ?_
        · (try dsimp only at hSW)
          first | (go_simp; done) | exact rfl | (go_simp; rfl) | (go_simp; omega)
        try simp only [Act.put, List.setIfInBounds_toArray, List.set_cons_zero, List.set_cons_succ]
        refine take_call (i := 2) rfl (by kernel_rfl) (by kernel_rfl) (fun K hK => ?_)
        go_simp
        have HS := Has_is S1.out.own.is (k : Int)
        rw [has_err HH.out hk24, Ht.out] at HS
        refine HS.mono ?_
        rintro e W8 ⟨rfl, hf⟩
        have S1 := Lib.hid (S1.out.later hf.to0)
        clear HS hf
        go_wp2_with fail
        refine hK.out _ _ (HC.out _ _ _ S1.out) (fun hHeld2 => ?_)
        clear hK K
        try simp only [Act.put, List.setIfInBounds_toArray, List.set_cons_zero, List.set_cons_succ]
        refine take_on (i := 4) (v := .bool false) rfl (by kernel_rfl) (by kernel_rfl) (by kernel_rfl) (fun _ _ _ h => h) (by kernel_rfl) (fun W' hSW => ?_) (by assumption) ?_
        · (try dsimp only at hSW)
          first | (go_simp; done) | exact rfl | (go_simp; rfl) | (go_simp; omega)
        try simp only [Act.put, List.setIfInBounds_toArray, List.set_cons_zero, List.set_cons_succ]
        refine take_on (i := 5) (v := .bool false) rfl (by kernel_rfl) (by kernel_rfl) (by kernel_rfl) (fun _ _ _ h => h) (by kernel_rfl) (fun W' hSW => ?_) (by assumption) ?_
        · (try dsimp only at hSW)
          first | (go_simp; done) | exact rfl | (go_simp; rfl) | (go_simp; omega)
        try simp only [Act.put, List.setIfInBounds_toArray, List.set_cons_zero, List.set_cons_succ]
        refine take_on (i := 6) (v := .bool false) rfl (by kernel_rfl) (by kernel_rfl) (by kernel_rfl) (fun _ _ _ h => h) (by kernel_rfl) (fun W' hSW => ?_) (by assumption) ?_
        · (try dsimp only at hSW)
          first | (go_simp; done) | exact rfl | (go_simp; rfl) | (go_simp; omega)
        try simp only [Act.put, List.setIfInBounds_toArray, List.set_cons_zero, List.set_cons_succ]
        refine take_on (i := 7) (v := .bool false) rfl (by kernel_rfl) (by kernel_rfl) (by kernel_rfl) (fun _ _ _ h => h) (by kernel_rfl) (fun W' hSW => ?_) (by assumption) ?_
        · (try dsimp only at hSW)
          first | (go_simp; done) | exact rfl | (go_simp; rfl) | (go_simp; omega)
        try simp only [Act.put, List.setIfInBounds_toArray, List.set_cons_zero, List.set_cons_succ]
        refine take_off (i := 8) rfl (by kernel_rfl) (by kernel_rfl) (by kernel_rfl) (fun _ _ _ h => h) (by kernel_rfl) (by assumption) ?_
        try simp only [Act.put, List.setIfInBounds_toArray, List.set_cons_zero, List.set_cons_succ]
        refine take_off (i := 9) rfl (by kernel_rfl) (by kernel_rfl) (by kernel_rfl) (fun _ _ _ h => h) (by kernel_rfl) (by assumption) ?_
        try simp only [Act.put, List.setIfInBounds_toArray, List.set_cons_zero, List.set_cons_succ]
        refine take_off (i := 10) rfl (by kernel_rfl) (by kernel_rfl) (by kernel_rfl) (fun _ _ _ h => h) (by kernel_rfl) (by assumption) ?_
        try simp only [Act.put, List.setIfInBounds_toArray, List.set_cons_zero, List.set_cons_succ]
        refine take_off (i := 11) rfl (by kernel_rfl) (by kernel_rfl) (by kernel_rfl) (fun _ _ _ h => h) (by kernel_rfl) (by assumption) ?_
        try simp only [Act.put, List.setIfInBounds_toArray, List.set_cons_zero, List.set_cons_succ]
        refine take_off (i := 12) rfl (by kernel_rfl) (by kernel_rfl) (by kernel_rfl) (fun _ _ _ h => h) (by kernel_rfl) (by assumption) ?_
        try simp only [Act.put, List.setIfInBounds_toArray, List.set_cons_zero, List.set_cons_succ]
        refine take_off (i := 13) rfl (by kernel_rfl) (by kernel_rfl) (by kernel_rfl) (fun _ _ _ h => h) (by kernel_rfl) (by assumption) ?_
        try simp only [Act.put, List.setIfInBounds_toArray, List.set_cons_zero, List.set_cons_succ]
        refine take_off (i := 14) rfl (by kernel_rfl) (by kernel_rfl) (by kernel_rfl) (fun _ _ _ h => h) (by kernel_rfl) (by assumption) ?_
        try simp only [Act.put, List.setIfInBounds_toArray, List.set_cons_zero, List.set_cons_succ]
        refine take_off (i := 15) rfl (by kernel_rfl) (by kernel_rfl) (by kernel_rfl) (fun _ _ _ h => h) (by kernel_rfl) (by assumption) ?_
        try simp only [Act.put, List.setIfInBounds_toArray, List.set_cons_zero, List.set_cons_succ]
        refine take_off (i := 16) rfl (by kernel_rfl) (by kernel_rfl) (by kernel_rfl) (fun _ _ _ h => h) (by kernel_rfl) (by assumption) ?_
        try simp only [Act.put, List.setIfInBounds_toArray, List.set_cons_zero, List.set_cons_succ]
        refine take_on (i := 17) (v := .bool false) rfl (by kernel_rfl) (by kernel_rfl) (by kernel_rfl) (fun _ _ _ h => h) (by kernel_rfl) (fun W' hSW => ?_) (by assumption) ?_
        · (try dsimp only at hSW)
          first | (go_simp; done) | exact rfl | (go_simp; rfl) | (go_simp; omega)
        try simp only [Act.put, List.setIfInBounds_toArray, List.set_cons_zero, List.set_cons_succ]
        refine take_on (i := 18) (v := .bool false) rfl (by kernel_rfl) (by kernel_rfl) (by kernel_rfl) (fun _ _ _ h => h) (by kernel_rfl) (fun W' hSW => ?_) (by assumption) ?_
        · (try dsimp only at hSW)
          first | (go_simp; done) | exact rfl | (go_simp; rfl) | (go_simp; omega)
        try simp only [Act.put, List.setIfInBounds_toArray, List.set_cons_zero, List.set_cons_succ]
        refine take_on (i := 19) (v := .bool false) rfl (by kernel_rfl) (by kernel_rfl) (by kernel_rfl) (fun _ _ _ h => h) (by kernel_rfl) (fun W' hSW => ?_) (by assumption) ?_
        · (try dsimp only at hSW)
          first | (go_simp; done) | exact rfl | (go_simp; rfl) | (go_simp; omega)
        try simp only [Act.put, List.setIfInBounds_toArray, List.set_cons_zero, List.set_cons_succ]
        refine take_on (i := 20) (v := .bool false) rfl (by kernel_rfl) (by kernel_rfl) (by kernel_rfl) (fun _ _ _ h => h) (by kernel_rfl) (fun W' hSW => ?_) (by assumption) ?_
        · (try dsimp only at hSW)
          first | (go_simp; done) | exact rfl | (go_simp; rfl) | (go_simp; omega)
        try simp only [Act.put, List.setIfInBounds_toArray, List.set_cons_zero, List.set_cons_succ]
        refine take_on (i := 21) (v := .bool true) rfl (by kernel_rfl) (by kernel_rfl) (by kernel_rfl) (fun _ _ _ h => h) (by kernel_rfl) (fun W' hSW => ?_) (by assumption) ?_
        · (try dsimp only at hSW)
          first | (go_simp; done) | exact rfl | (go_simp; rfl) | (go_simp; omega)
        try simp only [Act.put, List.setIfInBounds_toArray, List.set_cons_zero, List.set_cons_succ]
        refine take_on (i := 22) (v := .bool true) rfl (by kernel_rfl) (by kernel_rfl) (by kernel_rfl) (fun _ _ _ h => h) (by kernel_rfl) (fun W' hSW => ?_) (by assumption) ?_
        · (try dsimp only at hSW)
          first | (go_simp; done) | exact rfl | (go_simp; rfl) | (go_simp; omega)
        try simp only [Act.put, List.setIfInBounds_toArray, List.set_cons_zero, List.set_cons_succ]
        refine take_on (i := 23) (v := .int .i64 6) rfl (by kernel_rfl) (by kernel_rfl) (by kernel_rfl) (fun _ _ _ h => h) (by kernel_rfl) (fun W' hSW => ?_) (by assumption) ?_
        · (try dsimp only at hSW)
          first | (go_simp; done) | exact rfl | (go_simp; rfl) | (go_simp; omega)
        try simp only [Act.put, List.setIfInBounds_toArray, List.set_cons_zero, List.set_cons_succ]
        refine take_on (i := 24) (v := .bool false) rfl (by kernel_rfl) (by kernel_rfl) (by kernel_rfl) (fun _ _ _ h => h) (by kernel_rfl) (fun W' hSW => ?_) (by assumption) ?_
        · (try dsimp only at hSW)
          first | (go_simp; done) | exact rfl | (go_simp; rfl) | (go_simp; omega)
        try simp only [Act.put, List.setIfInBounds_toArray, List.set_cons_zero, List.set_cons_succ]
        refine take_on (i := 25) (v := .bool false) rfl (by kernel_rfl) (by kernel_rfl) (by kernel_rfl) (fun _ _ _ h => h) (by kernel_rfl) (fun W' hSW => ?_) (by assumption) ?_
        · (try dsimp only at hSW)
          first | (go_simp; done) | exact rfl | (go_simp; rfl) | (go_simp; omega)
        try simp only [Act.put, List.setIfInBounds_toArray, List.set_cons_zero, List.set_cons_succ]
        refine take_on (i := 26) (v := .bool false) rfl (by kernel_rfl) (by kernel_rfl) (by kernel_rfl) (fun _ _ _ h => h) (by kernel_rfl) (fun W' hSW => ?_) (by assumption) ?_
        · (try dsimp only at hSW)
          first | (go_simp; done) | exact rfl | (go_simp; rfl) | (go_simp; omega)
        try simp only [Act.put, List.setIfInBounds_toArray, List.set_cons_zero, List.set_cons_succ]
        refine wpAnyH_done (by kernel_rfl) ?_ _
        clear hHeld hHeld2 HC
        go_wp2
        go_roundw
        case rel => exact ⟨k + 1, by omega, by first | (rw [Hcn.out]; done) | (rw [Hcn.out]; go_num), by go_num, Lib.hid (S1.out.less (fun x hx => by cases hx))⟩
        case measure => simp [intOf]; omega
      · rw [← hn] at *
        have ij := index_marks Ts HH.out.tl wr k hk24
        rw [ht] at ij
        have hcn : cnt Ts (k + 1) = cnt Ts k + 1 := by rw [cnt_succ, ht]; rfl
        have hee := HH.out.err hk24
        rw [ht] at hee
        simp only [if_true, if_false, Bool.false_eq_true] at hee
        obtain ⟨⟨na, nb, nc⟩, hnk⟩ : ∃ nk, keyP 24 L (k : Int) = nk := ⟨_, rfl⟩
        have HP := Key_is S1.out.own.is (k : Int)
        rw [hee, hnk] at HP
        simp only [keyV] at HP
        rw [HH.out.key hk24 ht] at hnk
        have Hnk := Lib.hid hnk
        have HP' := Lib.hid HP
        have Ht := Lib.hid ht
        have Hcn := Lib.hid hcn
        clear hee hnk HP ht hcn
        go_wp2_with fail
        clear ij
        refine HP'.out.mono ?_
        rintro e W5 ⟨rfl, hf⟩
        have S1 := Lib.hid (S1.out.later hf.to0)
        clear hf HP'
        go_upto_region 13 with (fail)
        obtain ⟨W6, hW6⟩ : ∃ W6, W5.alloc (.cells #[.int .i64 na, .int .i64 nb, .int .i64 nc] 26) = W6 := ⟨_, rfl⟩
        rw [hW6]
        have S1 := Lib.hid (show St w W6 hb ba v L Ks Ts KB (KB + 1) _ from hW6 ▸ S1.out.alloc _)
        obtain ⟨ZB, hZB⟩ : ∃ ZB, W5.heap.size = ZB := ⟨_, rfl⟩
        rw [hZB] at S1 ⊢
        clear hW6 hZB
        have hcel : ∀ (W' : World) (v' : Value) (L' : List Ent), St w W' hb ba v' L' Ks Ts KB (KB + 1) [(ZB, .cells #[.int .i64 na, .int .i64 nb, .int .i64 nc] 26)] → W'.cell? ⟨ZB, 0, none⟩ = some (.int .i64 na) ∧ W'.cell? ⟨ZB, 1, none⟩ = some (.int .i64 nb) ∧ W'.cell? ⟨ZB, 2, none⟩ = some (.int .i64 nc) ∧ W'.cell? ⟨KB, k * 3, none⟩ = some (.int .i64 na) ∧ W'.cell? ⟨KB, k * 3 + 1, none⟩ = some (.int .i64 nb) ∧ W'.cell? ⟨KB, k * 3 + 2, none⟩ = some (.int .i64 nc) := by
          intro W' v' L' S
          have hbz := S.box (List.mem_cons_self ..)
          have hk := S.key (p := k) (by rw [HH.out.kl]; exact hk24)
          rw [Hnk.out] at hk
          exact ⟨by rw [cells_at hbz]; rfl, by rw [cells_at hbz]; rfl, by rw [cells_at hbz]; rfl, hk.1, hk.2.1, hk.2.2⟩
        have HC := Lib.hid hcel
        clear hcel
        refine wp_region_held_drew (S := fun W' => W'.cell? ⟨ZB, 0, none⟩ = some (.int .i64 na) ∧ W'.cell? ⟨ZB, 1, none⟩ = some (.int .i64 nb) ∧ W'.cell? ⟨ZB, 2, none⟩ = some (.int .i64 nc) ∧ W'.cell? ⟨KB, k * 3, none⟩ = some (.int .i64 na) ∧ W'.cell? ⟨KB, k * 3 + 1, none⟩ = some (.int .i64 nb) ∧ W'.cell? ⟨KB, k * 3 + 2, none⟩ = some (.int .i64 nc)) (by kernel_rfl) (HC.out _ _ _ (S1.out.later (Fr.refl none' W6).drew.to0)) (fun hHeld => ?_)
        have S1 := Lib.hid (S1.out.later (Fr.refl none' W6).drew.to0)
        refine take_on (i := 0) (v := .pointer (some ⟨hb, 0, none⟩)) rfl (by kernel_rfl) (by kernel_rfl) (by kernel_rfl) (fun _ _ _ h => h) (by kernel_rfl) (fun W' hSW => ?_) (by assumption) ?_
        · (try dsimp only at hSW)
          first | (go_simp; done) | exact rfl | (go_simp; rfl) | (go_simp; omega)
        try simp only [Act.put, List.setIfInBounds_toArray, List.set_cons_zero, List.set_cons_succ]
        refine take_on (i := 1) (v := .int .i64 k) rfl (by kernel_rfl) (by kernel_rfl) (by kernel_rfl) (fun _ _ _ h => h) (by kernel_rfl) (fun W' hSW => ?_) (by assumption) ?_
        · (try dsimp only at hSW)
          first | (go_simp; done) | exact rfl | (go_simp; rfl) | (go_simp; omega)
        try simp only [Act.put, List.setIfInBounds_toArray, List.set_cons_zero, List.set_cons_succ]
        refine take_on (i := 3) (v := .bool true) rfl (by kernel_rfl) (by kernel_rfl) (by kernel_rfl) (fun _ _ _ h => h) (by kernel_rfl) (fun W' hSW => ?_) (by assumption) ?_
        · (try dsimp only at hSW)
          first | (go_simp; done) | exact rfl | (go_simp; rfl) | (go_simp; omega)
        try simp only [Act.put, List.setIfInBounds_toArray, List.set_cons_zero, List.set_cons_succ]
        refine take_call (i := 2) rfl (by kernel_rfl) (by kernel_rfl) (fun K hK => ?_)
        go_simp
        have HS := Has_is S1.out.own.is (k : Int)
        rw [has_err HH.out hk24, Ht.out] at HS
        refine HS.mono ?_
        rintro e W8 ⟨rfl, hf⟩
        have S1 := Lib.hid (S1.out.later hf.to0)
        clear HS hf
        go_wp2_with fail
        refine hK.out _ _ (HC.out _ _ _ S1.out) (fun hHeld2 => ?_)
        clear hK K
        try simp only [Act.put, List.setIfInBounds_toArray, List.set_cons_zero, List.set_cons_succ]
        refine take_on (i := 4) (v := .bool false) rfl (by kernel_rfl) (by kernel_rfl) (by kernel_rfl) (fun _ _ _ h => h) (by kernel_rfl) (fun W' hSW => ?_) (by assumption) ?_
        · (try dsimp only at hSW)
          first | (go_simp; done) | exact rfl | (go_simp; rfl) | (go_simp; omega)
        try simp only [Act.put, List.setIfInBounds_toArray, List.set_cons_zero, List.set_cons_succ]
        refine take_on (i := 5) (v := .bool false) rfl (by kernel_rfl) (by kernel_rfl) (by kernel_rfl) (fun _ _ _ h => h) (by kernel_rfl) (fun W' hSW => ?_) (by assumption) ?_
        · (try dsimp only at hSW)
          first | (go_simp; done) | exact rfl | (go_simp; rfl) | (go_simp; omega)
        try simp only [Act.put, List.setIfInBounds_toArray, List.set_cons_zero, List.set_cons_succ]
        refine take_on (i := 6) (v := .bool true) rfl (by kernel_rfl) (by kernel_rfl) (by kernel_rfl) (fun _ _ _ h => h) (by kernel_rfl) (fun W' hSW => ?_) (by assumption) ?_
        · (try dsimp only at hSW)
          first | (go_simp; done) | exact rfl | (go_simp; rfl) | (go_simp; omega)
        try simp only [Act.put, List.setIfInBounds_toArray, List.set_cons_zero, List.set_cons_succ]
        refine take_on (i := 7) (v := .bool true) rfl (by kernel_rfl) (by kernel_rfl) (by kernel_rfl) (fun _ _ _ h => h) (by kernel_rfl) (fun W' hSW => ?_) (by assumption) ?_
        · (try dsimp only at hSW)
          first | (go_simp; done) | exact rfl | (go_simp; rfl) | (go_simp; omega)
        try simp only [Act.put, List.setIfInBounds_toArray, List.set_cons_zero, List.set_cons_succ]
        refine take_on (i := 8) (v := .int .i64 0) rfl (by kernel_rfl) (by kernel_rfl) (by kernel_rfl) (fun _ _ _ h => h) (by kernel_rfl) (fun W' hSW => ?_) (by assumption) ?_
        · (try dsimp only at hSW)
          first | (go_simp; done) | exact rfl | (go_simp; rfl) | (go_simp; omega)
        try simp only [Act.put, List.setIfInBounds_toArray, List.set_cons_zero, List.set_cons_succ]
        refine take_on (i := 9) (v := .bool false) rfl (by kernel_rfl) (by kernel_rfl) (by kernel_rfl) (fun _ _ _ h => h) (by kernel_rfl) (fun W' hSW => ?_) (by assumption) ?_
        · (try dsimp only at hSW)
          first | (go_simp; done) | exact rfl | (go_simp; rfl) | (go_simp; omega)
        try simp only [Act.put, List.setIfInBounds_toArray, List.set_cons_zero, List.set_cons_succ]
        refine take_on (i := 10) (v := .bool false) rfl (by kernel_rfl) (by kernel_rfl) (by kernel_rfl) (fun _ _ _ h => h) (by kernel_rfl) (fun W' hSW => ?_) (by assumption) ?_
        · (try dsimp only at hSW)
          first | (go_simp; done) | exact rfl | (go_simp; rfl) | (go_simp; omega)
        try simp only [Act.put, List.setIfInBounds_toArray, List.set_cons_zero, List.set_cons_succ]
        refine take_on (i := 11) (v := .agg #[.int .i64 na, .int .i64 nb, .int .i64 nc]) rfl (by kernel_rfl) (by kernel_rfl) (by kernel_rfl) (fun _ _ _ h => h) (by kernel_rfl) (fun W' hSW => ?_) (by assumption) ?_
        · (try dsimp only at hSW)
          first | (go_simp; done) | exact rfl | (go_simp; rfl) | (go_simp; omega)
        try simp only [Act.put, List.setIfInBounds_toArray, List.set_cons_zero, List.set_cons_succ]
        refine take_on (i := 12) (v := .int .i64 k) rfl (by kernel_rfl) (by kernel_rfl) (by kernel_rfl) (fun _ _ _ h => h) (by kernel_rfl) (fun W' hSW => ?_) (by assumption) ?_
        · (try dsimp only at hSW)
          first | (go_simp; done) | exact rfl | (go_simp; rfl) | (go_simp; omega)
        try simp only [Act.put, List.setIfInBounds_toArray, List.set_cons_zero, List.set_cons_succ]
        refine take_on (i := 13) (v := .pointer (some ⟨KB, k * 3, none⟩)) rfl (by kernel_rfl) (by kernel_rfl) (by kernel_rfl) (fun _ _ _ h => h) (by kernel_rfl) (fun W' hSW => ?_) (by assumption) ?_
        · (try dsimp only at hSW)
          first | (go_simp; done) | exact rfl | (go_simp; rfl) | (go_simp; omega)
        try simp only [Act.put, List.setIfInBounds_toArray, List.set_cons_zero, List.set_cons_succ]
        refine take_on (i := 14) (v := .agg #[.int .i64 na, .int .i64 nb, .int .i64 nc]) rfl (by kernel_rfl) (by kernel_rfl) (by kernel_rfl) (fun _ _ _ h => h) (by kernel_rfl) (fun W' hSW => ?_) (by assumption) ?_
        · (try dsimp only at hSW)
          first | (go_simp; done) | exact rfl | (go_simp; rfl) | (go_simp; omega)
        try simp only [Act.put, List.setIfInBounds_toArray, List.set_cons_zero, List.set_cons_succ]
        refine take_on (i := 15) (v := .bool false) rfl (by kernel_rfl) (by kernel_rfl) (by kernel_rfl) (fun _ _ _ h => h) (by kernel_rfl) (fun W' hSW => ?_) (by assumption) ?_
        · (try dsimp only at hSW)
          first | (go_simp; done) | exact rfl | (go_simp; rfl) | (go_simp; omega)
        try simp only [Act.put, List.setIfInBounds_toArray, List.set_cons_zero, List.set_cons_succ]
        refine take_on (i := 16) (v := .bool false) rfl (by kernel_rfl) (by kernel_rfl) (by kernel_rfl) (fun _ _ _ h => h) (by kernel_rfl) (fun W' hSW => ?_) (by assumption) ?_
        · (try dsimp only at hSW)
          first | (go_simp; done) | exact rfl | (go_simp; rfl) | (go_simp; omega)
        try simp only [Act.put, List.setIfInBounds_toArray, List.set_cons_zero, List.set_cons_succ]
        refine take_on (i := 17) (v := .bool false) rfl (by kernel_rfl) (by kernel_rfl) (by kernel_rfl) (fun _ _ _ h => h) (by kernel_rfl) (fun W' hSW => ?_) (by assumption) ?_
        · (try dsimp only at hSW)
          first | (go_simp; done) | exact rfl | (go_simp; rfl) | (go_simp; omega)
        try simp only [Act.put, List.setIfInBounds_toArray, List.set_cons_zero, List.set_cons_succ]
        refine take_on (i := 18) (v := .bool false) rfl (by kernel_rfl) (by kernel_rfl) (by kernel_rfl) (fun _ _ _ h => h) (by kernel_rfl) (fun W' hSW => ?_) (by assumption) ?_
        · (try dsimp only at hSW)
          first | (go_simp; done) | exact rfl | (go_simp; rfl) | (go_simp; omega)
        try simp only [Act.put, List.setIfInBounds_toArray, List.set_cons_zero, List.set_cons_succ]
        refine take_on (i := 19) (v := .bool false) rfl (by kernel_rfl) (by kernel_rfl) (by kernel_rfl) (fun _ _ _ h => h) (by kernel_rfl) (fun W' hSW => ?_) (by assumption) ?_
        · (try dsimp only at hSW)
          first | (go_simp; done) | exact rfl | (go_simp; rfl) | (go_simp; omega)
        try simp only [Act.put, List.setIfInBounds_toArray, List.set_cons_zero, List.set_cons_succ]
        refine take_on (i := 20) (v := .bool true) rfl (by kernel_rfl) (by kernel_rfl) (by kernel_rfl) (fun _ _ _ h => h) (by kernel_rfl) (fun W' hSW => ?_) (by assumption) ?_
        · (try dsimp only at hSW)
          first | (go_simp; done) | exact rfl | (go_simp; rfl) | (go_simp; omega)
        try simp only [Act.put, List.setIfInBounds_toArray, List.set_cons_zero, List.set_cons_succ]
        refine take_on (i := 21) (v := .bool false) rfl (by kernel_rfl) (by kernel_rfl) (by kernel_rfl) (fun _ _ _ h => h) (by kernel_rfl) (fun W' hSW => ?_) (by assumption) ?_
        · (try dsimp only at hSW)
          first | (go_simp; done) | exact rfl | (go_simp; rfl) | (go_simp; omega)
        try simp only [Act.put, List.setIfInBounds_toArray, List.set_cons_zero, List.set_cons_succ]
        refine take_on (i := 22) (v := .bool false) rfl (by kernel_rfl) (by kernel_rfl) (by kernel_rfl) (fun _ _ _ h => h) (by kernel_rfl) (fun W' hSW => ?_) (by assumption) ?_
        · (try dsimp only at hSW)
          first | (go_simp; done) | exact rfl | (go_simp; rfl) | (go_simp; omega)
        try simp only [Act.put, List.setIfInBounds_toArray, List.set_cons_zero, List.set_cons_succ]
        refine take_off (i := 23) rfl (by kernel_rfl) (by kernel_rfl) (by kernel_rfl) (fun _ _ _ h => h) (by kernel_rfl) (by assumption) ?_
        try simp only [Act.put, List.setIfInBounds_toArray, List.set_cons_zero, List.set_cons_succ]
        refine take_off (i := 24) rfl (by kernel_rfl) (by kernel_rfl) (by kernel_rfl) (fun _ _ _ h => h) (by kernel_rfl) (by assumption) ?_
        try simp only [Act.put, List.setIfInBounds_toArray, List.set_cons_zero, List.set_cons_succ]
        refine take_on (i := 25) (v := .bool false) rfl (by kernel_rfl) (by kernel_rfl) (by kernel_rfl) (fun _ _ _ h => h) (by kernel_rfl) (fun W' hSW => ?_) (by assumption) ?_
        · (try dsimp only at hSW)
          first | (go_simp; done) | exact rfl | (go_simp; rfl) | (go_simp; omega)
        try simp only [Act.put, List.setIfInBounds_toArray, List.set_cons_zero, List.set_cons_succ]
        refine take_on (i := 26) (v := .bool false) rfl (by kernel_rfl) (by kernel_rfl) (by kernel_rfl) (fun _ _ _ h => h) (by kernel_rfl) (fun W' hSW => ?_) (by assumption) ?_
        · (try dsimp only at hSW)
          first | (go_simp; done) | exact rfl | (go_simp; rfl) | (go_simp; omega)
        try simp only [Act.put, List.setIfInBounds_toArray, List.set_cons_zero, List.set_cons_succ]
        refine wpAnyH_done (by kernel_rfl) ?_ _
        clear hHeld hHeld2 HC
        go_wp2
        go_roundw
        case rel => exact ⟨k + 1, by omega, by first | (rw [Hcn.out]; done) | (rw [Hcn.out]; go_num), by go_num, Lib.hid (S1.out.less (fun x hx => by cases hx))⟩
        case measure => simp [intOf]; omega
    · have hke : k = 24 := by omega
      subst hke
      rw [show ((24 : Nat) : Int) = (24 : Int) from rfl]
      have hcn := HH.out.count S1.out.own.is.once S1.out.own.is.place
      rw [hn] at hcn
      have Hn := Lib.hid hn
      have HLn := Lib.hid hcn
      have hn24 : n ≤ 24 := hnk
      clear hn hcn hnk
      go_wp2_with fail
      have HS := Len_is S1.out.own.is
      rw [← HLn.out] at HS
      refine HS.mono ?_
      rintro e W4 ⟨rfl, rfl⟩
      clear HS
      go_wp2_with fail
      refine (order_own S1.out.own).mono ?_
      rintro e W5 ⟨u1, rfl, hu1, hf, hg1⟩
      have lP : (plI L).length = n := by rw [plI, List.length_map]; exact HLn.out.symm
      obtain ⟨a1, c1, rfl, hrow⟩ := hu1
      rw [lP] at hg1 ⊢
      have I := Lib.hid (show IntsBox W5 hb ba v (.slice a1 n c1) (plI L) from ⟨⟨a1, c1, by rw [lP], hrow⟩, fun g hg => ⟨fun hk => by have := S1.out.own.lt g hk; have := (hg1 g hg).1; omega, (hg1 g hg).2⟩⟩)
      have HB := Lib.hid (show ∀ g, (Value.slice a1 n c1).ownBlock = some g → g ≠ KB + 1 from fun g hg => by have := (hg1 g hg).1; have := S1.out.marks.lt; omega)
      have S1 := Lib.hid (S1.out.later hf)
      have LP := Lib.hid lP
      have HSo := Lib.hid S1.out.own.is.sorted
      have HPl := Lib.hid S1.out.own.is.place
      have HOn := Lib.hid S1.out.own.is.once
      clear hrow hf hg1 lP
      go_wp2_with fail
      go_loopw [13, 89] (fun la i wr => ∃ (k : Nat) (v : Value) (Tk : List Bool), k ≤ n ∧ i = .int .i64 k ∧ la = .int .i64 (lastP L k) ∧ Hid (St w wr hb ba v (L.drop k) Ks Tk KB (KB + 1) []) ∧ Hid (Holds (L.drop k) Ks Tk) ∧ Hid (IntsBox wr hb ba v (.slice a1 n c1) (plI L))) (fun _ i _ => n - (intOf i).toNat)
      case atStart => exact ⟨0, _, _, Nat.zero_le _, rfl, rfl, S1, HH, I⟩
      case round =>
        obtain ⟨k, v, Tk, hk, rfl, rfl, S1, HK, I⟩ := hrel
        by_cases hlt : k < n
        · have hkL : k < L.length := by rw [← HLn.out]; exact hlt
          have hdr := drop_at hkL
          have hpl : (at' L k).place < 24 := HPl.out _ (at_mem hkL)
          have hkey := fun (h0 : 0 < k) => sorted_at HSo.out h0 hkL
          obtain ⟨_, _, hsl, hcl⟩ := I.out.row
          injection hsl with hsl h2 h3
          clear h2 h3
          obtain ⟨g, hg', hc⟩ := hcl k (at' L k).place (plI_at hkL)
          rw [← hsl] at hg'
          subst hg'
          clear hcl hsl
          have HKd := HK.out
          have Sd := S1.out
          rw [hdr] at HKd Sd
          obtain ⟨ht, hky, hh⟩ := HKd.take Sd.own.is.once hpl
          have HL := Least_is Sd.own.is
          simp only [leastP, leastB] at HL
          have HT := take_own Sd.own
          simp only [leastP, takeK, takeE, List.tail, keyV] at HT
          have hlast : 0 < k → ∃ lp : Nat, lastP L k = lp ∧ (at' L (k - 1)).place = lp ∧ lp < 24 ∧ Ks.getD lp zeroK = (at' L (k - 1)).key := fun h0 => by
            have hk1 : k - 1 < L.length := by omega
            have hp1 := HPl.out _ (at_mem hk1)
            exact ⟨_, by unfold lastP; rw [if_neg (by omega)], rfl, hp1, (HH.out.ent HOn.out (at_mem hk1) hp1).2⟩
          have hl0 : k = 0 → lastP L k = -1 := fun h0 => by unfold lastP; rw [if_pos h0]
          have hl1 : lastP L (k + 1) = (at' L k).place := by unfold lastP; rw [if_neg (by omega)]; rfl
          have Hl1 := Lib.hid hl1
          have Hla := Lib.hid hlast
          have Hl0 := Lib.hid hl0
          have Hkey := Lib.hid hkey
          obtain ⟨⟨⟨na, nb, nc⟩, p⟩, he⟩ : ∃ e, at' L k = e := ⟨_, rfl⟩
          rw [he] at hpl hc ht hky hh HL HT Hkey Hl1
          simp only at hpl hc ht hky hh HL HT
          have He := Lib.hid he
          have HL' := Lib.hid HL
          have HT' := Lib.hid HT
          have HH2 := Lib.hid hh
          obtain ⟨la, hla⟩ : ∃ la, lastP L k = la := ⟨_, rfl⟩
          rw [hla] at Hla Hl0 ⊢
          have k1 : (0 : Int) ≤ (k : Int) := by omega
          have k2 : (k : Int) < (n : Int) := by omega
          have Ht := Lib.hid ht
          have Hky := Lib.hid hky
          have Hc := Lib.hid hc
          clear hlast hl0 hl1 hkey hh HL HT hla he hdr HKd Sd ht hky hc
          go_wp2_with fail
          refine HL'.out.mono ?_
          rintro e W6 ⟨rfl, rfl⟩
          go_wp2_with fail
          refine HT'.out.mono ?_
          rintro e W6 ⟨rfl, v6, hO, hS⟩
          have e1 := (I.out.step hS)
          have S2 := Lib.hid (S1.out.step hO hS)
          have I := Lib.hid e1
          clear hO hS HL' HT' S1 e1
          go_upto_region 27 with (fail)
          obtain ⟨W7, hW7⟩ : ∃ W7, W6.alloc (.cells #[.int .i64 na, .int .i64 nb, .int .i64 nc] 26) = W7 := ⟨_, rfl⟩
          rw [hW7]
          have fA : Fr0 none' W6 W7 := by rw [← hW7]; exact ((Fr.refl none' _).alloc _).to0
          have S1 := Lib.hid (show St w W7 hb ba v6 (L.drop (k + 1)) Ks Tk KB (KB + 1) _ from hW7 ▸ S2.out.alloc _)
          have I := Lib.hid (I.out.later fA)
          obtain ⟨ZB, hZB⟩ : ∃ ZB, W6.heap.size = ZB := ⟨_, rfl⟩
          rw [hZB] at S1 ⊢
          clear hW7 hZB fA S2
          obtain ⟨_, _, hsl, hcl⟩ := I.out.row
          injection hsl with hsl h2 h3
          clear h2 h3
          obtain ⟨g2, hg2, hc⟩ := hcl k (at' L k).place (plI_at (by rw [← HLn.out]; exact hlt))
          rw [← hsl] at hg2
          injection hg2 with hg2
          injection hg2 with hg2
          subst hg2
          rw [He.out] at hc
          try simp only at hc
          have hbz := S1.out.box (List.mem_cons_self ..)
          have z0 : W7.cell? ⟨ZB, 0, none⟩ = some (.int .i64 na) := by rw [cells_at hbz]; rfl
          have z1 : W7.cell? ⟨ZB, 1, none⟩ = some (.int .i64 nb) := by rw [cells_at hbz]; rfl
          have z2 : W7.cell? ⟨ZB, 2, none⟩ = some (.int .i64 nc) := by rw [cells_at hbz]; rfl
          have tm := S1.out.mark (p := p) (by rw [HK.out.tl]; exact hpl)
          rw [Ht.out] at tm
          have tf := S1.out.thawB p
          have tk := S1.out.key (p := p) (by rw [HK.out.kl]; exact hpl)
          rw [Hky.out] at tk
          obtain ⟨tk0, tk1, tk2⟩ := tk
          try simp only at tk0 tk1 tk2
          have p1 : (0 : Int) ≤ (p : Int) := by omega
          have p2 : (p : Int) < 24 := by omega
          have p3 : decide ((24 : Int) ≤ (p : Int)) = false := by simp; omega
          have p4 : decide ((p : Int) < 0) = false := by simp
          have hne := Hkey.out
          have Hkl := Lib.hid hkL
          clear hbz hcl hsl hne hkL Hc
          go_quiet (fail)
          clear hc tk0 tk1 tk2
          by_cases hk0 : k = 0
          · obtain rfl := Hl0.out hk0
            subst hk0
            have I := Lib.hid (I.out.later ((Fr.refl none' W7).drewN nq).to0)
            have S1 := Lib.hid (S1.out.later ((Fr.refl none' W7).drewN nq).to0)
            clear z0 z1 z2 Hkey Hla
            go_wp2
            go_roundw
            case rel => exact ⟨1, v6, _, by omega, by go_num, by rw [Hl1.out], Lib.hid ((S1.out.setMark p false).less (fun x hx => by cases hx)), HH2, Lib.hid (I.out.setMark HB.out)⟩
            case measure => simp [intOf]; omega
          · have hkp : 0 < k := by omega
            obtain ⟨lp, rfl, hlp, hl24, hlk⟩ := Hla.out hkp
            have hcs := Hkey.out hkp
            obtain ⟨⟨ua, ub, uc⟩, hu⟩ : ∃ uk, (at' L (k - 1)).key = uk := ⟨_, rfl⟩
            rw [hu] at hcs hlk
            rw [hlp] at hcs
            try simp only at hcs
            have tl := S1.out.key (p := lp) (by rw [HK.out.kl]; exact hl24)
            rw [hlk] at tl
            obtain ⟨a0, a1', a2⟩ := tl
            try simp only at a0 a1' a2
            have u1 : (0 : Int) ≤ (lp : Int) := by omega
            have u2 : (lp : Int) < 24 := by omega
            have u3 : decide ((0 : Int) ≤ (lp : Int)) = true := by simp
            have HCp := fun w => Compare_any ⟨ua, ub, uc⟩ ⟨na, nb, nc⟩ w
            obtain ⟨c, hcc⟩ : ∃ c, cmpK ⟨ua, ub, uc⟩ ⟨na, nb, nc⟩ = c := ⟨_, rfl⟩
            obtain ⟨d, hdd⟩ : ∃ d, fieldK ⟨ua, ub, uc⟩ ⟨na, nb, nc⟩ = d := ⟨_, rfl⟩
            rw [hcc] at hcs
            simp only [hcc, hdd, keyV] at HCp
            have HCp' := Lib.hid HCp
            clear HCp hcc hdd hu hlk hlp Hkey Hla Hl0 tm tf
            go_upto_region 30 with (fail)
            obtain ⟨W8, hW8⟩ : ∃ W8, W7.drewN nq = W8 := ⟨_, rfl⟩
            have f8 : Fr0 none' W7 W8 := by rw [← hW8]; exact ((Fr.refl none' W7).drewN nq).to0
            rw [hW8]
            have I := Lib.hid (I.out.later f8)
            have S1 := Lib.hid (S1.out.later f8)
            replace z0 := f8.later z0
            replace z1 := f8.later z1
            replace z2 := f8.later z2
            replace a0 := f8.later a0
            replace a1' := f8.later a1'
            replace a2 := f8.later a2
            clear f8 hW8
            refine wp_region_held_drew (S := fun W' => W'.cell? ⟨KB, lp * 3, none⟩ = some (.int .i64 ua) ∧ W'.cell? ⟨KB, lp * 3 + 1, none⟩ = some (.int .i64 ub) ∧ W'.cell? ⟨KB, lp * 3 + 2, none⟩ = some (.int .i64 uc) ∧ W'.cell? ⟨ZB, 0, none⟩ = some (.int .i64 na) ∧ W'.cell? ⟨ZB, 1, none⟩ = some (.int .i64 nb) ∧ W'.cell? ⟨ZB, 2, none⟩ = some (.int .i64 nc)) (by kernel_rfl) ⟨a0, a1', a2, z0, z1, z2⟩ (fun hHeld => ?_)
            refine take_on (i := 0) (v := .int .i64 lp) rfl (by kernel_rfl) (by kernel_rfl) (by kernel_rfl) (fun _ _ _ h => h) (by kernel_rfl) (fun W' hSW => ?_) (by assumption) ?_
            · (try dsimp only at hSW)
              first | (go_simp; done) | exact rfl | (go_simp; rfl) | (go_simp; omega)
            try simp only [Act.put, List.setIfInBounds_toArray, List.set_cons_zero, List.set_cons_succ]
            refine take_on (i := 1) (v := .pointer (some ⟨KB, lp * 3, none⟩)) rfl (by kernel_rfl) (by kernel_rfl) (by kernel_rfl) (fun _ _ _ h => h) (by kernel_rfl) (fun W' hSW => ?_) (by assumption) ?_
            · (try dsimp only at hSW)
              first | (go_simp; done) | exact rfl | (go_simp; rfl) | (go_simp; omega)
            try simp only [Act.put, List.setIfInBounds_toArray, List.set_cons_zero, List.set_cons_succ]
            refine take_on (i := 2) (v := .agg #[.int .i64 ua, .int .i64 ub, .int .i64 uc]) rfl (by kernel_rfl) (by kernel_rfl) (by kernel_rfl) (fun _ _ _ h => h) (by kernel_rfl) (fun W' hSW => ?_) (by assumption) ?_
            · (try dsimp only at hSW)
              first | (go_simp; done) | exact rfl | (go_simp; rfl) | (go_simp; omega)
            try simp only [Act.put, List.setIfInBounds_toArray, List.set_cons_zero, List.set_cons_succ]
            refine take_on (i := 3) (v := .agg #[.int .i64 na, .int .i64 nb, .int .i64 nc]) rfl (by kernel_rfl) (by kernel_rfl) (by kernel_rfl) (fun _ _ _ h => h) (by kernel_rfl) (fun W' hSW => ?_) (by assumption) ?_
            · (try dsimp only at hSW)
              first | (go_simp; done) | exact rfl | (go_simp; rfl) | (go_simp; omega)
            try simp only [Act.put, List.setIfInBounds_toArray, List.set_cons_zero, List.set_cons_succ]
            refine take_call (i := 4) rfl (by kernel_rfl) (by kernel_rfl) (fun K hK => ?_)
            go_simp
            refine (HCp'.out _).mono ?_
            rintro e W9 ⟨rfl, hf4⟩
            have S1 := Lib.hid (S1.out.later ((Fr.refl none' W8).drew.trans hf4).to0)
            have I := Lib.hid (I.out.later ((Fr.refl none' W8).drew.trans hf4).to0)
            have q0 := hf4.later (p := ⟨KB, lp * 3, none⟩) (v := .int .i64 ua) a0
            have q1 := hf4.later (p := ⟨KB, lp * 3 + 1, none⟩) (v := .int .i64 ub) a1'
            have q2 := hf4.later (p := ⟨KB, lp * 3 + 2, none⟩) (v := .int .i64 uc) a2
            have q3 := hf4.later (p := ⟨ZB, 0, none⟩) (v := .int .i64 na) z0
            have q4 := hf4.later (p := ⟨ZB, 1, none⟩) (v := .int .i64 nb) z1
            have q5 := hf4.later (p := ⟨ZB, 2, none⟩) (v := .int .i64 nc) z2
            clear hf4 HCp' a0 a1' a2 z0 z1 z2
            go_wp2_with fail
            refine hK.out _ _ ⟨q0, q1, q2, q3, q4, q5⟩ (fun hHeld2 => ?_)
            clear hK K
            try simp only [Act.put, List.setIfInBounds_toArray, List.set_cons_zero, List.set_cons_succ]
            refine take_on (i := 5) (v := .tuple #[.int .i64 c, .int .i64 d]) rfl (by kernel_rfl) (by kernel_rfl) (by kernel_rfl) (fun _ _ _ h => h) (by kernel_rfl) (fun W' hSW => ?_) (by assumption) ?_
            · (try dsimp only at hSW)
              first | (go_simp; done) | exact rfl | (go_simp; rfl) | (go_simp; omega)
            try simp only [Act.put, List.setIfInBounds_toArray, List.set_cons_zero, List.set_cons_succ]
            refine take_on (i := 6) (v := .int .i64 c) rfl (by kernel_rfl) (by kernel_rfl) (by kernel_rfl) (fun _ _ _ h => h) (by kernel_rfl) (fun W' hSW => ?_) (by assumption) ?_
            · (try dsimp only at hSW)
              first | (go_simp; done) | exact rfl | (go_simp; rfl) | (go_simp; omega)
            try simp only [Act.put, List.setIfInBounds_toArray, List.set_cons_zero, List.set_cons_succ]
            refine take_on (i := 7) (v := .int .i64 d) rfl (by kernel_rfl) (by kernel_rfl) (by kernel_rfl) (fun _ _ _ h => h) (by kernel_rfl) (fun W' hSW => ?_) (by assumption) ?_
            · (try dsimp only at hSW)
              first | (go_simp; done) | exact rfl | (go_simp; rfl) | (go_simp; omega)
            try simp only [Act.put, List.setIfInBounds_toArray, List.set_cons_zero, List.set_cons_succ]
            refine take_on (i := 8) (v := .int .i64 c) rfl (by kernel_rfl) (by kernel_rfl) (by kernel_rfl) (fun _ _ _ h => h) (by kernel_rfl) (fun W' hSW => ?_) (by assumption) ?_
            · (try dsimp only at hSW)
              first | (go_simp; done) | exact rfl | (go_simp; rfl) | (go_simp; omega)
            try simp only [Act.put, List.setIfInBounds_toArray, List.set_cons_zero, List.set_cons_succ]
            refine take_on (i := 9) (v := .int .i64 d) rfl (by kernel_rfl) (by kernel_rfl) (by kernel_rfl) (fun _ _ _ h => h) (by kernel_rfl) (fun W' hSW => ?_) (by assumption) ?_
            · (try dsimp only at hSW)
              first | (go_simp; done) | exact rfl | (go_simp; rfl) | (go_simp; omega)
            try simp only [Act.put, List.setIfInBounds_toArray, List.set_cons_zero, List.set_cons_succ]
            refine wpAnyH_done (by kernel_rfl) ?_ _
            clear hHeld hHeld2 q0 q1 q2 q3 q4 q5
            have tm := S1.out.mark (p := p) (by rw [HK.out.tl]; exact hpl)
            rw [Ht.out] at tm
            have tf := S1.out.thawB p
            rcases hcs with hcs | ⟨rfl, hpp⟩
            · have d1 : decide (0 < c) = false := by simp; omega
              have d2 : (c == 0) = false := by simp; omega
              go_wp2
              go_roundw
              case rel => exact ⟨k + 1, v6, _, by omega, by go_num, by rw [Hl1.out], Lib.hid ((S1.out.setMark p false).less (fun x hx => by cases hx)), HH2, Lib.hid (I.out.setMark HB.out)⟩
              case measure => simp [intOf]; omega
            · have d3 : decide ((p : Int) ≤ (lp : Int)) = false := by simp; omega
              go_wp2
              go_roundw
              case rel => exact ⟨k + 1, v6, _, by omega, by go_num, by rw [Hl1.out], Lib.hid ((S1.out.setMark p false).less (fun x hx => by cases hx)), HH2, Lib.hid (I.out.setMark HB.out)⟩
              case measure => simp [intOf]; omega
        · have hkn : k = n := by omega
          subst hkn
          have hnil : L.drop k = [] := List.drop_eq_nil_of_le (by rw [← HLn.out]; exact Nat.le_refl _)
          rw [hnil] at S1
          clear hnil
          go_wp2_with fail
          have HT := take_own S1.out.own
          simp only [leastP, takeK, takeE, List.tail, keyV, zeroK] at HT
          refine HT.mono ?_
          rintro e W6 ⟨rfl, v6, hO, hS⟩
          have S2 := Lib.hid (S1.out.step hO hS)
          clear hO hS HT S1
          go_upto_region 36 with (fail)
          obtain ⟨W7, hW7⟩ : ∃ W7, W6.alloc (.cells #[.int .i64 0, .int .i64 0, .int .i64 0] 26) = W7 := ⟨_, rfl⟩
          rw [hW7]
          have S1 := Lib.hid (show St w W7 hb ba v6 [] Ks Tk KB (KB + 1) _ from hW7 ▸ S2.out.alloc _)
          clear hW7 S2
          go_wp2_with fail
          have HL := Len_is S1.out.own.is
          rw [show (([] : List Ent).length : Nat) = 0 from rfl] at HL
          refine HL.mono ?_
          rintro e W8 ⟨rfl, rfl⟩
          go_wp2
          go_ret
          exact ⟨rfl, S1.out.own.fr.below (Nat.le_refl _) (fun _ _ h => h)⟩
end Go.Proofs.Ytbpmdhngobdilaa
