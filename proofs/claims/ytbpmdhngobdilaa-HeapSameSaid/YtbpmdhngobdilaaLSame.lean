/-
  HeapSame.
-/
import Derived.Test.YtbpmdhngobdilaaHl6
namespace Go.Proofs.Ytbpmdhngobdilaa
open Go Go.RowKit
attribute [local go_sem ↓] Go.wp_at_zero Go.wp_at_succ

/-- What was put in behind k rounds. -/
structure Part (Ks : List Key3) (Ts : List Bool) (tn k : Nat) (M : List Ent) : Prop where
  yes : ∀ j, j < k → Ts.getD ((j * 7 + tn) % 24) false = true → look M ((j * 7 + tn) % 24) = some (Ks.getD ((j * 7 + tn) % 24) zeroK)
  no : ∀ p, (Ts.getD p false = false ∨ ∀ j, j < k → (j * 7 + tn) % 24 ≠ p) → look M p = none
theorem turn_ne {tn j k : Nat} (h : j < k) (hk : k < 24) : (j * 7 + tn) % 24 ≠ (k * 7 + tn) % 24 := by omega
theorem turn_all (tn p : Nat) (hp : p < 24) : ∃ j, j < 24 ∧ (j * 7 + tn) % 24 = p := ⟨(7 * ((p + 24 - tn % 24) % 24)) % 24, by omega, by omega⟩
theorem put_none {M : List Ent} {p : Nat} (h : look M p = none) (hp : p < 24) (k : Key3) : putE 24 M (p : Int) = 0 ∧ putL 24 M (p : Int) k = insL ⟨k, p⟩ M := by
  have he : errP 24 M (p : Int) = 6 := by unfold errP; rw [if_neg (by omega), Int.toNat_natCast, if_pos h]
  unfold putE putL
  rw [he]; simp
theorem Part.off {Ks : List Key3} {Ts : List Bool} {tn k : Nat} {M : List Ent} (h : Part Ks Ts tn k M) (ht : Ts.getD ((k * 7 + tn) % 24) false = false) : Part Ks Ts tn (k + 1) M := by
  refine ⟨fun j hj hT => ?_, fun p hp => ?_⟩
  · by_cases hjk : j = k
    · subst hjk; rw [ht] at hT; cases hT
    · exact h.yes j (by omega) hT
  · exact h.no p (hp.imp id (fun g j hj => g j (by omega)))
theorem Part.on {Ks : List Key3} {Ts : List Bool} {tn k : Nat} {M : List Ent} (h : Part Ks Ts tn k M) (hk : k < 24) (ho : Once M) (ht : Ts.getD ((k * 7 + tn) % 24) false = true) :
    look M ((k * 7 + tn) % 24) = none ∧ Part Ks Ts tn (k + 1) (insL ⟨Ks.getD ((k * 7 + tn) % 24) zeroK, (k * 7 + tn) % 24⟩ M) := by
  have h0 : look M ((k * 7 + tn) % 24) = none := h.no _ (.inr (fun j hj => turn_ne hj hk))
  have h1 := fun p => look_ins ho ⟨Ks.getD ((k * 7 + tn) % 24) zeroK, (k * 7 + tn) % 24⟩ (look_none.1 h0) p
  simp only at h1
  refine ⟨h0, ⟨fun j hj hT => ?_, fun p hp => ?_⟩⟩
  · rw [h1]
    by_cases hjk : j = k
    · subst hjk; rw [if_pos rfl]
    · rw [if_neg (turn_ne (by omega) hk)]; exact h.yes j (by omega) hT
  · have hne : p ≠ (k * 7 + tn) % 24 := by
      rcases hp with hp | hp
      · intro e; rw [e, ht] at hp; cases hp
      · exact fun e => hp k (by omega) e.symm
    rw [h1, if_neg hne]
    exact h.no p (hp.imp id (fun g j hj => g j (by omega)))
theorem look_far {L : List Ent} (hp : ∀ e ∈ L, e.place < 24) {p : Nat} (h : 24 ≤ p) : look L p = none := look_none.2 (fun x hx e => by have := hp x hx; omega)
theorem Part.done {Ks : List Key3} {Ts : List Bool} {tn : Nat} {L M : List Ent} (h : Part Ks Ts tn 24 M) (hh : Holds L Ks Ts) (sL : Sorted L) (sM : Sorted M) (oL : Once L) (oM : Once M) (pL : ∀ e ∈ L, e.place < 24) (pM : ∀ e ∈ M, e.place < 24) : M = L := by
  refine sorted_ext sM sL oM oL (fun p => ?_)
  by_cases hp : p < 24
  · rw [hh.look p hp]
    cases ht : Ts.getD p false
    · exact h.no p (.inl ht)
    · obtain ⟨j, hj, he⟩ := turn_all tn p hp
      have := h.yes j hj (by rw [he]; exact ht)
      rw [he] at this
      rw [this, if_pos rfl]
  · rw [look_far pL (by omega), look_far pM (by omega)]

set_option maxRecDepth 100000 in
set_option maxHeartbeats 4000000 in
theorem HeapSame_any {w : World} {u u' : Value} {xs ys : List Sm4} (hu : SmallsAt w u xs) (hu' : SmallsAt w u' ys) (tn : Nat) (ht : tn < 256) :
    Calls Try.prog 3 #[u, .int .u8 tn, u'] w fun e w' => e = .returned (.bool true) ∧ Below w.heap.size w w' := by
  have HU := fun (w1 : World) (hf : Fr0 none' w w1) => hu.later hf
  have HU' := Lib.hid HU
  obtain ⟨a, cap, rfl, hcap, hc⟩ := hu'
  obtain ⟨n, hn⟩ : ∃ n, ys.length = n := ⟨_, rfl⟩
  rw [hn] at hcap ⊢
  have Hn := Lib.hid hn
  have Hc := Lib.hid hc
  have HNw := fun w => new_own 24 w (by omega)
  have HNw' := Lib.hid HNw
  clear HU hu hc hn HNw
  have t0 : (0 : Int) ≤ (tn : Int) := by omega
  have t1 : (tn : Int) < 256 := by omega
  go_enter Try.func3, Try.ntmps3
  go_wp2_with fail
  refine (awake_any _).mono ?_
  rintro e w1 ⟨rfl, hf1⟩
  have F1 := Lib.hid hf1
  clear hf1
  go_wp2_with fail
  refine (made_any (HU'.out w1 F1.out)).mono ?_
  rintro e w2 ⟨hb, ba, v, L, Ks, Ts, rfl, hO, hH⟩
  have HH := Lib.hid hH
  have HO := Lib.hid (show Own w w2 hb ba v 24 L from ⟨hO.is, F1.out.trans hO.fr, fun k hk => Nat.le_trans F1.out.size (hO.new k hk)⟩)
  have lK : (cellsK Ks).length = 72 := by rw [cellsK_length, hH.kl]
  have lB : (cellsB Ts).length = 24 := by rw [cellsB, List.length_map, hH.tl]
  have g1 := start_store w2 Ks hH.kl
  have g2 := start_store2 w2 Ks Ts hH.tl
  clear hO hH
  go_upto_region 4 with (fail)
  obtain ⟨W, hW⟩ : ∃ W, startW w2 Ks Ts = W := ⟨_, rfl⟩
  have S1 := Lib.hid (show St w W hb ba v L Ks Ts w2.heap.size (w2.heap.size + 1) [] from hW ▸ St.start HO.out HH.out.kl HH.out.tl)
  clear g1 g2 lK lB
  rw [hW]
  obtain ⟨KB, hKB⟩ : ∃ KB, w2.heap.size = KB := ⟨_, rfl⟩
  rw [hKB] at S1 ⊢
  clear hW hKB HO
  go_wp2_with fail
  refine (HNw'.out W).mono ?_
  rintro e W2 ⟨hb', ba', rfl, hO⟩
  have T := Lib.hid (Two.of_new S1.out hO.fr hO.is hO.new)
  have P0 := Lib.hid (show Part Ks Ts tn 0 [] from ⟨fun j hj => by omega, fun p _ => rfl⟩)
  clear hO S1 HNw'
  go_wp2_with fail
  go_loopw [55] (fun i wr => ∃ (k : Nat) (v' : Value) (M : List Ent), k ≤ 24 ∧ i = .int .i64 k ∧ Hid (Two w wr hb ba v L hb' ba' v' M Ks Ts KB (KB + 1) []) ∧ Hid (Part Ks Ts tn k M)) (fun i _ => 24 - (intOf i).toNat)
  case atStart => exact ⟨0, _, _, by omega, rfl, T, P0⟩
  case round =>
    obtain ⟨k, v', M, hk, rfl, T, P⟩ := hrel
    by_cases hlt : k < 24
    · have j1 : (k : Int) < 24 := by omega
      have j0 : (0 : Int) ≤ (k : Int) := by omega
      obtain ⟨q, hq⟩ : ∃ q : Nat, (k * 7 + tn) % 24 = q := ⟨_, rfl⟩
      have hqI : ((k : Int) * 7 + (tn : Int)) % 24 = (q : Int) := by omega
      have hq24 : q < 24 := by omega
      have q0 : (0 : Int) ≤ (q : Int) := by omega
      have q1 : (q : Int) < 24 := by omega
      have tm := T.out.a.mark (p := q) (by rw [HH.out.tl]; exact hq24)
      have tk := T.out.a.key (p := q) (by rw [HH.out.kl]; exact hq24)
      have Hq := Lib.hid hq
      clear hq
      cases ht : Ts.getD q false
      · rw [ht] at tm
        have hP := Lib.hid (P.out.off (by rw [Hq.out]; exact ht))
        clear tk ht
        go_wp2
        go_roundw
        case rel => exact ⟨k + 1, v', M, by omega, by go_num, T, hP⟩
        case measure => simp [intOf]; omega
      · rw [ht] at tm
        have hPo := P.out.on hlt T.out.b.own.is.once (by rw [Hq.out]; exact ht)
        rw [Hq.out] at hPo
        obtain ⟨hl0, hP⟩ := hPo
        obtain ⟨⟨na, nb, nc⟩, hnk⟩ : ∃ nk, Ks.getD q zeroK = nk := ⟨_, rfl⟩
        rw [hnk] at hP tk
        obtain ⟨tk0, tk1, tk2⟩ := tk
        try simp only at tk0 tk1 tk2
        obtain ⟨he, hh⟩ := put_none hl0 hq24 ⟨na, nb, nc⟩
        have HPp := put_own T.out.b.own (q : Int) ⟨na, nb, nc⟩
        rw [he, hh] at HPp
        simp only [keyV] at HPp
        have HPP := Lib.hid HPp
        have HP2 := Lib.hid hP
        clear ht he hh HPp hnk hP hl0
        go_wp2_with fail
        refine HPP.out.mono ?_
        rintro e W3 ⟨rfl, v3, hO, hS⟩
        have T := Lib.hid (T.out.swap.step hO hS).swap
        clear hO hS
        clear HPP tm tk0 tk1 tk2
        go_wp2
        go_roundw
        case rel => exact ⟨k + 1, v3, _, by omega, by go_num, T, HP2⟩
        case measure => simp [intOf]; omega
    · have hk24 : k = 24 := by omega
      subst hk24
      rw [show ((24 : Nat) : Int) = (24 : Int) from rfl]
      have hML := P.out.done HH.out T.out.a.own.is.sorted T.out.b.own.is.sorted T.out.a.own.is.once T.out.b.own.is.once T.out.a.own.is.place T.out.b.own.is.place
      subst hML
      have q1 : (0 : Int) ≤ ↑(min n 40) := by omega
      have q2 : ((min n 40 : Nat) : Int) ≤ ↑cap := by omega
      obtain ⟨m, hm⟩ : ∃ m : Nat, min (n : Int) 40 = m := ⟨(min (n : Int) 40).toNat, by omega⟩
      have hmn : m ≤ n := by omega
      have hm80 : m ≤ 40 := by omega
      clear P HH
      go_wp2_with fail
      clear hm q1 q2
      go_loopw [83] (fun i wr => ∃ (k : Nat) (v v' : Value) (L : List Ent), k ≤ m ∧ i = .int .i64 k ∧ Hid (Two w wr hb ba v L hb' ba' v' L Ks Ts KB (KB + 1) [])) (fun i _ => m - (intOf i).toNat)
      case atStart => exact ⟨0, _, _, _, Nat.zero_le _, rfl, T⟩
      case round =>
        obtain ⟨k, v, v', L, hk, rfl, T⟩ := hrel
        by_cases hlt : k < m
        · obtain ⟨x, hx⟩ : ∃ x, ys[k]? = some x := ⟨_, List.getElem?_eq_getElem (by rw [Hn.out]; omega)⟩
          obtain ⟨hok, g, o, rfl, c0, c1, c2, c3⟩ := Hc.out k x hx
          replace c0 := T.out.a.own.fr.later c0
          replace c1 := T.out.a.own.fr.later c1
          replace c2 := T.out.a.own.fr.later c2
          replace c3 := T.out.a.own.fr.later c3
          have Hok := Lib.hid hok
          obtain ⟨⟨h0, h0'⟩, ⟨h1, h1'⟩, ⟨h2, h2'⟩, ⟨h3, h3'⟩⟩ := hok
          obtain ⟨y0, y1, y2, y3⟩ := x
          simp only at c0 c1 c2 c3 h0 h0' h1 h1' h2 h2' h3 h3'
          have p1 : (0 : Int) ≤ (k : Int) := by omega
          have p2 : (k : Int) < (m : Int) := by omega
          clear hx
          go_upto_region 17 with (fail)
          obtain ⟨W, hW⟩ : ∃ W, wr.alloc (.cells #[.int .u8 y0, .int .u8 y1, .int .u8 y2, .int .u8 y3] 36) = W := ⟨_, rfl⟩
          rw [hW]
          have T := Lib.hid (show Two w W hb ba v L hb' ba' v' L Ks Ts KB (KB + 1) _ from hW ▸ T.out.alloc _)
          obtain ⟨X, hX⟩ : ∃ X, wr.heap.size = X := ⟨_, rfl⟩
          rw [hX] at T ⊢
          clear hW hX c0 c1 c2 c3
          obtain ⟨q, hq⟩ : ∃ q : Nat, y1 % 24 = q := ⟨(y1 % 24).toNat, by omega⟩
          obtain ⟨r, hr⟩ : ∃ r, y0 % 4 = r := ⟨_, rfl⟩
          have r0 : 0 ≤ r := by omega
          have r1 : r < 4 := by omega
          have hbx := T.out.a.box (B := X) (o := .cells #[.int .u8 y0, .int .u8 y1, .int .u8 y2, .int .u8 y3] 36) (by simp)
          have x0 : W.cell? ⟨X, 0, none⟩ = some (.int .u8 y0) := by rw [cells_at hbx]; rfl
          have x1 : W.cell? ⟨X, 1, none⟩ = some (.int .u8 y1) := by rw [cells_at hbx]; rfl
          have x2 : W.cell? ⟨X, 2, none⟩ = some (.int .u8 y2) := by rw [cells_at hbx]; rfl
          have x3 : W.cell? ⟨X, 3, none⟩ = some (.int .u8 y3) := by rw [cells_at hbx]; rfl
          clear hbx
          go_upto_region 23 with (fail)
          rw [hq, hr]
          clear hq hr
          obtain ⟨⟨ka, kb, kc⟩, hkk⟩ : ∃ kk, ofK ⟨y0, y1, y2, y3⟩ = kk := ⟨_, rfl⟩
          have HK := Lib.hid hkk
          clear hkk
          have hcs : r = 0 ∨ r = 1 ∨ r = 2 ∨ r = 3 := by omega
          clear r0 r1
          rcases hcs with rfl | rfl | rfl | rfl
          · skip
            go_upto_region 24 with (fail)
            refine wp_region_held_drew (S := fun W' => W'.cell? ⟨X, 0, none⟩ = some (.int .u8 y0) ∧ W'.cell? ⟨X, 1, none⟩ = some (.int .u8 y1) ∧ W'.cell? ⟨X, 2, none⟩ = some (.int .u8 y2) ∧ W'.cell? ⟨X, 3, none⟩ = some (.int .u8 y3)) (by kernel_rfl) ⟨x0, x1, x2, x3⟩ (fun hHeld => ?_)
            have T := Lib.hid (T.out.later (Fr.refl none' W).drew.to0)
            refine take_on (i := 0) (v := .pointer (some ⟨hb, 0, none⟩)) rfl (by kernel_rfl) (by kernel_rfl) (by kernel_rfl) (fun _ _ _ h => h) (by kernel_rfl) (fun W' hSW => ?_) (by assumption) ?_
            · (try dsimp only at hSW)
              first | (go_simp; done) | exact rfl | (go_simp; rfl) | (go_simp; omega)
            try simp only [Act.put, List.setIfInBounds_toArray, List.set_cons_zero, List.set_cons_succ]
            refine take_on (i := 1) (v := .int .i64 q) rfl (by kernel_rfl) (by kernel_rfl) (by kernel_rfl) (fun _ _ _ h => h) (by kernel_rfl) (fun W' hSW => ?_) (by assumption) ?_
            · (try dsimp only at hSW)
              first | (go_simp; done) | exact rfl | (go_simp; rfl) | (go_simp; omega)
            try simp only [Act.put, List.setIfInBounds_toArray, List.set_cons_zero, List.set_cons_succ]
            refine take_on (i := 2) (v := .agg #[.int .u8 y0, .int .u8 y1, .int .u8 y2, .int .u8 y3]) rfl (by kernel_rfl) (by kernel_rfl) (by kernel_rfl) (fun _ _ _ h => h) (by kernel_rfl) (fun W' hSW => ?_) (by assumption) ?_
            · (try dsimp only at hSW)
              first | (go_simp; done) | exact rfl | (go_simp; rfl) | (go_simp; omega)
            try simp only [Act.put, List.setIfInBounds_toArray, List.set_cons_zero, List.set_cons_succ]
            refine take_on (i := 5) (v := .pointer (some ⟨hb', 0, none⟩)) rfl (by kernel_rfl) (by kernel_rfl) (by kernel_rfl) (fun _ _ _ h => h) (by kernel_rfl) (fun W' hSW => ?_) (by assumption) ?_
            · (try dsimp only at hSW)
              first | (go_simp; done) | exact rfl | (go_simp; rfl) | (go_simp; omega)
            try simp only [Act.put, List.setIfInBounds_toArray, List.set_cons_zero, List.set_cons_succ]
            refine take_on (i := 6) (v := .int .i64 q) rfl (by kernel_rfl) (by kernel_rfl) (by kernel_rfl) (fun _ _ _ h => h) (by kernel_rfl) (fun W' hSW => ?_) (by assumption) ?_
            · (try dsimp only at hSW)
              first | (go_simp; done) | exact rfl | (go_simp; rfl) | (go_simp; omega)
            try simp only [Act.put, List.setIfInBounds_toArray, List.set_cons_zero, List.set_cons_succ]
            refine take_on (i := 7) (v := .agg #[.int .u8 y0, .int .u8 y1, .int .u8 y2, .int .u8 y3]) rfl (by kernel_rfl) (by kernel_rfl) (by kernel_rfl) (fun _ _ _ h => h) (by kernel_rfl) (fun W' hSW => ?_) (by assumption) ?_
            · (try dsimp only at hSW)
              first | (go_simp; done) | exact rfl | (go_simp; rfl) | (go_simp; omega)
            try simp only [Act.put, List.setIfInBounds_toArray, List.set_cons_zero, List.set_cons_succ]
            obtain ⟨pe, hpe⟩ : ∃ pe, putE 24 L (q : Int) = pe := ⟨_, rfl⟩
            obtain ⟨L2, hL2⟩ : ∃ L2, putL 24 L (q : Int) ⟨ka, kb, kc⟩ = L2 := ⟨_, rfl⟩
            have HPe := Lib.hid hpe
            have HPl := Lib.hid hL2
            clear hpe hL2
            refine take_call (i := 3) rfl (by kernel_rfl) (by kernel_rfl) (fun K hK => ?_)
            go_simp
            refine (of_any ⟨y0, y1, y2, y3⟩ Hok.out _).mono ?_
            rintro e WF ⟨rfl, hf⟩
            have T := Lib.hid (T.out.later hf.to0)
            clear hf
            rw [HK.out]
            simp only [keyV]
            clear x0 x1 x2 x3
            have hbx := T.out.a.box (B := X) (o := .cells #[.int .u8 y0, .int .u8 y1, .int .u8 y2, .int .u8 y3] 36) (by simp)
            have x0 : WF.cell? ⟨X, 0, none⟩ = some (.int .u8 y0) := by rw [cells_at hbx]; rfl
            have x1 : WF.cell? ⟨X, 1, none⟩ = some (.int .u8 y1) := by rw [cells_at hbx]; rfl
            have x2 : WF.cell? ⟨X, 2, none⟩ = some (.int .u8 y2) := by rw [cells_at hbx]; rfl
            have x3 : WF.cell? ⟨X, 3, none⟩ = some (.int .u8 y3) := by rw [cells_at hbx]; rfl
            clear hbx
            go_wp2_with fail
            refine hK.out _ _ ⟨x0, x1, x2, x3⟩ (fun hHeld3 => ?_)
            clear hK K
            try simp only [Act.put, List.setIfInBounds_toArray, List.set_cons_zero, List.set_cons_succ]
            refine take_call (i := 4) rfl (by kernel_rfl) (by kernel_rfl) (fun K hK => ?_)
            go_simp
            have HP := put_own T.out.a.own (q : Int) ⟨ka, kb, kc⟩
            rw [HPe.out, HPl.out] at HP
            simp only [keyV] at HP
            refine HP.mono ?_
            rintro e W5 ⟨rfl, va, hO, hS⟩
            have T := Lib.hid (T.out.step hO hS)
            clear hO hS
            clear HP
            clear x0 x1 x2 x3
            have hbx := T.out.a.box (B := X) (o := .cells #[.int .u8 y0, .int .u8 y1, .int .u8 y2, .int .u8 y3] 36) (by simp)
            have x0 : W5.cell? ⟨X, 0, none⟩ = some (.int .u8 y0) := by rw [cells_at hbx]; rfl
            have x1 : W5.cell? ⟨X, 1, none⟩ = some (.int .u8 y1) := by rw [cells_at hbx]; rfl
            have x2 : W5.cell? ⟨X, 2, none⟩ = some (.int .u8 y2) := by rw [cells_at hbx]; rfl
            have x3 : W5.cell? ⟨X, 3, none⟩ = some (.int .u8 y3) := by rw [cells_at hbx]; rfl
            clear hbx
            go_wp2_with fail
            refine hK.out _ _ ⟨x0, x1, x2, x3⟩ (fun hHeld4 => ?_)
            clear hK K
            try simp only [Act.put, List.setIfInBounds_toArray, List.set_cons_zero, List.set_cons_succ]
            refine take_call (i := 8) rfl (by kernel_rfl) (by kernel_rfl) (fun K hK => ?_)
            go_simp
            refine (of_any ⟨y0, y1, y2, y3⟩ Hok.out _).mono ?_
            rintro e WF ⟨rfl, hf⟩
            have T := Lib.hid (T.out.later hf.to0)
            clear hf
            rw [HK.out]
            simp only [keyV]
            clear x0 x1 x2 x3
            have hbx := T.out.a.box (B := X) (o := .cells #[.int .u8 y0, .int .u8 y1, .int .u8 y2, .int .u8 y3] 36) (by simp)
            have x0 : WF.cell? ⟨X, 0, none⟩ = some (.int .u8 y0) := by rw [cells_at hbx]; rfl
            have x1 : WF.cell? ⟨X, 1, none⟩ = some (.int .u8 y1) := by rw [cells_at hbx]; rfl
            have x2 : WF.cell? ⟨X, 2, none⟩ = some (.int .u8 y2) := by rw [cells_at hbx]; rfl
            have x3 : WF.cell? ⟨X, 3, none⟩ = some (.int .u8 y3) := by rw [cells_at hbx]; rfl
            clear hbx
            go_wp2_with fail
            refine hK.out _ _ ⟨x0, x1, x2, x3⟩ (fun hHeld8 => ?_)
            clear hK K
            try simp only [Act.put, List.setIfInBounds_toArray, List.set_cons_zero, List.set_cons_succ]
            refine take_call (i := 9) rfl (by kernel_rfl) (by kernel_rfl) (fun K hK => ?_)
            go_simp
            have HP := put_own T.out.b.own (q : Int) ⟨ka, kb, kc⟩
            rw [HPe.out, HPl.out] at HP
            simp only [keyV] at HP
            refine HP.mono ?_
            rintro e W6 ⟨rfl, vb, hO, hS⟩
            have T := Lib.hid (T.out.swap.step hO hS).swap
            clear hO hS
            clear HP
            clear x0 x1 x2 x3
            have hbx := T.out.a.box (B := X) (o := .cells #[.int .u8 y0, .int .u8 y1, .int .u8 y2, .int .u8 y3] 36) (by simp)
            have x0 : W6.cell? ⟨X, 0, none⟩ = some (.int .u8 y0) := by rw [cells_at hbx]; rfl
            have x1 : W6.cell? ⟨X, 1, none⟩ = some (.int .u8 y1) := by rw [cells_at hbx]; rfl
            have x2 : W6.cell? ⟨X, 2, none⟩ = some (.int .u8 y2) := by rw [cells_at hbx]; rfl
            have x3 : W6.cell? ⟨X, 3, none⟩ = some (.int .u8 y3) := by rw [cells_at hbx]; rfl
            clear hbx
            go_wp2_with fail
            refine hK.out _ _ ⟨x0, x1, x2, x3⟩ (fun hHeld9 => ?_)
            clear hK K
            try simp only [Act.put, List.setIfInBounds_toArray, List.set_cons_zero, List.set_cons_succ]
            refine take_on (i := 10) (v := .bool false) rfl (by kernel_rfl) (by kernel_rfl) (by kernel_rfl) (fun _ _ _ h => h) (by kernel_rfl) (fun W' hSW => ?_) (by assumption) ?_
            · (try dsimp only at hSW)
              first | (go_simp; done) | exact rfl | (go_simp; rfl) | (go_simp; omega)
            try simp only [Act.put, List.setIfInBounds_toArray, List.set_cons_zero, List.set_cons_succ]
            refine wpAnyH_done (by kernel_rfl) ?_ _
            clear hHeld hHeld3 hHeld4 hHeld8 hHeld9 x0 x1 x2 x3 HPe HPl
            go_wp2_with fail
            refine (order_own T.out.a.own).mono ?_
            rintro e W7 ⟨u7, rfl, hu7, hf, _⟩
            have I7 := Lib.hid hu7
            have T := Lib.hid (T.out.later hf)
            clear hu7 hf
            go_wp2_with fail
            refine (order_own T.out.b.own).mono ?_
            rintro e W8 ⟨u8', rfl, hu8, hf, _⟩
            have I8 := Lib.hid hu8
            have I7 := Lib.hid (I7.out.later hf)
            have T := Lib.hid (T.out.later hf)
            clear hu8 hf
            go_wp2_with fail
            have lL : (plI L2).length ≤ 100000 := by have := T.out.a.own.is.len; rw [plI, List.length_map]; omega
            have HS := SameInts_any _ _ _ _ W8 I7.out I8.out lL lL
            rw [show decide (plI L2 = plI L2) = true by simp] at HS
            refine HS.mono ?_
            rintro e W9 ⟨rfl, hf⟩
            have T := Lib.hid (T.out.later hf.to0)
            clear HS hf I7 I8 lL
            go_wp2
            go_roundw
            case rel => exact ⟨k + 1, _, _, _, by omega, by go_num, Lib.hid (T.out.less (fun x hx => by simp at hx))⟩
            case measure => simp [intOf]; omega
          · skip
            obtain ⟨ce, hce⟩ : ∃ ce, errP 24 L (q : Int) = ce := ⟨_, rfl⟩
            obtain ⟨⟨na, nb, nc⟩, hnk⟩ : ∃ nk, keyP 24 L (q : Int) = nk := ⟨_, rfl⟩
            obtain ⟨L2, hL2⟩ : ∃ L2, chgL 24 L (q : Int) ⟨ka, kb, kc⟩ = L2 := ⟨_, rfl⟩
            have HE := Lib.hid hce
            have HN := Lib.hid hnk
            have HL2 := Lib.hid hL2
            clear hce hnk hL2
            go_wp2_with fail
            clear x0 x1 x2 x3
            refine (of_any ⟨y0, y1, y2, y3⟩ Hok.out _).mono ?_
            rintro e WF ⟨rfl, hf⟩
            have T := Lib.hid (T.out.later hf.to0)
            clear hf
            rw [HK.out]
            simp only [keyV]
            go_wp2_with fail
            have HP := chg_own T.out.a.own (q : Int) ⟨ka, kb, kc⟩
            rw [HE.out, HN.out, HL2.out] at HP
            simp only [keyV] at HP
            refine HP.mono ?_
            rintro e W5 ⟨rfl, va, hO, hS⟩
            have T := Lib.hid (T.out.step hO hS)
            clear hO hS
            clear HP
            go_upto_region 28 with (fail)
            obtain ⟨WK, hWK⟩ : ∃ WK, W5.alloc (.cells #[.int .i64 na, .int .i64 nb, .int .i64 nc] 26) = WK := ⟨_, rfl⟩
            rw [hWK]
            have T := Lib.hid (show Two w WK hb ba _ _ hb' ba' _ _ Ks Ts KB (KB + 1) _ from hWK ▸ T.out.alloc _)
            obtain ⟨Z1, hZ1⟩ : ∃ Z1, W5.heap.size = Z1 := ⟨_, rfl⟩
            rw [hZ1] at T ⊢
            clear hWK hZ1
            have hbx := T.out.a.box (B := X) (o := .cells #[.int .u8 y0, .int .u8 y1, .int .u8 y2, .int .u8 y3] 36) (by simp)
            have x0 : WK.cell? ⟨X, 0, none⟩ = some (.int .u8 y0) := by rw [cells_at hbx]; rfl
            have x1 : WK.cell? ⟨X, 1, none⟩ = some (.int .u8 y1) := by rw [cells_at hbx]; rfl
            have x2 : WK.cell? ⟨X, 2, none⟩ = some (.int .u8 y2) := by rw [cells_at hbx]; rfl
            have x3 : WK.cell? ⟨X, 3, none⟩ = some (.int .u8 y3) := by rw [cells_at hbx]; rfl
            clear hbx
            go_wp2_with fail
            clear x0 x1 x2 x3
            refine (of_any ⟨y0, y1, y2, y3⟩ Hok.out _).mono ?_
            rintro e WF ⟨rfl, hf⟩
            have T := Lib.hid (T.out.later hf.to0)
            clear hf
            rw [HK.out]
            simp only [keyV]
            go_wp2_with fail
            have HP := chg_own T.out.b.own (q : Int) ⟨ka, kb, kc⟩
            rw [HE.out, HN.out, HL2.out] at HP
            simp only [keyV] at HP
            refine HP.mono ?_
            rintro e W6 ⟨rfl, vb, hO, hS⟩
            have T := Lib.hid (T.out.swap.step hO hS).swap
            clear hO hS
            clear HP
            go_upto_region 29 with (fail)
            obtain ⟨WK, hWK⟩ : ∃ WK, W6.alloc (.cells #[.int .i64 na, .int .i64 nb, .int .i64 nc] 26) = WK := ⟨_, rfl⟩
            rw [hWK]
            have T := Lib.hid (show Two w WK hb ba _ _ hb' ba' _ _ Ks Ts KB (KB + 1) _ from hWK ▸ T.out.alloc _)
            obtain ⟨Z2, hZ2⟩ : ∃ Z2, W6.heap.size = Z2 := ⟨_, rfl⟩
            rw [hZ2] at T ⊢
            clear hWK hZ2
            have hb1 := T.out.a.box (B := Z1) (o := .cells #[.int .i64 na, .int .i64 nb, .int .i64 nc] 26) (by simp)
            have hb2 := T.out.a.box (B := Z2) (o := .cells #[.int .i64 na, .int .i64 nb, .int .i64 nc] 26) (by simp)
            have z0 : WK.cell? ⟨Z1, 0, none⟩ = some (.int .i64 na) := by rw [cells_at hb1]; rfl
            have z1 : WK.cell? ⟨Z1, 1, none⟩ = some (.int .i64 nb) := by rw [cells_at hb1]; rfl
            have z2 : WK.cell? ⟨Z1, 2, none⟩ = some (.int .i64 nc) := by rw [cells_at hb1]; rfl
            have z3 : WK.cell? ⟨Z2, 0, none⟩ = some (.int .i64 na) := by rw [cells_at hb2]; rfl
            have z4 : WK.cell? ⟨Z2, 1, none⟩ = some (.int .i64 nb) := by rw [cells_at hb2]; rfl
            have z5 : WK.cell? ⟨Z2, 2, none⟩ = some (.int .i64 nc) := by rw [cells_at hb2]; rfl
            clear hb1 hb2 HE HN HL2
            go_wp2_with fail
            refine (order_own T.out.a.own).mono ?_
            rintro e W7 ⟨u7, rfl, hu7, hf, _⟩
            have I7 := Lib.hid hu7
            have T := Lib.hid (T.out.later hf)
            clear hu7 hf
            go_wp2_with fail
            refine (order_own T.out.b.own).mono ?_
            rintro e W8 ⟨u8', rfl, hu8, hf, _⟩
            have I8 := Lib.hid hu8
            have I7 := Lib.hid (I7.out.later hf)
            have T := Lib.hid (T.out.later hf)
            clear hu8 hf
            go_wp2_with fail
            have lL : (plI L2).length ≤ 100000 := by have := T.out.a.own.is.len; rw [plI, List.length_map]; omega
            have HS := SameInts_any _ _ _ _ W8 I7.out I8.out lL lL
            rw [show decide (plI L2 = plI L2) = true by simp] at HS
            refine HS.mono ?_
            rintro e W9 ⟨rfl, hf⟩
            have T := Lib.hid (T.out.later hf.to0)
            clear HS hf I7 I8 lL
            go_wp2
            go_roundw
            case rel => exact ⟨k + 1, _, _, _, by omega, by go_num, Lib.hid (T.out.less (fun x hx => by simp at hx))⟩
            case measure => simp [intOf]; omega
          · skip
            obtain ⟨ce, hce⟩ : ∃ ce, errP 24 L (q : Int) = ce := ⟨_, rfl⟩
            obtain ⟨⟨na, nb, nc⟩, hnk⟩ : ∃ nk, keyP 24 L (q : Int) = nk := ⟨_, rfl⟩
            obtain ⟨L2, hL2⟩ : ∃ L2, delP 24 L (q : Int) = L2 := ⟨_, rfl⟩
            have HE := Lib.hid hce
            have HN := Lib.hid hnk
            have HL2 := Lib.hid hL2
            clear hce hnk hL2
            go_wp2_with fail
            clear x0 x1 x2 x3
            have HP := rem_own T.out.a.own (q : Int)
            rw [HE.out, HN.out, HL2.out] at HP
            simp only [keyV] at HP
            refine HP.mono ?_
            rintro e W5 ⟨rfl, va, hO, hS⟩
            have T := Lib.hid (T.out.step hO hS)
            clear hO hS
            clear HP
            go_upto_region 33 with (fail)
            obtain ⟨WK, hWK⟩ : ∃ WK, W5.alloc (.cells #[.int .i64 na, .int .i64 nb, .int .i64 nc] 26) = WK := ⟨_, rfl⟩
            rw [hWK]
            have T := Lib.hid (show Two w WK hb ba _ _ hb' ba' _ _ Ks Ts KB (KB + 1) _ from hWK ▸ T.out.alloc _)
            obtain ⟨Z1, hZ1⟩ : ∃ Z1, W5.heap.size = Z1 := ⟨_, rfl⟩
            rw [hZ1] at T ⊢
            clear hWK hZ1
            go_wp2_with fail
            have HP := rem_own T.out.b.own (q : Int)
            rw [HE.out, HN.out, HL2.out] at HP
            simp only [keyV] at HP
            refine HP.mono ?_
            rintro e W6 ⟨rfl, vb, hO, hS⟩
            have T := Lib.hid (T.out.swap.step hO hS).swap
            clear hO hS
            clear HP
            go_upto_region 34 with (fail)
            obtain ⟨WK, hWK⟩ : ∃ WK, W6.alloc (.cells #[.int .i64 na, .int .i64 nb, .int .i64 nc] 26) = WK := ⟨_, rfl⟩
            rw [hWK]
            have T := Lib.hid (show Two w WK hb ba _ _ hb' ba' _ _ Ks Ts KB (KB + 1) _ from hWK ▸ T.out.alloc _)
            obtain ⟨Z2, hZ2⟩ : ∃ Z2, W6.heap.size = Z2 := ⟨_, rfl⟩
            rw [hZ2] at T ⊢
            clear hWK hZ2
            have hb1 := T.out.a.box (B := Z1) (o := .cells #[.int .i64 na, .int .i64 nb, .int .i64 nc] 26) (by simp)
            have hb2 := T.out.a.box (B := Z2) (o := .cells #[.int .i64 na, .int .i64 nb, .int .i64 nc] 26) (by simp)
            have z0 : WK.cell? ⟨Z1, 0, none⟩ = some (.int .i64 na) := by rw [cells_at hb1]; rfl
            have z1 : WK.cell? ⟨Z1, 1, none⟩ = some (.int .i64 nb) := by rw [cells_at hb1]; rfl
            have z2 : WK.cell? ⟨Z1, 2, none⟩ = some (.int .i64 nc) := by rw [cells_at hb1]; rfl
            have z3 : WK.cell? ⟨Z2, 0, none⟩ = some (.int .i64 na) := by rw [cells_at hb2]; rfl
            have z4 : WK.cell? ⟨Z2, 1, none⟩ = some (.int .i64 nb) := by rw [cells_at hb2]; rfl
            have z5 : WK.cell? ⟨Z2, 2, none⟩ = some (.int .i64 nc) := by rw [cells_at hb2]; rfl
            clear hb1 hb2 HE HN HL2
            go_wp2_with fail
            refine (order_own T.out.a.own).mono ?_
            rintro e W7 ⟨u7, rfl, hu7, hf, _⟩
            have I7 := Lib.hid hu7
            have T := Lib.hid (T.out.later hf)
            clear hu7 hf
            go_wp2_with fail
            refine (order_own T.out.b.own).mono ?_
            rintro e W8 ⟨u8', rfl, hu8, hf, _⟩
            have I8 := Lib.hid hu8
            have I7 := Lib.hid (I7.out.later hf)
            have T := Lib.hid (T.out.later hf)
            clear hu8 hf
            go_wp2_with fail
            have lL : (plI L2).length ≤ 100000 := by have := T.out.a.own.is.len; rw [plI, List.length_map]; omega
            have HS := SameInts_any _ _ _ _ W8 I7.out I8.out lL lL
            rw [show decide (plI L2 = plI L2) = true by simp] at HS
            refine HS.mono ?_
            rintro e W9 ⟨rfl, hf⟩
            have T := Lib.hid (T.out.later hf.to0)
            clear HS hf I7 I8 lL
            go_wp2
            go_roundw
            case rel => exact ⟨k + 1, _, _, _, by omega, by go_num, Lib.hid (T.out.less (fun x hx => by simp at hx))⟩
            case measure => simp [intOf]; omega
          · skip
            obtain ⟨lp, hlp⟩ : ∃ lp, leastP L = lp := ⟨_, rfl⟩
            have HLp := Lib.hid hlp
            clear hlp
            obtain ⟨ce, hce⟩ : ∃ ce, takeE L = ce := ⟨_, rfl⟩
            obtain ⟨⟨na, nb, nc⟩, hnk⟩ : ∃ nk, takeK L = nk := ⟨_, rfl⟩
            obtain ⟨L2, hL2⟩ : ∃ L2, L.tail = L2 := ⟨_, rfl⟩
            have HE := Lib.hid hce
            have HN := Lib.hid hnk
            have HL2 := Lib.hid hL2
            clear hce hnk hL2
            go_wp2_with fail
            clear x0 x1 x2 x3
            have HP := take_own T.out.a.own 
            rw [HLp.out, HN.out, HE.out, HL2.out] at HP
            simp only [keyV] at HP
            refine HP.mono ?_
            rintro e W5 ⟨rfl, va, hO, hS⟩
            have T := Lib.hid (T.out.step hO hS)
            clear hO hS
            clear HP
            go_upto_region 20 with (fail)
            obtain ⟨WK, hWK⟩ : ∃ WK, W5.alloc (.cells #[.int .i64 na, .int .i64 nb, .int .i64 nc] 26) = WK := ⟨_, rfl⟩
            rw [hWK]
            have T := Lib.hid (show Two w WK hb ba _ _ hb' ba' _ _ Ks Ts KB (KB + 1) _ from hWK ▸ T.out.alloc _)
            obtain ⟨Z1, hZ1⟩ : ∃ Z1, W5.heap.size = Z1 := ⟨_, rfl⟩
            rw [hZ1] at T ⊢
            clear hWK hZ1
            go_wp2_with fail
            have HP := take_own T.out.b.own 
            rw [HLp.out, HN.out, HE.out, HL2.out] at HP
            simp only [keyV] at HP
            refine HP.mono ?_
            rintro e W6 ⟨rfl, vb, hO, hS⟩
            have T := Lib.hid (T.out.swap.step hO hS).swap
            clear hO hS
            clear HP
            go_upto_region 21 with (fail)
            obtain ⟨WK, hWK⟩ : ∃ WK, W6.alloc (.cells #[.int .i64 na, .int .i64 nb, .int .i64 nc] 26) = WK := ⟨_, rfl⟩
            rw [hWK]
            have T := Lib.hid (show Two w WK hb ba _ _ hb' ba' _ _ Ks Ts KB (KB + 1) _ from hWK ▸ T.out.alloc _)
            obtain ⟨Z2, hZ2⟩ : ∃ Z2, W6.heap.size = Z2 := ⟨_, rfl⟩
            rw [hZ2] at T ⊢
            clear hWK hZ2
            have hb1 := T.out.a.box (B := Z1) (o := .cells #[.int .i64 na, .int .i64 nb, .int .i64 nc] 26) (by simp)
            have hb2 := T.out.a.box (B := Z2) (o := .cells #[.int .i64 na, .int .i64 nb, .int .i64 nc] 26) (by simp)
            have z0 : WK.cell? ⟨Z1, 0, none⟩ = some (.int .i64 na) := by rw [cells_at hb1]; rfl
            have z1 : WK.cell? ⟨Z1, 1, none⟩ = some (.int .i64 nb) := by rw [cells_at hb1]; rfl
            have z2 : WK.cell? ⟨Z1, 2, none⟩ = some (.int .i64 nc) := by rw [cells_at hb1]; rfl
            have z3 : WK.cell? ⟨Z2, 0, none⟩ = some (.int .i64 na) := by rw [cells_at hb2]; rfl
            have z4 : WK.cell? ⟨Z2, 1, none⟩ = some (.int .i64 nb) := by rw [cells_at hb2]; rfl
            have z5 : WK.cell? ⟨Z2, 2, none⟩ = some (.int .i64 nc) := by rw [cells_at hb2]; rfl
            clear hb1 hb2 HE HN HL2
            go_wp2_with fail
            refine (order_own T.out.a.own).mono ?_
            rintro e W7 ⟨u7, rfl, hu7, hf, _⟩
            have I7 := Lib.hid hu7
            have T := Lib.hid (T.out.later hf)
            clear hu7 hf
            go_wp2_with fail
            refine (order_own T.out.b.own).mono ?_
            rintro e W8 ⟨u8', rfl, hu8, hf, _⟩
            have I8 := Lib.hid hu8
            have I7 := Lib.hid (I7.out.later hf)
            have T := Lib.hid (T.out.later hf)
            clear hu8 hf
            go_wp2_with fail
            have lL : (plI L2).length ≤ 100000 := by have := T.out.a.own.is.len; rw [plI, List.length_map]; omega
            have HS := SameInts_any _ _ _ _ W8 I7.out I8.out lL lL
            rw [show decide (plI L2 = plI L2) = true by simp] at HS
            refine HS.mono ?_
            rintro e W9 ⟨rfl, hf⟩
            have T := Lib.hid (T.out.later hf.to0)
            clear HS hf I7 I8 lL
            go_wp2
            go_roundw
            case rel => exact ⟨k + 1, _, _, _, by omega, by go_num, Lib.hid (T.out.less (fun x hx => by simp at hx))⟩
            case measure => simp [intOf]; omega
        · have hkm : k = m := by omega
          subst hkm
          go_wp2_with fail
          refine (Len_is T.out.a.own.is).mono ?_
          rintro e W4 ⟨rfl, rfl⟩
          obtain ⟨ll, hll⟩ : ∃ ll, L.length = ll := ⟨_, rfl⟩
          have HLl := Len_is T.out.b.own.is
          rw [hll] at HLl ⊢
          go_wp2_with fail
          refine HLl.mono ?_
          rintro e W5 ⟨rfl, rfl⟩
          go_wp2
          go_ret
          exact ⟨rfl, T.out.a.own.fr.below (Nat.le_refl _) (fun _ _ h => h)⟩
end Go.Proofs.Ytbpmdhngobdilaa
