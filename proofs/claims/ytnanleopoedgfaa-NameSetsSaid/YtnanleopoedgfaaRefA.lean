/-
  The reference: Add and Drop.
-/
import Derived.Test.YtnanleopoedgfaaRefP
import Derived.Test.YtnanleopoedgfaaAdd
set_option linter.unusedSimpArgs false
set_option linter.unusedVariables false
namespace Go.Proofs.Ytnanleopoedgfaa
open Go.RowKit
attribute [local go_sem ↓] Go.wp_at_zero Go.wp_at_succ

theorem refFind_set (a : Option Addr) (n cap lo : Nat) (b : Bool) (S : List Bs) (s : Bs) (hn : S.length = n) (hset : setB S = true) (hs : rightB s = true) (hlo : lowN S s = lo) (hb : isAt S s lo = b) (W : World) (hc : Cells W a (S.map strV)) :
    Calls Try.prog 48 #[.slice a n cap, .string (bs s)] W fun e w' => e = .returned (.tuple #[.int .i64 lo, .bool b]) ∧ Below W.heap.size W w' := by
  refine (refFind_any a n cap S s W hn (by have := setB_len hset; omega) (fun p hp => by have := setB_short hset p hp; omega) (by have := rightB_len hs; omega) hc).mono ?_
  rintro e w' ⟨rfl, hb'⟩
  rw [if_pos (by rw [hset, hs]; rfl), hlo, hb]
  exact ⟨rfl, hb'⟩

set_option maxRecDepth 100000 in
set_option maxHeartbeats 4000000 in
theorem refAdd_any (a : Option Addr) (n cap : Nat) (xs : List Bs) (s : Bs) (w : World) (hn : xs.length = n) (hm : n ≤ 10000) (hp : ∀ p ∈ xs, p.length ≤ 1000) (hs : s.length ≤ 1000) (hcap : n ≤ cap) (hcm : cap ≤ maxLen) (ha : a = none → n = 0) (hc : Cells w a (xs.map strV)) :
    Calls Try.prog 49 #[.slice a n cap, .string (bs s)] w (RowPost (addL xs s) (addL xs s).length (addE xs s) w) := by
  obtain ⟨L, hL⟩ : ∃ L, addL xs s = L := ⟨_, rfl⟩
  obtain ⟨E, hE⟩ : ∃ L, addE xs s = L := ⟨_, rfl⟩
  obtain ⟨m, hLm⟩ : ∃ m, L.length = m := ⟨_, rfl⟩
  rw [hL, hE, hLm]
  have HS := refSet_any a n cap xs w hn (by omega) (fun p h => by have := hp p h; omega) hc
  have HR := fun (r : Bool) (h : rightB s = r) => refRight_r s (by omega) h
  obtain ⟨i0, hi, hz0, hz1, hz2⟩ := info_parts info_str
  have Hc := Lib.hid hc
  have HC := Lib.hid (fun (i : Nat) (hi : i ≤ n) W (hb : Below w.heap.size w W) => put_any a n cap i xs s W hn (by omega) hcap hcm hi ha (hc.below hb))
  have HF := Lib.hid (fun (hset : setB xs = true) (hr : rightB s = true) W (hb : Below w.heap.size w W) => refFind_set a n cap (lowN xs s) (isAt xs s (lowN xs s)) xs s hn hset hr rfl rfl W (hc.below hb))
  have Hm := Lib.hid hLm
  have Hn := Lib.hid hn
  have HL := Lib.hid hL
  have HE := Lib.hid hE
  obtain ⟨r1, h1⟩ : ∃ r, setB xs = r := ⟨_, rfl⟩
  obtain ⟨r2, h2⟩ : ∃ r, rightB s = r := ⟨_, rfl⟩
  rw [h1] at HS
  have HS := Lib.hid HS
  have HR := Lib.hid (HR r2 h2)
  have H1 := Lib.hid h1
  have H2 := Lib.hid h2
  clear hn hp hs hc hL hE hLm h1 h2 ha
  cases r1 with
  | false =>
    have hres : Hid ([] = L ∧ 41 = E) := by
      refine ⟨?_, ?_⟩
      · rw [← HL.out, addL, H1.out]; rfl
      · rw [← HE.out, addE, H1.out]; rfl
    go_enter Try.func49, Try.ntmps49
    go_wp2_with fail
    refine HS.out.mono ?_
    rintro e w1 ⟨rfl, hb1⟩
    go_wp2
    go_ret2
    exact RowPost.nil hres.out.1 Hm.out hres.out.2 hb1
  | true =>
    cases r2 with
    | false =>
      have hres : Hid ([] = L ∧ 40 = E) := by
        refine ⟨?_, ?_⟩
        · rw [← HL.out, addL, H1.out, H2.out]; rfl
        · rw [← HE.out, addE, H1.out, H2.out]; rfl
      go_enter Try.func49, Try.ntmps49
      go_wp2_with fail
      refine HS.out.mono ?_
      rintro e w1 ⟨rfl, hb1⟩
      go_wp2_with fail
      refine (HR.out _).mono ?_
      rintro e w2 ⟨rfl, hbr⟩
      have hb1 := hb1.trans (hbr.mono hb1.size)
      go_wp2
      go_ret2
      exact RowPost.nil hres.out.1 Hm.out hres.out.2 hb1
    | true =>
      have HF := Lib.hid (HF.out H1.out H2.out)
      have hmem := @isAt_mem s xs (sorted_of H1.out)
      have hthere := insB_there s xs
      have hnone := insB_none s xs
      have hlo := lowN_len (s := s) Hn.out
      obtain ⟨lo, hlo'⟩ : ∃ lo, lowN xs s = lo := ⟨_, rfl⟩
      rw [hlo'] at HF hmem hthere hnone hlo
      obtain ⟨q, hq⟩ : ∃ q, isAt xs s lo = q := ⟨_, rfl⟩
      rw [hq] at HF hmem hthere hnone
      clear hlo' hq
      cases q with
      | true =>
        have hres : Hid (xs = L ∧ 0 = E) := by
          have hin := hmem.1 rfl
          refine ⟨?_, ?_⟩
          · rw [← HL.out, addL, H1.out, H2.out, decide_eq_true hin, hthere rfl]; rfl
          · rw [← HE.out, addE, H1.out, H2.out, if_pos hin]; rfl
        clear hmem hthere hnone hlo
        go_enter Try.func49, Try.ntmps49
        go_wp2_with fail
        refine HS.out.mono ?_
        rintro e w1 ⟨rfl, hb1⟩
        go_wp2_with fail
        refine (HR.out _).mono ?_
        rintro e w2 ⟨rfl, hbr⟩
        have hb1 := hb1.trans (hbr.mono hb1.size)
        go_wp2_with fail
        refine (HF.out _ hb1).mono ?_
        rintro e w2 ⟨rfl, hb2⟩
        have hb02 := hb1.trans (hb2.mono hb1.size)
        go_wp2_with (at_builtin; refine wpList_append_src rfl _ _ 22 rfl w.heap.size 9 i0 (.string ⟨#[]⟩) 16 Try.underlying22 hi hz0 hz1 hz2 rfl (.slice (some ⟨w2.heap.size, 0, none⟩) 0 0) 0 [] rfl (World.ownsRow_lit w2 #[] 0 hb02.size (by unfold maxLen; omega) rfl) a n cap (xs.map strV) rfl (by rw [List.length_map, Hn.out]) (Hc.out.below (hb02.alloc hb02.size _)) (fun u hu => one_strV xs u hu) (by unfold maxLen; omega) (by omega) (hb02.alloc hb02.size (.cells #[] 9)).size ?_; intro v' w3 hown hgrow)
        have hb03 : Below w.heap.size w w3 := (hb02.alloc hb02.size (.cells #[] 9)).grown hgrow (hb02.alloc hb02.size (.cells #[] 9)).size (fun j hj => by cases hj; exact hb02.size)
        have Hrow : Hid (w3.ownsRow w.heap.size 9 1 v' n (xs.map strV)) := by
          unfold Hid; simpa using hown
        obtain ⟨A3, c3, rfl, _⟩ := ownsRow_cells Hrow.out
        clear hown hgrow
        go_wp2
        go_ret2
        exact RowPost.row hres.out.1 (by rw [← Hm.out, ← hres.out.1]; exact Hn.out.symm) hres.out.2 Hrow.out hb03
      | false =>
        have hnin : ¬ s ∈ xs := fun h => by have := hmem.2 h; cases this
        by_cases hfull : n < 256
        · have hf : ((n : Int) == 256) = false := by simp; omega
          have hres : Hid (insL xs lo s = L ∧ 0 = E) := by
            refine ⟨?_, ?_⟩
            · rw [← HL.out, addL, H1.out, H2.out, Hn.out, decide_eq_true hfull, hnone rfl, Bool.or_true]; rfl
            · rw [← HE.out, addE, H1.out, H2.out, if_neg hnin, Hn.out, if_pos hfull]; rfl
          clear hmem hthere hnone hnin
          go_enter Try.func49, Try.ntmps49
          go_wp2_with fail
          refine HS.out.mono ?_
          rintro e w1 ⟨rfl, hb1⟩
          go_wp2_with fail
          refine (HR.out _).mono ?_
          rintro e w2 ⟨rfl, hbr⟩
          have hb1 := hb1.trans (hbr.mono hb1.size)
          go_wp2_with fail
          refine (HF.out _ hb1).mono ?_
          rintro e w2 ⟨rfl, hb2⟩
          have hb02 := hb1.trans (hb2.mono hb1.size)
          clear hb1 hb2
          go_wp2_with fail
          refine (HC.out lo hlo _ hb02).mono ?_
          rintro e w3 ⟨v, rfl, hrow, hb3⟩
          have Hrow := Lib.hid (own_le hrow hb02.size)
          have hb03 := hb02.trans (hb3.mono hb02.size)
          have hlen : Hid (n + 1 = m) := by
            unfold Hid; rw [← Hm.out, ← hres.out.1, insL_len, Hn.out]
          obtain ⟨A3, c3, rfl, _⟩ := ownsRow_cells hrow
          clear hrow hb3 hb02
          go_wp2
          go_ret2
          exact RowPost.row hres.out.1 hlen.out hres.out.2 Hrow.out hb03
        · have h256 := setB_len H1.out
          rw [Hn.out] at h256
          have hf : ((n : Int) == 256) = true := by simp; omega
          have hres : Hid ([] = L ∧ 5 = E) := by
            refine ⟨?_, ?_⟩
            · rw [← HL.out, addL, H1.out, H2.out, Hn.out, decide_eq_false hfull, decide_eq_false hnin]; rfl
            · rw [← HE.out, addE, H1.out, H2.out, if_neg hnin, Hn.out, if_neg hfull]; rfl
          clear hmem hthere hnone hlo hnin
          go_enter Try.func49, Try.ntmps49
          go_wp2_with fail
          refine HS.out.mono ?_
          rintro e w1 ⟨rfl, hb1⟩
          go_wp2_with fail
          refine (HR.out _).mono ?_
          rintro e w2 ⟨rfl, hbr⟩
          have hb1 := hb1.trans (hbr.mono hb1.size)
          go_wp2_with fail
          refine (HF.out _ hb1).mono ?_
          rintro e w2 ⟨rfl, hb2⟩
          have hb02 := hb1.trans (hb2.mono hb1.size)
          go_wp2
          go_ret2
          exact RowPost.nil hres.out.1 Hm.out hres.out.2 hb02
set_option maxRecDepth 100000 in
set_option maxHeartbeats 4000000 in
theorem refDrop_any (a : Option Addr) (n cap : Nat) (xs : List Bs) (s : Bs) (w : World) (hn : xs.length = n) (hm : n ≤ 10000) (hp : ∀ p ∈ xs, p.length ≤ 1000) (hs : s.length ≤ 1000) (hcap : n ≤ cap) (hcm : cap ≤ maxLen) (ha : a = none → n = 0) (hc : Cells w a (xs.map strV)) :
    Calls Try.prog 50 #[.slice a n cap, .string (bs s)] w (RowPost (dropL xs s) (dropL xs s).length (dropE xs s) w) := by
  obtain ⟨L, hL⟩ : ∃ L, dropL xs s = L := ⟨_, rfl⟩
  obtain ⟨E, hE⟩ : ∃ L, dropE xs s = L := ⟨_, rfl⟩
  obtain ⟨m, hLm⟩ : ∃ m, L.length = m := ⟨_, rfl⟩
  rw [hL, hE, hLm]
  have HS := refSet_any a n cap xs w hn (by omega) (fun p h => by have := hp p h; omega) hc
  have HR := fun (r : Bool) (h : rightB s = r) => refRight_r s (by omega) h
  obtain ⟨i0, hi, hz0, hz1, hz2⟩ := info_parts info_str
  have Hc := Lib.hid hc
  have HF := Lib.hid (fun (hset : setB xs = true) (hr : rightB s = true) W (hb : Below w.heap.size w W) => refFind_set a n cap (lowN xs s) (isAt xs s (lowN xs s)) xs s hn hset hr rfl rfl W (hc.below hb))
  have Hm := Lib.hid hLm
  have Hn := Lib.hid hn
  have HL := Lib.hid hL
  have HE := Lib.hid hE
  obtain ⟨r1, h1⟩ : ∃ r, setB xs = r := ⟨_, rfl⟩
  obtain ⟨r2, h2⟩ : ∃ r, rightB s = r := ⟨_, rfl⟩
  rw [h1] at HS
  have HS := Lib.hid HS
  have HR := Lib.hid (HR r2 h2)
  have H1 := Lib.hid h1
  have H2 := Lib.hid h2
  clear hn hp hs hc hL hE hLm h1 h2 ha
  cases r1 with
  | false =>
    have hres : Hid ([] = L ∧ 41 = E) := by
      refine ⟨?_, ?_⟩
      · rw [← HL.out, dropL, H1.out]; rfl
      · rw [← HE.out, dropE, H1.out]; rfl
    go_enter Try.func50, Try.ntmps50
    go_wp2_with fail
    refine HS.out.mono ?_
    rintro e w1 ⟨rfl, hb1⟩
    go_wp2
    go_ret2
    exact RowPost.nil hres.out.1 Hm.out hres.out.2 hb1
  | true =>
    cases r2 with
    | false =>
      have hres : Hid ([] = L ∧ 40 = E) := by
        refine ⟨?_, ?_⟩
        · rw [← HL.out, dropL, H1.out, H2.out]; rfl
        · rw [← HE.out, dropE, H1.out, H2.out]; rfl
      go_enter Try.func50, Try.ntmps50
      go_wp2_with fail
      refine HS.out.mono ?_
      rintro e w1 ⟨rfl, hb1⟩
      go_wp2_with fail
      refine (HR.out _).mono ?_
      rintro e w2 ⟨rfl, hbr⟩
      have hb1 := hb1.trans (hbr.mono hb1.size)
      go_wp2
      go_ret2
      exact RowPost.nil hres.out.1 Hm.out hres.out.2 hb1
    | true =>
      have HF := Lib.hid (HF.out H1.out H2.out)
      have hmem := @isAt_mem s xs (sorted_of H1.out)
      have hdel := delB_at s xs (sorted_of H1.out)
      have hlo := lowN_len (s := s) Hn.out
      have hlt : isAt xs s (lowN xs s) = true → lowN xs s < n := fun h => by
        have := (List.getElem?_eq_some_iff.1 (of_decide_eq_true h)).1
        rw [← Hn.out]; exact this
      obtain ⟨lo, hlo'⟩ : ∃ lo, lowN xs s = lo := ⟨_, rfl⟩
      rw [hlo'] at HF hmem hdel hlo hlt
      obtain ⟨q, hq⟩ : ∃ q, isAt xs s lo = q := ⟨_, rfl⟩
      rw [hq] at HF hmem hdel hlt
      clear hlo' hq
      cases q with
      | false =>
        have hnin : ¬ s ∈ xs := fun h => by have := hmem.2 h; cases this
        have hres : Hid ([] = L ∧ 6 = E) := by
          refine ⟨?_, ?_⟩
          · rw [← HL.out, dropL, H1.out, H2.out, decide_eq_false hnin]; rfl
          · rw [← HE.out, dropE, H1.out, H2.out, if_neg hnin]; rfl
        clear hmem hdel hlo hlt hnin
        go_enter Try.func50, Try.ntmps50
        go_wp2_with fail
        refine HS.out.mono ?_
        rintro e w1 ⟨rfl, hb1⟩
        go_wp2_with fail
        refine (HR.out _).mono ?_
        rintro e w2 ⟨rfl, hbr⟩
        have hb1 := hb1.trans (hbr.mono hb1.size)
        go_wp2_with fail
        refine (HF.out _ hb1).mono ?_
        rintro e w2 ⟨rfl, hb2⟩
        have hb02 := hb1.trans (hb2.mono hb1.size)
        go_wp2
        go_ret2
        exact RowPost.nil hres.out.1 Hm.out hres.out.2 hb02
      | true =>
        have hin := hmem.1 rfl
        have hlt := hlt rfl
        have hres : Hid (xs.take lo ++ xs.drop (lo + 1) = L ∧ 0 = E) := by
          refine ⟨?_, ?_⟩
          · rw [← HL.out, dropL, H1.out, H2.out, decide_eq_true hin, ← hdel rfl]; rfl
          · rw [← HE.out, dropE, H1.out, H2.out, if_pos hin]; rfl
        have hlen : Hid (n - 1 = m) := by
          unfold Hid; rw [← Hm.out, ← hres.out.1, List.length_append, List.length_take, List.length_drop, Hn.out]; omega
        clear hmem hdel hin
        have hwr : IntKind.i64.wrap ((lo : Int) + 1) = (lo : Int) + 1 := IntWalk.i64_in _ (by omega)
        go_enter Try.func50, Try.ntmps50
        go_wp2_with fail
        refine HS.out.mono ?_
        rintro e w1 ⟨rfl, hb1⟩
        go_wp2_with fail
        refine (HR.out _).mono ?_
        rintro e w2 ⟨rfl, hbr⟩
        have hb1 := hb1.trans (hbr.mono hb1.size)
        go_wp2_with fail
        refine (HF.out _ hb1).mono ?_
        rintro e w2 ⟨rfl, hb2⟩
        have hb02 := hb1.trans (hb2.mono hb1.size)
        clear hb1 hb2
        obtain ⟨x, hx⟩ : ∃ x, xs[0]? = some x := ⟨_, List.getElem?_eq_getElem (by rw [Hn.out]; omega)⟩
        obtain ⟨b, off, rfl, _⟩ := Hc.out.at (k := 0) (x := strV x) (by simp [hx])
        have hct : Cells w (some ⟨b, off, none⟩) ((xs.map strV).take lo) := fun j u hj => by
          rw [List.getElem?_take] at hj
          split at hj
          · exact Hc.out j u hj
          · cases hj
        have q1 : (0 : Int) ≤ (lo : Int) := by omega
        have q2 : (lo : Int) ≤ (n : Int) := by omega
        have q3 : (lo : Int) ≤ (cap : Int) := by omega
        have q4 : (lo : Int) + 1 ≤ (n : Int) := by omega
        have q5 : (lo : Int) + 1 ≤ (cap : Int) := by omega
        have q6 : ((lo : Int) + 1).toNat = lo + 1 := by omega
        have q7 : (0 : Int) ≤ (lo : Int) + 1 := by omega
        have q8 : (n : Int) ≤ (cap : Int) := by omega
        unfold maxLen at hcm
        clear hx
        go_wp2
        by_cases hci : cap = lo + 1
        · have Hci := Lib.hid hci
          have hcd : Cells w (some ⟨b, off, none⟩) ((xs.map strV).drop (lo + 1)) := fun j u hj => by
            rw [List.drop_of_length_le (by rw [List.length_map, Hn.out]; omega)] at hj; simp at hj
          have hnlo : Hid (n = lo + 1) := by unfold Hid; omega
          clear hci
          refine wp_region_held_drew (S := fun _ => True) (by kernel_rfl) trivial (fun hHeld => ?_)
          refine take_on (i := 1) (v := .slice (some ⟨b, off, none⟩) n cap) rfl (by kernel_rfl) (by kernel_rfl) (by kernel_rfl) (fun _ _ _ h => h) (by kernel_rfl) (fun W hSW => ?_) trivial ?_
          · first | (go_simp; done) | exact rfl | (go_simp; rfl) | (go_simp; omega)
          try simp only [Act.put, List.setIfInBounds_toArray, List.set_cons_zero, List.set_cons_succ]
          refine take_on (i := 2) (v := .int .i64 lo) rfl (by kernel_rfl) (by kernel_rfl) (by kernel_rfl) (fun _ _ _ h => h) (by kernel_rfl) (fun W hSW => ?_) trivial ?_
          · first | (go_simp; done) | exact rfl | (go_simp; rfl) | (go_simp; omega)
          try simp only [Act.put, List.setIfInBounds_toArray, List.set_cons_zero, List.set_cons_succ]
          refine take_on (i := 3) (v := .slice (some ⟨b, off, none⟩) lo cap) rfl (by kernel_rfl) (by kernel_rfl) (by kernel_rfl) (fun _ _ _ h => h) (by kernel_rfl) (fun W hSW => ?_) trivial ?_
          · first | (go_simp; done) | exact rfl | (go_simp; rfl) | (go_simp; omega)
          try simp only [Act.put, List.setIfInBounds_toArray, List.set_cons_zero, List.set_cons_succ]
          refine take_on (i := 5) (v := .slice (some ⟨b, off, none⟩) n cap) rfl (by kernel_rfl) (by kernel_rfl) (by kernel_rfl) (fun _ _ _ h => h) (by kernel_rfl) (fun W hSW => ?_) trivial ?_
          · first | (go_simp; done) | exact rfl | (go_simp; rfl) | (go_simp; omega)
          try simp only [Act.put, List.setIfInBounds_toArray, List.set_cons_zero, List.set_cons_succ]
          refine take_on (i := 6) (v := .int .i64 lo) rfl (by kernel_rfl) (by kernel_rfl) (by kernel_rfl) (fun _ _ _ h => h) (by kernel_rfl) (fun W hSW => ?_) trivial ?_
          · first | (go_simp; done) | exact rfl | (go_simp; rfl) | (go_simp; omega)
          try simp only [Act.put, List.setIfInBounds_toArray, List.set_cons_zero, List.set_cons_succ]
          refine take_on (i := 7) (v := .int .i64 ((lo : Int) + 1)) rfl (by kernel_rfl) (by kernel_rfl) (by kernel_rfl) (fun _ _ _ h => h) (by kernel_rfl) (fun W hSW => ?_) trivial ?_
          · first | (go_simp; done) | exact rfl | (go_simp; rfl) | (go_simp; omega)
          try simp only [Act.put, List.setIfInBounds_toArray, List.set_cons_zero, List.set_cons_succ]
          refine take_on (i := 8) (v := .slice (some ⟨b, off, none⟩) (n - (lo + 1)) 0) rfl (by kernel_rfl) (by kernel_rfl) (by kernel_rfl) (fun _ _ _ h => h) (by kernel_rfl) (fun W hSW => ?_) trivial ?_
          · have hci := Hci.out
            have hnl : n - (lo + 1) = 0 := by omega
            rw [hnl]
            have hnn : n = lo + 1 := by omega
            first | (go_simp; done) | exact rfl | (go_simp; rfl) | (go_simp; omega) | (subst hci; go_simp; done)
          try simp only [Act.put, List.setIfInBounds_toArray, List.set_cons_zero, List.set_cons_succ]
          have hb0 : Below w.heap.size w w2.drew := hb02.drew
          refine take_call (i := 0) rfl (by kernel_rfl) (by kernel_rfl) (fun K hK => ?_)
          go_simp
          refine hK.out _ _ trivial (fun _ => ?_)
          clear hK K
          try simp only [Act.put, List.setIfInBounds_toArray, List.set_cons_zero, List.set_cons_succ]
          have hrow0 := World.ownsRow_lit (base := w.heap.size) (e := 9) (size := 1) w2.drew #[] 0 hb02.size (by unfold maxLen; omega) rfl
          have hb1 : Below w.heap.size w (w2.drew.alloc (.cells #[] 9)) := hb0.alloc hb02.size _
          refine take_call (i := 4) rfl (by kernel_rfl) (by kernel_rfl) (fun K hK => ?_)
          refine wp_append_src _ _ 22 rfl w.heap.size 9 i0 (.string ⟨#[]⟩) 16 Try.underlying22 hi hz0 hz1 hz2 rfl (.slice (some ⟨w2.heap.size, 0, none⟩) 0 0) 0 [] rfl hrow0 (some ⟨b, off, none⟩) lo cap ((xs.map strV).take lo) rfl (by rw [List.length_take, List.length_map, Hn.out]; omega) (hct.below hb1) (fun u hu => one_strV xs u (List.mem_of_mem_take hu)) (by unfold maxLen; omega) (by omega) hb1.size ?_
          intro v1 V hown1 hgrow1
          have hbV : Below w.heap.size w V := hb1.grown hgrow1 hb1.size (fun j hj => by cases hj; exact hb02.size)
          refine hK.out _ _ trivial (fun _ => ?_)
          clear hK K
          try simp only [Act.put, List.setIfInBounds_toArray, List.set_cons_zero, List.set_cons_succ]
          refine take_call (i := 9) rfl (by kernel_rfl) (by kernel_rfl) (fun K hK => ?_)
          refine wp_append_src _ _ 22 rfl w.heap.size 9 i0 (.string ⟨#[]⟩) 16 Try.underlying22 hi hz0 hz1 hz2 rfl v1 (0 + lo) _ rfl hown1 (some ⟨b, off, none⟩) (n - (lo + 1)) 0 ((xs.map strV).drop (lo + 1)) rfl (by rw [List.length_drop, List.length_map, Hn.out]) (hcd.below hbV) (fun u hu => one_strV xs u (List.mem_of_mem_drop hu)) (by unfold maxLen; omega) (by omega) hbV.size ?_
          intro v2 V2 hown2 hgrow2
          have hb2 : Below w.heap.size w V2 := hbV.grown hgrow2 hbV.size (fun j hj => (hown1.lt j hj).1)
          refine hK.out _ _ trivial (fun _ => ?_)
          clear hK K
          try simp only [Act.put, List.setIfInBounds_toArray, List.set_cons_zero, List.set_cons_succ]
          refine take_on (i := 10) (v := v2) rfl (by kernel_rfl) (by kernel_rfl) (by kernel_rfl) (fun _ _ _ h => h) (by kernel_rfl) (fun W hSW => ?_) trivial ?_
          · first | (go_simp; done) | exact rfl | (go_simp; rfl) | (go_simp; omega)
          try simp only [Act.put, List.setIfInBounds_toArray, List.set_cons_zero, List.set_cons_succ]
          refine take_on (i := 11) (v := .int .i64 0) rfl (by kernel_rfl) (by kernel_rfl) (by kernel_rfl) (fun _ _ _ h => h) (by kernel_rfl) (fun W hSW => ?_) trivial ?_
          · first | (go_simp; done) | exact rfl | (go_simp; rfl) | (go_simp; omega)
          try simp only [Act.put, List.setIfInBounds_toArray, List.set_cons_zero, List.set_cons_succ]
          refine wpAnyH_done (by kernel_rfl) ?_ _
          have hfin : Hid (V2.ownsRow w.heap.size 9 1 v2 (n - 1) ((xs.take lo ++ xs.drop (lo + 1)).map strV)) := by
            unfold Hid
            rw [List.map_append, List.map_take, List.map_drop, show n - 1 = 0 + lo + (n - (lo + 1)) by omega]
            simpa using hown2
          obtain ⟨A2, c2, rfl, _⟩ := ownsRow_cells hfin.out
          clear hown1 hown2 hgrow1 hgrow2 hrow0
          go_wp2
          go_ret2
          exact RowPost.row hres.out.1 hlen.out hres.out.2 hfin.out hb2
        · have g1 : ¬ (cap = lo + 1) := hci
          have hcd : Cells w (some ⟨b, off + (lo + 1), none⟩) ((xs.map strV).drop (lo + 1)) := fun j u hj => by
            rw [List.getElem?_drop] at hj
            obtain ⟨b', off', he, hcell⟩ := Hc.out (lo + 1 + j) u hj
            cases he
            exact ⟨_, _, rfl, by rw [Nat.add_assoc]; exact hcell⟩
          clear hci
          refine wp_region_held_drew (S := fun _ => True) (by kernel_rfl) trivial (fun hHeld => ?_)
          refine take_on (i := 1) (v := .slice (some ⟨b, off, none⟩) n cap) rfl (by kernel_rfl) (by kernel_rfl) (by kernel_rfl) (fun _ _ _ h => h) (by kernel_rfl) (fun W hSW => ?_) trivial ?_
          · first | (go_simp; done) | exact rfl | (go_simp; rfl) | (go_simp; omega)
          try simp only [Act.put, List.setIfInBounds_toArray, List.set_cons_zero, List.set_cons_succ]
          refine take_on (i := 2) (v := .int .i64 lo) rfl (by kernel_rfl) (by kernel_rfl) (by kernel_rfl) (fun _ _ _ h => h) (by kernel_rfl) (fun W hSW => ?_) trivial ?_
          · first | (go_simp; done) | exact rfl | (go_simp; rfl) | (go_simp; omega)
          try simp only [Act.put, List.setIfInBounds_toArray, List.set_cons_zero, List.set_cons_succ]
          refine take_on (i := 3) (v := .slice (some ⟨b, off, none⟩) lo cap) rfl (by kernel_rfl) (by kernel_rfl) (by kernel_rfl) (fun _ _ _ h => h) (by kernel_rfl) (fun W hSW => ?_) trivial ?_
          · first | (go_simp; done) | exact rfl | (go_simp; rfl) | (go_simp; omega)
          try simp only [Act.put, List.setIfInBounds_toArray, List.set_cons_zero, List.set_cons_succ]
          refine take_on (i := 5) (v := .slice (some ⟨b, off, none⟩) n cap) rfl (by kernel_rfl) (by kernel_rfl) (by kernel_rfl) (fun _ _ _ h => h) (by kernel_rfl) (fun W hSW => ?_) trivial ?_
          · first | (go_simp; done) | exact rfl | (go_simp; rfl) | (go_simp; omega)
          try simp only [Act.put, List.setIfInBounds_toArray, List.set_cons_zero, List.set_cons_succ]
          refine take_on (i := 6) (v := .int .i64 lo) rfl (by kernel_rfl) (by kernel_rfl) (by kernel_rfl) (fun _ _ _ h => h) (by kernel_rfl) (fun W hSW => ?_) trivial ?_
          · first | (go_simp; done) | exact rfl | (go_simp; rfl) | (go_simp; omega)
          try simp only [Act.put, List.setIfInBounds_toArray, List.set_cons_zero, List.set_cons_succ]
          refine take_on (i := 7) (v := .int .i64 ((lo : Int) + 1)) rfl (by kernel_rfl) (by kernel_rfl) (by kernel_rfl) (fun _ _ _ h => h) (by kernel_rfl) (fun W hSW => ?_) trivial ?_
          · first | (go_simp; done) | exact rfl | (go_simp; rfl) | (go_simp; omega)
          try simp only [Act.put, List.setIfInBounds_toArray, List.set_cons_zero, List.set_cons_succ]
          refine take_on (i := 8) (v := .slice (some ⟨b, off + (lo + 1), none⟩) (n - (lo + 1)) (cap - (lo + 1))) rfl (by kernel_rfl) (by kernel_rfl) (by kernel_rfl) (fun _ _ _ h => h) (by kernel_rfl) (fun W hSW => ?_) trivial ?_
          · first | (go_simp; done) | exact rfl | (go_simp; rfl) | (go_simp; omega)
          try simp only [Act.put, List.setIfInBounds_toArray, List.set_cons_zero, List.set_cons_succ]
          have hb0 : Below w.heap.size w w2.drew := hb02.drew
          refine take_call (i := 0) rfl (by kernel_rfl) (by kernel_rfl) (fun K hK => ?_)
          go_simp
          refine hK.out _ _ trivial (fun _ => ?_)
          clear hK K
          try simp only [Act.put, List.setIfInBounds_toArray, List.set_cons_zero, List.set_cons_succ]
          have hrow0 := World.ownsRow_lit (base := w.heap.size) (e := 9) (size := 1) w2.drew #[] 0 hb02.size (by unfold maxLen; omega) rfl
          have hb1 : Below w.heap.size w (w2.drew.alloc (.cells #[] 9)) := hb0.alloc hb02.size _
          refine take_call (i := 4) rfl (by kernel_rfl) (by kernel_rfl) (fun K hK => ?_)
          refine wp_append_src _ _ 22 rfl w.heap.size 9 i0 (.string ⟨#[]⟩) 16 Try.underlying22 hi hz0 hz1 hz2 rfl (.slice (some ⟨w2.heap.size, 0, none⟩) 0 0) 0 [] rfl hrow0 (some ⟨b, off, none⟩) lo cap ((xs.map strV).take lo) rfl (by rw [List.length_take, List.length_map, Hn.out]; omega) (hct.below hb1) (fun u hu => one_strV xs u (List.mem_of_mem_take hu)) (by unfold maxLen; omega) (by omega) hb1.size ?_
          intro v1 V hown1 hgrow1
          have hbV : Below w.heap.size w V := hb1.grown hgrow1 hb1.size (fun j hj => by cases hj; exact hb02.size)
          refine hK.out _ _ trivial (fun _ => ?_)
          clear hK K
          try simp only [Act.put, List.setIfInBounds_toArray, List.set_cons_zero, List.set_cons_succ]
          refine take_call (i := 9) rfl (by kernel_rfl) (by kernel_rfl) (fun K hK => ?_)
          refine wp_append_src _ _ 22 rfl w.heap.size 9 i0 (.string ⟨#[]⟩) 16 Try.underlying22 hi hz0 hz1 hz2 rfl v1 (0 + lo) _ rfl hown1 (some ⟨b, off + (lo + 1), none⟩) (n - (lo + 1)) (cap - (lo + 1)) ((xs.map strV).drop (lo + 1)) rfl (by rw [List.length_drop, List.length_map, Hn.out]) (hcd.below hbV) (fun u hu => one_strV xs u (List.mem_of_mem_drop hu)) (by unfold maxLen; omega) (by omega) hbV.size ?_
          intro v2 V2 hown2 hgrow2
          have hb2 : Below w.heap.size w V2 := hbV.grown hgrow2 hbV.size (fun j hj => (hown1.lt j hj).1)
          refine hK.out _ _ trivial (fun _ => ?_)
          clear hK K
          try simp only [Act.put, List.setIfInBounds_toArray, List.set_cons_zero, List.set_cons_succ]
          refine take_on (i := 10) (v := v2) rfl (by kernel_rfl) (by kernel_rfl) (by kernel_rfl) (fun _ _ _ h => h) (by kernel_rfl) (fun W hSW => ?_) trivial ?_
          · first | (go_simp; done) | exact rfl | (go_simp; rfl) | (go_simp; omega)
          try simp only [Act.put, List.setIfInBounds_toArray, List.set_cons_zero, List.set_cons_succ]
          refine take_on (i := 11) (v := .int .i64 0) rfl (by kernel_rfl) (by kernel_rfl) (by kernel_rfl) (fun _ _ _ h => h) (by kernel_rfl) (fun W hSW => ?_) trivial ?_
          · first | (go_simp; done) | exact rfl | (go_simp; rfl) | (go_simp; omega)
          try simp only [Act.put, List.setIfInBounds_toArray, List.set_cons_zero, List.set_cons_succ]
          refine wpAnyH_done (by kernel_rfl) ?_ _
          have hfin : Hid (V2.ownsRow w.heap.size 9 1 v2 (n - 1) ((xs.take lo ++ xs.drop (lo + 1)).map strV)) := by
            unfold Hid
            rw [List.map_append, List.map_take, List.map_drop, show n - 1 = 0 + lo + (n - (lo + 1)) by omega]
            simpa using hown2
          obtain ⟨A2, c2, rfl, _⟩ := ownsRow_cells hfin.out
          clear hown1 hown2 hgrow1 hgrow2 hrow0
          go_wp2
          go_ret2
          exact RowPost.row hres.out.1 hlen.out hres.out.2 hfin.out hb2
end Go.Proofs.Ytnanleopoedgfaa
