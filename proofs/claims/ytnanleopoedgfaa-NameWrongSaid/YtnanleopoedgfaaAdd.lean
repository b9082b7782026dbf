/-
  name.Add and name.Drop.
-/
import Derived.Test.YtnanleopoedgfaaSets2
import Derived.Test.YtnanleopoedgfaaRanges
set_option linter.unusedSimpArgs false
set_option linter.unusedVariables false
namespace Go.Proofs.Ytnanleopoedgfaa
open Go.RowKit
attribute [local go_sem ↓] Go.wp_at_zero Go.wp_at_succ

theorem own_le {w : World} {base base' size n : Nat} {e : TypeId} {v : Value} {xs : List Value} (h : w.ownsRow base e size v n xs) (hb : base' ≤ base) : w.ownsRow base' e size v n xs :=
  ⟨h.1, h.2.imp id fun ⟨g, cap, cur, e, hg, r⟩ => ⟨g, cap, cur, e, Nat.le_trans hb hg, r⟩⟩
theorem lowN_len {n : Nat} {xs : List Bs} {s : Bs} (hn : xs.length = n) : lowN xs s ≤ n := hn ▸ lowN_le xs s

set_option maxRecDepth 100000 in
set_option maxHeartbeats 4000000 in
theorem Add_any (a : Option Addr) (n cap : Nat) (xs : List Bs) (s : Bs) (w : World) (hn : xs.length = n) (hm : n ≤ 10000) (hp : ∀ p ∈ xs, p.length ≤ 1000) (hs : s.length ≤ 1000) (hc : Cells w a (xs.map strV)) :
    Calls Try.prog 23 #[.slice a n cap, .string (bs s)] w (RowPost (addL xs s) (addL xs s).length (addE xs s) w) := by
  obtain ⟨L, hL⟩ : ∃ L, addL xs s = L := ⟨_, rfl⟩
  obtain ⟨E, hE⟩ : ∃ L, addE xs s = L := ⟨_, rfl⟩
  obtain ⟨m, hLm⟩ : ∃ m, L.length = m := ⟨_, rfl⟩
  rw [hL, hE, hLm]
  have HS := Set_any a n cap xs w hn (by omega) (fun p h => by have := hp p h; omega) hc
  have HR := Right_l s hs
  have HC := Lib.hid (fun W (hb : Below w.heap.size w W) => Clone_any a n cap xs W hn (by omega) (hc.below hb))
  have HF := Lib.hid (fun (hset : setB xs = true) (hr : rightB s = true) W (hb : Below w.heap.size w W) => Find_set a n cap (lowN xs s) (isAt xs s (lowN xs s)) xs s hn hset hr rfl rfl W (hc.below hb))
  have Hm := Lib.hid hLm
  have Hn := Lib.hid hn
  have HL := Lib.hid hL
  have HE := Lib.hid hE
  obtain ⟨r1, h1⟩ : ∃ r, setB xs = r := ⟨_, rfl⟩
  obtain ⟨r2, h2⟩ : ∃ r, rightB s = r := ⟨_, rfl⟩
  rw [h1] at HS
  rw [h2] at HR
  have HS := Lib.hid HS
  have HR := Lib.hid HR
  have H1 := Lib.hid h1
  have H2 := Lib.hid h2
  clear hn hp hs hc hL hE hLm h1 h2
  cases r1 with
  | false =>
    have hres : Hid ([] = L ∧ 41 = E) := by
      refine ⟨?_, ?_⟩
      · rw [← HL.out, addL, H1.out]; rfl
      · rw [← HE.out, addE, H1.out]; rfl
    go_enter Try.func23, Try.ntmps23
    go_wp2_with fail
    refine HS.out.mono ?_
    rintro e w1 ⟨rfl, hb1⟩
    go_wp2
    go_ret2
    exact RowPost.nil hres.out.1 Hm.out hres.out.2 hb1
  | true =>
    cases r2 with
    | false =>
      have hres : Hid ([] = L ∧ 40 = E) := by
        refine ⟨?_, ?_⟩
        · rw [← HL.out, addL, H1.out, H2.out]; rfl
        · rw [← HE.out, addE, H1.out, H2.out]; rfl
      go_enter Try.func23, Try.ntmps23
      go_wp2_with fail
      refine HS.out.mono ?_
      rintro e w1 ⟨rfl, hb1⟩
      go_wp2_with fail
      refine (HR.out _).mono ?_
      rintro e w2 ⟨rfl, rfl⟩
      go_wp2
      go_ret2
      exact RowPost.nil hres.out.1 Hm.out hres.out.2 hb1
    | true =>
      have HF := Lib.hid (HF.out H1.out H2.out)
      have hmem := @isAt_mem s xs (sorted_of H1.out)
      have hthere := insB_there s xs
      have hnone := insB_none s xs
      have hlo := lowN_len (s := s) Hn.out
      obtain ⟨lo, hlo'⟩ : ∃ lo, lowN xs s = lo := ⟨_, rfl⟩
      rw [hlo'] at HF hmem hthere hnone hlo
      obtain ⟨q, hq⟩ : ∃ q, isAt xs s lo = q := ⟨_, rfl⟩
      rw [hq] at HF hmem hthere hnone
      clear hlo' hq
      cases q with
      | true =>
        have hres : Hid (xs = L ∧ 0 = E) := by
          have hin := hmem.1 rfl
          refine ⟨?_, ?_⟩
          · rw [← HL.out, addL, H1.out, H2.out, decide_eq_true hin, hthere rfl]; rfl
          · rw [← HE.out, addE, H1.out, H2.out, if_pos hin]; rfl
        clear hmem hthere hnone hlo
        go_enter Try.func23, Try.ntmps23
        go_wp2_with fail
        refine HS.out.mono ?_
        rintro e w1 ⟨rfl, hb1⟩
        go_wp2_with fail
        refine (HR.out _).mono ?_
        rintro e w2 ⟨rfl, rfl⟩
        go_wp2_with fail
        refine (HF.out _ hb1).mono ?_
        rintro e w2 ⟨rfl, hb2⟩
        have hb02 := hb1.trans (hb2.mono hb1.size)
        go_wp2_with fail
        refine (HC.out _ hb02).mono ?_
        rintro e w3 ⟨v, rfl, hrow, hv, hb3⟩
        have Hrow := Lib.hid (own_le hrow hb02.size)
        have hb03 := hb02.trans (hb3.mono hb02.size)
        clear hrow hv hb3
        go_wp2
        go_ret2
        exact RowPost.row hres.out.1 (by rw [← Hm.out, ← hres.out.1]; exact Hn.out.symm) hres.out.2 Hrow.out hb03
      | false =>
        have hnin : ¬ s ∈ xs := fun h => by have := hmem.2 h; cases this
        by_cases hfull : n < 256
        · have hf : (n : Int) < 256 := by omega
          have hres : Hid (insL xs lo s = L ∧ 0 = E) := by
            refine ⟨?_, ?_⟩
            · rw [← HL.out, addL, H1.out, H2.out, Hn.out, decide_eq_true hfull, hnone rfl, Bool.or_true]; rfl
            · rw [← HE.out, addE, H1.out, H2.out, if_neg hnin, Hn.out, if_pos hfull]; rfl
          clear hmem hthere hnone hnin
          have HI := Lib.hid (fun v vb vc W => @Insert_any v n w.heap.size lo vb vc xs s W (by omega) hlo)
          go_enter Try.func23, Try.ntmps23
          go_wp2_with fail
          refine HS.out.mono ?_
          rintro e w1 ⟨rfl, hb1⟩
          go_wp2_with fail
          refine (HR.out _).mono ?_
          rintro e w2 ⟨rfl, rfl⟩
          go_wp2_with fail
          refine (HF.out _ hb1).mono ?_
          rintro e w2 ⟨rfl, hb2⟩
          have hb02 := hb1.trans (hb2.mono hb1.size)
          clear hb1 hb2
          go_wp2_with fail
          refine (HC.out _ hb02).mono ?_
          rintro e w3 ⟨v, rfl, hrow, hv, hb3⟩
          have Hrow := Lib.hid (own_le hrow hb02.size)
          have hlt := hrow.lt
          have Hv := Lib.hid hv
          have hb03 := hb02.trans (hb3.mono hb02.size)
          clear hrow hv hb3 hb02
          go_wp2_with fail
          refine (HI.out v w3.heap.size 1 _ (Hrow.out.alloc _) Hv.out (Box.new _ _ _) (fun h => absurd (hlt _ h).2 (Nat.lt_irrefl _)) (by have := hb03.size; simp; omega)).mono ?_
          rintro e w4 ⟨v', rfl, hrow', hb4⟩
          have hb04 := (hb03.alloc hb03.size (.cells #[.string (bs s)] 9)).trans hb4
          have Hrow' := Lib.hid hrow'
          have hlen : Hid (n + 1 = m) := by
            unfold Hid; rw [← Hm.out, ← hres.out.1, insL_len, Hn.out]
          clear hrow' hb4 hlt
          go_wp2
          go_ret2
          exact RowPost.row hres.out.1 hlen.out hres.out.2 Hrow'.out hb04
        · have hf : ¬ (n : Int) < 256 := by omega
          have hf' : (256 : Int) ≤ (n : Int) := by omega
          have hres : Hid ([] = L ∧ 5 = E) := by
            refine ⟨?_, ?_⟩
            · rw [← HL.out, addL, H1.out, H2.out, Hn.out, decide_eq_false hfull, decide_eq_false hnin]; rfl
            · rw [← HE.out, addE, H1.out, H2.out, if_neg hnin, Hn.out, if_neg hfull]; rfl
          clear hmem hthere hnone hlo hnin
          go_enter Try.func23, Try.ntmps23
          go_wp2_with fail
          refine HS.out.mono ?_
          rintro e w1 ⟨rfl, hb1⟩
          go_wp2_with fail
          refine (HR.out _).mono ?_
          rintro e w2 ⟨rfl, rfl⟩
          go_wp2_with fail
          refine (HF.out _ hb1).mono ?_
          rintro e w2 ⟨rfl, hb2⟩
          have hb02 := hb1.trans (hb2.mono hb1.size)
          go_wp2
          go_ret2
          exact RowPost.nil hres.out.1 Hm.out hres.out.2 hb02
set_option maxRecDepth 100000 in
set_option maxHeartbeats 4000000 in
theorem Drop_any (a : Option Addr) (n cap : Nat) (xs : List Bs) (s : Bs) (w : World) (hn : xs.length = n) (hm : n ≤ 10000) (hp : ∀ p ∈ xs, p.length ≤ 1000) (hs : s.length ≤ 1000) (hc : Cells w a (xs.map strV)) :
    Calls Try.prog 26 #[.slice a n cap, .string (bs s)] w (RowPost (dropL xs s) (dropL xs s).length (dropE xs s) w) := by
  obtain ⟨L, hL⟩ : ∃ L, dropL xs s = L := ⟨_, rfl⟩
  obtain ⟨E, hE⟩ : ∃ L, dropE xs s = L := ⟨_, rfl⟩
  obtain ⟨m, hLm⟩ : ∃ m, L.length = m := ⟨_, rfl⟩
  rw [hL, hE, hLm]
  have HS := Set_any a n cap xs w hn (by omega) (fun p h => by have := hp p h; omega) hc
  have HR := Right_l s hs
  have HC := Lib.hid (fun W (hb : Below w.heap.size w W) => Clone_any a n cap xs W hn (by omega) (hc.below hb))
  have HF := Lib.hid (fun (hset : setB xs = true) (hr : rightB s = true) W (hb : Below w.heap.size w W) => Find_set a n cap (lowN xs s) (isAt xs s (lowN xs s)) xs s hn hset hr rfl rfl W (hc.below hb))
  have Hm := Lib.hid hLm
  have Hn := Lib.hid hn
  have HL := Lib.hid hL
  have HE := Lib.hid hE
  obtain ⟨r1, h1⟩ : ∃ r, setB xs = r := ⟨_, rfl⟩
  obtain ⟨r2, h2⟩ : ∃ r, rightB s = r := ⟨_, rfl⟩
  rw [h1] at HS
  rw [h2] at HR
  have HS := Lib.hid HS
  have HR := Lib.hid HR
  have H1 := Lib.hid h1
  have H2 := Lib.hid h2
  clear hn hp hs hc hL hE hLm h1 h2
  cases r1 with
  | false =>
    have hres : Hid ([] = L ∧ 41 = E) := by
      refine ⟨?_, ?_⟩
      · rw [← HL.out, dropL, H1.out]; rfl
      · rw [← HE.out, dropE, H1.out]; rfl
    go_enter Try.func26, Try.ntmps26
    go_wp2_with fail
    refine HS.out.mono ?_
    rintro e w1 ⟨rfl, hb1⟩
    go_wp2
    go_ret2
    exact RowPost.nil hres.out.1 Hm.out hres.out.2 hb1
  | true =>
    cases r2 with
    | false =>
      have hres : Hid ([] = L ∧ 40 = E) := by
        refine ⟨?_, ?_⟩
        · rw [← HL.out, dropL, H1.out, H2.out]; rfl
        · rw [← HE.out, dropE, H1.out, H2.out]; rfl
      go_enter Try.func26, Try.ntmps26
      go_wp2_with fail
      refine HS.out.mono ?_
      rintro e w1 ⟨rfl, hb1⟩
      go_wp2_with fail
      refine (HR.out _).mono ?_
      rintro e w2 ⟨rfl, rfl⟩
      go_wp2
      go_ret2
      exact RowPost.nil hres.out.1 Hm.out hres.out.2 hb1
    | true =>
      have HF := Lib.hid (HF.out H1.out H2.out)
      have hmem := @isAt_mem s xs (sorted_of H1.out)
      have hdel := delB_at s xs (sorted_of H1.out)
      have hlo := lowN_len (s := s) Hn.out
      have hlt : isAt xs s (lowN xs s) = true → lowN xs s < n := fun h => by
        have := (List.getElem?_eq_some_iff.1 (of_decide_eq_true h)).1
        rw [← Hn.out]; exact this
      obtain ⟨lo, hlo'⟩ : ∃ lo, lowN xs s = lo := ⟨_, rfl⟩
      rw [hlo'] at HF hmem hdel hlo hlt
      obtain ⟨q, hq⟩ : ∃ q, isAt xs s lo = q := ⟨_, rfl⟩
      rw [hq] at HF hmem hdel hlt
      clear hlo' hq
      cases q with
      | false =>
        have hnin : ¬ s ∈ xs := fun h => by have := hmem.2 h; cases this
        have hres : Hid ([] = L ∧ 6 = E) := by
          refine ⟨?_, ?_⟩
          · rw [← HL.out, dropL, H1.out, H2.out, decide_eq_false hnin]; rfl
          · rw [← HE.out, dropE, H1.out, H2.out, if_neg hnin]; rfl
        clear hmem hdel hlo hlt hnin
        go_enter Try.func26, Try.ntmps26
        go_wp2_with fail
        refine HS.out.mono ?_
        rintro e w1 ⟨rfl, hb1⟩
        go_wp2_with fail
        refine (HR.out _).mono ?_
        rintro e w2 ⟨rfl, rfl⟩
        go_wp2_with fail
        refine (HF.out _ hb1).mono ?_
        rintro e w2 ⟨rfl, hb2⟩
        have hb02 := hb1.trans (hb2.mono hb1.size)
        go_wp2
        go_ret2
        exact RowPost.nil hres.out.1 Hm.out hres.out.2 hb02
      | true =>
        have hin := hmem.1 rfl
        have hlt := hlt rfl
        have hres : Hid (xs.take lo ++ xs.drop (lo + 1) = L ∧ 0 = E) := by
          refine ⟨?_, ?_⟩
          · rw [← HL.out, dropL, H1.out, H2.out, decide_eq_true hin, ← hdel rfl]; rfl
          · rw [← HE.out, dropE, H1.out, H2.out, if_pos hin]; rfl
        have hlen : Hid (n - 1 = m) := by
          unfold Hid; rw [← Hm.out, ← hres.out.1, List.length_append, List.length_take, List.length_drop, Hn.out]; omega
        clear hmem hdel hin
        have HD := Lib.hid (fun v W => @Delete_any v n w.heap.size lo xs W (by omega) hlt)
        have hwr : IntKind.i64.wrap ((lo : Int) + 1) = (lo : Int) + 1 := IntWalk.i64_in _ (by omega)
        go_enter Try.func26, Try.ntmps26
        go_wp2_with fail
        refine HS.out.mono ?_
        rintro e w1 ⟨rfl, hb1⟩
        go_wp2_with fail
        refine (HR.out _).mono ?_
        rintro e w2 ⟨rfl, rfl⟩
        go_wp2_with fail
        refine (HF.out _ hb1).mono ?_
        rintro e w2 ⟨rfl, hb2⟩
        have hb02 := hb1.trans (hb2.mono hb1.size)
        clear hb1 hb2
        go_wp2_with fail
        refine (HC.out _ hb02).mono ?_
        rintro e w3 ⟨v, rfl, hrow, hv, hb3⟩
        have HD := Lib.hid (HD.out v w3 (own_le hrow hb02.size) hv)
        have hb03 := hb02.trans (hb3.mono hb02.size)
        clear hrow hv hb3 hb02
        go_wp2_with fail
        refine HD.out.mono ?_
        rintro e w4 ⟨v', rfl, hrow, hb4⟩
        have Hrow := Lib.hid hrow
        have hb04 := hb03.trans hb4
        clear hrow
        go_wp2
        go_ret2
        exact RowPost.row hres.out.1 hlen.out hres.out.2 Hrow.out hb04
end Go.Proofs.Ytnanleopoedgfaa
