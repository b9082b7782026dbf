/-
  The reference: Join.
-/
import Derived.Test.YtnanleopoedgfaaRef3
import Derived.Test.YtnanleopoedgfaaJoinM
import Derived.Test.YtnanleopoedgfaaAppS
set_option linter.unusedSimpArgs false
set_option linter.unusedVariables false
namespace Go.Proofs.Ytnanleopoedgfaa
open Go.RowKit
attribute [local go_sem ↓] Go.wp_at_zero Go.wp_at_succ

def byteV (b : UInt8) : Value := .int .u8 b.toNat
theorem byteCells_bs (x : Bs) : byteCells (bs x) = x.map byteV := rfl
theorem refPart_l (l : Bs) (hs : l.length ≤ 100000) {r : Bool} (h : partB l = r) (W : World) :
    Calls Try.prog 57 #[.string (bs l)] W fun e w' => e = .returned (.bool r) ∧ W = w' := by
  have := refPart_any (bs l) W hs
  rw [toList_bs, h] at this
  exact this
theorem below_grows {w w' : World} (h : Below w.heap.size w w') : w.grownBy w' none := ⟨h.os, h.tape, h.output, h.size, fun k hk _ => h.block k hk⟩

theorem info_u8 : (Try.prog.info? 5).map (fun i => (i.zero, i.size, i.bytes)) = some (some (.int .u8 0), 1, 1) := by kernel_rfl

set_option maxRecDepth 100000 in
set_option maxHeartbeats 4000000 in
theorem refJoin_any (a : Option Addr) (n cap : Nat) (xs : List Bs) (w : World) (hn : xs.length = n) (hm : n ≤ 1000) (hp : ∀ p ∈ xs, p.length ≤ 1000) (hc : Cells w a (xs.map strV)) :
    Calls Try.prog 30 #[.slice a n cap] w (JoinPost (joinOk xs) (joinB xs) w) := by
  obtain ⟨i0, hi, hz0, hz1, hz2⟩ := info_parts info_u8
  obtain ⟨R, hR⟩ : ∃ R, joinOk xs = R := ⟨_, rfl⟩
  obtain ⟨J, hJ⟩ : ∃ J, joinB xs = J := ⟨_, rfl⟩
  rw [hR, hJ]
  have HR := Lib.hid hR
  have HJ := Lib.hid hJ
  have Hn := Lib.hid hn
  have Hc := Lib.hid hc
  have Hp := Lib.hid hp
  clear hR hJ hn hc hp
  go_enter Try.func30, Try.ntmps30
  go_wp2
  go_loopw [4, 5] (fun o i wr => ∃ (k : Nat) (L : Bs) (m : Nat), i = .int .i64 k ∧ k ≤ n ∧ m ≤ 65 ∧ Hid (L.length = m) ∧ wr.ownsRow w.heap.size 5 1 o m (L.map byteV) ∧ Hid (L = joinB (xs.take k) ∧ (xs.take k).all partB = true) ∧ Below w.heap.size w wr) (fun _ i _ => n - (intOf i).toNat)
  case atStart => exact ⟨0, [], 0, rfl, Nat.zero_le _, by omega, rfl, World.ownsRow_nil _ _ _ _, ⟨rfl, rfl⟩, Below.refl _ _⟩
  case round =>
    obtain ⟨k, L, m, rfl, hk, hm65, hL, hown, hinv, hb⟩ := hrel
    have hfv : ∃ sa sn sc, u4 = .slice sa sn sc := by
      rcases hown.2 with ⟨rfl, _⟩ | ⟨g, cap, cur, rfl, _⟩
      · exact ⟨_, _, _, rfl⟩
      · exact ⟨_, _, _, rfl⟩
    have hsn : ∃ sa sc, u4 = .slice sa m sc := by
      rcases hown.2 with ⟨rfl, h0⟩ | ⟨g, cap, cur, rfl, _⟩
      · exact ⟨_, _, by rw [h0]⟩
      · exact ⟨_, _, rfl⟩
    clear hfv
    by_cases hlt : k < n
    · obtain ⟨x, hx⟩ : ∃ x, xs[k]? = some x := ⟨_, List.getElem?_eq_getElem (by rw [Hn.out]; exact hlt)⟩
      obtain ⟨b1, off, rfl, hcx⟩ := (Hc.out.below hb).at (k := k) (x := strV x) (by simp [hx])
      rw [strV] at hcx
      have hcw : w.cell? ⟨b1, off + k, none⟩ = some (.string (bs x)) := by
        obtain ⟨b2, off2, hbo, hc2⟩ := Hc.out.at (k := k) (x := strV x) (by simp [hx])
        cases hbo; exact hc2
      have hxl : x.length ≤ 1000 := Hp.out x (List.mem_of_getElem? hx)
      have hxs : (bs x).size ≤ 1000 := hxl
      have hxz : Hid (x.length = (bs x).size) := rfl
      obtain ⟨r, hr⟩ : ∃ r, partB x = r := ⟨_, rfl⟩
      have HP := Lib.hid (fun W => refPart_l x (by omega) hr W)
      have c1 : (0 : Int) ≤ (k : Int) := by omega
      have c2 : (k : Int) < (n : Int) := by omega
      have hno : Hid (r = false ∨ 32 < m ∨ 32 < x.length → false = R) := fun h => by
        rw [← HR.out]
        refine (joinOk_no hx ?_).symm
        rw [← hinv.out.1, hL.out, hr]; exact h
      have hyes : Hid (r = true → (xs.take (k + 1)).all partB = true) := fun h => by
        rw [List.take_add_one, hx]; simp [hinv.out.2, hr, h]
      have hsnoc := Lib.hid (joinB_take hx)
      clear hx hr hxl
      obtain ⟨sa, sc, rfl⟩ := hsn
      cases r with
      | false =>
        have hres := Lib.hid (hno.out (.inl rfl))
        go_wp2_with fail
        refine (HP.out _).mono ?_
        rintro e w1 ⟨rfl, rfl⟩
        go_wp2
        go_ret2
        exact JoinPost.no hres.out hb
      | true =>
        have hall := Lib.hid (hyes.out rfl)
        by_cases hm32 : 32 < m
        · have hres := Lib.hid (hno.out (.inr (.inl hm32)))
          have d1 : decide ((32 : Int) < (m : Int)) = true := by simp; omega
          go_wp2_with fail
          refine (HP.out _).mono ?_
          rintro e w1 ⟨rfl, rfl⟩
          go_wp2
          go_ret2
          exact JoinPost.no hres.out hb
        · have d1 : ¬ ((32 : Int) < (m : Int)) := by omega
          by_cases hx32 : 32 < (bs x).size
          · have hres := Lib.hid (hno.out (.inr (.inr (by rw [hxz.out]; exact hx32))))
            have d2 : decide ((32 : Int) < ((bs x).size : Int)) = true := by simp; omega
            go_wp2_with fail
            refine (HP.out _).mono ?_
            rintro e w1 ⟨rfl, rfl⟩
            go_wp2
            go_ret2
            exact JoinPost.no hres.out hb
          · have d2 : ¬ ((32 : Int) < ((bs x).size : Int)) := by omega
            by_cases hk0 : k = 0
            · have d3 : ¬ ((0 : Int) < (k : Int)) := by omega
              have hL0 : Hid (L = []) := by rw [Hid, hinv.out.1, hk0]; rfl
              have hnew : Hid (joinB (xs.take (k + 1)) = L ++ x) := by
                rw [Hid, hsnoc.out, if_pos hk0, hL0.out]; rfl
              have hkp : ¬ 0 < k := by omega
              clear hk0
              go_wp2_with fail
              refine (HP.out _).mono ?_
              rintro e w1 ⟨rfl, rfl⟩
              go_wp2_with (at_builtin; refine wpList_append_any rfl _ _ 44 9 rfl w.heap.size 5 i0 (.int .u8 0) 1 Try.underlying44 hi hz0 hz1 hz2 rfl (.slice sa m sc) m _ rfl hown (.string (bs x)) (bs x).size (byteCells (bs x)) rfl (Src.ofString _ Try.underlying9 _) (by unfold maxLen; omega) (by omega) (by have := hb.size; omega) ?_; intro v' w2 hown' hgrow; have hb1 := hb.grown hgrow (by have := hb.size; omega) (fun j hj => (hown.lt j hj).1))
              refine ⟨?_, by simp [intOf]; omega⟩
              have e1 : L.map byteV ++ byteCells (bs x) = (L ++ x).map byteV := by rw [byteCells_bs, List.map_append]
              rw [e1] at hown'
              first
                | exact ⟨k + 1, L ++ x, m + (bs x).size, by go_num, by omega, by omega, by rw [Hid, List.length_append, hL.out, hxz.out], hown', ⟨hnew.out.symm, hall.out⟩, hb1⟩
                | ((repeat apply Exists.intro); exact ⟨⟨k + 1, L ++ x, m + (bs x).size, by go_num, by omega, by omega, by rw [Hid, List.length_append, hL.out, hxz.out], hown', ⟨hnew.out.symm, hall.out⟩, hb1⟩, rfl⟩)
            · have d3 : decide ((0 : Int) < (k : Int)) = true := by simp; omega
              have hnew : Hid (joinB (xs.take (k + 1)) = (L ++ [46]) ++ x) := by
                rw [Hid, hsnoc.out, if_neg hk0, hinv.out.1]; simp
              have hkp : 0 < k := by omega
              clear hk0
              go_wp2_with fail
              refine (HP.out _).mono ?_
              rintro e w1 ⟨rfl, rfl⟩
              go_wp2_with (at_builtin; first
                | (refine wpList_append_own _ rfl _ _ 44 rfl w.heap.size 5 i0 (.int .u8 0) 1 1 Try.underlying44 hi hz0 hz1 hz2 rfl (by decide) (.slice sa m sc) m _ rfl (hown.alloc _) ⟨wr.heap.size, 0, none⟩ 1 1 [.int .u8 46] rfl rfl (cell_one_new _ _ _) (by simp [Value.oneCell']) (by unfold maxLen; omega) (by omega) (by have := hb.size; simp; omega) ?_
                   intro v' w2 hown' hgrow _
                   obtain ⟨g', cap', rfl⟩ := ownsRow_succ hown'
                   have hb1 := (hb.alloc hb.size (.cells #[.int .u8 46] 5)).grown hgrow (by have := hb.size; simp; omega) (fun j hj => (hown.lt j hj).1)
                   have hcx1 := cell_later hb1 hcw)
                | (refine wpList_append_any rfl _ _ 44 9 rfl w.heap.size 5 i0 (.int .u8 0) 1 Try.underlying44 hi hz0 hz1 hz2 rfl (.slice (some ⟨g', 0, none⟩) (m + 1) cap') (m + 1) _ rfl hown' (.string (bs x)) (bs x).size (byteCells (bs x)) rfl (Src.ofString _ Try.underlying9 _) (by unfold maxLen; omega) (by omega) (by have := hb1.size; omega) ?_
                   intro v'' w3 hown'' hgrow'
                   have hb2 := hb1.grown hgrow' (by have := hb1.size; omega) (fun j hj => (hown'.lt j hj).1)))
              refine ⟨?_, by simp [intOf]; omega⟩
              have e1 : L.map byteV ++ [Value.int .u8 46] ++ byteCells (bs x) = ((L ++ [46]) ++ x).map byteV := by rw [byteCells_bs, List.map_append, List.map_append]; rfl
              rw [e1] at hown''
              first
                | exact ⟨k + 1, (L ++ [46]) ++ x, m + 1 + (bs x).size, by go_num, by omega, by omega, by rw [Hid, List.length_append, List.length_append, hL.out, hxz.out]; rfl, hown'', ⟨hnew.out.symm, hall.out⟩, hb2⟩
                | ((repeat apply Exists.intro); exact ⟨⟨k + 1, (L ++ [46]) ++ x, m + 1 + (bs x).size, by go_num, by omega, by omega, by rw [Hid, List.length_append, List.length_append, hL.out, hxz.out]; rfl, hown'', ⟨hnew.out.symm, hall.out⟩, hb2⟩, rfl⟩)
    · have hkn : k = n := by omega
      subst hkn
      have htk : Hid (L = J ∧ R = rightB J) := by
        have h1 := hinv.out
        rw [List.take_of_length_le (by rw [Hn.out]; omega)] at h1
        exact ⟨h1.1.trans HJ.out, by rw [← HR.out, joinOk_all h1.2, HJ.out]⟩
      obtain ⟨sa, sc, rfl⟩ := hsn
      have Hown := Lib.hid hown
      have HO := fun (w' : World) (h : Below wr.heap.size wr w') => run_own_string (P := Try.prog) w' w.heap.size 44 9 5 (.slice sa m sc) L Try.underlying44 Try.underlying5 Try.underlying9 (by rw [hL.out]; exact Hown.out.kept (below_grows h) (Classical.em _))
      have hLm : L.length ≤ 100000 := by rw [hL.out]; omega
      obtain ⟨r, hr⟩ : ∃ r, rightB L = r := ⟨_, rfl⟩
      have HRt := Lib.hid (refRight_r L hLm hr)
      have hrR : Hid (r = R) := by rw [Hid, htk.out.2, ← htk.out.1, hr]
      have HO' := Lib.hid HO
      have kc := HO wr (Below.refl _ _)
      clear hr hown HO
      cases r with
      | false =>
        go_wp2_with fail
        refine (HRt.out _).mono ?_
        rintro e w2 ⟨rfl, hb2⟩
        go_wp2
        go_ret2
        exact JoinPost.no hrR.out (hb.trans (hb2.mono hb.size))
      | true =>
        go_wp2_with fail
        refine (HRt.out _).mono ?_
        rintro e w2 ⟨rfl, hb2⟩
        have kc2 := HO'.out w2 hb2
        go_wp2
        go_ret2
        rw [htk.out.1]
        exact JoinPost.yes hrR.out (hb.trans (hb2.mono hb.size))
end Go.Proofs.Ytnanleopoedgfaa
