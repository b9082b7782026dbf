/-
  The reference: Part, cut, Right.
-/
import Derived.Test.YtnanleopoedgfaaRefM
set_option linter.unusedSimpArgs false
set_option linter.unusedVariables false
namespace Go.Proofs.Ytnanleopoedgfaa
open Go.RowKit
attribute [local go_sem ↓] Go.wp_at_zero Go.wp_at_succ

set_option maxRecDepth 100000 in
set_option maxHeartbeats 4000000 in
theorem refPart_any (s : ByteArray) (w : World) (hs : s.size ≤ 100000) :
    Calls Try.prog 57 #[.string s] w fun e w' => e = .returned (.bool (partB s.data.toList)) ∧ w = w' := by
  obtain ⟨R, hR⟩ : ∃ R, partB s.data.toList = R := ⟨_, rfl⟩
  rw [hR]
  have HR := Lib.hid hR
  have hlen : s.data.toList.length = s.size := by simp
  have Hlen := Lib.hid hlen
  clear hR hlen
  go_enter Try.func57, Try.ntmps57
  go_wp2
  go_loop [3] (fun i => ∃ k : Nat, k ≤ s.size ∧ i = .int .i64 k ∧ Hid ((List.range k).all (pcOk s.data.toList) = true)) (fun i => s.size - (intOf i).toNat)
  case atStart => exact ⟨0, Nat.zero_le _, rfl, rfl⟩
  case round =>
    obtain ⟨k, hk, rfl, hpre⟩ := hrel
    by_cases hlt : k < s.size
    · have hb := UInt8.toNat_lt s[k]
      have hx : Hid (s.data.toList.getD k 0 = s[k]) := by
        unfold Hid; rw [List.getD_eq_getElem?_getD, List.getElem?_eq_getElem (by rw [Hlen.out]; exact hlt)]; rfl
      have hgood : Hid (pcOk s.data.toList k = true → (List.range (k + 1)).all (pcOk s.data.toList) = true) := fun h => by
        rw [List.range_succ, List.all_append, hpre.out]; simp [h]
      have hbad : Hid (pcOk s.data.toList k = false → false = R) := fun h => by
        rw [← HR.out]
        have : (List.range s.data.toList.length).all (pcOk s.data.toList) = false := by
          rw [Bool.eq_false_iff]; intro h2
          have := List.all_eq_true.1 h2 k (List.mem_range.2 (by rw [Hlen.out]; exact hlt))
          rw [h] at this; cases this
        rw [partB, this]; rfl
      have hpc : Hid (pcOk s.data.toList k = (!(decide (s[k].toNat = 45) && (decide (k = 0) || decide (k + 1 = s.size))) && (decide (s[k].toNat = 45) || okc s[k]))) := by
        unfold Hid pcOk; rw [hx.out, Hlen.out]
      have hok : Hid (okc s[k] = true ↔ (97 ≤ s[k].toNat ∧ s[k].toNat ≤ 122) ∨ (48 ≤ s[k].toNat ∧ s[k].toNat ≤ 57)) := okc_iff _
      clear hx
      by_cases h45 : s[k].toNat = 45
      · have t1 : ((s[k].toNat : Int) == 45) = true := by simp [h45]
        have t1n : ((s[k].toNat : Int) != 45) = false := by simp [h45]
        by_cases h0 : k = 0
        · have hbd : Hid (false = R) := hbad.out (by rw [hpc.out, decide_eq_true h45, decide_eq_true h0]; rfl)
          have t2 : ((k : Int) == 0) = true := by simp [h0]
          clear h45 h0
          go_wp2
          go_ret
          exact ⟨ret_bool hbd.out, rfl⟩
        · have t2 : ((k : Int) == 0) = false := by simp [h0]
          by_cases hl : k + 1 = s.size
          · have hbd : Hid (false = R) := hbad.out (by rw [hpc.out, decide_eq_true h45, decide_eq_false h0, decide_eq_true hl]; rfl)
            have t3 : ((k : Int) == (s.size : Int) - 1) = true := by simp; omega
            clear h45 h0 hl
            go_wp2
            go_ret
            exact ⟨ret_bool hbd.out, rfl⟩
          · have hgd := Lib.hid (hgood.out (by rw [hpc.out, decide_eq_true h45, decide_eq_false h0, decide_eq_false hl]; rfl))
            have t3 : ((k : Int) == (s.size : Int) - 1) = false := by simp; omega
            clear h45 h0 hl
            go_wp2
            go_round
            case rel => exact ⟨k + 1, by omega, by go_num, hgd.out⟩
            case measure => simp [intOf]; omega
      · have t1 : ((s[k].toNat : Int) == 45) = false := by simp; omega
        have t1n : ((s[k].toNat : Int) != 45) = true := by simp; omega
        by_cases hc : okc s[k] = true
        · have hgd := Lib.hid (hgood.out (by rw [hpc.out, decide_eq_false h45, hc]; rfl))
          have hcc := hok.out.1 hc
          clear hc hok
          rcases hcc with ⟨g1, g2⟩ | ⟨g1, g2⟩
          · have g3 : 57 < s[k].toNat := by omega
            clear h45
            go_wp2
            go_round
            case rel => exact ⟨k + 1, by omega, by go_num, hgd.out⟩
            case measure => simp [intOf]; omega
          · clear h45
            go_wp2
            go_round
            case rel => exact ⟨k + 1, by omega, by go_num, hgd.out⟩
            case measure => simp [intOf]; omega
        · have hbd : Hid (false = R) := hbad.out (by rw [hpc.out, decide_eq_false h45, Bool.eq_false_iff.2 hc]; rfl)
          have hcc := fun h => hc (hok.out.2 h)
          clear hc hok
          rcases Nat.lt_or_ge s[k].toNat 48 with g1 | g1
          · have g2 : s[k].toNat < 97 := by omega
            clear h45 hcc
            go_wp2
            go_ret
            exact ⟨ret_bool hbd.out, rfl⟩
          · have g0 : 57 < s[k].toNat := by
              rcases Nat.lt_or_ge 57 s[k].toNat with h | h
              · exact h
              · exact absurd (Or.inr ⟨g1, h⟩) hcc
            rcases Nat.lt_or_ge s[k].toNat 97 with g2 | g2
            · clear h45 hcc
              go_wp2
              go_ret
              exact ⟨ret_bool hbd.out, rfl⟩
            · have g3 : 122 < s[k].toNat := by
                rcases Nat.lt_or_ge 122 s[k].toNat with h | h
                · exact h
                · exact absurd (Or.inl ⟨g2, h⟩) hcc
              clear h45 hcc
              go_wp2
              go_ret
              exact ⟨ret_bool hbd.out, rfl⟩
    · have hkk : k = s.size := by omega
      have hres : Hid (decide (0 < s.size) = R) := by
        unfold Hid; rw [← HR.out, partB, Hlen.out]
        have := hpre.out
        rw [hkk] at this
        rw [this, Bool.true_and]
      clear hkk
      go_wp2
      go_ret
      exact ⟨ret_bool hres.out, rfl⟩

theorem extract_bs (l : Bs) (a b : Nat) (hb : b ≤ l.length) : (bs l).extract a b = bs ((l.drop a).take (b - a)) := by
  apply ByteArray.ext; apply Array.ext'; simp [bs]

set_option maxRecDepth 100000 in
set_option maxHeartbeats 4000000 in
theorem refCut_any (l : Bs) (w : World) (hs : l.length ≤ 100000) :
    Calls Try.prog 56 #[.string (bs l)] w fun e w' => ∃ v, e = .returned v ∧ w'.ownsRow w.heap.size 9 1 v (cut l).length ((cut l).map strV) ∧ Below w.heap.size w w' := by
  obtain ⟨i0, hi, hz0, hz1, hz2⟩ := info_parts info_str
  have hsz : (bs l).size = l.length := rfl
  have hsz' := Lib.hid hsz
  have hs' : (bs l).size ≤ 100000 := hs
  clear hsz
  go_enter Try.func56, Try.ntmps56
  go_wp2
  go_loopw [3, 4, 5] (fun o f i wr => ∃ (from_ k : Nat) (done : List Bs) (n : Nat), f = .int .i64 from_ ∧ i = .int .i64 k ∧ from_ ≤ k ∧ k ≤ (bs l).size + 1 ∧ n ≤ from_ ∧ (k = (bs l).size + 1 → from_ = k) ∧
      Hid (done.length = n) ∧ wr.ownsRow w.heap.size 9 1 o n (done.map strV) ∧
      Hid ((k ≤ l.length → done ++ cut (l.drop from_) = cut l ∧ ∀ c ∈ (l.drop from_).take (k - from_), c ≠ 46) ∧ (k = l.length + 1 → done = cut l)) ∧ Below w.heap.size w wr) (fun _ _ i _ => (bs l).size + 1 - (intOf i).toNat)
  case atStart => exact ⟨0, 0, [], 0, rfl, rfl, Nat.le_refl _, by omega, Nat.le_refl _, (fun h => by omega), rfl, World.ownsRow_nil _ _ _ _, ⟨fun _ => ⟨rfl, by simp⟩, fun h => by omega⟩, Below.refl _ _⟩
  case round =>
    obtain ⟨from_, k, done, n, rfl, rfl, h1, h2, h3, h4, hdone, hown, hinv, hb⟩ := hrel
    by_cases hlt : k ≤ (bs l).size
    · have hfv : ∃ sa sn sc, u3 = .slice sa sn sc := by
        rcases hown.2 with ⟨rfl, _⟩ | ⟨g, cap, cur, rfl, _⟩
        · exact ⟨_, _, _, rfl⟩
        · exact ⟨_, _, _, rfl⟩
      have c0 : (0 : Int) ≤ (from_ : Int) := by omega
      have c1 : (from_ : Int) ≤ (k : Int) := by omega
      have c2 : (k : Int) ≤ ((bs l).size : Int) := by omega
      by_cases hend : k = (bs l).size
      · have hkl : Hid (k = l.length) := by rw [Hid, ← hsz'.out]; exact hend
        have t1 : ((k : Int) == ((bs l).size : Int)) = true := by simp; omega
        have hfin : Hid ((k + 1 ≤ l.length → done ++ [(l.drop from_).take (k - from_)] ++ cut (l.drop (k + 1)) = cut l ∧ ∀ c ∈ (l.drop (k + 1)).take (k + 1 - (k + 1)), c ≠ 46) ∧ (k + 1 = l.length + 1 → done ++ [(l.drop from_).take (k - from_)] = cut l)) := by
          refine ⟨fun h => by have := hkl.out; omega, fun _ => ?_⟩
          obtain ⟨i1, i2⟩ := hinv.out.1 (by have := hkl.out; omega)
          have e : (l.drop from_).take (k - from_) = l.drop from_ := List.take_of_length_le (by rw [List.length_drop]; have := hkl.out; omega)
          rw [e] at i2 ⊢
          rw [← i1, cut_free' _ i2]
        clear hend
        go_wp2_with (at_builtin; refine wpList_append_own _ rfl _ _ 22 rfl w.heap.size 9 i0 (.string ⟨#[]⟩) 1 16 Try.underlying22 hi hz0 hz1 hz2 rfl (by decide) u3 n _ rfl (hown.alloc _) ⟨wr.heap.size, 0, none⟩ 1 1 [.string ((bs l).extract from_ k)] rfl rfl (cell_one_new _ _ _) (by simp [Value.oneCell']) (by unfold maxLen; omega) (by omega) (by have := hb.size; simp; omega) ?_; intro v' w1 hown' hgrow _; obtain ⟨g', cap', rfl⟩ := ownsRow_succ hown'; have hb1 := (hb.alloc hb.size (.cells #[.string ((bs l).extract from_ k)] 9)).grown hgrow (by have := hb.size; simp; omega) (fun j hj => (hown.lt j hj).1))
        refine ⟨?_, by simp [intOf]; omega⟩
        have e1 : (done.map strV ++ [Value.string ((bs l).extract from_ k)]) = ((done ++ [(l.drop from_).take (k - from_)]).map strV) := by
          rw [extract_bs l from_ k (by rw [← hsz'.out]; omega)]; simp [strV]
        rw [e1] at hown'
        first
          | exact ⟨k + 1, k + 1, done ++ [(l.drop from_).take (k - from_)], n + 1, by go_num, by go_num, Nat.le_refl _, by omega, by omega, (fun _ => rfl), by simp [Hid, hdone.out], hown', hfin.out, hb1⟩
          | ((repeat apply Exists.intro); exact ⟨⟨k + 1, k + 1, done ++ [(l.drop from_).take (k - from_)], n + 1, by go_num, by go_num, Nat.le_refl _, by omega, by omega, (fun _ => rfl), by simp [Hid, hdone.out], hown', hfin.out, hb1⟩, rfl⟩)
      · have hlt' : k < (bs l).size := by omega
        have hb8 := UInt8.toNat_lt (bs l)[k]
        have hxe : Hid ((bs l)[k] = l[k]'(by rw [← hsz'.out]; exact hlt')) := rfl
        have t1 : ((k : Int) == ((bs l).size : Int)) = false := by simp; omega
        by_cases h46 : (bs l)[k].toNat = 46
        · have t2 : (((bs l)[k].toNat : Int) == 46) = true := by simp [h46]
          have hfin : Hid ((k + 1 ≤ l.length → done ++ [(l.drop from_).take (k - from_)] ++ cut (l.drop (k + 1)) = cut l ∧ ∀ c ∈ (l.drop (k + 1)).take (k + 1 - (k + 1)), c ≠ 46) ∧ (k + 1 = l.length + 1 → done ++ [(l.drop from_).take (k - from_)] = cut l)) := by
            have hkl : k < l.length := by rw [← hsz'.out]; exact hlt'
            refine ⟨fun _ => ⟨?_, by simp⟩, fun h => by omega⟩
            obtain ⟨i1, i2⟩ := hinv.out.1 (by omega)
            have e : l.drop from_ = (l.drop from_).take (k - from_) ++ 46 :: l.drop (k + 1) := by
              have e46 : l[k] = 46 := UInt8.toNat_inj.1 h46
              have e2 : (l.drop from_).drop (k - from_) = 46 :: l.drop (k + 1) := by
                rw [List.drop_drop, show from_ + (k - from_) = k from by omega, List.drop_eq_getElem_cons hkl, e46]
              rw [← e2, List.take_append_drop]
            rw [← i1, List.append_assoc]
            congr 1
            rw [congrArg cut e, cut_dot, cut_free' _ i2]
          clear h46 hend
          go_wp2_with (at_builtin; refine wpList_append_own _ rfl _ _ 22 rfl w.heap.size 9 i0 (.string ⟨#[]⟩) 1 16 Try.underlying22 hi hz0 hz1 hz2 rfl (by decide) u3 n _ rfl (hown.alloc _) ⟨wr.heap.size, 0, none⟩ 1 1 [.string ((bs l).extract from_ k)] rfl rfl (cell_one_new _ _ _) (by simp [Value.oneCell']) (by unfold maxLen; omega) (by omega) (by have := hb.size; simp; omega) ?_; intro v' w1 hown' hgrow _; obtain ⟨g', cap', rfl⟩ := ownsRow_succ hown'; have hb1 := (hb.alloc hb.size (.cells #[.string ((bs l).extract from_ k)] 9)).grown hgrow (by have := hb.size; simp; omega) (fun j hj => (hown.lt j hj).1))
          refine ⟨?_, by simp [intOf]; omega⟩
          have e1 : (done.map strV ++ [Value.string ((bs l).extract from_ k)]) = ((done ++ [(l.drop from_).take (k - from_)]).map strV) := by
            rw [extract_bs l from_ k (by rw [← hsz'.out]; omega)]; simp [strV]
          rw [e1] at hown'
          first
            | exact ⟨k + 1, k + 1, done ++ [(l.drop from_).take (k - from_)], n + 1, by go_num, by go_num, Nat.le_refl _, by omega, by omega, (fun _ => rfl), by simp [Hid, hdone.out], hown', hfin.out, hb1⟩
            | ((repeat apply Exists.intro); exact ⟨⟨k + 1, k + 1, done ++ [(l.drop from_).take (k - from_)], n + 1, by go_num, by go_num, Nat.le_refl _, by omega, by omega, (fun _ => rfl), by simp [Hid, hdone.out], hown', hfin.out, hb1⟩, rfl⟩)
        · have t2 : (((bs l)[k].toNat : Int) == 46) = false := by simp; omega
          have hfin : Hid ((k + 1 ≤ l.length → done ++ cut (l.drop from_) = cut l ∧ ∀ c ∈ (l.drop from_).take (k + 1 - from_), c ≠ 46) ∧ (k + 1 = l.length + 1 → done = cut l)) := by
            have hkl : k < l.length := by rw [← hsz'.out]; exact hlt'
            obtain ⟨i1, i2⟩ := hinv.out.1 (by omega)
            refine ⟨fun _ => ⟨i1, fun c hc => ?_⟩, fun h => by omega⟩
            rw [show k + 1 - from_ = (k - from_) + 1 from by omega, List.take_add_one, List.getElem?_drop, show from_ + (k - from_) = k from by omega, List.getElem?_eq_getElem hkl] at hc
            rcases List.mem_append.1 hc with h | h
            · exact i2 c h
            · simp at h; subst h; exact fun e => h46 (by rw [hxe.out, e]; rfl)
          clear h46 hend
          go_wp2
          refine ⟨?_, by simp [intOf]; omega⟩
          first
            | exact ⟨from_, k + 1, done, n, rfl, by go_num, by omega, by omega, h3, (fun h => by omega), hdone, hown, hfin.out, hb⟩
            | ((repeat apply Exists.intro); exact ⟨⟨from_, k + 1, done, n, rfl, by go_num, by omega, by omega, h3, (fun h => by omega), hdone, hown, hfin.out, hb⟩, rfl⟩)
    · have hk2 : k = (bs l).size + 1 := by omega
      have hfin := hinv.out.2 (by rw [← hsz'.out]; exact hk2)
      have hd := hdone.out
      rw [hfin] at hown hd
      rw [← hd] at hown
      have hfv : ∃ sa sn sc, u3 = .slice sa sn sc := by
        rcases hown.2 with ⟨rfl, _⟩ | ⟨g, cap, cur, rfl, _⟩
        · exact ⟨_, _, _, rfl⟩
        · exact ⟨_, _, _, rfl⟩
      obtain ⟨sa, sn, sc, rfl⟩ := hfv
      have Hown := Lib.hid hown
      clear hown hinv hdone hfin hd h4 hk2
      go_wp2
      go_ret
      exact ⟨_, rfl, Hown.out, hb⟩

set_option maxRecDepth 100000 in
set_option maxHeartbeats 4000000 in
theorem refRight_any (l : Bs) (w : World) (hs : l.length ≤ 100000) :
    Calls Try.prog 32 #[.string (bs l)] w fun e w' => e = .returned (.bool (rightB l)) ∧ Below w.heap.size w w' := by
  have hsz' : Hid ((bs l).size = l.length) := rfl
  have hs' : (bs l).size ≤ 100000 := hs
  have hr := rightB_cut l
  obtain ⟨R, hR⟩ : ∃ R, rightB l = R := ⟨_, rfl⟩
  rw [hR] at hr ⊢
  have HR := Lib.hid hr
  clear hr hR
  by_cases h1 : 1 ≤ (bs l).size
  · have hhead : headOk l = (decide (97 ≤ (bs l)[0].toNat) && decide ((bs l)[0].toNat ≤ 122)) := by
      cases l with
      | nil => have : (bs []).size = 0 := rfl; omega
      | cons c r => rfl
    have Hhead := Lib.hid hhead
    clear hhead
    by_cases h2 : (bs l).size ≤ 32
    · by_cases h3 : 97 ≤ (bs l)[0].toNat
      · by_cases h4 : (bs l)[0].toNat ≤ 122
        · have hR : Hid ((cut l).all partB = R) := by
            unfold Hid
            rw [HR.out, Hhead.out, decide_eq_true h3, decide_eq_true h4, decide_eq_true (by rw [← hsz'.out]; exact h2)]; rfl
          have d0 : ((((bs l).size : Nat) : Int) == 0) = false := beq_eq_false_iff_ne.2 (by omega)
          have HC := Lib.hid (refCut_any l)
          have hcl := cut_length l
          have hpl := cut_head_len l
          obtain ⟨xs, hxs⟩ : ∃ xs, cut l = xs := ⟨_, rfl⟩
          rw [hxs] at HC hcl hpl hR
          have Hpl := Lib.hid hpl
          obtain ⟨n, hn⟩ : ∃ n, xs.length = n := ⟨_, rfl⟩
          rw [hn] at HC
          have hnb : n ≤ 100 := by have := hsz'.out; omega
          have Hn := Lib.hid hn
          clear hxs hcl hpl hn HR
          go_enter Try.func32, Try.ntmps32
          go_wp2_with fail
          refine (HC.out _ hs).mono ?_
          rintro e w1 ⟨v, rfl, hrow, hb1⟩
          obtain ⟨A, cap, rfl, hcap, _, _, hcells, _, hA⟩ := ownsRow_cells hrow
          have Hc := Lib.hid hcells
          clear hrow hcells hA HC
          go_wp2
          go_loop [4] (fun i => ∃ k : Nat, k ≤ n ∧ i = .int .i64 k ∧ Hid ((xs.take k).all partB = true)) (fun i => n - (intOf i).toNat)
          case atStart => exact ⟨0, Nat.zero_le _, rfl, rfl⟩
          case round =>
            obtain ⟨k, hk, rfl, hpre⟩ := hrel
            by_cases hlt : k < n
            · have h1k : k < xs.length := by rw [Hn.out]; exact hlt
              obtain ⟨x, hx⟩ : ∃ x, xs[k]? = some x := ⟨_, List.getElem?_eq_getElem h1k⟩
              obtain ⟨b, off, rfl, hcx⟩ := Hc.out.at (k := k) (x := strV x) (by simp [hx])
              rw [strV] at hcx
              have hxl : (bs x).size ≤ 100000 := by
                have := Hpl.out x (List.mem_of_getElem? hx)
                rw [size_bs]; omega
              have HP := refPart_any (bs x) w1 hxl
              rw [toList_bs] at HP
              have hstep : Hid (partB x = true → (xs.take (k + 1)).all partB = true) := fun h => by
                rw [List.take_add_one, hx]; simp [hpre.out, h]
              have hbad : Hid (partB x = false → false = R) := fun h => by
                rw [← hR.out]
                have : xs.all partB = false := by
                  rw [Bool.eq_false_iff]; intro h2
                  have := List.all_eq_true.1 h2 x (List.mem_of_getElem? hx)
                  rw [h] at this; cases this
                rw [this]
              obtain ⟨r, hr⟩ : ∃ r, partB x = r := ⟨_, rfl⟩
              rw [hr] at HP hstep hbad
              have HP' := Lib.hid HP
              clear HP hr hx h1k
              cases r with
              | true =>
                have hgd := Lib.hid (hstep.out (by trivial))
                go_wp2_with fail
                refine HP'.out.mono ?_
                rintro e w2 ⟨rfl, rfl⟩
                go_wp2
                go_round
                case rel => exact ⟨k + 1, by omega, by go_num, hgd.out⟩
                case measure => simp [intOf]; omega
              | false =>
                have hbd : Hid (false = R) := hbad.out (by trivial)
                go_wp2_with fail
                refine HP'.out.mono ?_
                rintro e w2 ⟨rfl, rfl⟩
                go_wp2
                go_ret
                exact ⟨ret_bool hbd.out, hb1⟩
            · have hres : Hid (true = R) := by
                unfold Hid; rw [← hR.out]
                have := hpre.out
                rw [List.take_of_length_le (by rw [Hn.out]; omega)] at this
                rw [this]
              go_wp2
              go_ret
              exact ⟨ret_bool hres.out, hb1⟩
        · have hR : Hid (false = R) := by
            unfold Hid; rw [HR.out, Hhead.out, decide_eq_false h4]; simp
          have d0 : ((((bs l).size : Nat) : Int) == 0) = false := beq_eq_false_iff_ne.2 (by omega)
          have d4 : 122 < (bs l)[0].toNat := by omega
          clear h4
          go_enter Try.func32, Try.ntmps32
          go_wp2
          go_ret
          exact ⟨ret_bool hR.out, Below.refl _ _⟩
      · have hR : Hid (false = R) := by
          unfold Hid; rw [HR.out, Hhead.out, decide_eq_false h3]; simp
        have d0 : ((((bs l).size : Nat) : Int) == 0) = false := beq_eq_false_iff_ne.2 (by omega)
        have d3 : (bs l)[0].toNat < 97 := by omega
        clear h3
        go_enter Try.func32, Try.ntmps32
        go_wp2
        go_ret
        exact ⟨ret_bool hR.out, Below.refl _ _⟩
    · have hR : Hid (false = R) := by
        unfold Hid; rw [HR.out, decide_eq_false (by rw [← hsz'.out]; exact h2)]; rfl
      have d0 : ((((bs l).size : Nat) : Int) == 0) = false := beq_eq_false_iff_ne.2 (by omega)
      have d2 : 32 < (bs l).size := by omega
      clear h2
      go_enter Try.func32, Try.ntmps32
      go_wp2
      go_ret
      exact ⟨ret_bool hR.out, Below.refl _ _⟩
  · have hR : Hid (false = R) := by
      unfold Hid; rw [HR.out]
      have : l = [] := List.length_eq_zero_iff.1 (by rw [← hsz'.out]; omega)
      rw [this]; rfl
    have d0 : ((((bs l).size : Nat) : Int) == 0) = true := beq_iff_eq.2 (by omega)
    clear h1
    go_enter Try.func32, Try.ntmps32
    go_wp2
    go_ret
    exact ⟨ret_bool hR.out, Below.refl _ _⟩
end Go.Proofs.Ytnanleopoedgfaa
