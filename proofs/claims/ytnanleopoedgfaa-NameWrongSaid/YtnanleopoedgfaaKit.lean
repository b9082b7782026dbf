/-
  The statements' helpers on lists of strings: CopyTexts, SameTexts, few.
-/
import Derived.Test.YtnanleopoedgfaaApp
import Derived.Deep.QuietTactic
import Derived.BigQuiet
set_option linter.unusedSimpArgs false
set_option linter.unusedVariables false
namespace Go.Proofs.Ytnanleopoedgfaa
open Go.RowKit

set_option maxRecDepth 100000 in
set_option maxHeartbeats 2000000 in
theorem CopyTexts_any (a : Option Addr) (n cap : Nat) (xs : List Bs) (w : World) (hn : xs.length = n) (hm : n ≤ 1000000) (hc : Cells w a (xs.map strV)) :
    Calls Try.prog 21 #[.slice a n cap] w fun e w' => ∃ v, e = .returned v ∧ w'.ownsRow w.heap.size 9 1 v n (xs.map strV) ∧ Below w.heap.size w w' := by
  obtain ⟨i0, hi, hz0, hz1, hz2⟩ := info_parts info_str
  have Hn := Lib.hid hn
  have Hc := Lib.hid hc
  clear hn hc
  go_enter Try.func21, Try.ntmps21
  go_wp2_with (at_builtin; refine wpList_append_src rfl _ _ 22 rfl w.heap.size 9 i0 (.string ⟨#[]⟩) 16 Try.underlying22 hi hz0 hz1 hz2 rfl (.slice none 0 0) 0 [] rfl (World.ownsRow_nil _ _ _ _) a n cap (xs.map strV) rfl (by rw [List.length_map]; exact Hn.out) Hc.out (by intro u hu; obtain ⟨x, _, rfl⟩ := List.mem_map.1 hu; rfl) (by unfold maxLen; omega) (by omega) (Nat.le_refl _) ?_; intro v' w1 hown' hgrow; simp only [Nat.zero_add, List.nil_append] at hown')
  go_ret
  exact ⟨_, rfl, hown', (Below.refl _ _).grown hgrow (Nat.le_refl _) (fun k hk => by cases hk)⟩

set_option maxRecDepth 100000 in
set_option maxHeartbeats 2000000 in
theorem SameTexts_any (a a' : Option Addr) (n n' cap cap' : Nat) (xs ys : List Bs) (w : World) (hn : xs.length = n) (hn' : ys.length = n') (hm : n ≤ 1000000) (hm' : n' ≤ 1000000)
    (hc : Cells w a (xs.map strV)) (hc' : Cells w a' (ys.map strV)) :
    Calls Try.prog 22 #[.slice a n cap, .slice a' n' cap'] w fun e w' => e = .returned (.bool (decide (xs = ys))) ∧ Below w.heap.size w w' := by
  obtain ⟨R, hR⟩ : ∃ R, decide (xs = ys) = R := ⟨_, rfl⟩
  rw [hR]
  have HR := Lib.hid hR
  have Hn := Lib.hid hn
  have Hn' := Lib.hid hn'
  have Hc := Lib.hid hc
  have Hc' := Lib.hid hc'
  clear hR hn hn' hc hc'
  by_cases hnn : n = n'
  · subst hnn
    have d0 : ((n : Int) != (n : Int)) = false := by simp
    go_enter Try.func22, Try.ntmps22
    go_wp2
    clear d0
    go_loopw [5] (fun i wr => ∃ k : Nat, k ≤ n ∧ i = .int .i64 k ∧ Hid (xs.take k = ys.take k) ∧ Below w.heap.size w wr) (fun i _ => n - (intOf i).toNat)
    case atStart => exact ⟨0, Nat.zero_le _, rfl, rfl, Below.refl _ _⟩
    case round =>
      obtain ⟨k, hk, rfl, hpre, hb⟩ := hrel
      by_cases hlt : k < n
      · have h1 : k < xs.length := by rw [Hn.out]; exact hlt
        have h2 : k < ys.length := by rw [Hn'.out]; exact hlt
        obtain ⟨x, hx⟩ : ∃ x, xs[k]? = some x := ⟨_, List.getElem?_eq_getElem h1⟩
        obtain ⟨y, hy⟩ : ∃ y, ys[k]? = some y := ⟨_, List.getElem?_eq_getElem h2⟩
        obtain ⟨b, off, rfl, hcx⟩ := (Hc.out.below hb).at (k := k) (x := strV x) (by simp [hx])
        obtain ⟨b', off', rfl, hcy⟩ := (Hc'.out.below hb).at (k := k) (x := strV y) (by simp [hy])
        rw [strV] at hcx hcy
        have hx' := Lib.hid hx
        have hy' := Lib.hid hy
        clear hx hy h1 h2
        have c1 : (0 : Int) ≤ (k : Int) := by omega
        have c2 : (k : Int) < (n : Int) := by omega
        by_cases hxy : x = y
        · subst hxy
          have d1 : ((bs x).toList == (bs x).toList) = true := by simp
          go_wp2
          go_quiet (fail)
          go_wp2
          refine ⟨⟨k + 1, by omega, by go_num, by unfold Hid; rw [List.take_add_one, List.take_add_one, hpre.out, hx'.out, hy'.out], by first | exact hb | exact ⟨hb.os, hb.tape, hb.output, hb.size, hb.block⟩⟩, ?_⟩
          simp [intOf]; omega
        · have d1 : ((bs x).toList == (bs y).toList) = false := by
            rw [toList_eq, toList_eq, toList_bs, toList_bs]; simpa using hxy
          have hres : Hid (false = R) := by
            unfold Hid; rw [← HR.out]
            refine (decide_eq_false (fun h => hxy ?_)).symm
            have := hx'.out; rw [h, hy'.out] at this; exact (Option.some.inj this).symm
          clear hxy
          go_wp2
          go_quiet (fail)
          go_wp2
          go_ret
          exact ⟨ret_bool hres.out, by first | exact hb | exact ⟨hb.os, hb.tape, hb.output, hb.size, hb.block⟩⟩
      · have hres : Hid (true = R) := by
          unfold Hid; rw [← HR.out]
          refine (decide_eq_true ?_).symm
          have := hpre.out
          rwa [List.take_of_length_le (by rw [Hn.out]; omega), List.take_of_length_le (by rw [Hn'.out]; omega)] at this
        go_wp2
        go_ret
        exact ⟨ret_bool hres.out, hb⟩
  · have hres : Hid (false = R) := by
      unfold Hid; rw [← HR.out]
      refine (decide_eq_false (fun h => hnn ?_)).symm
      rw [← Hn.out, ← Hn'.out, h]
    have d0 : ((n : Int) != (n' : Int)) = true := by simp; omega
    clear hnn
    go_enter Try.func22, Try.ntmps22
    go_wp2
    go_ret
    exact ⟨ret_bool hres.out, Below.refl _ _⟩

set_option maxRecDepth 100000 in
set_option maxHeartbeats 2000000 in
theorem few_any (a : Option Addr) (n cap : Nat) (xs : List ByteArray) (w : World) (hn : xs.length = n) (hm : n ≤ maxLen) (hs : ∀ x ∈ xs, x.size ≤ maxLen) (hc : Cells w a (xs.map Value.string)) :
    Calls Try.prog 28 #[.slice a n cap] w fun e w' => e = .returned (.bool (decide (xs.length ≤ 300) && xs.all fun x => decide (x.size ≤ 200))) ∧ w = w' := by
  unfold maxLen at hm
  obtain ⟨R, hR⟩ : ∃ R, (decide (xs.length ≤ 300) && xs.all fun x => decide (x.size ≤ 200)) = R := ⟨_, rfl⟩
  rw [hR]
  have HR := Lib.hid hR
  have Hn := Lib.hid hn
  have Hc := Lib.hid hc
  have Hs := Lib.hid hs
  clear hR hn hc hs
  go_enter Try.func28, Try.ntmps28
  go_wp2
  go_loop [7] (fun i => ∃ k : Nat, k ≤ n ∧ i = .int .i64 k ∧ Hid ((xs.take k).all (fun x => decide (x.size ≤ 200)) = true)) (fun i => n - (intOf i).toNat)
  case atStart => exact ⟨0, Nat.zero_le _, rfl, rfl⟩
  case round =>
    obtain ⟨k, hk, rfl, hpre⟩ := hrel
    by_cases hlt : k < n
    · have h1 : k < xs.length := by rw [Hn.out]; exact hlt
      obtain ⟨x, hx⟩ : ∃ x, xs[k]? = some x := ⟨_, List.getElem?_eq_getElem h1⟩
      obtain ⟨b, off, rfl, hcx⟩ := Hc.out.at (k := k) (x := .string x) (by simp [hx])
      have hxs : x.size ≤ maxLen := Hs.out x (List.mem_of_getElem? hx)
      unfold maxLen at hxs
      have hx' := Lib.hid hx
      clear hx h1
      by_cases h200 : x.size ≤ 200
      · go_wp2
        go_round
        case rel => exact ⟨k + 1, by omega, by go_num, by unfold Hid; rw [List.take_add_one, hx'.out]; simp [hpre.out, h200]⟩
        case measure => simp [intOf]; omega
      · have hres : Hid (false = R) := by
          unfold Hid; rw [← HR.out]
          have : (xs.all fun x => decide (x.size ≤ 200)) = false := by
            rw [Bool.eq_false_iff]; intro h
            have := List.all_eq_true.1 h x (List.mem_of_getElem? hx'.out)
            simp at this; omega
          rw [this]; simp
        go_wp2
        go_ret
        exact ⟨ret_bool hres.out, rfl⟩
    · have hres : Hid (decide ((n : Int) ≤ 300) = R) := by
        unfold Hid; rw [← HR.out]
        have := hpre.out
        rw [List.take_of_length_le (by rw [Hn.out]; omega)] at this
        rw [this, Hn.out, Bool.and_true]
        exact decide_eq_decide.2 (by omega)
      go_wp2
      go_ret
      exact ⟨ret_bool hres.out, rfl⟩
end Go.Proofs.Ytnanleopoedgfaa
