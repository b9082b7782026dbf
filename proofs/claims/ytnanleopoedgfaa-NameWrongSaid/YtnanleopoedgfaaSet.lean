/-
  name.Set, place, Find.
-/
import Derived.Test.YtnanleopoedgfaaSearch
import Derived.Deep.RegionHeld3
import Derived.Deep.DrawnRows
set_option linter.unusedSimpArgs false
set_option linter.unusedVariables false
namespace Go.Proofs.Ytnanleopoedgfaa
open Go.RowKit
attribute [local go_sem ↓] Go.wp_at_zero Go.wp_at_succ

/-- Whether the name at an index is one, and behind the one before it. -/
def okAt (xs : List Bs) (j : Nat) : Bool := rightB (xs.getD j []) && (decide (j = 0) || decide (ordN (xs.getD (j - 1) []) (xs.getD j []) < 0))
def setB (xs : List Bs) : Bool := (List.range xs.length).all (okAt xs) && decide (xs.length ≤ 256)

theorem getD_of {xs : List Bs} {k : Nat} {x : Bs} (h : xs[k]? = some x) : xs.getD k [] = x := by rw [List.getD_eq_getElem?_getD, h]; rfl
theorem strGet {xs : List Bs} {w : World} {a : Option Addr} (hc : Cells w a (xs.map strV)) {k : Nat} (hk : k < xs.length) :
    ∃ b off, a = some ⟨b, off, none⟩ ∧ w.cell? ⟨b, off + k, none⟩ = some (.string (bs (xs.getD k []))) := by
  obtain ⟨x, hx⟩ : ∃ x, xs[k]? = some x := ⟨_, List.getElem?_eq_getElem hk⟩
  rw [getD_of hx]
  exact hc.at (x := strV x) (by simp [hx])

set_option maxRecDepth 100000 in
set_option maxHeartbeats 4000000 in
theorem Set_any (a : Option Addr) (n cap : Nat) (xs : List Bs) (w : World) (hn : xs.length = n) (hm : n ≤ 1000000) (hp : ∀ p ∈ xs, p.length ≤ 100000) (hc : Cells w a (xs.map strV)) :
    Calls Try.prog 25 #[.slice a n cap] w fun e w' => e = .returned (.bool (setB xs)) ∧ Below w.heap.size w w' := by
  obtain ⟨R, hR⟩ : ∃ R, setB xs = R := ⟨_, rfl⟩
  rw [hR]
  have HR := Lib.hid hR
  have Hn := Lib.hid hn
  have Hc := Lib.hid hc
  have Hp := Lib.hid hp
  clear hR hn hc hp
  go_enter Try.func25, Try.ntmps25
  go_wp2
  go_loopw [7] (fun i wr => ∃ k : Nat, k ≤ n ∧ i = .int .i64 k ∧ Hid ((List.range k).all (okAt xs) = true) ∧ Below w.heap.size w wr) (fun i _ => n - (intOf i).toNat)
  case atStart => exact ⟨0, Nat.zero_le _, rfl, rfl, Below.refl _ _⟩
  case round =>
    obtain ⟨k, hk, rfl, hpre, hb⟩ := hrel
    by_cases hlt : k < n
    · have h1 : k < xs.length := by rw [Hn.out]; exact hlt
      obtain ⟨b, off, rfl, hcx⟩ := strGet (Hc.out.below hb) h1
      have hlen : ∀ j, j < xs.length → (xs.getD j []).length ≤ 100000 := fun j hj => by
        obtain ⟨x, hx⟩ : ∃ x, xs[j]? = some x := ⟨_, List.getElem?_eq_getElem hj⟩
        rw [getD_of hx]; exact Hp.out x (List.mem_of_getElem? hx)
      have hlk := hlen k h1
      have hstep : Hid (okAt xs k = true → (List.range (k + 1)).all (okAt xs) = true) := fun h => by
        rw [List.range_succ, List.all_append, hpre.out]; simp [h]
      have hbad : Hid (okAt xs k = false → false = R) := fun h => by
        rw [← HR.out]
        have : (List.range xs.length).all (okAt xs) = false := by
          rw [Bool.eq_false_iff]; intro h2
          have := List.all_eq_true.1 h2 k (List.mem_range.2 h1)
          rw [h] at this; cases this
        simp [setB, this]
      have hok : Hid (okAt xs k = (rightB (xs.getD k []) && (decide (k = 0) || decide (ordN (xs.getD (k - 1) []) (xs.getD k []) < 0)))) := rfl
      obtain ⟨x, hx⟩ : ∃ x, xs.getD k [] = x := ⟨_, rfl⟩
      rw [hx] at hcx hlk hok
      have HRt := Right_any (bs x) wr (by unfold maxLen; rw [size_bs]; omega)
      rw [toList_bs] at HRt
      obtain ⟨rr, hrr⟩ : ∃ rr, rightB x = rr := ⟨_, rfl⟩
      rw [hrr] at HRt hok
      have HRt' := Lib.hid HRt
      have hlen' := Lib.hid hlen
      clear HRt hrr hlen hx
      cases rr with
      | false =>
        have hbd : Hid (false = R) := hbad.out (by rw [hok.out]; rfl)
        go_wp2_with fail
        refine HRt'.out.mono ?_
        rintro e w1 ⟨rfl, rfl⟩
        go_wp2
        go_ret
        exact ⟨ret_bool hbd.out, hb⟩
      | true =>
        by_cases hk0 : k = 0
        · have hgood := Lib.hid (hstep.out (by rw [hok.out, hk0]; rfl))
          have hk0' := Lib.hid hk0
          have hk1 : ¬ (0 : Int) < k := by omega
          clear hk0
          go_wp2_with fail
          refine HRt'.out.mono ?_
          rintro e w1 ⟨rfl, rfl⟩
          go_wp2
          refine ⟨?_, by simp [intOf]; omega⟩
          first
            | exact ⟨k + 1, by omega, by go_num, hgood.out, hb⟩
            | ((repeat apply Exists.intro); exact ⟨⟨k + 1, by omega, by go_num, hgood.out, hb⟩, rfl⟩)
        · have h0 : k - 1 < xs.length := by omega
          obtain ⟨b', off', hbo, hcy⟩ := strGet (Hc.out.below hb) h0
          cases hbo
          obtain ⟨y, hy⟩ : ∃ y, xs.getD (k - 1) [] = y := ⟨_, rfl⟩
          have hly := hlen'.out (k - 1) h0
          rw [hy] at hcy hly hok
          have HO := order_any (bs y) (bs x) wr hly hlk
          rw [toList_bs, toList_bs] at HO
          obtain ⟨c, hcd⟩ : ∃ c, ordN y x = c := ⟨_, rfl⟩
          rw [hcd] at HO hok
          have hkk : Hid (decide (k = 0) = false) := decide_eq_false hk0
          obtain ⟨j, hj⟩ : ∃ j, k = j + 1 := ⟨k - 1, by omega⟩
          have hcy' : wr.cell? ⟨b, off + j, none⟩ = some (.string (bs y)) := by rw [hj] at hcy; simpa using hcy
          have hj2 : ((k : Int) - 1) = (j : Int) := by omega
          have hk1 : (0 : Int) < k := by omega
          have HO' := Lib.hid HO
          have hj1 : j < n := by omega
          clear HO hcd hy hcy hk0 hj
          by_cases hc0 : c < 0
          · have hgood := Lib.hid (hstep.out (by rw [hok.out, hkk.out]; simp [hc0]))
            go_wp2_with fail
            refine HRt'.out.mono ?_
            rintro e w1 ⟨rfl, rfl⟩
            go_wp2_with fail
            refine HO'.out.mono ?_
            rintro e w1 ⟨rfl, hb1⟩
            go_wp2
            refine ⟨?_, by simp [intOf]; omega⟩
            first
              | exact ⟨k + 1, by omega, by go_num, hgood.out, hb.trans (hb1.mono hb.size)⟩
              | ((repeat apply Exists.intro); exact ⟨⟨k + 1, by omega, by go_num, hgood.out, hb.trans (hb1.mono hb.size)⟩, rfl⟩)
          · have hbd : Hid (false = R) := hbad.out (by rw [hok.out, hkk.out]; simp; omega)
            go_wp2_with fail
            refine HRt'.out.mono ?_
            rintro e w1 ⟨rfl, rfl⟩
            go_wp2_with fail
            refine HO'.out.mono ?_
            rintro e w1 ⟨rfl, hb1⟩
            go_wp2
            go_ret
            exact ⟨ret_bool hbd.out, hb.trans (hb1.mono hb.size)⟩
    · have hkn : k = n := by omega
      subst hkn
      have hres : Hid (decide ((k : Int) ≤ 256) = R) := by
        unfold Hid; rw [← HR.out, setB, Hn.out, hpre.out, Bool.true_and]
        exact decide_eq_decide.2 (by omega)
      go_wp2
      go_ret
      exact ⟨ret_bool hres.out, hb⟩
end Go.Proofs.Ytnanleopoedgfaa
