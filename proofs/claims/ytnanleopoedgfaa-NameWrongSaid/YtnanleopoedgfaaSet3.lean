/-
  name.Find; sets are in order.
-/
import Derived.Test.YtnanleopoedgfaaSet2
set_option linter.unusedSimpArgs false
set_option linter.unusedVariables false
namespace Go.Proofs.Ytnanleopoedgfaa
open Go.RowKit

theorem setB_ok {xs : List Bs} (h : setB xs = true) : ∀ j, j < xs.length → okAt xs j = true := by
  intro j hj
  simp only [setB, Bool.and_eq_true] at h
  exact List.all_eq_true.1 h.1 j (List.mem_range.2 hj)
theorem setB_len {xs : List Bs} (h : setB xs = true) : xs.length ≤ 256 := by
  simp only [setB, Bool.and_eq_true, decide_eq_true_eq] at h; exact h.2
theorem setB_right {xs : List Bs} (h : setB xs = true) : ∀ j, j < xs.length → rightB (xs.getD j []) = true := by
  intro j hj
  have := setB_ok h j hj
  simp only [okAt, Bool.and_eq_true] at this
  exact this.1
theorem setB_incr {xs : List Bs} (h : setB xs = true) : ∀ i j, i < j → j < xs.length → ordN (xs.getD i []) (xs.getD j []) < 0 := by
  refine ordN_cmp.incr (fun i => xs.getD i []) xs.length (fun j hj => ?_)
  have := setB_ok h (j + 1) hj
  simp only [okAt, Bool.and_eq_true, Bool.or_eq_true, decide_eq_true_eq, Nat.add_sub_cancel] at this
  rcases this.2 with h | h
  · omega
  · exact h

/-- The first index whose name does not come before s. -/
def lowN (xs : List Bs) (s : Bs) : Nat := xs.findIdx (fun x => decide (0 ≤ ordN x s))
theorem getD_lt {xs : List Bs} {i : Nat} (h : i < xs.length) : xs.getD i [] = xs[i] := by rw [List.getD_eq_getElem?_getD, List.getElem?_eq_getElem h]; rfl
theorem lowN_le (xs : List Bs) (s : Bs) : lowN xs s ≤ xs.length := List.findIdx_le_length
theorem lowN_before {xs : List Bs} {s : Bs} {i : Nat} (h : i < lowN xs s) : ordN (xs.getD i []) s < 0 := by
  have h1 := List.not_of_lt_findIdx h
  have h2 : i < xs.length := Nat.lt_of_lt_of_le h (lowN_le xs s)
  rw [getD_lt h2]
  simpa using h1
theorem lowN_at {xs : List Bs} {s : Bs} (h : lowN xs s < xs.length) : 0 ≤ ordN (xs.getD (lowN xs s) []) s := by
  have h1 := List.findIdx_getElem (w := h)
  rw [getD_lt h]
  exact of_decide_eq_true h1
theorem atN_low {xs : List Bs} {s : Bs} {r : Nat} (hset : setB xs = true) (h : atN xs s r) : r = lowN xs s := by
  obtain ⟨h1, h2, h3⟩ := h
  rcases Nat.lt_trichotomy r (lowN xs s) with hlt | heq | hgt
  · have := h3 (Nat.lt_of_lt_of_le hlt (lowN_le xs s))
    have := lowN_before hlt
    omega
  · exact heq
  · have hl : lowN xs s < xs.length := Nat.lt_of_lt_of_le hgt h1
    have a1 := lowN_at hl
    have a2 := h2 (by omega)
    by_cases he : lowN xs s = r - 1
    · rw [he] at a1; omega
    · have a3 := setB_incr hset (lowN xs s) (r - 1) (by omega) (by omega)
      have := ordN_cmp.trans _ _ _ a3 a2
      omega

def isAt (xs : List Bs) (s : Bs) (r : Nat) : Bool := decide (xs[r]? = some s)
def FindPost (xs : List Bs) (s : Bs) (w : World) (e : Ending) (w' : World) : Prop :=
  e = .returned (if setB xs && rightB s then .tuple #[.int .i64 (lowN xs s), .bool (isAt xs s (lowN xs s))] else .tuple #[.int .i64 0, .bool false]) ∧ Below w.heap.size w w'

set_option maxRecDepth 100000 in
set_option maxHeartbeats 4000000 in
theorem Find_any (a : Option Addr) (n cap : Nat) (xs : List Bs) (s : Bs) (w : World) (hn : xs.length = n) (hm : n ≤ 1000000) (hp : ∀ p ∈ xs, p.length ≤ 100000) (hs : s.length ≤ 100000)
    (hc : Cells w a (xs.map strV)) :
    Calls Try.prog 20 #[.slice a n cap, .string (bs s)] w (FindPost xs s w) := by
  have HS := Set_any a n cap xs w hn hm hp hc
  have HR := fun W => Right_any (bs s) W (by unfold maxLen; rw [size_bs]; omega)
  simp only [toList_bs] at HR
  have HP := fun W (hb : Below w.heap.size w W) => place_any a n cap xs s W hn hm hp hs (hc.below hb)
  obtain ⟨r1, h1⟩ : ∃ r, setB xs = r := ⟨_, rfl⟩
  obtain ⟨r2, h2⟩ : ∃ r, rightB s = r := ⟨_, rfl⟩
  rw [h1] at HS
  rw [h2] at HR
  have HS' := Lib.hid HS
  have HR' := Lib.hid HR
  have HP' := Lib.hid HP
  have H1 := Lib.hid h1
  have H2 := Lib.hid h2
  have Hn := Lib.hid hn
  have Hc := Lib.hid hc
  clear HS HR HP h1 h2 hn hc hp
  cases r1 with
  | false =>
    go_enter Try.func20, Try.ntmps20
    go_wp2_with fail
    refine HS'.out.mono ?_
    rintro e w1 ⟨rfl, hb1⟩
    go_wp2
    go_ret2
    exact ⟨by rw [H1.out]; rfl, hb1⟩
  | true =>
    cases r2 with
    | false =>
      go_enter Try.func20, Try.ntmps20
      go_wp2_with fail
      refine HS'.out.mono ?_
      rintro e w1 ⟨rfl, hb1⟩
      go_wp2_with fail
      refine (HR'.out _).mono ?_
      rintro e w1 ⟨rfl, rfl⟩
      go_wp2
      go_ret2
      exact ⟨by rw [H1.out, H2.out]; rfl, hb1⟩
    | true =>
      go_enter Try.func20, Try.ntmps20
      go_wp2_with fail
      refine HS'.out.mono ?_
      rintro e w1 ⟨rfl, hb1⟩
      go_wp2_with fail
      refine (HR'.out _).mono ?_
      rintro e w1 ⟨rfl, rfl⟩
      go_wp2_with fail
      refine (HP'.out _ hb1).mono ?_
      rintro e w2 ⟨r, rfl, hat, hb2⟩
      have hr := Lib.hid (atN_low H1.out hat)
      have hb := hb1.trans (hb2.mono hb1.size)
      have hrn : r ≤ n := by rw [← Hn.out]; exact hat.1
      clear hat hb1 hb2
      have fin : Hid (∀ (q : Bool) (W : World), isAt xs s r = q → Below w.heap.size w W → FindPost xs s w (.returned (.tuple #[.int .i64 r, .bool q])) W) := fun q W hq hW => ⟨by rw [H1.out, H2.out, ← hr.out, hq]; rfl, hW⟩
      by_cases hlt : r < n
      · obtain ⟨b, off, rfl, hcx⟩ := strGet (Hc.out.below hb) (k := r) (by rw [Hn.out]; exact hlt)
        obtain ⟨x, hx⟩ : ∃ x, xs.getD r [] = x := ⟨_, rfl⟩
        rw [hx] at hcx
        have d1 : ((bs x).toList == (bs s).toList) = isAt xs s r := by
          rw [toList_eq, toList_eq, toList_bs, toList_bs, isAt, List.getElem?_eq_getElem (by rw [Hn.out]; exact hlt), ← getD_lt, hx, Bool.eq_iff_iff]; simp
        obtain ⟨q, hq⟩ : ∃ q, isAt xs s r = q := ⟨_, rfl⟩
        rw [hq] at d1
        have Hq := Lib.hid hq
        have c1 : (0 : Int) ≤ (r : Int) := by omega
        have c2 : (r : Int) < (n : Int) := by omega
        have c3 : decide ((r : Int) < (n : Int)) = true := by simp; omega
        clear hq hx
        go_wp2
        go_quiet (fail)
        go_wp2
        go_ret2
        exact fin.out _ _ Hq.out (by first | exact hb | exact ⟨hb.os, hb.tape, hb.output, hb.size, hb.block⟩)
      · have hq : Hid (isAt xs s r = false) := by
          unfold Hid; rw [isAt, List.getElem?_eq_none (by rw [Hn.out]; omega)]; rfl
        have c3 : decide ((r : Int) < (n : Int)) = false := by simp; omega
        go_wp2
        go_quiet (fail)
        go_wp2
        go_ret2
        exact fin.out _ _ hq.out (by first | exact hb | exact ⟨hb.os, hb.tape, hb.output, hb.size, hb.block⟩)
end Go.Proofs.Ytnanleopoedgfaa
