/-
  name.Range.
-/
import Derived.Test.YtnanleopoedgfaaUnder
set_option linter.unusedSimpArgs false
set_option linter.unusedVariables false
namespace Go.Proofs.Ytnanleopoedgfaa
open Go.RowKit
attribute [local go_sem ↓] Go.wp_at_zero Go.wp_at_succ

set_option maxRecDepth 100000 in
set_option maxHeartbeats 4000000 in
/-- The closure in Range. -/
theorem rangeC_any (bl bf bS : Nat) (a : Option Addr) (n cap f i : Nat) (xs : List Bs) (s : Bs) (w : World) (hn : xs.length = n) (hm : n ≤ 1000000) (hp : ∀ p ∈ xs, p.length ≤ 100000) (hs : s.length ≤ 100000)
    (hc : Cells w a (xs.map strV)) (hl : w.cell? ⟨bl, 0, none⟩ = some (.slice a n cap)) (hf : w.cell? ⟨bf, 0, none⟩ = some (.int .i64 f)) (hS : w.cell? ⟨bS, 0, none⟩ = some (.string (bs s))) (hi : f + i < n) :
    Calls Try.prog 44 #[.int .i64 i, .pointer (some ⟨bl, 0, none⟩), .pointer (some ⟨bf, 0, none⟩), .pointer (some ⟨bS, 0, none⟩)] w fun e w' => e = .returned (.bool (!underB (xs.getD (f + i) []) s)) ∧ Below w.heap.size w w' := by
  obtain ⟨b, off, rfl, hcx⟩ := strGet hc (by rw [hn]; exact hi)
  obtain ⟨x, hx⟩ : ∃ x, xs.getD (f + i) [] = x := ⟨_, rfl⟩
  have hxl : x.length ≤ 100000 := by
    rw [← hx]
    obtain ⟨y, hy⟩ : ∃ y, xs[f + i]? = some y := ⟨_, List.getElem?_eq_getElem (by rw [hn]; exact hi)⟩
    rw [getD_of hy]; exact hp y (List.mem_of_getElem? hy)
  rw [hx] at hcx ⊢
  have HO := fun W => Under_any (bs x) (bs s) W hxl hs
  simp only [toList_bs] at HO
  obtain ⟨c, hcd⟩ : ∃ c, underB x s = c := ⟨_, rfl⟩
  rw [hcd] at HO ⊢
  have HO' := Lib.hid HO
  have c1 : (0 : Int) ≤ (f : Int) + (i : Int) := by omega
  have c2 : (f : Int) + (i : Int) < (n : Int) := by omega
  have c3 : IntKind.i64.wrap ((f : Int) + (i : Int)) = (f : Int) + (i : Int) := IntWalk.i64_in _ (by omega)
  have c4 : ((f : Int) + (i : Int)).toNat = f + i := by omega
  clear hn hp hc hx hcd HO
  go_enter Try.func44, Try.ntmps44
  go_wp2_with fail
  go_region_held3 (fun w' => w'.cell? ⟨bl, 0, none⟩ = some (.slice (some ⟨b, off, none⟩) n cap) ∧ w'.cell? ⟨bf, 0, none⟩ = some (.int .i64 f) ∧ w'.cell? ⟨bS, 0, none⟩ = some (.string (bs s)) ∧ w'.cell? ⟨b, off + (f + i), none⟩ = some (.string (bs x))) (first | go_keep | (refine ⟨Below.keep hb1 ?_, Below.keep hb1 ?_, Below.keep hb1 ?_, Below.keep hb1 ?_⟩ <;> go_keep))
    ((go_at_call 16; refine (HO'.out _).mono ?_; rintro e w1 ⟨rfl, hb1⟩))
  all_goals go_wp2
  all_goals go_ret
  all_goals exact ⟨rfl, (Below.refl w.heap.size w).drew.trans hb1⟩

def RangePost (xs : List Bs) (s : Bs) (w : World) (e : Ending) (w' : World) : Prop :=
  e = .returned (if setB xs then (if rightB s then .tuple #[.int .i64 (lowN xs s), .int .i64 ((lowN xs s + runN xs s : Nat) : Int), .int .i64 0] else .tuple #[.int .i64 0, .int .i64 0, .int .i64 40]) else .tuple #[.int .i64 0, .int .i64 0, .int .i64 41]) ∧ Below w.heap.size w w'

set_option maxRecDepth 100000 in
set_option maxHeartbeats 800000 in
theorem Range_any (a : Option Addr) (n cap : Nat) (xs : List Bs) (s : Bs) (w : World) (hn : xs.length = n) (hm : n ≤ 1000000) (hp : ∀ p ∈ xs, p.length ≤ 100000) (hs : s.length ≤ 100000)
    (hc : Cells w a (xs.map strV)) :
    Calls Try.prog 19 #[.slice a n cap, .string (bs s)] w (RangePost xs s w) := by
  have hmf : ∀ (fn : Fn) (first cap : Array Value) (w : World), (Instr.makeFunc fn first cap).run Try.prog w = .ok (.func fn first cap) w := fun _ _ _ _ => rfl
  obtain ⟨W0, hW0⟩ : ∃ W0, W0 = (w.alloc (.cells #[.slice a n cap] 22)).alloc (.cells #[.string (bs s)] 9) := ⟨_, rfl⟩
  have hb0 : Below w.heap.size w W0 := by rw [hW0]; exact ((Below.refl _ _).alloc (Nat.le_refl _) _).alloc (by simp) _
  have x1 : Box W0 w.heap.size (.slice a n cap) := by rw [hW0]; exact (Box.new _ _ _).alloc _
  have x2 : Box W0 (w.heap.size + 1) (.string (bs s)) := by
    have := Box.new (w.alloc (.cells #[.slice a n cap] 22)) (.string (bs s)) 9
    rw [hW0]; simpa using this
  have HS := fun W (hb : Below W0.heap.size W0 W) => Set_any a n cap xs W hn hm hp (hc.below (hb0.trans (hb.mono hb0.size)))
  have HR := fun W => Right_any (bs s) W (by unfold maxLen; rw [size_bs]; omega)
  simp only [toList_bs] at HR
  have HP := fun W (hb : Below W0.heap.size W0 W) => place_any a n cap xs s W hn hm hp hs (hc.below (hb0.trans (hb.mono hb0.size)))
  obtain ⟨r1, h1⟩ : ∃ r, setB xs = r := ⟨_, rfl⟩
  obtain ⟨r2, h2⟩ : ∃ r, rightB s = r := ⟨_, rfl⟩
  rw [h1] at HS
  rw [h2] at HR
  have HS' := Lib.hid HS
  have HR' := Lib.hid HR
  have HP' := Lib.hid HP
  have H1 := Lib.hid h1
  have H2 := Lib.hid h2
  have Hn := Lib.hid hn
  have Hc := Lib.hid hc
  have Hp := Lib.hid hp
  have hl1 := x1.cell
  have hl2 := x2.cell
  have HW := Lib.hid hW0
  clear HS HR HP h1 h2 hn hc hp hW0
  cases r1 with
  | false =>
    go_enter Try.func19, Try.ntmps19
    go_wp2_with fail
    rw [← HW.out]
    go_wp2_with fail
    refine (HS'.out _ (Below.refl _ _)).mono ?_
    rintro e w1 ⟨rfl, hb1⟩
    go_wp2
    go_ret3
    exact ⟨by rw [H1.out]; rfl, hb0.trans (hb1.mono hb0.size)⟩
  | true =>
    cases r2 with
    | false =>
      go_enter Try.func19, Try.ntmps19
      go_wp2_with fail
      rw [← HW.out]
      go_wp2_with fail
      refine (HS'.out _ (Below.refl _ _)).mono ?_
      rintro e w1 ⟨rfl, hb1⟩
      have k1 := Below.keep hb1 hl1
      have k2 := Below.keep hb1 hl2
      go_wp2_with fail
      refine (HR'.out _).mono ?_
      rintro e w1 ⟨rfl, rfl⟩
      go_wp2
      go_ret3
      exact ⟨by rw [H1.out, H2.out]; rfl, hb0.trans (hb1.mono hb0.size)⟩
    | true =>
      go_enter Try.func19, Try.ntmps19
      go_wp2_with fail
      rw [← HW.out]
      go_wp2_with fail
      refine (HS'.out _ (Below.refl _ _)).mono ?_
      rintro e w1 ⟨rfl, hb1⟩
      have k1 := Below.keep hb1 hl1
      have k2 := Below.keep hb1 hl2
      go_wp2_with fail
      refine (HR'.out _).mono ?_
      rintro e w1 ⟨rfl, rfl⟩
      go_wp2_with fail
      refine (HP'.out _ hb1).mono ?_
      rintro e w2 ⟨r, rfl, hat, hb2⟩
      have hr := Lib.hid (atN_low H1.out hat)
      have hrn : r ≤ n := by rw [← Hn.out]; exact hat.1
      have q1 := Below.keep hb2 k1
      have q2 := Below.keep hb2 k2
      clear hat
      have fin : Hid (∀ (q : Nat) (W : World), q ≤ n - r → (0 < q → underB (xs.getD (r + (q - 1)) []) s = true) → (q < n - r → underB (xs.getD (r + q) []) s = false) → Below w.heap.size w W → RangePost xs s w (.returned (.tuple #[.int .i64 r, .int .i64 ((r : Int) + (q : Int)), .int .i64 0])) W) := fun q W g1 g2 g3 hW => by
        have e := hr.out
        subst e
        have e2 := runN_of (r := q) H1.out (by rw [Hn.out]; omega) g2 (fun h => g3 (by rw [Hn.out] at h; omega))
        subst e2
        exact ⟨by rw [H1.out, H2.out]; simp, hW⟩
      have hbw := hb0.trans ((hb1.trans (hb2.mono hb1.size)).mono hb0.size)
      go_wp2_with fail
      obtain ⟨W3, hW3⟩ : ∃ W3, W3 = w2.alloc (.cells #[.int .i64 r] 3) := ⟨_, rfl⟩
      have b3 : Below w2.heap.size w2 W3 := by rw [hW3]; exact (Below.refl _ _).alloc (Nat.le_refl _) _
      have z1 := Below.keep b3 q1
      have z2 := Below.keep b3 q2
      have z3 : W3.cell? ⟨w2.heap.size, 0, none⟩ = some (.int .i64 r) := by rw [hW3]; exact (Box.new _ _ _).cell
      have hbw3 : Below w.heap.size w W3 := hbw.trans (b3.mono hbw.size)
      have HSr : ∀ W, Below W3.heap.size W3 W → Calls Try.prog 43 #[.int .i64 ((n : Int) - (r : Int)), .func (.func 44) #[] #[.pointer (some ⟨w.heap.size, 0, none⟩), .pointer (some ⟨w2.heap.size, 0, none⟩), .pointer (some ⟨w.heap.size + 1, 0, none⟩)]] W (SearchPost (n - r) (fun i => !underB (xs.getD (r + i) []) s) W) := fun W hW => by
        have hpred : Pred 44 #[.pointer (some ⟨w.heap.size, 0, none⟩), .pointer (some ⟨w2.heap.size, 0, none⟩), .pointer (some ⟨w.heap.size + 1, 0, none⟩)] (n - r) (fun i => !underB (xs.getD (r + i) []) s) W := fun W' i hb hi =>
          rangeC_any _ _ _ a n cap r i xs s W' Hn.out hm Hp.out hs (Hc.out.below ((hbw3.trans (hW.mono hbw3.size)).trans (hb.mono (Nat.le_trans hbw3.size hW.size))))
            (Below.keep hb (Below.keep hW z1)) (Below.keep hb (Below.keep hW z3)) (Below.keep hb (Below.keep hW z2)) (by omega)
        have := Search_any _ _ (n - r) _ W (by intro args w; rfl) (by omega) hpred
        rw [show ((n - r : Nat) : Int) = (n : Int) - (r : Int) from by omega] at this
        exact this
      have HSr' := Lib.hid HSr
      rw [← hW3]
      have cw : IntKind.i64.wrap ((n : Int) - (r : Int)) = (n : Int) - (r : Int) := IntWalk.i64_in _ (by omega)
      clear HSr hW3 hbw hb0 b3 hmf x1 x2 k1 k2 q1 q2 hl1 hl2 hb2 hb1
      go_region_held3 (fun w' => w'.cell? ⟨w.heap.size, 0, none⟩ = some (.slice a n cap) ∧ w'.cell? ⟨w.heap.size + 1, 0, none⟩ = some (.string (bs s)) ∧ w'.cell? ⟨w2.heap.size, 0, none⟩ = some (.int .i64 r)) (first | go_keep | (refine ⟨Below.keep hb5 ?_, Below.keep hb5 ?_, Below.keep hb5 ?_⟩ <;> go_keep))
        ((go_at_call 43; refine (HSr'.out _ (by first | exact Below.refl _ _ | exact (Below.refl _ _).drew)).mono ?_; rintro e w5 ⟨q, rfl, g1, g2, g3, hb5⟩; have G2 := Lib.hid g2; have G3 := Lib.hid g3; clear g2 g3; have cq : IntKind.i64.wrap ((r : Int) + (q : Int)) = (r : Int) + (q : Int) := IntWalk.i64_in _ (by omega)))
      have z5 := Below.keep hb5 (show W3.drew.cell? ⟨w2.heap.size, 0, none⟩ = some (.int .i64 r) from z3)
      clear cq cw
      go_wp2
      go_ret3
      exact fin.out q _ g1 (fun h => by have := G2.out h; simpa using this) (fun h => by have := G3.out h; simpa using this) ((hbw3.drew).trans (hb5.mono hbw3.size))
end Go.Proofs.Ytnanleopoedgfaa
