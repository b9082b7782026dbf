/-
  name.place, Find.
-/
import Derived.Test.YtnanleopoedgfaaSet
import Derived.Test.YtnanleopoedgfaaOrd
set_option linter.unusedSimpArgs false
set_option linter.unusedVariables false
namespace Go.Proofs.Ytnanleopoedgfaa
open Go.RowKit
attribute [local go_sem ↓] Go.wp_at_zero Go.wp_at_succ

set_option maxRecDepth 100000 in
set_option maxHeartbeats 4000000 in
/-- The closure in place. -/
theorem placeC_any (bl bS : Nat) (a : Option Addr) (n cap i : Nat) (xs : List Bs) (s : Bs) (w : World) (hn : xs.length = n) (hm : n ≤ 1000000) (hp : ∀ p ∈ xs, p.length ≤ 100000) (hs : s.length ≤ 100000)
    (hc : Cells w a (xs.map strV)) (hl : w.cell? ⟨bl, 0, none⟩ = some (.slice a n cap)) (hS : w.cell? ⟨bS, 0, none⟩ = some (.string (bs s))) (hi : i < n) :
    Calls Try.prog 70 #[.int .i64 i, .pointer (some ⟨bl, 0, none⟩), .pointer (some ⟨bS, 0, none⟩)] w fun e w' => e = .returned (.bool (decide (0 ≤ ordN (xs.getD i []) s))) ∧ Below w.heap.size w w' := by
  obtain ⟨b, off, rfl, hcx⟩ := strGet hc (by rw [hn]; exact hi)
  obtain ⟨x, hx⟩ : ∃ x, xs.getD i [] = x := ⟨_, rfl⟩
  have hxl : x.length ≤ 100000 := by
    rw [← hx]
    obtain ⟨y, hy⟩ : ∃ y, xs[i]? = some y := ⟨_, List.getElem?_eq_getElem (by rw [hn]; exact hi)⟩
    rw [getD_of hy]; exact hp y (List.mem_of_getElem? hy)
  rw [hx] at hcx ⊢
  have HO := fun W => order_any (bs x) (bs s) W hxl hs
  simp only [toList_bs] at HO
  obtain ⟨c, hcd⟩ : ∃ c, ordN x s = c := ⟨_, rfl⟩
  rw [hcd] at HO ⊢
  have HO' := Lib.hid HO
  have c1 : (0 : Int) ≤ (i : Int) := by omega
  have c2 : (i : Int) < (n : Int) := by omega
  clear hn hp hc hx hcd HO
  go_enter Try.func70, Try.ntmps70
  go_wp2_with fail
  go_region_held3 (fun w' => w'.cell? ⟨bl, 0, none⟩ = some (.slice (some ⟨b, off, none⟩) n cap) ∧ w'.cell? ⟨bS, 0, none⟩ = some (.string (bs s)) ∧ w'.cell? ⟨b, off + i, none⟩ = some (.string (bs x))) (first | go_keep | (refine ⟨Below.keep hb1 ?_, Below.keep hb1 ?_, Below.keep hb1 ?_⟩ <;> go_keep))
    ((go_at_call 34; refine (HO'.out _).mono ?_; rintro e w1 ⟨rfl, hb1⟩))
  all_goals go_wp2
  all_goals go_ret
  all_goals exact ⟨rfl, (Below.refl w.heap.size w).drew.trans hb1⟩

/-- Where a name lies in a list. -/
def atN (xs : List Bs) (s : Bs) (r : Nat) : Prop := r ≤ xs.length ∧ (0 < r → ordN (xs.getD (r - 1) []) s < 0) ∧ (r < xs.length → 0 ≤ ordN (xs.getD r []) s)
def PlacePost (xs : List Bs) (s : Bs) (w : World) (e : Ending) (w' : World) : Prop := ∃ r : Nat, e = .returned (.int .i64 r) ∧ atN xs s r ∧ Below w.heap.size w w'

set_option maxRecDepth 100000 in
set_option maxHeartbeats 4000000 in
theorem place_any (a : Option Addr) (n cap : Nat) (xs : List Bs) (s : Bs) (w : World) (hn : xs.length = n) (hm : n ≤ 1000000) (hp : ∀ p ∈ xs, p.length ≤ 100000) (hs : s.length ≤ 100000)
    (hc : Cells w a (xs.map strV)) :
    Calls Try.prog 42 #[.slice a n cap, .string (bs s)] w (PlacePost xs s w) := by
  have hmf : ∀ (fn : Fn) (first cap : Array Value) (w : World), (Instr.makeFunc fn first cap).run Try.prog w = .ok (.func fn first cap) w := fun _ _ _ _ => rfl
  obtain ⟨W0, hW0⟩ : ∃ W0, W0 = (w.alloc (.cells #[.slice a n cap] 22)).alloc (.cells #[.string (bs s)] 9) := ⟨_, rfl⟩
  have hb0 : Below w.heap.size w W0 := by rw [hW0]; exact ((Below.refl _ _).alloc (Nat.le_refl _) _).alloc (by simp) _
  have x1 : Box W0 w.heap.size (.slice a n cap) := by rw [hW0]; exact (Box.new _ _ _).alloc _
  have x2 : Box W0 (w.heap.size + 1) (.string (bs s)) := by
    have := Box.new (w.alloc (.cells #[.slice a n cap] 22)) (.string (bs s)) 9
    rw [hW0]; simpa using this
  have hpred : Pred 70 #[.pointer (some ⟨w.heap.size, 0, none⟩), .pointer (some ⟨w.heap.size + 1, 0, none⟩)] n (fun i => decide (0 ≤ ordN (xs.getD i []) s)) W0 := fun W i hb hi =>
    placeC_any _ _ a n cap i xs s W hn hm hp hs (hc.below (hb0.trans (hb.mono hb0.size))) (Below.keep hb x1.cell) (Below.keep hb x2.cell) hi
  have hS := Search_any _ _ n _ W0 (by intro args w; rfl) hm hpred
  have HS := Lib.hid hS
  have HW := Lib.hid hW0
  have Hn := Lib.hid hn
  clear hS hpred hW0 x1 x2 hn hp hc
  go_enter Try.func42, Try.ntmps42
  go_wp2_with fail
  rw [← HW.out]
  refine HS.out.mono ?_
  rintro e w1 ⟨r, rfl, h1, h2, h3, hb1⟩
  have H2 := Lib.hid h2
  have H3 := Lib.hid h3
  clear h2 h3
  go_wp2
  go_ret
  refine ⟨r, rfl, ⟨by rw [Hn.out]; exact h1, fun h => ?_, fun h => ?_⟩, hb0.trans (hb1.mono hb0.size)⟩
  · have := H2.out h; simpa using this
  · have := H3.out (by rw [← Hn.out]; exact h); simpa using this
end Go.Proofs.Ytnanleopoedgfaa
