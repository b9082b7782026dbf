/-
  heap.order.
-/
import Derived.Test.YtbpmdhngobdilaaHp3
import Derived.LoopTactic
namespace Go.Proofs.Ytbpmdhngobdilaa
open Go.RowKit
attribute [local go_sem ↓] Go.wp_at_zero Go.wp_at_succ

set_option maxRecDepth 100000 in
set_option maxHeartbeats 1000000 in
theorem Or_two (B : Nat) (c d : Int) (w : World) (h0 : w.cell? ⟨B, 0, none⟩ = some (.int .i64 c)) (h1 : w.cell? ⟨B, 1, none⟩ = some (.int .i64 d)) :
    Calls Try.prog 51 #[.slice (some ⟨B, 0, none⟩) 2 2] w fun e w' => e = .returned (.int .i64 (if c ≠ 0 then c else d)) ∧ w = w' := by
  by_cases hc : c = 0
  · subst hc
    rw [if_neg (by simp)]
    by_cases hd : d = 0
    · subst hd
      go_enter Try.func51, Try.ntmps51
      go_wp2
      refine wp_loop_rounds 3 ?_
      rw [rounds_succ]
      go_wp2
      rw [rounds_succ]
      go_wp2
      rw [rounds_succ]
      go_wp2
      go_ret
      exact ⟨rfl, rfl⟩
    · have hb : (d != 0) = true := by simpa using hd
      go_enter Try.func51, Try.ntmps51
      go_wp2
      refine wp_loop_rounds 2 ?_
      rw [rounds_succ]
      go_wp2
      rw [rounds_succ]
      go_wp2
      go_ret
      exact ⟨rfl, rfl⟩
  · rw [if_pos hc]
    have hb : (c != 0) = true := by simpa using hc
    go_enter Try.func51, Try.ntmps51
    go_wp2
    refine wp_loop_rounds 1 ?_
    rw [rounds_succ]
    go_wp2
    go_ret
    exact ⟨rfl, rfl⟩

set_option maxRecDepth 100000 in
set_option maxHeartbeats 1000000 in
theorem order_any (a b : Ent) (w : World) : Calls Try.prog 36 #[entV a, entV b] w fun e w' => e = .returned (.int .i64 (ordE a b)) ∧ Fr none' w w' := by
  obtain ⟨c, hc⟩ : ∃ c, cmpK a.key b.key = c := ⟨_, rfl⟩
  obtain ⟨d, hd⟩ : ∃ d, fieldK a.key b.key = d := ⟨_, rfl⟩
  obtain ⟨p, hp⟩ : ∃ p, cmpI a.place b.place = p := ⟨_, rfl⟩
  have HR : ordE a b = if c ≠ 0 then c else p := by unfold ordE; rw [hc, hp]
  rw [HR]
  obtain ⟨r, hr⟩ : ∃ r, (if c ≠ 0 then c else p) = r := ⟨_, rfl⟩
  have HO := fun B w h0 h1 => Or_two B c p w h0 h1
  rw [hr] at HO ⊢
  have HO' := Lib.hid HO
  have HC := fun w => Compare_any a.key b.key w
  simp only [hc, hd, keyV] at HC
  have HP := fun w => cmpInt_any a.place b.place w
  simp only [hp] at HP
  have HC' := Lib.hid HC
  have HP' := Lib.hid HP
  clear HR hc hd hp HC HP HO hr
  obtain ⟨⟨a1, a2, a3⟩, a4⟩ := a
  obtain ⟨⟨b1, b2, b3⟩, b4⟩ := b
  simp only [entV]
  go_enter Try.func36, Try.ntmps36
  go_wp2_with fail
  refine (HC'.out _).mono ?_
  rintro e w1 ⟨rfl, hf1⟩
  have e0 : ∀ o v, ((w.alloc (.cells #[.int .i64 a1, .int .i64 a2, .int .i64 a3, .int .i64 a4] 70)).alloc (.cells #[.int .i64 b1, .int .i64 b2, .int .i64 b3, .int .i64 b4] 70)).cell? o = some v → w1.cell? o = some v := fun o v h => by
    rw [hf1.cell (p := o) (World.block_lt_of_cell? _ _ h) id]; exact h
  have ea : w1.cell? ⟨w.heap.size, 3, none⟩ = some (.int .i64 a4) := e0 _ _ (by go_simp)
  have eb : w1.cell? ⟨w.heap.size + 1, 3, none⟩ = some (.int .i64 b4) := e0 _ _ (by go_simp)
  have F1 := Lib.hid hf1
  clear e0 hf1
  go_wp2_with fail
  refine (HP'.out _).mono ?_
  rintro e w2 ⟨rfl, rfl⟩
  go_wp2_with fail
  refine (HO'.out _ _ (by go_simp) (by go_simp)).mono ?_
  rintro e w2 ⟨rfl, rfl⟩
  go_wp2
  go_ret
  exact ⟨rfl, ((((Fr.refl _ _).alloc _).alloc _).trans F1.out).alloc _⟩
theorem order_does : OrderDoes ordE := fun a b W => (order_any a b W).mono fun _ _ h => ⟨h.1, h.2.below (Nat.le_refl _) (fun _ _ => id), h.2.drawn⟩
end Go.Proofs.Ytbpmdhngobdilaa
