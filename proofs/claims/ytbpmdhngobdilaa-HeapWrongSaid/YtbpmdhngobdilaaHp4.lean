/-
  Heap.below: the indices below one.
-/
import Derived.Test.YtbpmdhngobdilaaHp3
import Derived.Test.YtbpmdhngobdilaaInw
import Derived.LoopIn
import Derived.TacticsIn
namespace Go.Proofs.Ytbpmdhngobdilaa
open Go.RowKit
attribute [local go_sem ↓] Go.wp_at_zero Go.wp_at_succ
attribute [local go_sem] Oper.semAt_some wide_fn wide_depth wide_fnR wide_depthR

set_option maxRecDepth 100000 in
theorem below_any (hb i : Nat) (w : World) : Calls Try.prog 48 #[.pointer (some ⟨hb, 0, none⟩), .int .i64 i] w fun e w' =>
    e = .returned (.func (.func 60) #[] #[.pointer (some ⟨w.heap.size + 1, 0, none⟩), .pointer (some ⟨w.heap.size, 0, none⟩)]) ∧
      w' = (w.alloc (.cells #[.pointer (some ⟨hb, 0, none⟩)] 24)).alloc (.cells #[.int .i64 i] 3) := by
  go_enter Try.func48, Try.ntmps48
  go_wp2
  go_ret
  exact ⟨by simp, rfl⟩

/-- The heap's header: its tree's slice. -/
def Header (w : World) (hb bt N cap : Nat) : Prop := w.cell? ⟨hb, 1, none⟩ = some (.slice (some ⟨bt, 0, none⟩) N cap)

set_option maxRecDepth 100000 in
set_option maxHeartbeats 2000000 in
theorem below_iter (hb bt cap N i bi bh : Nat) (w : World) (hi : i < N) (hN : N ≤ 10000) (h1 : Box w bi (.int .i64 i)) (h2 : Box w bh (.pointer (some ⟨hb, 0, none⟩))) (h3 : Header w hb bt N cap) :
    Iter Try.prog 60 #[.pointer (some ⟨bi, 0, none⟩), .pointer (some ⟨bh, 0, none⟩)] (fun k : Nat => #[.int .i64 k]) (List.range' (4 * i + 1) (min (4 * i + 5) N - (4 * i + 1))) none' (fun k => k = bi ∨ k = bh ∨ k = hb) w := by
  intro l J Jx W hK hJ hJx hY h0
  have hbi : Box W bi (.int .i64 i) := h1.of_block (hK.2 bi (.inl rfl))
  have hbh : Box W bh (.pointer (some ⟨hb, 0, none⟩)) := h2.of_block (hK.2 bh (.inr (.inl rfl)))
  have hhd : Header W hb bt N cap := (World.cell?_of_block (hK.2 hb (.inr (.inr rfl)))).trans h3
  obtain ⟨m, hm⟩ : ∃ m, min (4 * i + 5) N - (4 * i + 1) = m := ⟨_, rfl⟩
  rw [hm] at hY ⊢
  have hxs : ∀ q, q < m → (List.range' (4 * i + 1) m)[q]? = some (4 * i + 1 + q) := fun q hq => by rw [List.getElem?_range' hq]; simp
  have hlen : (List.range' (4 * i + 1) m).length = m := List.length_range'
  rw [hlen]
  obtain ⟨xs, hX⟩ : ∃ xs, List.range' (4 * i + 1) m = xs := ⟨_, rfl⟩
  rw [hX] at hY hxs
  clear hX hlen h1 h2 h3 hK
  refine callsIn_of_wp Try.func60 rfl trivial ?_ rfl
  simp only [Try.ntmps60, List.size_toArray, List.length_cons, List.length_nil, Nat.reduceAdd, Nat.reduceSub, Array.replicate_succ, Array.replicate_zero, List.push_toArray, List.append_toArray, List.nil_append, List.cons_append]
  have c1 := hbi.cell
  have q1 : IntKind.i64.wrap (4 * (i : Int)) = 4 * (i : Int) := IntWalk.i64_in _ (by omega)
  have q2 : IntKind.i64.wrap (4 * (i : Int) + 1) = 4 * (i : Int) + 1 := IntWalk.i64_in _ (by omega)
  have q3 : IntKind.i64.wrap (4 * (i : Int) + 5) = 4 * (i : Int) + 5 := IntWalk.i64_in _ (by omega)
  gi_wp2
  clear c1
  gi_loopw [4] (fun k wr => ∃ (q c : Nat), q ≤ m ∧ c = 4 * i + 1 + q ∧ k = .int .i64 c ∧ Hid (Box wr bi (.int .i64 i) ∧ Box wr bh (.pointer (some ⟨hb, 0, none⟩)) ∧ Header wr hb bt N cap ∧ J q wr)) (fun k wr => m - (intOf k - (4 * (i : Int) + 1)).toNat)
  case atStart => exact ⟨0, 4 * i + 1, Nat.zero_le _, rfl, by congr 1, hbi, hbh, hhd, h0⟩
  case round =>
    obtain ⟨q, c, hq, hc, rfl, hinv⟩ := hrel
    obtain ⟨i1, i2, i3, i4⟩ := hinv.out
    have c1 := i1.cell
    have c2 := i2.cell
    have c3 : wr.cell? ⟨hb, 1, none⟩ = some (.slice (some ⟨bt, 0, none⟩) N cap) := i3
    gi_wp2
    refine wpIn_wide.2 ?_
    refine wp_region_held_drew (S := fun W => W = wr.drew) (by kernel_rfl) rfl (fun hHeld => ?_)
    refine take_on (i := 0) (v := .int .i64 c) rfl (by kernel_rfl) (by kernel_rfl) (by kernel_rfl) (fun _ _ _ h => h) (by kernel_rfl) (fun W hSW => ?_) (by assumption) ?_
    · (try dsimp only at hSW); (try subst hSW)
      first | (go_simp; done) | exact rfl | (go_simp; rfl) | (go_simp; omega)
    try simp only [Act.put, List.setIfInBounds_toArray, List.set_cons_zero, List.set_cons_succ]
    refine take_on (i := 1) (v := .int .i64 i) rfl (by kernel_rfl) (by kernel_rfl) (by kernel_rfl) (fun _ _ _ h => h) (by kernel_rfl) (fun W hSW => ?_) (by assumption) ?_
    · (try dsimp only at hSW); (try subst hSW)
      first | (go_simp; done) | exact rfl | (go_simp; rfl) | (go_simp; omega)
    try simp only [Act.put, List.setIfInBounds_toArray, List.set_cons_zero, List.set_cons_succ]
    refine take_on (i := 2) (v := .int .i64 (4 * (i : Int))) rfl (by kernel_rfl) (by kernel_rfl) (by kernel_rfl) (fun _ _ _ h => h) (by kernel_rfl) (fun W hSW => ?_) (by assumption) ?_
    · (try dsimp only at hSW); (try subst hSW)
      first | (go_simp; done) | exact rfl | (go_simp; rfl) | (go_simp; omega)
    try simp only [Act.put, List.setIfInBounds_toArray, List.set_cons_zero, List.set_cons_succ]
    refine take_on (i := 3) (v := .int .i64 (4 * (i : Int) + 5)) rfl (by kernel_rfl) (by kernel_rfl) (by kernel_rfl) (fun _ _ _ h => h) (by kernel_rfl) (fun W hSW => ?_) (by assumption) ?_
    · (try dsimp only at hSW); (try subst hSW)
      first | (go_simp; done) | exact rfl | (go_simp; rfl) | (go_simp; omega)
    try simp only [Act.put, List.setIfInBounds_toArray, List.set_cons_zero, List.set_cons_succ]
    refine take_on (i := 4) (v := .pointer (some ⟨hb, 0, none⟩)) rfl (by kernel_rfl) (by kernel_rfl) (by kernel_rfl) (fun _ _ _ h => h) (by kernel_rfl) (fun W hSW => ?_) (by assumption) ?_
    · (try dsimp only at hSW); (try subst hSW)
      first | (go_simp; done) | exact rfl | (go_simp; rfl) | (go_simp; omega)
    try simp only [Act.put, List.setIfInBounds_toArray, List.set_cons_zero, List.set_cons_succ]
    refine take_on (i := 5) (v := .pointer (some ⟨hb, 0, none⟩)) rfl (by kernel_rfl) (by kernel_rfl) (by kernel_rfl) (fun _ _ _ h => h) (by kernel_rfl) (fun W hSW => ?_) (by assumption) ?_
    · (try dsimp only at hSW); (try subst hSW)
      first | (go_simp; done) | exact rfl | (go_simp; rfl) | (go_simp; omega)
    try simp only [Act.put, List.setIfInBounds_toArray, List.set_cons_zero, List.set_cons_succ]
    refine take_on (i := 6) (v := .pointer (some ⟨hb, 1, none⟩)) rfl (by kernel_rfl) (by kernel_rfl) (by kernel_rfl) (fun _ _ _ h => h) (by kernel_rfl) (fun W hSW => ?_) (by assumption) ?_
    · (try dsimp only at hSW); (try subst hSW)
      first | (go_simp; done) | exact rfl | (go_simp; rfl) | (go_simp; omega)
    try simp only [Act.put, List.setIfInBounds_toArray, List.set_cons_zero, List.set_cons_succ]
    refine take_on (i := 7) (v := .slice (some ⟨bt, 0, none⟩) N cap) rfl (by kernel_rfl) (by kernel_rfl) (by kernel_rfl) (fun _ _ _ h => h) (by kernel_rfl) (fun W hSW => ?_) (by assumption) ?_
    · (try dsimp only at hSW); (try subst hSW)
      first | (go_simp; done) | exact rfl | (go_simp; rfl) | (go_simp; omega)
    try simp only [Act.put, List.setIfInBounds_toArray, List.set_cons_zero, List.set_cons_succ]
    refine take_on (i := 8) (v := .int .i64 N) rfl (by kernel_rfl) (by kernel_rfl) (by kernel_rfl) (fun _ _ _ h => h) (by kernel_rfl) (fun W hSW => ?_) (by assumption) ?_
    · (try dsimp only at hSW); (try subst hSW)
      first | (go_simp; done) | exact rfl | (go_simp; rfl) | (go_simp; omega)
    try simp only [Act.put, List.setIfInBounds_toArray, List.set_cons_zero, List.set_cons_succ]
    have hmin : min (4 * (i : Int) + 5) (N : Int) = ((min (4 * i + 5) N : Nat) : Int) := by omega
    obtain ⟨M, hM⟩ : ∃ M, min (4 * i + 5) N = M := ⟨_, rfl⟩
    refine take_on (i := 9) (v := .int .i64 M) rfl (by kernel_rfl) (by kernel_rfl) (by kernel_rfl) (fun _ _ _ h => h) (by kernel_rfl) (fun W hSW => ?_) (by assumption) ?_
    · (try dsimp only at hSW); (try subst hSW)
      first | (go_simp; done) | exact rfl | (go_simp; rfl) | (go_simp; omega)
    try simp only [Act.put, List.setIfInBounds_toArray, List.set_cons_zero, List.set_cons_succ]
    have Hc := Lib.hid hc
    have HM := Lib.hid hM
    have Hmin := Lib.hid hmin
    have hJ1 := hJ q wr wr.drew i4 (Fr.refl none' wr).drew
    by_cases hlt : q < m
    · have hcM : (c : Int) < (M : Int) := by omega
      have hd : decide ((c : Int) < (M : Int)) = true := decide_eq_true hcM
      refine take_on (i := 10) (v := .bool true) rfl (by kernel_rfl) (by kernel_rfl) (by kernel_rfl) (fun _ _ _ h => h) (by kernel_rfl) (fun W hSW => ?_) (by assumption) ?_
      · (try dsimp only at hSW); (try subst hSW)
        first | (go_simp; done) | exact rfl | (go_simp; rfl) | (go_simp; omega)
      try simp only [Act.put, List.setIfInBounds_toArray, List.set_cons_zero, List.set_cons_succ]
      obtain ⟨fn, tmps, assign, body, hy, hR⟩ := hY q c wr.drew (by rw [hxs q hlt, Hc.out]) hJ1
      have q5 : IntKind.i64.wrap ((c : Int) + 1) = (c : Int) + 1 := IntWalk.i64_in _ (by omega)
      refine wpAnyH_done (by kernel_rfl) ?_ _
      clear hc hM hmin hcM hd hHeld c1 c2 c3
      gi_wp2
      refine hR.mono ?_
      rintro e W3 (⟨rfl, hJ3, hk3⟩ | ⟨rfl, hJx3⟩)
      · gi_wp2
        have e1 : Box W3 bi (.int .i64 i) := i1.of_block (hk3.2 bi (.inl rfl))
        have e2 : Box W3 bh (.pointer (some ⟨hb, 0, none⟩)) := i2.of_block (hk3.2 bh (.inr (.inl rfl)))
        have e3 : Header W3 hb bt N cap := (World.cell?_of_block (w := wr.drew) (hk3.2 hb (.inr (.inr rfl)))).trans i3
        go_roundw
        case rel => exact ⟨q + 1, c + 1, hlt, by rw [Hc.out]; omega, by simp, e1, e2, e3, hJ3⟩
        case measure =>
          have := Hc.out
          simp [intOf]; omega
      · gi_wp2
        refine bodyPost_ret (results_none rfl _ _ _) rfl ?_
        exact ⟨⟨_, rfl⟩, .inr hJx3⟩
    · have hcM : ¬ (c : Int) < (M : Int) := by omega
      have hd : decide ((c : Int) < (M : Int)) = false := decide_eq_false hcM
      refine take_on (i := 10) (v := .bool false) rfl (by kernel_rfl) (by kernel_rfl) (by kernel_rfl) (fun _ _ _ h => h) (by kernel_rfl) (fun W hSW => ?_) (by assumption) ?_
      · (try dsimp only at hSW); (try subst hSW)
        first | (go_simp; done) | exact rfl | (go_simp; rfl) | (go_simp; omega)
      try simp only [Act.put, List.setIfInBounds_toArray, List.set_cons_zero, List.set_cons_succ]
      refine wpAnyH_done (by kernel_rfl) ?_ _
      clear hc hM hmin hcM hd hHeld c1 c2 c3
      obtain rfl : q = m := by omega
      gi_wp2
      go_end0
      exact ⟨⟨_, rfl⟩, .inl hJ1⟩
end Go.Proofs.Ytbpmdhngobdilaa
