/-
  key.fields: the iterator over the fields of a key.
-/
import Derived.Test.YtbpmdhngobdilaaIterX
import Derived.Test.YtbpmdhngobdilaaInw
import Derived.Test.YtbpmdhngobdilaaChecked
import Derived.WalkKit
import Derived.WalkMore
import Derived.WalkSpells
import Derived.OwnWalkIn
import Derived.TacticsInMore
import Derived.LoopNIn
import Derived.LoopIn
import Derived.TacticsIn
import Derived.BigFrameIn
import Derived.Deep.QuietTactic
namespace Go.Proofs.Ytbpmdhngobdilaa
open Go.RowKit
attribute [local go_sem ↓] Go.wp_at_zero Go.wp_at_succ
attribute [local go_sem] Oper.semAt_some wide_fn wide_depth wide_fnR wide_depthR

/-- A field of a key: where it is, its greatest value, its bytes, what is before it in a text. -/
def fMost (i : Nat) : Int := if i = 0 then 281474976710656 else if i = 1 then 16 else 4294967295
def fSize (i : Nat) : Int := if i = 0 then 7 else if i = 1 then 1 else 4
def fMark (i : Nat) : ByteArray := if i = 0 then ⟨#[]⟩ else if i = 1 then ⟨#[64]⟩ else ⟨#[35]⟩
def fC (b i : Nat) : List Value := [.pointer (some ⟨b, i, none⟩), .int .i64 (fMost i), .int .i64 (fSize i), .string (fMark i)]
def fV (b i : Nat) : Value := .agg #[.pointer (some ⟨b, i, none⟩), .int .i64 (fMost i), .int .i64 (fSize i), .string (fMark i)]

theorem cells_of {w : World} {b : Nat} {cu : Array Value} {ty : TypeId} (h : w.heap[b]? = some (.cells cu ty (0, 0))) (o : Nat) : w.cell? ⟨b, o, none⟩ = cu[o]? := by simp [World.cell?, h]
set_option maxHeartbeats 1000000 in
theorem fields_any (b : Nat) (w : World) :
    Calls Try.prog 39 #[.pointer (some ⟨b, 0, none⟩)] w fun e w' => e = .returned (.func (.func 53) #[] #[.pointer (some ⟨w.heap.size, 0, none⟩)]) ∧ w' = w.alloc (.cells #[.pointer (some ⟨b, 0, none⟩)] 85) := by
  go_enter Try.func39, Try.ntmps39
  go_wp2
  go_ret
  exact ⟨rfl, rfl⟩

set_option maxRecDepth 100000 in
set_option maxHeartbeats 2000000 in
theorem fields_iter (b bp : Nat) (w : World) (hb : Box w bp (.pointer (some ⟨b, 0, none⟩))) :
    IterX Try.prog 53 #[.pointer (some ⟨bp, 0, none⟩)] (fun i : Nat => #[fV b i]) [0, 1, 2] none' (fun k => k = bp) w := by
  intro l J Jx W hK hJ hJx hY h0
  have hbW : Box W bp (.pointer (some ⟨b, 0, none⟩)) := hb.of_block (hK.2 bp rfl)
  have hc := hbW.cell
  have hf0 : (fMost 0 = 281474976710656 ∧ fMost 1 = 16 ∧ fMost 2 = 4294967295 ∧ fSize 0 = 7 ∧ fSize 1 = 1 ∧ fSize 2 = 4) ∧ fMark 0 = ⟨#[]⟩ ∧ fMark 1 = ⟨#[64]⟩ ∧ fMark 2 = ⟨#[35]⟩ := ⟨⟨rfl, rfl, rfl, rfl, rfl, rfl⟩, rfl, rfl, rfl⟩
  have HF := Lib.hid hf0
  have HY := Lib.hid hY
  have HJ := Lib.hid hJ
  clear hY hJ hK hb hf0
  refine callsIn_of_wp Try.func53 rfl trivial ?_ rfl
  simp only [Try.ntmps53, List.size_toArray, List.length_cons, List.length_nil, Nat.reduceAdd, Nat.reduceSub, Array.replicate_succ, Array.replicate_zero, List.push_toArray, List.append_toArray, List.nil_append, List.cons_append]
  gi_wp2
  refine wpIn_wide.2 ?_
  refine wp_region_held_drew (S := fun W' => W'.cell? ⟨bp, 0, none⟩ = some (.pointer (some ⟨b, 0, none⟩))) (by kernel_rfl) hc (fun hHeld => ?_)
  refine take_on (i := 0) (v := .pointer (some ⟨b, 0, none⟩)) rfl (by kernel_rfl) (by kernel_rfl) (by kernel_rfl) (fun _ _ _ h => h) (by kernel_rfl) (fun W hSW => ?_) (by assumption) ?_
  · (try dsimp only at hSW); (try subst hSW)
    first | (go_simp; done) | exact rfl | (go_simp; rfl) | (go_simp; omega)
  try simp only [Act.put, List.setIfInBounds_toArray, List.set_cons_zero, List.set_cons_succ]
  refine take_on (i := 1) (v := .pointer (some ⟨b, 0, none⟩)) rfl (by kernel_rfl) (by kernel_rfl) (by kernel_rfl) (fun _ _ _ h => h) (by kernel_rfl) (fun W hSW => ?_) (by assumption) ?_
  · (try dsimp only at hSW); (try subst hSW)
    first | (go_simp; done) | exact rfl | (go_simp; rfl) | (go_simp; omega)
  try simp only [Act.put, List.setIfInBounds_toArray, List.set_cons_zero, List.set_cons_succ]
  refine take_on (i := 2) (v := .pointer (some ⟨b, 0, none⟩)) rfl (by kernel_rfl) (by kernel_rfl) (by kernel_rfl) (fun _ _ _ h => h) (by kernel_rfl) (fun W hSW => ?_) (by assumption) ?_
  · (try dsimp only at hSW); (try subst hSW)
    first | (go_simp; done) | exact rfl | (go_simp; rfl) | (go_simp; omega)
  try simp only [Act.put, List.setIfInBounds_toArray, List.set_cons_zero, List.set_cons_succ]
  refine take_on (i := 3) (v := .agg #[.pointer (some ⟨b, 0, none⟩), .int .i64 281474976710656, .int .i64 7, .string ⟨#[]⟩]) rfl (by kernel_rfl) (by kernel_rfl) (by kernel_rfl) (fun _ _ _ h => h) (by kernel_rfl) (fun W hSW => ?_) (by assumption) ?_
  · (try dsimp only at hSW); (try subst hSW)
    first | (go_simp; done) | exact rfl | (go_simp; rfl) | (go_simp; omega)
  try simp only [Act.put, List.setIfInBounds_toArray, List.set_cons_zero, List.set_cons_succ]
  refine take_on (i := 4) (v := .pointer (some ⟨b, 0, none⟩)) rfl (by kernel_rfl) (by kernel_rfl) (by kernel_rfl) (fun _ _ _ h => h) (by kernel_rfl) (fun W hSW => ?_) (by assumption) ?_
  · (try dsimp only at hSW); (try subst hSW)
    first | (go_simp; done) | exact rfl | (go_simp; rfl) | (go_simp; omega)
  try simp only [Act.put, List.setIfInBounds_toArray, List.set_cons_zero, List.set_cons_succ]
  refine take_on (i := 5) (v := .pointer (some ⟨b, 0, none⟩)) rfl (by kernel_rfl) (by kernel_rfl) (by kernel_rfl) (fun _ _ _ h => h) (by kernel_rfl) (fun W hSW => ?_) (by assumption) ?_
  · (try dsimp only at hSW); (try subst hSW)
    first | (go_simp; done) | exact rfl | (go_simp; rfl) | (go_simp; omega)
  try simp only [Act.put, List.setIfInBounds_toArray, List.set_cons_zero, List.set_cons_succ]
  refine take_on (i := 6) (v := .pointer (some ⟨b, 1, none⟩)) rfl (by kernel_rfl) (by kernel_rfl) (by kernel_rfl) (fun _ _ _ h => h) (by kernel_rfl) (fun W hSW => ?_) (by assumption) ?_
  · (try dsimp only at hSW); (try subst hSW)
    first | (go_simp; done) | exact rfl | (go_simp; rfl) | (go_simp; omega)
  try simp only [Act.put, List.setIfInBounds_toArray, List.set_cons_zero, List.set_cons_succ]
  refine take_on (i := 7) (v := .agg #[.pointer (some ⟨b, 1, none⟩), .int .i64 16, .int .i64 1, .string ⟨#[64]⟩]) rfl (by kernel_rfl) (by kernel_rfl) (by kernel_rfl) (fun _ _ _ h => h) (by kernel_rfl) (fun W hSW => ?_) (by assumption) ?_
  · (try dsimp only at hSW); (try subst hSW)
    first | (go_simp; done) | exact rfl | (go_simp; rfl) | (go_simp; omega)
  try simp only [Act.put, List.setIfInBounds_toArray, List.set_cons_zero, List.set_cons_succ]
  refine take_on (i := 8) (v := .pointer (some ⟨b, 0, none⟩)) rfl (by kernel_rfl) (by kernel_rfl) (by kernel_rfl) (fun _ _ _ h => h) (by kernel_rfl) (fun W hSW => ?_) (by assumption) ?_
  · (try dsimp only at hSW); (try subst hSW)
    first | (go_simp; done) | exact rfl | (go_simp; rfl) | (go_simp; omega)
  try simp only [Act.put, List.setIfInBounds_toArray, List.set_cons_zero, List.set_cons_succ]
  refine take_on (i := 9) (v := .pointer (some ⟨b, 0, none⟩)) rfl (by kernel_rfl) (by kernel_rfl) (by kernel_rfl) (fun _ _ _ h => h) (by kernel_rfl) (fun W hSW => ?_) (by assumption) ?_
  · (try dsimp only at hSW); (try subst hSW)
    first | (go_simp; done) | exact rfl | (go_simp; rfl) | (go_simp; omega)
  try simp only [Act.put, List.setIfInBounds_toArray, List.set_cons_zero, List.set_cons_succ]
  refine take_on (i := 10) (v := .pointer (some ⟨b, 2, none⟩)) rfl (by kernel_rfl) (by kernel_rfl) (by kernel_rfl) (fun _ _ _ h => h) (by kernel_rfl) (fun W hSW => ?_) (by assumption) ?_
  · (try dsimp only at hSW); (try subst hSW)
    first | (go_simp; done) | exact rfl | (go_simp; rfl) | (go_simp; omega)
  try simp only [Act.put, List.setIfInBounds_toArray, List.set_cons_zero, List.set_cons_succ]
  refine take_on (i := 11) (v := .agg #[.pointer (some ⟨b, 2, none⟩), .int .i64 4294967295, .int .i64 4, .string ⟨#[35]⟩]) rfl (by kernel_rfl) (by kernel_rfl) (by kernel_rfl) (fun _ _ _ h => h) (by kernel_rfl) (fun W hSW => ?_) (by assumption) ?_
  · (try dsimp only at hSW); (try subst hSW)
    first | (go_simp; done) | exact rfl | (go_simp; rfl) | (go_simp; omega)
  try simp only [Act.put, List.setIfInBounds_toArray, List.set_cons_zero, List.set_cons_succ]
  refine take_on (i := 14) (v := .int .i64 0) rfl (by kernel_rfl) (by kernel_rfl) (by kernel_rfl) (fun _ _ _ h => h) (by kernel_rfl) (fun W hSW => ?_) (by assumption) ?_
  · (try dsimp only at hSW); (try subst hSW)
    first | (go_simp; done) | exact rfl | (go_simp; rfl) | (go_simp; omega)
  try simp only [Act.put, List.setIfInBounds_toArray, List.set_cons_zero, List.set_cons_succ]
  refine take_call (i := 12) rfl (by kernel_rfl) (by kernel_rfl) (fun K hK => ?_)
  go_simp
  refine hK.out _ _ (World.cell?_alloc_some _ _ _ (by rw [hc]; rfl) |>.trans hc) (fun hHeld2 => ?_)
  clear hK K
  try simp only [Act.put, List.setIfInBounds_toArray, List.set_cons_zero, List.set_cons_succ]
  refine take_on (i := 13) (v := .int .i64 3) rfl (by kernel_rfl) (by kernel_rfl) (by kernel_rfl) (fun _ _ _ h => h) (by kernel_rfl) (fun W hSW => ?_) (by assumption) ?_
  · (try dsimp only at hSW); (try subst hSW)
    first | (go_simp; done) | exact rfl | (go_simp; rfl) | (go_simp; omega)
  try simp only [Act.put, List.setIfInBounds_toArray, List.set_cons_zero, List.set_cons_succ]
  refine wpAnyH_done (by kernel_rfl) ?_ _
  clear hHeld hHeld2
  obtain ⟨R, hR0⟩ : ∃ R, W.heap.size = R := ⟨_, rfl⟩
  obtain ⟨W1, hW1⟩ : ∃ W1, (W.alloc (.cells #[.pointer (some ⟨b, 0, none⟩), .int .i64 281474976710656, .int .i64 7, .string ⟨#[]⟩, .pointer (some ⟨b, 1, none⟩), .int .i64 16, .int .i64 1, .string ⟨#[64]⟩, .pointer (some ⟨b, 2, none⟩), .int .i64 4294967295, .int .i64 4, .string ⟨#[35]⟩] 81)).drew = W1 := ⟨_, rfl⟩
  have hrow : W1.heap[R]? = some (.cells #[.pointer (some ⟨b, 0, none⟩), .int .i64 281474976710656, .int .i64 7, .string ⟨#[]⟩, .pointer (some ⟨b, 1, none⟩), .int .i64 16, .int .i64 1, .string ⟨#[64]⟩, .pointer (some ⟨b, 2, none⟩), .int .i64 4294967295, .int .i64 4, .string ⟨#[35]⟩] 81 (0, 0)) := by rw [← hW1, ← hR0]; exact World.alloc_heap_new W _
  have hj1 : J 0 (fun k => k = R) W1 := HJ.out 0 none' _ W W1 h0 (hW1 ▸ ((Fr.refl _ _).alloc _).drew) (fun k hk => .inr (by subst hk; rw [← hW1, ← hR0]; simp))
  have cs := cells_of hrow
  rw [hR0, hW1]
  have HW1 := Lib.hid hW1
  clear hW1 h0 hbW hc
  gi_wp2
  refine wpIn_loop_rounds 4 ?_
  have c0 := cs 0
  have c1 := cs 1
  have c2 := cs 2
  have c3 := cs 3
  simp at c0 c1 c2 c3
  have Hrow := Lib.hid hrow
  clear cs hrow
  have hy := HY.out 0 0 (fun k => k = R) (W1.alloc (.cells #[.pointer (some ⟨b, 0, none⟩), .int .i64 281474976710656, .int .i64 7, .string ⟨#[]⟩] 81)) rfl (HJ.out 0 _ _ _ _ hj1 ((Fr.refl _ _).alloc _) (fun k hk => .inl hk))
  rw [show fV b 0 = .agg #[.pointer (some ⟨b, 0, none⟩), .int .i64 281474976710656, .int .i64 7, .string ⟨#[]⟩] from rfl] at hy
  obtain ⟨fn, tmps, assign, body, hy, hR⟩ := hy
  have Hrow' := Lib.hid (show (W1.alloc (.cells #[.pointer (some ⟨b, 0, none⟩), .int .i64 281474976710656, .int .i64 7, .string ⟨#[]⟩] 81)).heap[R]? = _ from (Below.heap_alloc W1 _ R (Array.getElem?_eq_some_iff.1 Hrow.out).1).trans Hrow.out)
  rw [roundsIn_succ]
  gi_wp2
  refine hR.mono ?_
  rintro e W2 (⟨rfl, hj, hk⟩ | ⟨rfl, hx⟩)
  rotate_left
  · gi_wp2
    refine bodyPost_ret (results_none rfl _ _ _) rfl ?_
    exact ⟨⟨_, rfl⟩, .inr hx⟩
  clear hy hR c0 c1 c2 c3
  have Hrow := Lib.hid ((hk.2 R (.inr rfl)).trans Hrow'.out)
  clear Hrow' hk
  have c0 := cells_of Hrow.out 4
  have c1 := cells_of Hrow.out (4 + 1)
  have c2 := cells_of Hrow.out (4 + 2)
  have c3 := cells_of Hrow.out (4 + 3)
  simp at c0 c1 c2 c3
  gi_wp2
  have hy := HY.out 1 1 (fun k => k = R) (W2.alloc (.cells #[.pointer (some ⟨b, 1, none⟩), .int .i64 16, .int .i64 1, .string ⟨#[64]⟩] 81)) rfl (HJ.out 1 _ _ _ _ hj ((Fr.refl _ _).alloc _) (fun k hk => .inl hk))
  rw [show fV b 1 = .agg #[.pointer (some ⟨b, 1, none⟩), .int .i64 16, .int .i64 1, .string ⟨#[64]⟩] from rfl] at hy
  obtain ⟨fn, tmps, assign, body, hy, hR⟩ := hy
  have Hrow' := Lib.hid (show (W2.alloc (.cells #[.pointer (some ⟨b, 1, none⟩), .int .i64 16, .int .i64 1, .string ⟨#[64]⟩] 81)).heap[R]? = _ from (Below.heap_alloc W2 _ R (Array.getElem?_eq_some_iff.1 Hrow.out).1).trans Hrow.out)
  rw [roundsIn_succ]
  gi_wp2
  refine hR.mono ?_
  rintro e W3 (⟨rfl, hj, hk⟩ | ⟨rfl, hx⟩)
  rotate_left
  · gi_wp2
    refine bodyPost_ret (results_none rfl _ _ _) rfl ?_
    exact ⟨⟨_, rfl⟩, .inr hx⟩
  clear hy hR c0 c1 c2 c3
  have Hrow := Lib.hid ((hk.2 R (.inr rfl)).trans Hrow'.out)
  clear Hrow' hk
  have c0 := cells_of Hrow.out 8
  have c1 := cells_of Hrow.out (8 + 1)
  have c2 := cells_of Hrow.out (8 + 2)
  have c3 := cells_of Hrow.out (8 + 3)
  simp at c0 c1 c2 c3
  gi_wp2
  have hy := HY.out 2 2 (fun k => k = R) (W3.alloc (.cells #[.pointer (some ⟨b, 2, none⟩), .int .i64 4294967295, .int .i64 4, .string ⟨#[35]⟩] 81)) rfl (HJ.out 2 _ _ _ _ hj ((Fr.refl _ _).alloc _) (fun k hk => .inl hk))
  rw [show fV b 2 = .agg #[.pointer (some ⟨b, 2, none⟩), .int .i64 4294967295, .int .i64 4, .string ⟨#[35]⟩] from rfl] at hy
  obtain ⟨fn, tmps, assign, body, hy, hR⟩ := hy
  have Hrow' := Lib.hid (show (W3.alloc (.cells #[.pointer (some ⟨b, 2, none⟩), .int .i64 4294967295, .int .i64 4, .string ⟨#[35]⟩] 81)).heap[R]? = _ from (Below.heap_alloc W3 _ R (Array.getElem?_eq_some_iff.1 Hrow.out).1).trans Hrow.out)
  rw [roundsIn_succ]
  gi_wp2
  refine hR.mono ?_
  rintro e W4 (⟨rfl, hj, hk⟩ | ⟨rfl, hx⟩)
  rotate_left
  · gi_wp2
    refine bodyPost_ret (results_none rfl _ _ _) rfl ?_
    exact ⟨⟨_, rfl⟩, .inr hx⟩
  clear hy hR c0 c1 c2 c3
  have Hrow := Lib.hid ((hk.2 R (.inr rfl)).trans Hrow'.out)
  clear Hrow' hk
  have c0 := cells_of Hrow.out 8
  have c1 := cells_of Hrow.out (8 + 1)
  have c2 := cells_of Hrow.out (8 + 2)
  have c3 := cells_of Hrow.out (8 + 3)
  simp at c0 c1 c2 c3
  gi_wp2
  rw [roundsIn_succ]
  gi_wp2
  go_end0
  exact ⟨⟨_, rfl⟩, .inl ⟨_, hj⟩⟩
end Go.Proofs.Ytbpmdhngobdilaa
