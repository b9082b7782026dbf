/- CalendarTells: the statement: for any input the law returns true, and the arguments read as before; no condition. -/
import Derived.Test.YtmbjfmlicffclaaJb1
import Derived.Test.YtmbjfmlicffclaaJb2
import Derived.Test.YtmbjfmlicffclaaJb3
set_option linter.unusedSimpArgs false
set_option linter.unusedVariables false

/-
  A slice of acts among the arguments.
-/
namespace Go.Proofs.Ytmbjfmlicffclaa
open Go.ChangeShapes Go.WideShapes Go.ChangeAt Go.RowKit Go.Deep Go.Joins

set_option maxRecDepth 100000 in
theorem actC7 {H : Type} {enc : TypeId × Value → H} {w : World} {n : Nat} {v0 v1 v2 v3 v4 v5 v6 : Value} {y : DataW H × List MemPlace} (h : DataW.trod enc Try.prog w 0 (fun _ => true) true n 49 [v0, v1, v2, v3, v4, v5, v6] = some y) : ∃ x : Ca, (0 ≤ x.kind ∧ x.kind < 256) ∧ v0 = .int .u8 x.kind ∧ v1 = .int .i64 x.x.key.time ∧ v2 = .int .i64 x.x.key.source ∧ v3 = .int .i64 x.x.key.seq ∧ v4 = .int .i64 x.x.to ∧ v5 = .int .i64 x.x.value ∧ v6 = .int .i64 x.time := by
 obtain ⟨ys, k, _, _, _, hyl, hfl⟩ := DataW.trod_struct Try.underlying49 h
 have hone : Try.prog.cellsOf 3 = 1 := by kernel_rfl
 have hone8 : Try.prog.cellsOf 5 = 1 := by kernel_rfl
 have hfive : Try.prog.cellsOf 47 = 5 := by kernel_rfl
 have f0 : DataW.trod enc Try.prog w 0 (fun _ => true) true k 5 (([v0, v1, v2, v3, v4, v5, v6].drop 0).take (Try.prog.cellsOf 5)) = ys[0]? := hfl 0 _ rfl
 have f1 : DataW.trod enc Try.prog w 0 (fun _ => true) true k 47 (([v0, v1, v2, v3, v4, v5, v6].drop 1).take (Try.prog.cellsOf 47)) = ys[1]? := hfl 1 _ rfl
 have f2 : DataW.trod enc Try.prog w 0 (fun _ => true) true k 3 (([v0, v1, v2, v3, v4, v5, v6].drop 6).take (Try.prog.cellsOf 3)) = ys[2]? := hfl 2 _ rfl
 rw [hone8] at f0
 rw [hfive] at f1
 rw [hone] at f2
 have yl : ys.length = 3 := hyl
 have t0 : DataW.trod enc Try.prog w 0 (fun _ => true) true k 5 [v0] = some (ys[0]'(by omega)) := f0.trans (List.getElem?_eq_getElem _)
 have t1 : DataW.trod enc Try.prog w 0 (fun _ => true) true k 47 [v1, v2, v3, v4, v5] = some (ys[1]'(by omega)) := f1.trans (List.getElem?_eq_getElem _)
 have t2 : DataW.trod enc Try.prog w 0 (fun _ => true) true k 3 [v6] = some (ys[2]'(by omega)) := f2.trans (List.getElem?_eq_getElem _)
 obtain ⟨a0, rfl, l0, m0⟩ := smallC t0
 obtain ⟨x, rfl, rfl, rfl, rfl, rfl⟩ := eventC t1
 obtain ⟨a2, rfl⟩ := intC t2
 exact ⟨⟨a0, x, a2⟩, ⟨l0, m0⟩, rfl, rfl, rfl, rfl, rfl, rfl, rfl⟩
set_option maxRecDepth 100000 in
/-- A slice of acts, opened. -/
theorem acts_argC {base : Nat} {H : Type} {enc : TypeId × Value → H} {W : World} {v : Value} {d : DataW H} {ps : List MemPlace}
  (hval : Value.okWide Try.prog W .any base 38 v) (h : DataW.Trod enc Try.prog W 0 (fun _ => true) true 38 v d ps) : ∃ a n cap xs, v = .slice a n cap ∧ CasIn W a xs ∧ (∀ x ∈ xs, 0 ≤ x.kind ∧ x.kind < 256) ∧ xs.length = n ∧ n ≤ cap := by
 obtain ⟨A, n, cap, rfl⟩ := okWide_slice Try.underlying38 hval
 obtain ⟨fuel, hf⟩ := h
 rcases open_slice Try.underlying38 hf with ⟨hcs, _⟩ | ⟨a, len, cap', m, _, D, Pl, hcs, _, hl, hm, hz, _, hi⟩
 ·simp [Value.cells] at hcs
  obtain ⟨rfl, rfl, rfl⟩ := hcs
  exact ⟨none, 0, 0, [], rfl, fun j x hj => by simp at hj, fun x hx => by simp at hx, rfl, Nat.le_refl _⟩
 ·simp [Value.cells] at hcs
  obtain ⟨rfl, rfl, rfl⟩ := hcs
  have hmn : n ≤ m := by rw [hz]; split <;> omega
  have key : ∀ i, i < n → ∃ x : Ca, (0 ≤ x.kind ∧ x.kind < 256) ∧ ∃ g o, a = ⟨g, o, none⟩ ∧ CaAt W g (o + i * 7) x := fun i hin => by
   obtain ⟨cs, hc, ht⟩ := hi i (by omega)
   rw [show Try.prog.cellsOf 49 = 7 by kernel_rfl] at hc
   obtain ⟨_, hcl, hat⟩ := World.cells?_some hc
   match cs, hcl with
   | [v0, v1, v2, v3, v4, v5, v6], _ =>
   have c0 := hat 0 (by omega)
   have c1 := hat 1 (by omega)
   have c2 := hat 2 (by omega)
   have c3 := hat 3 (by omega)
   have c4 := hat 4 (by omega)
   have c5 := hat 5 (by omega)
   have c6 := hat 6 (by omega)
   obtain ⟨x, hx, rfl, rfl, rfl, rfl, rfl, rfl, rfl⟩ := actC7 ht
   obtain ⟨cs', hc', _⟩ := hi 0 (by omega)
   rw [show Try.prog.cellsOf 49 = 7 by kernel_rfl] at hc'
   obtain ⟨_, hcl', hat'⟩ := World.cells?_some hc'
   have z0 := hat' 0 (by omega)
   rw [List.getElem?_eq_getElem (by omega)] at z0
   obtain ⟨b, off, spot⟩ := a
   have hspot : spot = none := by simpa [Addr.add] using World.cell?_spot z0
   subst hspot
   rw [Addr.add_mid, Addr.add_mid] at c0 c1 c2 c3 c4 c5 c6
   exact ⟨x, hx, b, off, rfl, c0, c1, c2, c3, c4, c5, c6⟩
  obtain ⟨xs, hxl, hx⟩ := listC n key
  refine ⟨some a, n, cap, xs, rfl, fun j x hj => ?_, fun x hx' => ?_, hxl, by simpa using hl⟩
  ·obtain ⟨_, g, o, rfl, q⟩ := hx j x hj
   exact ⟨g, o, rfl, q⟩
  ·obtain ⟨j, hj⟩ := List.getElem?_of_mem hx'
   exact (hx j x hj).1
end Go.Proofs.Ytmbjfmlicffclaa

/-
  slices.Clone and slices.Equal at acts.
-/
namespace Go.Proofs.Ytmbjfmlicffclaa
open Go Go.RowKit
attribute [local go_sem ↓] Go.wp_at_zero Go.wp_at_succ
attribute [local go_sem] Oper.semAt_some wide_fn wide_depth wide_fnR wide_depthR

theorem flatCa_one (L : List Ca) : ∀ v ∈ flatCa L, v.oneCell' = true := fun v hv => by
 simp only [flatCa, List.mem_flatMap] at hv
 obtain ⟨p, _, hv⟩ := hv
 simp only [List.mem_cons, List.not_mem_nil, or_false] at hv
 rcases hv with rfl | rfl | rfl | rfl | rfl | rfl | rfl <;> rfl
theorem CasIn.flat {w : World} {g o : Nat} {L : List Ca} (h : CasIn w (some ⟨g, o, none⟩) L) (j : Nat) (u : Value) (hj : (flatCa L)[j]? = some u) : w.cell? ⟨g, o + j, none⟩ = some u := by
 have hlt : j < L.length * 7 := by rw [← flatCa_length]; exact (List.getElem?_eq_some_iff.1 hj).1
 have hk : j / 7 < L.length := by omega
 obtain ⟨g', o', e, c0, c1, c2, c3, c4, c5, c6⟩ := h (j / 7) L[j / 7] (List.getElem?_eq_getElem hk)
 injection e with e
 injection e with e1 e2
 subst e1; subst e2
 have h3 := flat_at caL_len L (j / 7) (j % 7) (by omega)
 rw [show j / 7 * 7 + j % 7 = j by omega, List.getElem?_eq_getElem hk] at h3
 have h3 : some u = (caL L[j / 7])[j % 7]? := hj.symm.trans h3
 have : j % 7 = 0 ∨ j % 7 = 1 ∨ j % 7 = 2 ∨ j % 7 = 3 ∨ j % 7 = 4 ∨ j % 7 = 5 ∨ j % 7 = 6 := by omega
 rcases this with h | h | h | h | h | h | h
 ·rw [h] at h3; rw [show o + j = o + j / 7 * 7 by omega, h3]; exact c0
 ·rw [h] at h3; rw [show o + j = o + j / 7 * 7 + 1 by omega, h3]; exact c1
 ·rw [h] at h3; rw [show o + j = o + j / 7 * 7 + 2 by omega, h3]; exact c2
 ·rw [h] at h3; rw [show o + j = o + j / 7 * 7 + 3 by omega, h3]; exact c3
 ·rw [h] at h3; rw [show o + j = o + j / 7 * 7 + 4 by omega, h3]; exact c4
 ·rw [h] at h3; rw [show o + j = o + j / 7 * 7 + 5 by omega, h3]; exact c5
 ·rw [h] at h3; rw [show o + j = o + j / 7 * 7 + 6 by omega, h3]; exact c6
theorem CasIn.src {w : World} {a : Option Addr} {L : List Ca} {n : Nat} (h : CasIn w a L) (hn : L.length = n) (cap : Nat) {tx e' : TypeId} (hk : Try.prog.underlying tx = some (.slice e')) : Src Try.prog 7 tx (.slice a n cap) n (flatCa L) w := by
 cases a with
 | none =>
  have hL : L = [] := by
   clear hn
   cases L with
   | nil => rfl
   | cons p r => obtain ⟨g, o, e, _⟩ := h 0 p rfl; cases e
  subst hL
  have hn : 0 = n := hn
  subst hn
  exact Src.ofNil w hk cap
 | some ad =>
  refine Src.ofSlice w hk ad n cap (flatCa L) (by rw [flatCa_length, hn]) (fun j u hj => ?_) (flatCa_one L)
  obtain ⟨g, o, s⟩ := ad
  obtain ⟨p, hp⟩ : ∃ p, L[0]? = some p := by
   cases L with
   | nil => simp [flatCa] at hj
   | cons p r => exact ⟨p, rfl⟩
  obtain ⟨g', o', e, _⟩ := h 0 p hp
  cases e
  rw [Addr.add_lit]
  exact h.flat j u hj
set_option maxRecDepth 100000 in
set_option maxHeartbeats 2000000 in
/-- Clone of a list of acts at any address. -/
theorem CloneA {w : World} {a : Option Addr} {n cap : Nat} (L : List Ca) (h : CasIn w a L) (hl : L.length = n) (hn : n ≤ 1000000) :
  Calls Try.prog 44 #[.slice a n cap] w fun e w' => ∃ v, e = .returned v ∧ w'.ownsRow w.heap.size 49 7 v n (flatCa L) ∧ Fr0 none' w w' := by
 obtain ⟨i0, hi0, hz0, hz1, hz2⟩ := info_parts info_act0
 have q22 : ∀ (w : World) (a : Option Addr) (n c n' c' : Nat), (binOp .eql 38 (.slice a n c) (.slice none n' c')).run Try.prog w = .ok (.bool a.isNone) w := fun w a n c n' c' => Lib.run_eql_slice_nil w _ _ a n c n' c' Try.underlying38
 cases a with
 | none =>
  have hL : L = [] := by
   cases L with
   | nil => rfl
   | cons p r => obtain ⟨g, o, e, _⟩ := h 0 p rfl; cases e
  subst hL
  obtain rfl : n = 0 := by rw [← hl]; rfl
  go_enter Try.func44, Try.ntmps44
  go_wp2
  go_ret
  exact ⟨_, rfl, World.ownsRow_nil _ _ _ _, Fr0.refl _ _⟩
 | some a =>
  have hsrc := Lib.hid (fun (W : World) (hf : Fr0 none' w W) => (h.later hf).src hl cap Try.underlying38)
  clear h hl
  go_enter Try.func44, Try.ntmps44
  go_wp2_with (at_builtin; refine wpList_append_k rfl _ _ 38 38 rfl w.heap.size 49 i0 (.agg #[.int .u8 0, .int .i64 0, .int .i64 0, .int .i64 0, .int .i64 0, .int .i64 0, .int .i64 0]) 7 56 Try.underlying38 hi0 hz0 hz1 hz2 rfl (by decide) (.slice (some ⟨w.heap.size, 0, none⟩) 0 0) 0 _ rfl (World.ownsRow_made w #[] 0 (Nat.le_refl _) (Nat.zero_le _) (by simp)) (.slice (some a) n cap) n _ rfl (hsrc.out _ ((Fr0.refl _ _).alloc _)) (by unfold maxLen; omega) (by omega) (by simp) ?_; intro v' w1 hown hgrow hdr hob)
  go_wp2
  go_ret
  exact ⟨_, rfl, by simpa using hown, ((Fr0.refl none' w).alloc _).grown hgrow (fun k hk hlt => by have : w.heap.size = k := Option.some.inj hk; omega)⟩
set_option maxRecDepth 100000 in
set_option maxHeartbeats 1000000 in
theorem run_neq_ca (k a b c d e f : Int) (w : World) : (binOp .neq 49 (.agg #[.int .u8 k, .int .i64 a, .int .i64 b, .int .i64 c, .int .i64 d, .int .i64 e, .int .i64 f]) (.agg #[.int .u8 k, .int .i64 a, .int .i64 b, .int .i64 c, .int .i64 d, .int .i64 e, .int .i64 f])).run Try.prog w = .ok (.bool false) w := by
 go_simp
section
attribute [local go_sem high] run_neq_ca
set_option maxRecDepth 100000 in
set_option maxHeartbeats 2000000 in
theorem sameCas_any (a a' : Option Addr) (n cap cap' : Nat) (xs : List Ca) (w : World) (hn : xs.length = n) (hm : n ≤ 1000000) (hc : CasIn w a xs) (hc' : CasIn w a' xs) :
  Calls Try.prog 49 #[.slice a n cap, .slice a' n cap'] w fun e w' => e = .returned (.bool true) ∧ Fr0 none' w w' := by
 have Hn := Lib.hid hn
 have Hc := Lib.hid hc
 have Hc' := Lib.hid hc'
 clear hn hc hc'
 have d0 : ((n : Int) != (n : Int)) = false := by simp
 go_enter Try.func49, Try.ntmps49
 go_wp2
 clear d0
 go_loopw [13] (fun i wr => ∃ k : Nat, k ≤ n ∧ i = .int .i64 k ∧ Hid (Fr0 none' w wr)) (fun i _ => n - (Go.RowKit.intOf i).toNat)
 case atStart => exact ⟨0, Nat.zero_le _, rfl, Fr0.refl _ _⟩
 case round =>
  obtain ⟨k, hk, rfl, hb⟩ := hrel
  by_cases hlt : k < n
  ·have h1 : k < xs.length := by rw [Hn.out]; exact hlt
   obtain ⟨x, hx⟩ : ∃ x, xs[k]? = some x := ⟨_, List.getElem?_eq_getElem h1⟩
   obtain ⟨g, o, rfl, hcx⟩ := (Hc.out.later hb.out) k x hx
   obtain ⟨g', o', rfl, hcy⟩ := (Hc'.out.later hb.out) k x hx
   obtain ⟨x0, x1, x2, x3, x4, x5, x6⟩ := hcx
   obtain ⟨y0, y1, y2, y3, y4, y5, y6⟩ := hcy
   have FW := hb
   clear hx h1
   have c1 : (0 : Int) ≤ (k : Int) := by omega
   have c2 : (k : Int) < (n : Int) := by omega
   go_wp2
   go_quiet (fail)
   go_wp2
   refine ⟨⟨k + 1, by omega, by go_num, by first | exact FW | exact ⟨FW.out.os, FW.out.tape, FW.out.output, FW.out.size, FW.out.block⟩⟩, ?_⟩
   simp [Go.RowKit.intOf]; omega
  ·go_wp2
   go_ret
   exact ⟨rfl, hb.out⟩
end
end Go.Proofs.Ytmbjfmlicffclaa

/-
  CalendarTells: tells.
-/
namespace Go.Proofs.Ytmbjfmlicffclaa
open Go Go.RowKit
attribute [local go_sem ↓] Go.wp_at_zero Go.wp_at_succ
attribute [local go_sem] Oper.semAt_some wide_fn wide_depth wide_fnR wide_depthR

theorem playC_bounds (L : List Ev) (c : Int) (A : List Ca) : (playC L c A).1.length ≤ 256 ∧ (playC L c A).2.1.length ≤ A.length ∧ ∀ t ∈ (playC L c A).2.1, t.evs.length ≤ 256 := by
 by_cases h : RightC L c
 ·by_cases h0 : 0 ≤ oddC A
  ·rw [playC_odd h h0]; simp
  ·rw [playC_right h h0]
   obtain ⟨N, rfl⟩ : ∃ N : Nat, c = (N : Int) := ⟨c.toNat, by have := h.1; omega⟩
   have hN := h.1
   rw [Int.toNat_natCast]
   have hg := h.good
   exact ⟨by have := (GoodE.acts A hg).le; simp only; omega, by simp only; rw [tlC_length]; exact Nat.le_refl _, fun t ht => by have := tlC_le A hg t ht; omega⟩
 ·rw [playC_wrong h]; simp
theorem doT_cases (L : List Ev) (c : Int) (x : Ca) : ((playC L c [x]).2.2.2 = 0 ∧ (playC L c [x]).2.1 = [doT L c x]) ∨ ((playC L c [x]).2.2.2 ≠ 0 ∧ (playC L c [x]).2.1 = [] ∧ doT L c x = ⟨0, []⟩) := by
 unfold doT
 by_cases h : RightC L c
 ·by_cases h0 : 0 ≤ oddC [x]
  ·rw [playC_odd h h0]; right; exact ⟨by simp, rfl, rfl⟩
  ·rw [playC_right h h0]; left; exact ⟨rfl, rfl⟩
 ·rw [playC_wrong h]; right; exact ⟨by simp, rfl, rfl⟩
theorem TdsIn.of_ownR {w : World} {base : Nat} {v : Value} {n : Nat} {L : List Td} (h : w.ownsRow base 137 2 v n (flatTd L)) : ∃ a cap, v = .slice a n cap ∧ L.length = n ∧ TdsIn w a L := by
 have hl : L.length = n := by have := h.1; rw [flatTd_length] at this; omega
 rcases h.2 with ⟨rfl, h0⟩ | ⟨g, cap, cur, rfl, hb, hg, hn', hcm, hs, ht⟩
 ·have : L = [] := List.eq_nil_of_length_eq_zero (by omega)
  subst this
  exact ⟨none, 0, by rw [h0], hl, fun i x h => by simp at h⟩
 ·exact ⟨_, cap, rfl, hl, TdsIn.of_flat (fun j u hj => by
   rw [Nat.zero_add, cells_in hg, ← Array.getElem?_toList]
   rw [← ht, List.getElem?_take] at hj
   split at hj
   ·exact hj
   ·cases hj)⟩
theorem EsIn.of_own' {w : World} {base : Nat} {a : Option Addr} {m c n : Nat} {L : List Ev} (h : w.ownsRow base 47 5 (.slice a m c) n (flatEv L)) : EsIn w a L := by
 obtain ⟨a', c', e, _, h1⟩ := EsIn.of_own h
 injection e with e1 _ _
 rw [e1]; exact h1
theorem TdsIn.of_own' {w : World} {base : Nat} {a : Option Addr} {m c n : Nat} {L : List Td} (h : w.ownsRow base 51 2 (.slice a m c) n (flatTd L)) : TdsIn w a L := by
 obtain ⟨a', c', e, _, h1⟩ := TdsIn.of_own h
 injection e with e1 _ _
 rw [e1]; exact h1
/-- A row of events that may be written. -/
def WrRow (w : World) (a : Option Addr) (n : Nat) : Prop := n = 0 ∨ ∃ g cu ty, a = some ⟨g, 0, none⟩ ∧ w.heap[g]? = some (.cells cu ty (0, 0)) ∧ n * 5 ≤ cu.size
theorem WrRow.of_own {w : World} {base : Nat} {a : Option Addr} {m c n : Nat} {xs : List Value} (h : w.ownsRow base 47 5 (.slice a m c) n xs) : WrRow w a n := by
 rcases h.2 with ⟨_, h0⟩ | ⟨g, cap, cur, e, hb, hg, hn, hcm, hs, ht⟩
 ·exact .inl h0
 ·injection e with e1 _ _
  exact .inr ⟨g, cur, _, e1, hg, by rw [hs]; exact Nat.mul_le_mul_right 5 hn⟩
theorem WrRow.fr0 {S : Nat → Prop} {w w' : World} {a : Option Addr} {n : Nat} (h : WrRow w a n) (hf : Fr0 S w w') (hS : ∀ g o s, a = some ⟨g, o, s⟩ → ¬ S g) : WrRow w' a n := by
 rcases h with h | ⟨g, cu, ty, e, hg, hs⟩
 ·exact .inl h
 ·exact .inr ⟨g, cu, ty, e, (hf.block g (Array.getElem?_eq_some_iff.1 hg).1 (hS g 0 none e)).trans hg, hs⟩
theorem WrRow.put {w : World} {a : Option Addr} {n i : Nat} (h : WrRow w a n) (hi : i < n) (v0 v1 v2 v3 v4 : Value) : ∃ g, a = some ⟨g, 0, none⟩ ∧ (∃ u0 u1 u2 u3 u4, w.cell? ⟨g, i * 5, none⟩ = some u0 ∧ w.cell? ⟨g, i * 5 + 1, none⟩ = some u1 ∧ w.cell? ⟨g, i * 5 + 2, none⟩ = some u2 ∧ w.cell? ⟨g, i * 5 + 3, none⟩ = some u3 ∧ w.cell? ⟨g, i * 5 + 4, none⟩ = some u4) ∧
  (w.frozen? ⟨g, i * 5, none⟩ = false ∧ w.frozen? ⟨g, i * 5 + 1, none⟩ = false ∧ w.frozen? ⟨g, i * 5 + 2, none⟩ = false ∧ w.frozen? ⟨g, i * 5 + 3, none⟩ = false ∧ w.frozen? ⟨g, i * 5 + 4, none⟩ = false) ∧
  WrRow (((((w.setCell ⟨g, i * 5, none⟩ v0).setCell ⟨g, i * 5 + 1, none⟩ v1).setCell ⟨g, i * 5 + 2, none⟩ v2).setCell ⟨g, i * 5 + 3, none⟩ v3).setCell ⟨g, i * 5 + 4, none⟩ v4) a n ∧
  Fr0 (fun k => ∃ o s, a = some ⟨k, o, s⟩) w (((((w.setCell ⟨g, i * 5, none⟩ v0).setCell ⟨g, i * 5 + 1, none⟩ v1).setCell ⟨g, i * 5 + 2, none⟩ v2).setCell ⟨g, i * 5 + 3, none⟩ v3).setCell ⟨g, i * 5 + 4, none⟩ v4) := by
 rcases h with h | ⟨g, cu, ty, rfl, hg, hs⟩
 ·omega
 ·have hc : ∀ j, j < n * 5 → ∃ u, w.cell? ⟨g, j, none⟩ = some u := fun j hj => ⟨cu[j], by rw [cells_in hg]; exact Array.getElem?_eq_getElem (by omega)⟩
  obtain ⟨u0, c0⟩ := hc (i * 5) (by omega)
  obtain ⟨u1, c1⟩ := hc (i * 5 + 1) (by omega)
  obtain ⟨u2, c2⟩ := hc (i * 5 + 2) (by omega)
  obtain ⟨u3, c3⟩ := hc (i * 5 + 3) (by omega)
  obtain ⟨u4, c4⟩ := hc (i * 5 + 4) (by omega)
  refine ⟨g, rfl, ⟨u0, u1, u2, u3, u4, c0, c1, c2, c3, c4⟩, ⟨thaw_in hg _, thaw_in hg _, thaw_in hg _, thaw_in hg _, thaw_in hg _⟩, .inr ⟨g, _, ty, rfl, heap_set_cell (heap_set_cell (heap_set_cell (heap_set_cell (heap_set_cell hg _) _) _) _) _, by simpa using hs⟩, ?_⟩
  exact (((((Fr0.refl _ _).setCell (fun _ => ⟨0, none, rfl⟩) _).setCell (fun _ => ⟨0, none, rfl⟩) _).setCell (fun _ => ⟨0, none, rfl⟩) _).setCell (fun _ => ⟨0, none, rfl⟩) _).setCell (fun _ => ⟨0, none, rfl⟩) _
def d2 (cap n : Nat) (a : Option Addr) : Option Addr := if cap = n then a else a.map (fun x => x.add (n * 2))
theorem TdsIn.drop {w : World} {g o : Nat} {L : List Td} (h : TdsIn w (some ⟨g, o, none⟩) L) (i : Nat) : TdsIn w (some ⟨g, o + i * 2, none⟩) (L.drop i) := fun j x hx => by
 rw [List.getElem?_drop] at hx
 obtain ⟨g', o', e, hc⟩ := h (i + j) x hx
 injection e with e
 injection e with e1 e2
 subst e1 e2
 refine ⟨g, o + i * 2, rfl, ?_⟩
 rw [show o + i * 2 + j * 2 = o + (i + j) * 2 by omega]
 exact hc
theorem TdsIn.rest {W : World} {a : Option Addr} {S : List Td} (h : TdsIn W a S) {cap : Nat} (hc : S.length ≤ cap) (n : Nat) : TdsIn W (d2 cap n a) (S.drop n) := by
 unfold d2
 split
 ·next e =>
  rw [List.drop_of_length_le (by omega)]
  exact fun i x hx => by simp at hx
 ·cases a with
  | none =>
   intro i x hx
   rw [List.getElem?_drop] at hx
   obtain ⟨g, o, e, _⟩ := h _ x hx
   cases e
  | some A =>
   intro i x hx
   have hx' := hx
   rw [List.getElem?_drop] at hx'
   obtain ⟨g, o, e, _⟩ := h _ x hx'
   injection e with e
   subst e
   have h1 := h.drop n i x hx
   rw [Option.map_some, Addr.add_mid]
   exact h1
/-- What tells has written so far: the events, and the rows of the first acts. -/
def SW (oa : Option Addr) (ys : List Td) (k g : Nat) : Prop := (∃ o s, oa = some ⟨g, o, s⟩) ∨ ∃ y ∈ ys.take k, y.v.ownBlock = some g
theorem SW.mono {oa : Option Addr} {ys : List Td} {j k g : Nat} (hjk : j ≤ k) (h : SW oa ys j g) : SW oa ys k g := h.imp id fun ⟨y, hy, e⟩ => ⟨y, by
 obtain ⟨i, hi, rfl⟩ := List.mem_take_iff_getElem.1 hy
 exact List.mem_take_iff_getElem.2 ⟨i, by omega, rfl⟩, e⟩
theorem SW.off {W : World} {T : List Tl} {ys : List Td} {v : Value} {base on oc : Nat} {oa : Option Addr} (hT : TdsOk W T ys v base (fun k => (Value.slice oa on oc).ownBlock = some k)) {j k g : Nat} {y : Td} (hy : ys[j]? = some y) (hk : k ≤ j) (hg : y.v.ownBlock = some g) : ¬ SW oa ys k g := by
 rintro (⟨o, s, e⟩ | ⟨z, hz, e⟩)
 ·exact (hT.out y (List.mem_of_getElem? hy) g hg).1 (by rw [e]; rfl)
 ·obtain ⟨i, hi, rfl⟩ := List.mem_take_iff_getElem.1 hz
  obtain ⟨hj, rfl⟩ := List.getElem?_eq_some_iff.1 hy
  exact List.pairwise_iff_getElem.1 hT.two i j (by omega) hj (by omega) g e hg
theorem SW.mid {W : World} {T : List Tl} {ys : List Td} {v : Value} {base M : Nat} {S : Nat → Prop} {oa : Option Addr} (hT : TdsOk W T ys v base S) (hM : ∀ y ∈ ys, ∀ g, y.v.ownBlock = some g → g < M) (ho : ∀ g o s, oa = some ⟨g, o, s⟩ → base ≤ g ∧ g < M) {k g : Nat} (h : SW oa ys k g) : base ≤ g ∧ g < M := by
 rcases h with ⟨o, s, e⟩ | ⟨y, hy, e⟩
 ·exact ho g o s e
 ·have hy := List.mem_of_mem_take hy
  exact ⟨(hT.out y hy g e).2.2, hM y hy g e⟩
theorem CasIn.off {S : Nat → Prop} {w w' : World} {a : Option Addr} {F : List Ca} (h : CasIn w a F) (hf : Fr0 S w w') (hS : ∀ g o s, a = some ⟨g, o, s⟩ → F ≠ [] → ¬ S g) : CasIn w' a F := by
 cases F with
 | nil => exact fun i x hx => by simp at hx
 | cons x r => exact h.fr0 hf (fun g o s e => hS g o s e (by simp))
set_option maxRecDepth 100000 in
set_option maxHeartbeats 4000000 in
theorem tells12_any {w : World} {a aa : Option Addr} {n cap m ca : Nat} {c : Int} (L : List Ev) (A : List Ca) (h : EsIn w a L) (hl : L.length = n) (hn : n ≤ 1000) (hcap : n ≤ cap) (hA : CasIn w aa A) (hAl : A.length = m) (hm : m ≤ 1000) (hmc : m ≤ ca) (hk : ∀ x ∈ A, 0 ≤ x.kind ∧ x.kind < 256) :
  Calls Try.prog 19 #[.slice a n cap, .int .i64 c, .slice aa m ca] w fun e w' => e = .returned (.bool true) ∧ Fr0 none' w w' := by
 have HC := Lib.hid (CloneE (cap := cap) L h hl (by omega))
 have HCA := Lib.hid (fun (W : World) (hf : Fr0 none' w W) => CloneA (cap := ca) A (hA.later hf) hAl (by omega))
 have HL := Lib.hid h
 have HA := Lib.hid hA
 have Hl := Lib.hid hl
 have HAl := Lib.hid hAl
 have HK := Lib.hid hk
 clear h hl hA hAl hk
 go_enter Try.func19, Try.ntmps19
 go_wp2_with fail
 refine HC.out.mono ?_
 rintro e w1 ⟨v, rfl, hv, hf⟩
 obtain ⟨va, vc, rfl, _, hvi⟩ := EsIn.of_own hv
 have hvc : n ≤ vc := own_cap hv rfl
 have Hv := Lib.hid (show ∀ g o s, va = some ⟨g, o, s⟩ → w.heap.size ≤ g ∧ g < w1.heap.size from fun g o s e => hv.lt g (by rw [e]; rfl))
 have HV := Lib.hid hvi
 have F1 := Lib.hid hf
 clear hv hvi HC
 go_wp2_with fail
 refine (HCA.out _ hf).mono ?_
 rintro e w2 ⟨u, rfl, hu, hf2⟩
 obtain ⟨ua, uc, rfl, _, huc, hui⟩ := CasIn.of_own hu
 have Hu := Lib.hid (show ∀ g o s, ua = some ⟨g, o, s⟩ → w1.heap.size ≤ g ∧ g < w2.heap.size from fun g o s e => hu.lt g (by rw [e]; rfl))
 have HU := Lib.hid hui
 have HV := Lib.hid (HV.out.later hf2)
 have F2 := Lib.hid (hf.trans hf2)
 have F12 := Lib.hid hf2
 clear hu hui hf hf2 HCA
 go_wp2_with fail
 refine (Play_any (c := c) (cap := vc) (ca := uc) L A HV.out Hl.out (by omega) hvc HU.out HAl.out (by omega) HK.out).mono ?_
 rintro e w3 ⟨ov, av, ys, rfl, ho, hall, hT, hov, hf3⟩
 obtain ⟨oa, oc, rfl, hol, hoi⟩ := EsIn.of_own ho
 obtain ⟨ala, alc, rfl, hal, hali⟩ := TdsIn.of_own hall
 have HO := Lib.hid ho
 have HOlt := Lib.hid (show ∀ g o s, oa = some ⟨g, o, s⟩ → w2.heap.size ≤ g ∧ g < w3.heap.size from fun g o s e => ho.lt g (by rw [e]; rfl))
 have HYlt := Lib.hid (show ∀ y ∈ ys, ∀ g, y.v.ownBlock = some g → g < w3.heap.size from fun y hy g hg => hT.lt y hy g hg)
 have HALL := Lib.hid hall
 have HT := Lib.hid hT
 have HOV := Lib.hid hov
 have HLt := Lib.hid (HL.out.later (F2.out.trans hf3))
 have hB := playC_bounds L c A
 rw [HAl.out] at hB
 obtain ⟨PR, hPR⟩ : ∃ p, playC L c A = p := ⟨_, rfl⟩
 rw [hPR] at hB
 have HPR := Lib.hid hPR
 rw [hPR] at HO HALL HT hol hal ⊢
 obtain ⟨E, T, ix, er⟩ := PR
 simp only at HO HALL HT hol hal ⊢
 obtain ⟨on, hon⟩ : ∃ l, E.length = l := ⟨_, rfl⟩
 obtain ⟨tn, htn⟩ : ∃ l, T.length = l := ⟨_, rfl⟩
 rw [hon] at HO ⊢
 rw [htn] at HALL ⊢
 have Hon := Lib.hid hon
 have Htn := Lib.hid htn
 simp only [hon, htn] at hB
 obtain ⟨hon256, htnm, hB3⟩ := hB
 have HB3 := Lib.hid hB3
 clear hB3
 have F3 := Lib.hid hf3
 have HTH := Lib.hid (fun (W : World) (hf : Fr0 none' w W) => theirs_any (cap := ca) A (HA.out.later hf) HAl.out (by omega))
 clear ho hall hT hov hoi hali hPR hon htn hf3 hol hal
 go_wp2_with fail
 refine (HTH.out _ (F2.out.trans F3.out)).mono ?_
 rintro e w4 ⟨q, rfl, hq, hf4⟩
 obtain ⟨qa, qc, rfl, _, hqc, hqi⟩ := flatCa_ownR hq
 have F4 := Lib.hid hf4
 have HRP := Lib.hid (rPlay_any (c := c) (cap := cap) (ca := qc) L A (HLt.out.later hf4) Hl.out hn hcap hqi HAl.out (by omega))
 unfold EndRP at HRP
 rw [HPR.out] at HRP
 simp only [Hon.out, Htn.out] at HRP
 clear hq hqi hf4
 go_wp2_with fail
 refine HRP.out.mono ?_
 rintro e w5 ⟨wa, wc, sv, zs, rfl, hw, hfw, hsv, hzt, hz, hf5⟩
 obtain ⟨sa, sc, rfl, hzl, hsi⟩ := TdsIn.of_ownR hsv
 have f35 := F4.out.trans hf5
 have HO := Lib.hid (ownsRow_fr0 HO.out f35 (fun _ _ h => h))
 have HALL := Lib.hid (ownsRow_fr0 HALL.out f35 (fun _ _ h => h))
 have HT := Lib.hid (HT.out.later f35)
 have F25 := Lib.hid (F3.out.trans f35)
 have HV := Lib.hid (HV.out.later F25.out)
 have HU := Lib.hid (HU.out.later F25.out)
 have F5 := Lib.hid (F2.out.trans F25.out)
 have HL5 := Lib.hid (HL.out.later F5.out)
 have HA5 := Lib.hid (HA.out.later F5.out)
 have HW := Lib.hid hw
 have HFW := Lib.hid hfw
 have HSV := Lib.hid hsv
 have HSI := Lib.hid hsi
 have HZT := Lib.hid hzt
 have HZ := Lib.hid hz
 have HZL := Lib.hid hzl
 have HYL := Lib.hid (show ys.length = tn by rw [← Htn.out, ← HT.out.tl, List.length_map])
 have S34 := Lib.hid (show w3.heap.size ≤ w4.heap.size from F4.out.size)
 have S23 := Lib.hid F3.out.size
 have S12 := Lib.hid F12.out.size
 have S01 := Lib.hid F1.out.size
 clear hw hfw hsv hsi hzt hz hzl hf5 f35 HRP F4 HLt
 have HR1 := Lib.hid (CRight_any (w := w5) (c := c) (cap := vc) L HV.out Hl.out (by omega) hvc)
 go_wp2_with fail
 refine HR1.out.mono ?_
 rintro e w6 ⟨b1, rfl, hb1, hf⟩
 have FW := Lib.hid hf
 have Hb1 := Lib.hid hb1
 clear hf hb1 HR1
 go_wp2_with fail
 refine (rRight12_any (w := w6) (c := c) (cap := cap) L (HL5.out.later FW.out) Hl.out (by omega) hcap).mono ?_
 rintro e w7 ⟨b2, rfl, hb2, hf⟩
 have FW := Lib.hid (FW.out.trans hf)
 obtain rfl : b1 = b2 := by
  have := Hb1.out
  rw [Bool.eq_iff_iff, this, hb2]
 clear hf hb2 Hb1
 have hbne : (b1 != b1) = false := by simp
 go_wp2_with fail
 have HS := sameEs_any oa wa on on oc wc E E w7 Hon.out Hon.out (by omega) (by omega) ((EsIn.of_own' HO.out).later FW.out) (HW.out.later FW.out)
 rw [decide_eq_true rfl] at HS
 refine HS.mono ?_
 clear HS hbne
 rintro e w8 ⟨rfl, hf⟩
 have FW := Lib.hid (FW.out.trans hf)
 clear hf
 go_wp2_with fail
 have HYE := Lib.hid (show TdEv w5 ys from fun y hy => by
  have h1 := HT.out.row y hy
  have h2 := HB3.out y.tl (by rw [← HT.out.tl]; exact List.mem_map.2 ⟨y, hy, rfl⟩)
  have h2 : y.evs.length ≤ 256 := h2
  obtain ⟨p, cp, e1, e2, e3⟩ := EsIn.of_own h1
  injection e1 with f1 f2 f3
  rw [f1]
  exact ⟨e3, f2.symm, by omega⟩)
 have HZE := Lib.hid (show TdEv w5 zs from fun y hy => by
  have h2 := HB3.out y.tl (by rw [← HZT.out]; exact List.mem_map.2 ⟨y, hy, rfl⟩)
  have h2 : y.evs.length ≤ 256 := h2
  obtain ⟨h3, h4, _⟩ := HZ.out y hy
  exact ⟨h3, h4.symm, by omega⟩)
 have HS := told12_any ala sa tn tn alc sc ys zs w8 HYL.out HZL.out (by omega) (by omega) ((TdsIn.of_own' HALL.out).later FW.out) (HSI.out.later FW.out) (HYE.out.later FW.out) (HZE.out.later FW.out)
 rw [decide_eq_true (HT.out.tl.trans HZT.out.symm)] at HS
 refine HS.mono ?_
 clear HS
 rintro e w9 ⟨rfl, hf⟩
 have FW := Lib.hid (FW.out.trans hf)
 clear hf
 have q1 : (ix != ix) = false := by simp
 have q2 : (er != er) = false := by simp
 obtain ⟨k1, hk1⟩ : ∃ k, min m 1 = k := ⟨_, rfl⟩
 have q3 : min (m : Int) 1 = (k1 : Int) := by omega
 have q4 : (k1 : Int) ≤ (ca : Int) := by omega
 have Hk1 := Lib.hid hk1
 go_wp2_with fail
 clear q1 q2 q3 q4 hk1
 go_loopw [18, 19, 20, 21, 22, 23, 24, 25, 87] (fun _ _ _ _ _ _ _ _ i wr => ∃ k : Nat, k ≤ k1 ∧ i = .int .i64 k ∧ Hid (Fr0 none' w5 wr)) (fun _ _ _ _ _ _ _ _ i _ => k1 - (Go.RowKit.intOf i).toNat)
 case atStart => exact ⟨0, Nat.zero_le _, rfl, FW⟩
 case round =>
  obtain ⟨k, hk, rfl, hfr⟩ := hrel
  by_cases hlt : k < k1
  ·have hk0 : k = 0 ∧ k1 = 1 ∧ 1 ≤ m := by have := Hk1.out; omega
   have Hk0 := Lib.hid hk0
   have hkb : k ≤ 1000 := by omega
   have hm1 : 1 ≤ m := hk0.2.2
   obtain ⟨x, hx⟩ : ∃ x, A[k]? = some x := ⟨_, List.getElem?_eq_getElem (by rw [HAl.out]; omega)⟩
   obtain ⟨g, o, rfl, hxc⟩ := (HA5.out.later hfr.out) k x hx
   have z1 : (0 : Int) ≤ (k : Int) := by omega
   have z2 : (k : Int) < (k1 : Int) := by omega
   obtain ⟨x0, x1, x2, x3, x4, x5, x6⟩ := hxc
   have hA1 : A.take 1 = [x] := by rw [hk0.1] at hx; rw [List.take_add_one, hx]; rfl
   have HA1 := Lib.hid hA1
   have Hkx := Lib.hid (HK.out x (List.mem_of_getElem? hx))
   obtain ⟨ab, hab⟩ : ∃ b, wr.heap.size = b := ⟨_, rfl⟩
   obtain ⟨W1, hW1⟩ : ∃ V, wr.alloc (.cells #[.int .u8 x.kind, .int .i64 x.x.key.time, .int .i64 x.x.key.source, .int .i64 x.x.key.seq, .int .i64 x.x.to, .int .i64 x.x.value, .int .i64 x.time] 49) = V := ⟨_, rfl⟩
   have f1 : Fr0 none' wr W1 := by rw [← hW1]; exact (Fr0.refl _ _).alloc _
   have b1' : W1.heap[ab]? = some (.cells #[.int .u8 x.kind, .int .i64 x.x.key.time, .int .i64 x.x.key.source, .int .i64 x.x.key.seq, .int .i64 x.x.to, .int .i64 x.x.value, .int .i64 x.time] 49 (0, 0)) := by rw [← hW1, ← hab]; exact World.alloc_heap_new _ _
   have y0 := cells_in b1' 0
   have y1 := cells_in b1' 1
   have y2 := cells_in b1' 2
   have y3 := cells_in b1' 3
   have y4 := cells_in b1' 4
   have y5 := cells_in b1' 5
   have y6 := cells_in b1' 6
   simp at y0 y1 y2 y3 y4 y5 y6
   have FW1 := Lib.hid (hfr.out.trans f1)
   have B1 := Lib.hid b1'
   clear hx hA1 f1 b1' hfr hk0
   go_wp2_with fail
   clear hW1 y0 y1 y2 y3 y4 y5 y6 x0 x1 x2 x3 x4 x5 x6 hab z1 z2
   have HD := Do_any (w := W1) (c := c) (cap := vc) L x (HV.out.later FW1.out) Hl.out (by omega) hvc Hkx.out
   unfold actCV EndD at HD
   refine HD.mono ?_
   clear HD
   rintro e w10 ⟨nv, y, rfl, hnv, hyt, hyr, _, hf⟩
   obtain ⟨na, nc, rfl, _, hni⟩ := EsIn.of_own hnv
   have FW := Lib.hid (FW1.out.trans hf)
   have HNI := Lib.hid hni
   have HYT := Lib.hid hyt
   have hYR : EsIn w10 y.sa y.evs ∧ y.evs.length = y.sn := by
    obtain ⟨p, cp, e1, e2, e3⟩ := EsIn.of_own hyr
    unfold Td.v at e1
    injection e1 with f1 f2 f3
    rw [f1]
    exact ⟨e3, f2.symm⟩
   have HYR := Lib.hid hYR
   obtain ⟨tb, htb⟩ : ∃ b, w10.heap.size = b := ⟨_, rfl⟩
   obtain ⟨W2, hW2⟩ : ∃ V, w10.alloc (.cells #[.int .i64 y.err, .slice y.sa y.sn y.sc] 51) = V := ⟨_, rfl⟩
   have f2 : Fr0 none' w10 W2 := by rw [← hW2]; exact (Fr0.refl _ _).alloc _
   have b2' : W2.heap[tb]? = some (.cells #[.int .i64 y.err, .slice y.sa y.sn y.sc] 51 (0, 0)) := by rw [← hW2, ← htb]; exact World.alloc_heap_new _ _
   have FW2 := Lib.hid (FW.out.trans f2)
   have F2b := Lib.hid f2
   have B2 := Lib.hid b2'
   obtain ⟨P1, hP1⟩ : ∃ p, playC L c [x] = p := ⟨_, rfl⟩
   have hB1 := playC_bounds L c [x]
   have hd := doT_cases L c x
   rw [hP1] at hB1 hd HNI ⊢
   have HP1 := Lib.hid hP1
   obtain ⟨E1, T1, i1, f1⟩ := P1
   simp only at hB1 hd HNI ⊢
   obtain ⟨n1, hn1⟩ : ∃ l, E1.length = l := ⟨_, rfl⟩
   rw [hn1] at hB1 ⊢
   have Hn1 := Lib.hid hn1
   have Hd := Lib.hid hd
   have hn1' := hB1.1
   clear hnv hyt hyr hf hni hYR hP1 hn1 hd f2 b2' hB1
   unfold Td.val
   go_wp2_with fail
   clear hW2 htb
   have hA2 : CasIn W2 (some ⟨g, o, none⟩) [x] := by rw [← HA1.out]; exact (HA5.out.later FW2.out).take 1
   refine (theirs_any (n := 1) (cap := ca) [x] hA2 rfl (by omega)).mono ?_
   rintro e w11 ⟨q, rfl, hq, hf⟩
   obtain ⟨qa1, qc1, rfl, _, hqc1, hqi1⟩ := flatCa_ownR hq
   have FW := Lib.hid (FW2.out.trans hf)
   have F2b := Lib.hid (F2b.out.trans hf)
   have B2 := Lib.hid ((hf.block _ (Array.getElem?_eq_some_iff.1 B2.out).1 id).trans B2.out)
   have HRP1 := Lib.hid (rPlay_any (w := w11) (c := c) (cap := cap) (m := 1) (ca := qc1) L [x] (HL5.out.later FW.out) Hl.out hn hcap hqi1 rfl (by omega))
   unfold EndRP at HRP1
   rw [HP1.out] at HRP1
   simp only [Hn1.out] at HRP1
   clear hq hqi1 hf hA2
   go_wp2_with fail
   refine HRP1.out.mono ?_
   rintro e w12 ⟨wa1, wc1, sv1, zs1, rfl, hw, _, hsv, hzt, hz, hf⟩
   obtain ⟨sa1, sc1, rfl, hzl, hsi⟩ := TdsIn.of_ownR hsv
   have FW := Lib.hid (FW.out.trans hf)
   have F2b := Lib.hid (F2b.out.trans hf)
   have B2 := Lib.hid ((hf.block _ (Array.getElem?_eq_some_iff.1 B2.out).1 id).trans B2.out)
   have HW1 := Lib.hid hw
   have HSI1 := Lib.hid hsi
   have HZT1 := Lib.hid hzt
   have HZ1 := Lib.hid hz
   have HZL1 := Lib.hid hzl
   clear hw hsv hzt hz hf hzl hsi HRP1
   rcases Hd.out with ⟨rfl, hT1⟩ | ⟨h0, hT1, hdt⟩
   ·subst hT1
    simp only [List.length_cons, List.length_nil, Nat.zero_add, Nat.reduceAdd] at HZL1
    go_wp2_with fail
    have HS := sameEs_any na wa1 n1 n1 nc wc1 E1 E1 w12 Hn1.out Hn1.out (by omega) (by omega) (HNI.out.later F2b.out) HW1.out
    rw [decide_eq_true rfl] at HS
    refine HS.mono ?_
    clear HS
    rintro e w13 ⟨rfl, hf⟩
    have FW := Lib.hid (FW.out.trans hf)
    have F2b := Lib.hid (F2b.out.trans hf)
    have B2 := Lib.hid ((hf.block _ (Array.getElem?_eq_some_iff.1 B2.out).1 id).trans B2.out)
    have HSI1 := Lib.hid (HSI1.out.later hf)
    have HZ1 := Lib.hid (HZ1.out.later hf)
    clear hf
    have HYR := Lib.hid (show EsIn w13 y.sa y.evs ∧ y.evs.length = y.sn from ⟨HYR.out.1.later F2b.out, HYR.out.2⟩)
    have t0 := cells_in B2.out 0
    have t1 := cells_in B2.out 1
    simp at t0 t1
    obtain ⟨rb, hrb⟩ : ∃ b, w13.heap.size = b := ⟨_, rfl⟩
    obtain ⟨W4, hW4⟩ : ∃ V, w13.alloc (.cells #[.int .i64 y.err, .slice y.sa y.sn y.sc] 51) = V := ⟨_, rfl⟩
    have f4 : Fr0 none' w13 W4 := by rw [← hW4]; exact (Fr0.refl _ _).alloc _
    have b4 : W4.heap[rb]? = some (.cells #[.int .i64 y.err, .slice y.sa y.sn y.sc] 51 (0, 0)) := by rw [← hW4, ← hrb]; exact World.alloc_heap_new _ _
    have hyin : TdsIn W4 (some ⟨rb, 0, none⟩) [y] := fun i z hz => by
     match i with
     | 0 =>
      obtain rfl : _ = z := by simpa using hz
      exact ⟨rb, 0, rfl, cells_in b4 0, cells_in b4 1⟩
     | i + 1 => simp at hz
    have htl : y.tl = doT L c x := HYT.out
    have hev : (doT L c x).evs.length ≤ 256 := by
     have := (playC_bounds L c [x]).2.2 (doT L c x) (by rw [HP1.out]; simp)
     exact this
    have hyl : y.evs.length ≤ 256 := by
     have h1 : y.tl.evs.length ≤ 256 := by rw [htl]; exact hev
     exact h1
    have HTo := told12_any (some ⟨rb, 0, none⟩) sa1 1 1 1 sc1 [y] zs1 W4 rfl HZL1.out (by omega) (by omega) hyin (HSI1.out.later f4) (fun z hz => by
     obtain rfl := List.mem_singleton.1 hz
     exact ⟨HYR.out.1.later f4, HYR.out.2, by have := HYR.out.2; omega⟩) (fun z hz => by
     obtain ⟨h1, h2, _⟩ := HZ1.out z hz
     have h3 : z.tl ∈ zs1.map Td.tl := List.mem_map.2 ⟨z, hz, rfl⟩
     rw [HZT1.out] at h3
     have h4 : z.tl = doT L c x := by simpa using h3
     have h5 : z.tl.evs.length ≤ 256 := by rw [h4]; exact hev
     have h5 : z.evs.length ≤ 256 := h5
     exact ⟨h1.later f4, h2.symm, by omega⟩)
    rw [decide_eq_true (by rw [HZT1.out, ← htl]; rfl)] at HTo
    have HTo := Lib.hid HTo
    have FW := Lib.hid (FW.out.trans f4)
    clear f4 b4 hyin htl hev hyl
    go_wp2_with fail
    clear hW4 t0 t1 hrb
    refine HTo.out.mono ?_
    rintro e w14 ⟨rfl, hf⟩
    have FW := Lib.hid (FW.out.trans hf)
    clear hf HTo
    go_wp2_with fail
    go_roundw
    case rel => exact ⟨k + 1, by have := Hk0.out; omega, by go_num, FW⟩
    case measure => simp [Go.RowKit.intOf]; have := Hk0.out; omega
   ·subst hT1
    simp only [List.length_nil] at HZL1
    have e1 : (f1 == 0) = false := beq_eq_false_iff_ne.2 h0
    have e2 : (f1 != f1) = false := by simp
    have e3 : (f1 != 0) = true := by simp [h0]
    go_wp2_with fail
    have HS := sameEs_any na wa1 n1 n1 nc wc1 E1 E1 w12 Hn1.out Hn1.out (by omega) (by omega) (HNI.out.later F2b.out) HW1.out
    rw [decide_eq_true rfl] at HS
    refine HS.mono ?_
    clear HS
    rintro e w13 ⟨rfl, hf⟩
    have FW := Lib.hid (FW.out.trans hf)
    have F2b := Lib.hid (F2b.out.trans hf)
    have B2 := Lib.hid ((hf.block _ (Array.getElem?_eq_some_iff.1 B2.out).1 id).trans B2.out)
    have HSI1 := Lib.hid (HSI1.out.later hf)
    have HZ1 := Lib.hid (HZ1.out.later hf)
    clear hf
    have hy0 : y.err = 0 ∧ y.evs = [] := by
     have h1 := HYT.out
     rw [hdt] at h1
     unfold Td.tl at h1
     injection h1 with h1 h2
     exact ⟨h1, h2⟩
    have hys : y.sn = 0 := by rw [← HYR.out.2, hy0.2]; rfl
    have t0 := cells_in B2.out 0
    have t1 := cells_in B2.out 1
    simp at t0 t1
    rw [hy0.1] at t0
    rw [hys] at t1
    clear hy0 hys hdt
    go_wp2_with fail
    go_roundw
    case rel => exact ⟨k + 1, by have := Hk0.out; omega, by go_num, FW⟩
    case measure => simp [Go.RowKit.intOf]; have := Hk0.out; omega
  ·have FW := hfr
   have HWR := Lib.hid ((WrRow.of_own HO.out).fr0 FW.out (fun _ _ _ _ h => h))
   have FO := Lib.hid (FW.out.mono (S' := fun g => ∃ o s, oa = some ⟨g, o, s⟩) (fun _ _ h => h.elim))
   clear hfr FW
   go_wp2_with fail
   go_loopw [26, 157] (fun _ i wr => ∃ k : Nat, k ≤ on ∧ i = .int .i64 k ∧ Hid (WrRow wr oa on) ∧ Hid (Fr0 (fun g => ∃ o s, oa = some ⟨g, o, s⟩) w5 wr)) (fun _ i _ => on - (Go.RowKit.intOf i).toNat)
   case atStart => exact ⟨0, Nat.zero_le _, rfl, HWR, FO⟩
   case round =>
    obtain ⟨k, hk, rfl, hwr, hfo⟩ := hrel
    by_cases hlt : k < on
    ·obtain ⟨g, hoa, ⟨u0, u1, u2, u3, u4, c0, c1, c2, c3, c4⟩, ⟨t0, t1, t2, t3, t4⟩, hw', hf'⟩ := hwr.out.put hlt (.int .i64 0) (.int .i64 0) (.int .i64 0) (.int .i64 (-1)) (.int .i64 0)
     have Hw' := Lib.hid hw'
     have Hf' := Lib.hid (hfo.out.trans hf')
     have Hoa := Lib.hid hoa
     subst hoa
     have z1 : (0 : Int) ≤ (k : Int) := by omega
     have z2 : (k : Int) < (on : Int) := by omega
     clear hw' hf' hwr hfo
     go_wp2_with fail
     go_roundw
     case rel => exact ⟨k + 1, by omega, by go_num, Hw', Hf'⟩
     case measure => simp [Go.RowKit.intOf]; omega
    ·have HM := Lib.hid (show ∀ W, Fr0 (fun g => w2.heap.size ≤ g ∧ g < w3.heap.size) w5 W → (EsIn W va L ∧ CasIn W ua A) ∧ (EsIn W a L ∧ CasIn W aa A) ∧ TdsIn W sa zs ∧ TdEv W zs from fun W hf => by
      have h12 := S12.out
      have h01 := S01.out
      have h34 := S34.out
      refine ⟨⟨HV.out.off hf (fun g o s e _ hk => by have := Hv.out g o s e; omega), HU.out.off hf (fun g o s e _ hk => by have := Hu.out g o s e; omega)⟩, ⟨HL5.out.off hf (fun g o s e h0 hk => by have := HL.out.ltC h0 g o s e; omega), HA5.out.off hf (fun g o s e h0 hk => by have := HA.out.lt h0 g o s e; omega)⟩, HSI.out.fr0 hf (fun g o s e hk => by have := HSV.out.lt g (by rw [e]; rfl); omega), fun z hz => ⟨(HZ.out z hz).1.off hf (fun g o s e h0 hk => by
       rcases (HZ.out z hz).2.2 g o s e h0 with ⟨⟨o', s', e'⟩, h1⟩ | h1
       ·have := HL.out.ltC h1 g o' s' e'; omega
       ·omega), (HZE.out z hz).2⟩⟩)
     have FS := Lib.hid (hfo.out.mono (S' := SW oa ys 0) (fun g _ h => .inl h))
     clear hfo hwr HWR FO
     go_wp2_with fail
     go_loopw [27, 28, 167] (fun _ _ i wr => ∃ k : Nat, k ≤ tn ∧ i = .int .i64 k ∧ Hid (Fr0 (SW oa ys k) w5 wr)) (fun _ _ i _ => tn - (Go.RowKit.intOf i).toNat)
     case atStart => exact ⟨0, Nat.zero_le _, rfl, FS⟩
     case round =>
      obtain ⟨k, hk, rfl, hfs⟩ := hrel
      by_cases hlt : k < tn
      ·obtain ⟨y, hy⟩ : ∃ y, ys[k]? = some y := ⟨_, List.getElem?_eq_getElem (by rw [HYL.out]; exact hlt)⟩
       have hallT : ∀ i W, Fr0 (SW oa ys i) w5 W → TdsIn W ala ys := fun i W hf => (TdsIn.of_own' HALL.out).fr0 hf (fun g o s e hk => by
        rcases hk with ⟨o', s', e'⟩ | ⟨z, hz, e'⟩
        ·exact HOV.out g (by rw [e]; rfl) (by rw [e']; rfl)
        ·exact (HT.out.out z (List.mem_of_mem_take hz) g e').2.1 (by rw [e]; rfl))
       have HallT := Lib.hid hallT
       have hTd := hallT k wr hfs.out
       obtain ⟨g, o, rfl, t0, t1⟩ := hTd k y hy
       have hwy : WrRow wr y.sa y.sn := by
        have h1 := HT.out.row y (List.mem_of_getElem? hy)
        have h2 : y.sn = y.evs.length := (HYE.out y (List.mem_of_getElem? hy)).2.1.symm
        rw [h2]
        unfold Td.v at h1
        exact (WrRow.of_own h1).fr0 hfs.out (fun g o s e => SW.off HT.out hy (Nat.le_refl _) (by unfold Td.v; rw [e]; rfl))
       have HWY := Lib.hid hwy
       have hs256 : y.sn ≤ 256 := by
        have h2 := HB3.out y.tl (by rw [← HT.out.tl]; exact List.mem_map.2 ⟨y, List.mem_of_getElem? hy, rfl⟩)
        have h2 : y.evs.length ≤ 256 := h2
        have h3 := (HYE.out y (List.mem_of_getElem? hy)).2.1
        omega
       have Hy := Lib.hid hy
       have FS1 := Lib.hid (hfs.out.mono (S' := SW oa ys (k + 1)) (fun g _ h => h.mono (by omega)))
       have z1 : (0 : Int) ≤ (k : Int) := by omega
       have z2 : (k : Int) < (tn : Int) := by omega
       have hkb : k ≤ 1000 := by omega
       clear hallT hTd hwy hfs hy
       go_wp2_with fail
       go_loopw [28, 176] (fun _ i wr => ∃ j : Nat, j ≤ y.sn ∧ i = .int .i64 j ∧ Hid (WrRow wr y.sa y.sn) ∧ Hid (Fr0 (SW oa ys (k + 1)) w5 wr)) (fun _ i _ => y.sn - (Go.RowKit.intOf i).toNat)
       case atStart => exact ⟨0, Nat.zero_le _, rfl, HWY, FS1⟩
       case round =>
        obtain ⟨j, hj, rfl, hwr, hfo⟩ := hrel
        by_cases hlj : j < y.sn
        ·obtain ⟨g', o', e', v0, v1⟩ := HallT.out (k + 1) wr hfo.out k y Hy.out
         injection e' with e'
         injection e' with e1 e2 _
         subst e1
         subst e2
         obtain ⟨g2, hya, ⟨u0, u1, u2, u3, u4, c0, c1, c2, c3, c4⟩, ⟨p0, p1, p2, p3, p4⟩, hw', hf'⟩ := hwr.out.put hlj (.int .i64 0) (.int .i64 0) (.int .i64 0) (.int .i64 (-2)) (.int .i64 0)
         have Hw' := Lib.hid hw'
         have Hf' := Lib.hid (hfo.out.trans (hf'.mono (S' := SW oa ys (k + 1)) (fun q _ h => by
          obtain ⟨o3, s3, e3⟩ := h
          refine .inr ⟨y, ?_, by unfold Td.v; rw [e3]; rfl⟩
          have := Hy.out
          exact List.mem_take_iff_getElem.2 ⟨k, by have := (List.getElem?_eq_some_iff.1 this).1; omega, (List.getElem?_eq_some_iff.1 this).2⟩)))
         rw [hya] at v1
         have Hya := Lib.hid hya
         have y1 : (0 : Int) ≤ (j : Int) := by omega
         have y2 : (j : Int) < (y.sn : Int) := by omega
         clear hw' hf' hwr hfo hya
         go_wp2_with fail
         go_roundw
         case rel => exact ⟨j + 1, by omega, by go_num, Hw', Hf'⟩
         case measure => simp [Go.RowKit.intOf]; omega
        ·have HTD := Lib.hid ((HallT.out (k + 1) wr hfo.out).rest (cap := alc) (by rw [HYL.out]; exact own_cap HALL.out rfl) (k + 1))
         obtain ⟨_, _, hzsi, hzse⟩ := HM.out wr (hfo.out.mono (fun q _ h => h.mid HT.out HYlt.out HOlt.out))
         have HSD := Lib.hid (hzsi.rest (cap := sc) (by rw [HZL.out]; exact own_cap HSV.out rfl) (k + 1))
         have HYD := Lib.hid (show TdEv wr (ys.drop (k + 1)) from fun z hz => by
          obtain ⟨i, hi⟩ := List.getElem?_of_mem hz
          rw [List.getElem?_drop] at hi
          have h1 := HYE.out z (List.mem_of_getElem? hi)
          exact ⟨h1.1.fr0 hfo.out (fun q o3 s3 e => SW.off HT.out hi (by omega) (by unfold Td.v; rw [e]; rfl)), h1.2⟩)
         have HZD := Lib.hid (show TdEv wr (zs.drop (k + 1)) from fun z hz => hzse z (List.mem_of_mem_drop hz))
         have HEQ := Lib.hid (show (ys.drop (k + 1)).map Td.tl = (zs.drop (k + 1)).map Td.tl by rw [List.map_drop, List.map_drop, HT.out.tl, HZT.out])
         have HFS := hfo
         have halc := own_cap HALL.out rfl
         have hsca := own_cap HSV.out rfl
         have q1 : (k : Int) + 1 ≤ (tn : Int) := by omega
         have q2 : (tn : Int) ≤ (alc : Int) := by omega
         have q3 : (tn : Int) ≤ (sc : Int) := by omega
         clear hzsi hzse hwr hfo
         go_wp2_with fail
         refine wp_region_held_drew (S := fun W' => Fr0 none' wr W') (by kernel_rfl) ((Fr0.refl none' wr).drew) (fun hHeld => ?_)
         have q5 : IntKind.i64.wrap ((k : Int) + 1) = (k : Int) + 1 := IntWalk.i64_in _ (by omega)
         refine tkn (i := 0) (v := .slice (some ⟨g, o, none⟩) tn alc) (fun W' hSW => ?_) ?_
         ·first | (go_simp; done) | exact rfl | (go_simp; rfl) | (go_simp; omega)
         try simp only [pUt, pUn, sEt, sEz, sEs]
         refine tkn (i := 1) (v := .int .i64 (k : Int)) (fun W' hSW => ?_) ?_
         ·first | (go_simp; done) | exact rfl | (go_simp; rfl) | (go_simp; omega)
         try simp only [pUt, pUn, sEt, sEz, sEs]
         refine tkn (i := 2) (v := .int .i64 ((k : Int) + 1)) (fun W' hSW => ?_) ?_
         ·first | (go_simp; done) | exact rfl | (go_simp; rfl) | (go_simp; omega)
         try simp only [pUt, pUn, sEt, sEz, sEs]
         refine tkn (i := 3) (v := .slice (d2 alc (k + 1) (some ⟨g, o, none⟩)) (tn - (k + 1)) (alc - (k + 1))) (fun W' hSW => ?_) ?_
         ·go_simp
          unfold d2
          first | done | rfl | simp
         try simp only [pUt, pUn, sEt, sEz, sEs]
         refine tkn (i := 4) (v := .slice sa tn sc) (fun W' hSW => ?_) ?_
         ·first | (go_simp; done) | exact rfl | (go_simp; rfl) | (go_simp; omega)
         try simp only [pUt, pUn, sEt, sEz, sEs]
         refine tkn (i := 5) (v := .int .i64 (k : Int)) (fun W' hSW => ?_) ?_
         ·first | (go_simp; done) | exact rfl | (go_simp; rfl) | (go_simp; omega)
         try simp only [pUt, pUn, sEt, sEz, sEs]
         refine tkn (i := 6) (v := .int .i64 ((k : Int) + 1)) (fun W' hSW => ?_) ?_
         ·first | (go_simp; done) | exact rfl | (go_simp; rfl) | (go_simp; omega)
         try simp only [pUt, pUn, sEt, sEz, sEs]
         refine tkn (i := 7) (v := .slice (d2 sc (k + 1) sa) (tn - (k + 1)) (sc - (k + 1))) (fun W' hSW => ?_) ?_
         ·go_simp
          unfold d2
          first | done | rfl | simp
         try simp only [pUt, pUn, sEt, sEz, sEs]
         refine take_call (i := 8) rfl (by kernel_rfl) (by kernel_rfl) (fun K hK => ?_)
         go_simp
         have HTo := told12_any (d2 alc (k + 1) (some ⟨g, o, none⟩)) (d2 sc (k + 1) sa) (tn - (k + 1)) (tn - (k + 1)) (alc - (k + 1)) (sc - (k + 1)) (ys.drop (k + 1)) (zs.drop (k + 1)) wr.drew (by rw [List.length_drop, HYL.out]) (by rw [List.length_drop, HZL.out]) (by omega) (by omega) (HTD.out.later hHeld) (HSD.out.later hHeld) (HYD.out.later hHeld) (HZD.out.later hHeld)
         rw [decide_eq_true HEQ.out] at HTo
         refine HTo.mono ?_
         clear HTo
         rintro e w14 ⟨rfl, hf⟩
         have hHeld := hHeld.trans hf
         clear hf
         go_wp2_with fail
         refine hK.out _ _ hHeld (fun hS => ?_)
         clear hK K
         try simp only [pUt, pUn, sEt, sEz, sEs]
         refine tkn (i := 9) (v := .bool false) (fun W' hSW => ?_) ?_
         ·first | (go_simp; done) | exact rfl | (go_simp; rfl) | (go_simp; omega)
         try simp only [pUt, pUn, sEt, sEz, sEs]
         refine wpAnyH_done (by kernel_rfl) ?_ _
         have FS2 := Lib.hid (HFS.out.trans (hHeld.mono (fun _ _ h => h.elim)))
         clear hS hHeld HFS q5
         go_wp2_with fail
         go_roundw
         case rel => exact ⟨k + 1, by omega, by go_num, FS2⟩
         case measure => simp [Go.RowKit.intOf]; omega
      ·obtain ⟨⟨hva, hua⟩, ⟨hla, haa⟩, _, _⟩ := HM.out wr (hfs.out.mono (fun q _ h => h.mid HT.out HYlt.out HOlt.out))
       have FE : Fr0 none' w wr := F5.out.trans' hfs.out (fun q hq hk => by
        have h1 := hk.mid HT.out HYlt.out HOlt.out
        have := F2.out.size
        omega)
       have HVA := Lib.hid hva
       have HUA := Lib.hid hua
       have HLA := Lib.hid hla
       have HAA := Lib.hid haa
       have FE := Lib.hid FE
       clear hva hua hla haa hfs
       go_wp2_with fail
       have HS := sameEs_any va a n n vc cap L L wr Hl.out Hl.out (by omega) (by omega) HVA.out HLA.out
       rw [decide_eq_true rfl] at HS
       refine HS.mono ?_
       clear HS
       rintro e w14 ⟨rfl, hf⟩
       have FE := Lib.hid (FE.out.trans hf)
       have HUA := Lib.hid (HUA.out.later hf)
       have HAA := Lib.hid (HAA.out.later hf)
       clear hf
       go_wp2_with fail
       refine (sameCas_any ua aa m uc ca A w14 HAl.out (by omega) HUA.out HAA.out).mono ?_
       rintro e w15 ⟨rfl, hf⟩
       have FE := Lib.hid (FE.out.trans hf)
       clear hf
       go_wp2_with fail
       go_ret
       exact ⟨rfl, FE.out⟩
end Go.Proofs.Ytmbjfmlicffclaa

/-
  CalendarTells.
-/
namespace Go.Proofs.Ytmbjfmlicffclaa
open Go Go.RowKit
attribute [local go_sem ↓] Go.wp_at_zero Go.wp_at_succ
attribute [local go_sem] Oper.semAt_some wide_fn wide_depth wide_fnR wide_depthR

set_option maxRecDepth 100000 in
set_option maxHeartbeats 2000000 in
theorem CalendarTells_any {w : World} {a aa : Option Addr} {n cap m ca : Nat} {c : Int} (L : List Ev) (h : EsIn w a L) (hl : L.length = n) (hcap : n ≤ cap) (_ : -9223372036854775808 ≤ c ∧ c ≤ 9223372036854775807) (A : List Ca) (hA : CasIn w aa A) (hk : ∀ x ∈ A, 0 ≤ x.kind ∧ x.kind < 256) (hAl : A.length = m) (hmc : m ≤ ca) :
  Calls Try.prog 6 #[.slice a n cap, .int .i64 c, .slice aa m ca] w fun e w' => e = .returned (.bool true) ∧ Fr0 none' w w' := by
 have HA := Lib.hid (fun (W : World) => cawake_any W)
 by_cases h30 : n > 30
 ·have d1 : decide ((n : Int) > 30) = true := decide_eq_true (by omega)
  have d2 : decide ((30 : Int) < (n : Int)) = true := decide_eq_true (by omega)
  clear h hl h30 hA hk hAl hcap hmc
  go_enter Try.func6, Try.ntmps6
  go_wp2_with fail
  refine (HA.out _).mono ?_
  rintro e w1 ⟨rfl, hf⟩
  have F := Lib.hid hf
  clear hf
  go_wp2_with fail
  go_ret
  exact ⟨rfl, F.out⟩
 have d1 : decide ((n : Int) > 30) = false := decide_eq_false (by omega)
 have d2 : decide ((30 : Int) < (n : Int)) = false := decide_eq_false (by omega)
 by_cases h60 : m > 60
 ·have d3 : decide ((m : Int) > 60) = true := decide_eq_true (by omega)
  have d4 : decide ((60 : Int) < (m : Int)) = true := decide_eq_true (by omega)
  clear h hl h30 hA hk hAl h60 hcap hmc
  go_enter Try.func6, Try.ntmps6
  go_wp2_with fail
  refine (HA.out _).mono ?_
  rintro e w1 ⟨rfl, hf⟩
  have F := Lib.hid hf
  clear hf
  go_wp2_with fail
  go_ret
  exact ⟨rfl, F.out⟩
 have d3 : decide ((m : Int) > 60) = false := decide_eq_false (by omega)
 have d4 : decide ((60 : Int) < (m : Int)) = false := decide_eq_false (by omega)
 have HT := Lib.hid (tells12_any (c := c) (cap := cap) (ca := ca) L A h hl (by omega) hcap hA hAl (by omega) hmc hk)
 clear h hl h30 hA hk hAl h60 hcap hmc
 go_enter Try.func6, Try.ntmps6
 go_wp2_with fail
 refine HT.out.mono ?_
 rintro e w1 ⟨rfl, hf⟩
 have F := Lib.hid hf
 clear hf
 go_wp2_with fail
 refine (HA.out _).mono ?_
 rintro e w2 ⟨rfl, hf⟩
 have F := Lib.hid (F.out.trans hf)
 clear hf
 go_wp2_with fail
 go_ret
 exact ⟨rfl, F.out⟩
end Go.Proofs.Ytmbjfmlicffclaa

namespace Go.Proofs.Ytmbjfmlicffclaa.calendarTells
open Go.ChangeShapes Go.WideShapes Go.ChangeAt Go.RowKit Go.Proofs.Ytmbjfmlicffclaa

set_option maxRecDepth 100000 in
theorem lifted (os : Os) (started : os.Started) (H : Type) (enc : TypeId × Value → H) :
  ReturnsInHanded {} Try.checked os 6 .any (Rows.calendarTellsSpec.pre6 enc Try.prog Try.f6 Rows.calendarTellsRow.domain false) (Rows.calendarTellsSpec.post enc Try.prog Try.f6 false true false false) := by
 refine returnsInHanded_of_change (C := Try.checked) knobC started (by kernel_rfl) Try.func6
  (ChangeSpec.witness6 (enc := enc) (C := Try.checked) false ⟨#[], #[.slice none 0 0, .int .i64 0, .slice none 0 0], []⟩ 8 (by kernel_rfl) (by kernel_rfl) (by kernel_rfl) (by kernel_rfl)) ?_
 intro W base args ds gs before hval0 hW hcnd _
 have hval : ∀ (j : Nat) t v, Try.f6.params[j]? = some t → args[j]? = some v → Value.okWide Try.prog W .any base t v := hval0
 have hW' := hW
 obtain ⟨p, q, hA0, hV, rfl, hfz, hnd⟩ := hW
 have hA : DataW.TrodAll enc Try.prog W 0 (fun _ => true) true Try.f6.params.toList args.toList ds p := hA0
 rw [Try.params6] at hA hval
 obtain ⟨v0, vs0, d0, ds0, p0, q0, hargs, rfl, rfl, h0, r0⟩ := trodAll_cons hA
 obtain ⟨v1, vs1, d1, ds1, p1, q1, rfl, rfl, rfl, h1, r1⟩ := trodAll_cons r0
 obtain ⟨v2, vs2, d2, ds2, p2, q2, rfl, rfl, rfl, h2, r2⟩ := trodAll_cons r1
 obtain ⟨rfl, rfl, rfl⟩ := trodAll_nil r2
 obtain rfl : args = #[v0, v1, v2] := by cases args; simp_all
 obtain ⟨rfl, rfl⟩ := trodVars_none hV
 clear hA0 hval0
 simp only [List.append_nil] at hW'
 have l0 : ∀ x ∈ p0, x.block < W.heap.size := fun x hx => hW'.lt x (by simp [hx])
 have t0 := fun W' (hb : Below W.heap.size W W') => Below.trod laidC (by kernel_rfl) (of_decide_eq_true (by kernel_rfl)) h0 hb l0
 have l1 : ∀ x ∈ p1, x.block < W.heap.size := fun x hx => hW'.lt x (by simp [hx])
 have t1 := fun W' (hb : Below W.heap.size W W') => Below.trod laidC (by kernel_rfl) (of_decide_eq_true (by kernel_rfl)) h1 hb l1
 have l2 : ∀ x ∈ p2, x.block < W.heap.size := fun x hx => hW'.lt x (by simp [hx])
 have t2 := fun W' (hb : Below W.heap.size W W') => Below.trod laidC (by kernel_rfl) (of_decide_eq_true (by kernel_rfl)) h2 hb l2
 obtain ⟨a0, n0, c0, xs0, rfl, hx0, hl0, hc0⟩ := events_argC (hval 0 24 v0 rfl rfl) h0
 obtain ⟨a1, rfl, _, _, w1⟩ := open_int Try.underlying3 (hval 1 3 v1 rfl rfl) h1
 have b1 := bounds_i64 w1
 obtain ⟨a2, n2, c2, xs2, rfl, hx2, hk2, hl2, hc2⟩ := acts_argC (hval 2 38 v2 rfl rfl) h2
 refine (CalendarTells_any xs0 hx0 hl0 hc0 b1 xs2 hx2 hk2 hl2 hc2).mono fun e W' ⟨he, hf⟩ => ?_
 have hg : Below W.heap.size W W' := hf.below (Nat.le_refl _) (fun _ _ h => h)
 subst he
 exact ⟨_, rfl, post_belowC (pa := p0 ++ (p1 ++ (p2 ++ ([])))) (pv := []) hW' (fun _ _ _ => (trodAll_cons_mk (shut_bool Try.underlying4 _) trodAll_mk0)) (trodAll_cons_mk (t0 _ hg) (trodAll_cons_mk (t1 _ hg) (trodAll_cons_mk (t2 _ hg) trodAll_mk0))) (fun _ _ => rfl) hg⟩

theorem over : Rows.calendarTellsRow.holds Try.pinned (OpenSpec.ofChange Rows.calendarTellsSpec) :=
 OpenClaim.holds_of_wide 6 Try.f6 rfl rfl rfl rfl rfl rfl rfl ⟨rfl, rfl, rfl, rfl, rfl⟩ rfl rfl rfl rfl rfl (by kernel_rfl) Try.func6 (by kernel_rfl)
  (of_decide_eq_true (by kernel_rfl)) (by unfold Func.isWrapper; first | (rw [if_pos (by decide +kernel)]; kernel_rfl) | (rw [if_neg (by decide +kernel)]; exact ⟨rfl, rfl⟩))
  (fun os started H enc _ => lifted os started H enc)

theorem proved : Rows.CalendarTellsSaid := over
#print axioms proved
end Go.Proofs.Ytmbjfmlicffclaa.calendarTells
