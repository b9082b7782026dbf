/-
  Spaces: what each function of the package does, and what the laws make of it.
-/
import Derived.Test.YtieeloealklkgaaGreatJb4
import Derived.Test.YtieeloealklkgaaGreatJb3
import Derived.Test.YtieeloealklkgaaGreatJb1
import Derived.Shelf.Spec.SlicesGrow
import Derived.Test.YtieeloealklkgaaGreatRows
import Derived.WalkKit
import Derived.ProofKit
import Derived.OpenShut
import Derived.ChangeMaps5
import Derived.Carry
import Derived.Deep.Slices
import Derived.Deep.Fields
import Derived.ChangeSame
import Derived.Lib.SmallJoins
import Derived.Test.YtieeloealklkgaaGreatJb2
set_option linter.unusedSimpArgs false
set_option linter.unusedVariables false
set_option maxRecDepth 100000

/-
  The reference of layer 12: act, acts for the reference.
-/
namespace Go.Proofs.YtieeloealklkgaaGreat
open Go Go.RowKit
attribute [local go_sem ↓] Go.wp_at_zero Go.wp_at_succ
attribute [local go_sem] Oper.semAt_some wide_fn wide_depth wide_fnR wide_depthR

theorem ract_any {w : World} {a : Option Addr} {m cap n : Nat} (E : List Ev) (h : EsIn w a E) (hl : E.length = m) (hm : m ≤ 1000) (hc : m ≤ cap) (hn : m ≤ n) (hn' : n ≤ 256) (ho : OnceE E) (x : Ca) (hk : 1 ≤ x.kind ∧ x.kind ≤ 5) :
  Calls Tryz.prog 62 #[.agg #[.int .i64 n, .slice a m cap], actCV x] w (ActP w a n E x) := by
 obtain ⟨k, y, t⟩ := x
 have h5 : k = 1 ∨ k = 2 ∨ k = 3 ∨ k = 4 ∨ k = 5 := by have := hk.1; have := hk.2; simp only at *; omega
 clear hk
 unfold ActP
 rcases h5 with rfl | rfl | rfl | rfl | rfl
 ·exact ract1_any E h hl hm hc hn hn' y t
 ·cases E with
  | nil => exact ract2n_any [] rfl (by rw [← hl]; rfl) y t
  | cons z r => exact ract2_any z r h (by simpa using hl) hm hc y t
 ·exact ract3_any E h hl hm y t
 ·rcases at_find y.name E with ⟨h1, h2⟩ | ⟨i, z, h1, hx, h2, hn, _⟩
  ·have hd : doC n E ⟨4, y, t⟩ = (E, ⟨6, []⟩) := by
    show cancelC y.name E = _
    unfold cancelC
    rw [h2]
   rw [hd]
   exact ract4n_any E h hl hm hc y t h2
  ·have hd : doC n E ⟨4, y, t⟩ = (E.take i ++ E.drop (i + 1), ⟨0, [z]⟩) := by
    show cancelC y.name E = _
    unfold cancelC
    rw [h2, ← delE_some ho hx, hn]
   rw [hd]
   exact ract4_any E h hl hm hc y t z h1 hx
 ·exact ract5_any E h hl y t
theorem info_ract : (Tryz.prog.info? 75).map (fun i => (i.zero, i.size, i.bytes)) = some (some (.agg #[.int .u8 0, .int .i64 0, .int .i64 0, .int .i64 0, .int .i64 0, .int .i64 0, .int .i64 0]), 7, 56) := by kernel_rfl
theorem info_rtold : (Tryz.prog.info? 130).map (fun i => (i.zero, i.size, i.bytes)) = some (some (.agg #[.int .i64 0, .slice none 0 0]), 2, 32) := by kernel_rfl
theorem stepTh {L : List Ca} {k : Nat} {x : Ca} (h : L[k]? = some x) : flatCa (L.take (k + 1)) = flatCa (L.take k) ++ [.int .u8 x.kind, .int .i64 x.x.key.time, .int .i64 x.x.key.source, .int .i64 x.x.key.seq, .int .i64 x.x.to, .int .i64 x.x.value, .int .i64 x.time] := by
 rw [List.take_add_one, h, Option.toList_some, flatCa_snoc]
theorem flatCa_ownR {w : World} {base : Nat} {v : Value} {n : Nat} {L : List Ca} (h : w.ownsRow base 75 7 v n (flatCa L)) : ∃ a cap, v = .slice a n cap ∧ L.length = n ∧ n ≤ cap ∧ CasIn w a L := by
 have hl : L.length = n := by have := h.1; rw [flatCa_length] at this; omega
 rcases h.2 with ⟨rfl, h0⟩ | ⟨g, cap, cur, rfl, hb, hg, hn', hcm, hs, ht⟩
 ·have : L = [] := List.eq_nil_of_length_eq_zero (by omega)
  subst this
  exact ⟨none, 0, by rw [h0], hl, by omega, fun i x h => by simp at h⟩
 ·exact ⟨_, cap, rfl, hl, hn', CasIn.of_flat (fun j u hj => by
   rw [Nat.zero_add, cells_in hg, ← Array.getElem?_toList]
   rw [← ht, List.getElem?_take] at hj
   split at hj
   ·exact hj
   ·cases hj)⟩
set_option maxHeartbeats 2000000 in
theorem theirs_any {w : World} {a : Option Addr} {n cap : Nat} (L : List Ca) (h : CasIn w a L) (hl : L.length = n) (hn : n ≤ 10000) :
  Calls Tryz.prog 29 #[.slice a n cap] w fun e w' => ∃ v, e = .returned v ∧ w'.ownsRow w.heap.size 75 7 v n (flatCa L) ∧ Fr0 none' w w' := by
 obtain ⟨i0, hi, hz0, hz1, hz2⟩ := info_parts info_ract
 have H := Lib.hid h
 have Hl := Lib.hid hl
 obtain ⟨N, hN⟩ : ∃ N, w.heap.size = N := ⟨_, rfl⟩
 have HN := Lib.hid hN
 rw [hN]
 clear h hl hN
 go_enter Tryz.func29, Tryz.ntmps29
 go_wp2_with fail
 go_loopw [3, 8] (fun out i wr => ∃ k : Nat, k ≤ n ∧ i = .int .i64 k ∧ Hid (wr.ownsRow N 75 7 out k (flatCa (L.take k))) ∧ Hid (Fr0 none' w wr)) (fun _ i _ => n - (Go.RowKit.intOf i).toNat)
 case atStart => exact ⟨0, Nat.zero_le _, rfl, World.ownsRow_nil _ _ _ _, Fr0.refl _ _⟩
 case round =>
  obtain ⟨k, hk, rfl, hown, hfr⟩ := hrel
  by_cases hlt : k < n
  ·obtain ⟨x, hx⟩ : ∃ x, L[k]? = some x := ⟨_, List.getElem?_eq_getElem (by rw [Hl.out]; exact hlt)⟩
   obtain ⟨g, o, rfl, hxc⟩ := (H.out.later hfr.out) k x hx
   obtain ⟨x0, x1, x2, x3, x4, x5, x6⟩ := hxc
   have k1 : (0 : Int) ≤ (k : Int) := by omega
   have k2 : (k : Int) < (n : Int) := by omega
   have hsrc := Src.newRow (P := Tryz.prog) (size := 7) (tx := 73) (ty := 75) (wr.alloc (.cells #[.int .u8 x.kind, .int .i64 x.x.key.time, .int .i64 x.x.key.source, .int .i64 x.x.key.seq, .int .i64 x.x.to, .int .i64 x.x.value, .int .i64 x.time] 33)) Tryz.underlying73 1 1 [.int .u8 x.kind, .int .i64 x.x.key.time, .int .i64 x.x.key.source, .int .i64 x.x.key.seq, .int .i64 x.x.to, .int .i64 x.x.value, .int .i64 x.time] rfl (by simp [Value.oneCell'])
   rw [World.size_alloc] at hsrc
   have hNr : N ≤ wr.heap.size := by rw [← HN.out]; exact hfr.out.size
   have Hst := Lib.hid (stepTh hx)
   have Hown2 := Lib.hid ((hown.out.alloc (.cells #[.int .u8 x.kind, .int .i64 x.x.key.time, .int .i64 x.x.key.source, .int .i64 x.x.key.seq, .int .i64 x.x.to, .int .i64 x.x.value, .int .i64 x.time] 33)).alloc (.cells [Value.int .u8 x.kind, .int .i64 x.x.key.time, .int .i64 x.x.key.source, .int .i64 x.x.key.seq, .int .i64 x.x.to, .int .i64 x.x.value, .int .i64 x.time].toArray 75))
   have Fr2 := Lib.hid ((hfr.out.alloc (.cells #[.int .u8 x.kind, .int .i64 x.x.key.time, .int .i64 x.x.key.source, .int .i64 x.x.key.seq, .int .i64 x.x.to, .int .i64 x.x.value, .int .i64 x.time] 33)).alloc (.cells [Value.int .u8 x.kind, .int .i64 x.x.key.time, .int .i64 x.x.key.source, .int .i64 x.x.key.seq, .int .i64 x.x.to, .int .i64 x.x.value, .int .i64 x.time].toArray 75))
   have Hsrc := Lib.hid hsrc
   obtain ⟨va, vc, rfl⟩ : ∃ va vc, u3 = .slice va k vc := by
    rcases hown.out.2 with ⟨rfl, h0⟩ | ⟨g, cap, cur, rfl, _⟩
    ·exact ⟨none, 0, by rw [h0]⟩
    ·exact ⟨_, cap, rfl⟩
   clear hx hsrc hown hfr
   go_wp2_with (at_builtin; refine wpList_append_k rfl _ _ 73 73 rfl N 75 i0 (.agg #[.int .u8 0, .int .i64 0, .int .i64 0, .int .i64 0, .int .i64 0, .int .i64 0, .int .i64 0]) 7 56 Tryz.underlying73 hi hz0 hz1 hz2 rfl (by decide) _ k _ rfl Hown2.out (.slice (some ⟨wr.heap.size + 1, 0, none⟩) 1 1) 1 _ rfl Hsrc.out (by unfold maxLen; omega) (by omega) (by simp; omega) ?_; intro v' w2 hown' hgrow hdr hob)
   have Hfin := Lib.hid (Fr2.out.grown hgrow (fun j hj hl => by
    have h1 := (Hown2.out.lt j hj).1
    rw [HN.out] at hl; omega))
   rw [← Hst.out] at hown'
   have Hown' := Lib.hid hown'
   obtain ⟨g', cap', rfl⟩ := ownsRow_k_succ hown'
   clear hgrow hdr hob hown'
   go_wp2
   go_roundw
   case rel => exact ⟨k + 1, by omega, by go_num, Hown', Hfin⟩
   case measure => simp [Go.RowKit.intOf]; omega
  ·have hkm : k = n := by omega
   subst hkm
   have hfin : wr.ownsRow N 75 7 u3 k (flatCa L) := by
    have h1 := hown.out
    rw [List.take_of_length_le (by rw [Hl.out]; exact Nat.le_refl _)] at h1
    exact h1
   have Hf := Lib.hid hfin
   clear hown hfin
   go_wp2_with fail
   go_ret
   exact ⟨_, rfl, Hf.out, hfr.out⟩
/-
  The reference of layer 12: Play.
-/

/-- What was told, its events in memory, in an old row's block or behind N. -/
def RTds (w : World) (a : Option Addr) (N : Nat) (L : List Ev) (ys : List Td) : Prop := ∀ y ∈ ys, EsIn w y.sa y.evs ∧ y.sn = y.evs.length ∧ FromE a y.sa N w.heap.size L y.evs
theorem RTds.later {w w' : World} {a : Option Addr} {N : Nat} {L : List Ev} {ys : List Td} (h : RTds w a N L ys) (hf : Fr0 none' w w') : RTds w' a N L ys := fun y hy => ⟨(h y hy).1.later hf, (h y hy).2.1, (h y hy).2.2.mono (Nat.le_refl _) hf.size⟩
theorem RTds.nil (w : World) (a : Option Addr) (N : Nat) (L : List Ev) : RTds w a N L [] := fun y hy => by simp at hy
/-- The end of the reference's Play. -/
def EndRP (L : List Ev) (c : Int) (A : List Ca) (a : Option Addr) (w : World) (e : Ending) (w' : World) : Prop :=
 ∃ va vc u ys, e = .returned (.tuple #[.slice va (playC L c A).1.length vc, u, .int .i64 (playC L c A).2.2.1, .int .i64 (playC L c A).2.2.2]) ∧ (playC L c A).1.length ≤ vc ∧ EsIn w' va (playC L c A).1 ∧ FromE a va w.heap.size w'.heap.size L (playC L c A).1 ∧ w'.ownsRow w.heap.size 130 2 u (playC L c A).2.1.length (flatTd ys) ∧ ys.map Td.tl = (playC L c A).2.1 ∧ RTds w' a w.heap.size L ys ∧ Fr0 none' w w'
theorem EndRP.none {L : List Ev} {c : Int} {A : List Ca} {a : Option Addr} {w w' : World} {i f : Int} {e : Ending} (he : e = .returned (.tuple #[.slice none 0 0, .slice none 0 0, .int .i64 i, .int .i64 f])) (h : playC L c A = ([], [], i, f)) (hf : Fr0 none' w w') : EndRP L c A a w e w' := by
 unfold EndRP
 rw [h]
 exact ⟨Option.none, 0, _, [], he, Nat.le_refl _, fun i x hx => by simp at hx, FromE.nil _ _ _ _ _, World.ownsRow_nil _ _ _ _, rfl, RTds.nil _ _ _ _, hf⟩
/-- A row of events that is not in the row of what was told. -/
def OffRow (out : Value) (b : Option Addr) (F : List Ev) : Prop := ∀ g o s, b = some ⟨g, o, s⟩ → F ≠ [] → out.ownBlock ≠ some g
/-- Where the reference's Play stands. -/
structure RPl (w wr : World) (a : Option Addr) (n SB : Nat) (L E : List Ev) (va : Option Addr) (vc : Nat) (out : Value) (k : Nat) (ys : List Td) : Prop where
 bx : wr.heap[SB]? = some (.cells #[.int .i64 n, .slice va E.length vc] 128 (0, 0))
 cap : E.length ≤ vc
 es : EsIn wr va E
 fr : FromE a va (SB + 1) wr.heap.size L E
 row : wr.ownsRow (SB + 1) 130 2 out k (flatTd ys)
 tds : RTds wr a (SB + 1) L ys
 oe : OffRow out va E
 oy : ∀ y ∈ ys, OffRow out y.sa y.evs
 f : Fr0 none' w wr
theorem RPl.step {w wr W1 w3 W4 W5 w6 : World} {a va va' ya : Option Addr} {n SB vc vc' yc k : Nat} {L E E' evs : List Ev} {out out' : Value} {ys : List Td} {err : Int} (h : RPl w wr a n SB L E va vc out k ys) (hla : ∀ g o s, a = some ⟨g, o, s⟩ → L ≠ [] → g < w.heap.size) (hsb : w.heap.size ≤ SB)
  (f1 : Fr0 none' wr W1) (hs1 : W1.heap.size = wr.heap.size + 1) (f3 : Fr0 none' W1 w3) (hc' : E'.length ≤ vc') (he : EsIn w3 va' E') (hy : EsIn w3 ya evs) (fv : FromE va va' W1.heap.size w3.heap.size E E') (fy : FromE va ya W1.heap.size w3.heap.size E evs)
  (f4 : Fr0 (fun g => g = SB ∨ g = wr.heap.size) w3 W4) (b4 : W4.heap[SB]? = some (.cells #[.int .i64 n, .slice va' E'.length vc'] 128 (0, 0))) (f5 : Fr0 none' W4 W5)
  (f6 : Fr0 (fun g => out.ownBlock = some g) W5 w6) (row6 : w6.ownsRow (SB + 1) 130 2 out' (k + 1) (flatTd (ys ++ [⟨err, ya, evs.length, yc, evs⟩]))) (ob : ∀ g, out'.ownBlock = some g → out.ownBlock = some g ∨ W5.heap.size ≤ g) :
  RPl w w6 a n SB L E' va' vc' out' (k + 1) (ys ++ [⟨err, ya, evs.length, yc, evs⟩]) := by
 have hsz : SB < wr.heap.size := (Array.getElem?_eq_some_iff.1 h.bx).1
 have s3 := f3.size
 have s4 := f4.size
 have s5 := f5.size
 have s6 := f6.size
 have hw := h.f.size
 have hout : ∀ g, out.ownBlock = some g → SB + 1 ≤ g ∧ g < wr.heap.size := fun g hg => h.row.lt g hg
 have old : ∀ b F, FromE a b (SB + 1) wr.heap.size L F → ∀ g o s, b = some ⟨g, o, s⟩ → F ≠ [] → g ≠ SB ∧ g < wr.heap.size := fun b F hf g o s e h0 => by
  rcases hf g o s e h0 with ⟨⟨o', s', e'⟩, h1⟩ | h1
  ·have := hla g o' s' e' h1; omega
  ·omega
 have key : ∀ b F, FromE va b W1.heap.size w3.heap.size E F → ∀ g o s, b = some ⟨g, o, s⟩ → F ≠ [] → (g ≠ SB ∧ g ≠ wr.heap.size ∧ g < w3.heap.size) ∧ out.ownBlock ≠ some g := fun b F hf g o s e h0 => by
  rcases hf g o s e h0 with ⟨⟨o', s', e'⟩, h1⟩ | h1
  ·have := old va E h.fr g o' s' e' h1
   exact ⟨by omega, h.oe g o' s' e' h1⟩
  ·exact ⟨by omega, fun hg => by have := hout g hg; omega⟩
 have far : ∀ b F, EsIn w3 b F → FromE va b W1.heap.size w3.heap.size E F → EsIn w6 b F := fun b F hb hf => by
  have h4 := hb.off f4 (fun g o s e h0 hk => by have := (key b F hf g o s e h0).1; omega)
  exact (h4.later f5).off f6 (fun g o s e h0 hk => (key b F hf g o s e h0).2 hk)
 have from' : ∀ b F, FromE va b W1.heap.size w3.heap.size E F → FromE a b (SB + 1) w6.heap.size L F := fun b F hf => (h.fr.trans hf (by omega) (by omega)).mono (Nat.le_refl _) (by omega)
 have offn : ∀ b F, FromE va b W1.heap.size w3.heap.size E F → OffRow out' b F := fun b F hf g o s e h0 hg => by
  have hk := key b F hf g o s e h0
  rcases ob g hg with h1 | h1
  ·exact hk.2 h1
  ·omega
 have f13 : Fr0 none' wr w3 := f1.trans f3
 have hbn : out.ownBlock ≠ some SB := fun hg => by have := hout SB hg; omega
 refine ⟨?_, hc', far va' E' he fv, from' va' E' fv, row6, fun y hy' => ?_, offn va' E' fv, fun y hy' => ?_, ?_⟩
 ·have b5 := (f5.block SB (Array.getElem?_eq_some_iff.1 b4).1 id).trans b4
  exact (f6.block SB (Array.getElem?_eq_some_iff.1 b5).1 hbn).trans b5
 ·rcases List.mem_append.1 hy' with hy' | hy'
  ·obtain ⟨t1, t2, t3⟩ := h.tds y hy'
   have t4 := (t1.later f13).off f4 (fun g o s e h0 hk => by have := old y.sa y.evs t3 g o s e h0; omega)
   exact ⟨(t4.later f5).off f6 (fun g o s e h0 hk => h.oy y hy' g o s e h0 hk), t2, t3.mono (Nat.le_refl _) (by omega)⟩
  ·obtain rfl := List.mem_singleton.1 hy'
   exact ⟨far ya evs hy fy, rfl, from' ya evs fy⟩
 ·rcases List.mem_append.1 hy' with hy' | hy'
  ·intro g o s e h0 hg
   rcases ob g hg with h1 | h1
   ·exact h.oy y hy' g o s e h0 h1
   ·have := old y.sa y.evs (h.tds y hy').2.2 g o s e h0; omega
  ·obtain rfl := List.mem_singleton.1 hy'
   exact offn ya evs fy
 ·exact (((h.f.trans f13).trans' f4 (fun g hg hk => by exfalso; rcases hk with rfl | rfl <;> omega)).trans f5).trans' f6 (fun g hg hk => by exfalso; have := hout g hk; omega)
set_option maxHeartbeats 4000000 in
theorem rPlay_any {w : World} {a aa : Option Addr} {n cap m ca : Nat} {c : Int} (L : List Ev) (A : List Ca) (h : EsIn w a L) (hl : L.length = n) (hn : n ≤ 1000) (hcap : n ≤ cap) (hA : CasIn w aa A) (hAl : A.length = m) (hm : m ≤ 100000) :
  Calls Tryz.prog 28 #[.slice a n cap, .int .i64 c, .slice aa m ca] w (EndRP L c A a w) := by
 obtain ⟨i0, hi, hz0, hz1, hz2⟩ := info_parts info_rtold
 have HR := Lib.hid (rRight12_any (c := c) L h hl (by omega) hcap)
 have HO := Lib.hid (fun (W : World) (hW : Fr0 none' w W) => rOdd_any (cap := ca) A (hA.later hW) hAl hm)
 have HL := Lib.hid h
 have HA := Lib.hid hA
 have Hl := Lib.hid hl
 have HAl := Lib.hid hAl
 clear h hl hA hAl
 go_enter Tryz.func28, Tryz.ntmps28
 go_wp2_with fail
 refine HR.out.mono ?_
 rintro e w1 ⟨b, rfl, hb, hf1⟩
 have F1 := Lib.hid hf1
 have HO1 := Lib.hid (HO.out _ hf1)
 clear HO hf1 HR
 cases b with
 | false =>
  have Hp := Lib.hid (playC_wrong (A := A) (fun h => by simpa using hb.2 h))
  clear hb HO1
  go_wp2_with fail
  try simp only [Exit.inBlock, Exit.then]
  refine bodyPost_ret (results_tmp4 rfl _ _ _) rfl ?_
  exact EndRP.none rfl Hp.out F1.out
 | true =>
  have Hrc := Lib.hid (hb.1 rfl)
  clear hb
  obtain ⟨R, hR⟩ : ∃ R, oddC A = R := ⟨_, rfl⟩
  rw [hR] at HO1
  have hR1 : -1 ≤ R := by rw [← hR]; exact oddC_ge A
  by_cases h0 : 0 ≤ R
  ·have Hp := Lib.hid (playC_odd Hrc.out (by rw [hR]; exact h0))
   rw [hR] at Hp
   have d1 : decide (R ≥ 0) = true := decide_eq_true h0
   have d2 : decide (0 ≤ R) = true := decide_eq_true h0
   clear hR h0
   go_wp2_with fail
   refine HO1.out.mono ?_
   rintro e w2 ⟨rfl, hf⟩
   have F2 := Lib.hid (F1.out.trans hf)
   clear hf
   go_wp2_with fail
   try simp only [Exit.inBlock, Exit.then]
   refine bodyPost_ret (results_tmp4 rfl _ _ _) rfl ?_
   exact EndRP.none rfl Hp.out F2.out
  ·have Hp := Lib.hid (playC_right Hrc.out (by rw [hR]; exact h0))
   have HK1 := Lib.hid (oddC_neg (by rw [hR]; exact h0))
   have hc0 : 0 ≤ c ∧ c ≤ 256 := Hrc.out.1
   obtain ⟨N, rfl⟩ : ∃ N : Nat, c = (N : Int) := ⟨c.toNat, by omega⟩
   have hN : N ≤ 256 := by omega
   obtain rfl : R = -1 := by omega
   rw [Int.toNat_natCast] at Hp
   clear hR h0 hR1 hc0
   go_wp2_with fail
   refine HO1.out.mono ?_
   rintro e w2 ⟨rfl, hf⟩
   have F2 := Lib.hid (F1.out.trans hf)
   clear hf
   have hla : ∀ g o s, a = some ⟨g, o, s⟩ → L ≠ [] → g < w.heap.size := fun g o s e h0 => HL.out.ltC h0 g o s e
   have HLa := Lib.hid hla
   obtain ⟨SB, hSB⟩ : ∃ B, w2.heap.size = B := ⟨_, rfl⟩
   have hsb : w.heap.size ≤ SB := by rw [← hSB]; exact F2.out.size
   have Hsb := Lib.hid hsb
   obtain ⟨W0, hW0⟩ : ∃ W, w2.alloc (.cells #[.int .i64 N, .slice a n cap] 128) = W := ⟨_, rfl⟩
   have f0 : Fr0 none' w2 W0 := by rw [← hW0]; exact (Fr0.refl _ _).alloc _
   have HP0 := Lib.hid (show RPl w W0 a N SB L (stC N L (A.take 0)) a cap (.slice none 0 0) 0 [] from
    ⟨by rw [← hW0, ← hSB]; show (w2.alloc _).heap[w2.heap.size]? = some (.cells #[.int .i64 N, .slice a L.length cap] _ _); rw [Hl.out]; exact World.alloc_heap_new _ _, by show L.length ≤ cap; rw [Hl.out]; exact hcap, HL.out.later (F2.out.trans f0), FromE.self _ _ _ _, World.ownsRow_nil _ _ _ _, RTds.nil _ _ _ _, (fun g o s e h0 hg => by cases hg), (fun y hy => by simp at hy), F2.out.trans f0⟩)
   clear f0 hla hsb
   go_wp2_with fail
   clear hW0 hSB
   go_loopw [12, 13] (fun out i wr => ∃ (k : Nat) (va : Option Addr) (vc : Nat) (ys : List Td), k ≤ m ∧ i = .int .i64 k ∧ Hid (RPl w wr a N SB L (stC N L (A.take k)) va vc out k ys) ∧ Hid (ys.map Td.tl = tlC N L (A.take k))) (fun _ i _ => m - (Go.RowKit.intOf i).toNat)
   case atStart => exact ⟨0, a, cap, [], Nat.zero_le _, rfl, HP0, by unfold Hid; rfl⟩
   case round =>
    obtain ⟨k, va, vc, ys, hk, rfl, hrp, htl⟩ := hrel
    by_cases hlt : k < m
    ·obtain ⟨x, hx⟩ : ∃ x, A[k]? = some x := ⟨_, List.getElem?_eq_getElem (by rw [HAl.out]; exact hlt)⟩
     have Hst := Lib.hid (stC_snoc (n := N) (E := L) hx)
     have Htl := Lib.hid (tlC_snoc (n := N) (E := L) hx)
     have Hkx := Lib.hid (HK1.out x (List.mem_of_getElem? hx))
     have hgE : GoodE N (stC N L (A.take k)) := GoodE.acts _ Hrc.out.good
     obtain ⟨E, hE⟩ : ∃ E, stC N L (A.take k) = E := ⟨_, rfl⟩
     rw [hE] at hrp Hst Htl hgE
     obtain ⟨E', hE'⟩ : ∃ E', (doC N E x).1 = E' := ⟨_, rfl⟩
     obtain ⟨T, hT⟩ : ∃ T, (doC N E x).2 = T := ⟨_, rfl⟩
     obtain ⟨g, o, rfl, hxc⟩ := (HA.out.later hrp.out.f) k x hx
     have k1 : (0 : Int) ≤ (k : Int) := by omega
     have k2 : (k : Int) < (m : Int) := by omega
     obtain ⟨tb, htb⟩ : ∃ b, wr.heap.size = b := ⟨_, rfl⟩
     obtain ⟨V1, hV1⟩ : ∃ W, wr.alloc (.cells #[.int .i64 0, .slice none 0 0] 130) = W := ⟨_, rfl⟩
     have bv : V1.heap[tb]? = some (.cells #[.int .i64 0, .slice none 0 0] 130 (0, 0)) := by rw [← hV1, ← htb]; exact World.alloc_heap_new _ _
     have v0 := cells_in bv 0
     have v1 := cells_in bv 1
     have v2 := thaw_in bv 0
     have v3 := thaw_in bv 1
     simp at v0 v1
     obtain ⟨W1, hW1⟩ : ∃ W, (V1.setCell ⟨tb, 0, none⟩ (.int .i64 0)).setCell ⟨tb, 1, none⟩ (.slice none 0 0) = W := ⟨_, rfl⟩
     have f1 : Fr0 none' wr W1 := by
      rw [← hW1, ← hV1]
      exact ((((Fr0.refl _ _).alloc _).setCell (fun h => by omega) _).setCell (fun h => by omega) _)
     have hs1 : W1.heap.size = wr.heap.size + 1 := by rw [← hW1, ← hV1]; simp only [World.size_setCell]; exact World.size_alloc _ _
     have bt : W1.heap[tb]? = some (.cells #[.int .i64 0, .slice none 0 0] 130 (0, 0)) := by rw [← hW1]; exact heap_set_cell (o := 1) (heap_set_cell (o := 0) bv _) _
     have bs := (f1.block SB (Array.getElem?_eq_some_iff.1 hrp.out.bx).1 id).trans hrp.out.bx
     have s0 := cells_in bs 0
     have s1 := cells_in bs 1
     simp at s0 s1
     obtain ⟨x0, x1, x2, x3, x4, x5, x6⟩ := hxc
     have y0 := f1.later x0
     have y1 := f1.later x1
     have y2 := f1.later x2
     have y3 := f1.later x3
     have y4 := f1.later x4
     have y5 := f1.later x5
     have y6 := f1.later x6
     obtain ⟨el, hel⟩ : ∃ l, E.length = l := ⟨_, rfl⟩
     have Hel := Lib.hid hel
     rw [hel] at s1
     have HC := Lib.hid (fun (W : World) (hf : Fr0 none' W1 W) => ract_any (w := W) (n := N) (cap := vc) E (hrp.out.es.later (f1.trans hf)) hel (by have := hgE.le; omega) (by have := hrp.out.cap; omega) (by have := hgE.le; omega) hN hgE.once x Hkx.out)
     unfold ActP actCV at HC
     rw [hE', hT] at HC
     have F1r := Lib.hid f1
     have Hs1 := Lib.hid hs1
     have Hbt := Lib.hid bt
     have Hbs := Lib.hid bs
     have Htb := Lib.hid htb
     have HE' := Lib.hid hE'
     have HT := Lib.hid hT
     have Hst' := Lib.hid hE
     clear hx hgE hE hE' hT f1 hs1 bt bs bv hel x0 x1 x2 x3 x4 x5 x6
     have HZ := Lib.hid (show ∀ W', Fr0 none' W1 W' → (W'.cell? ⟨SB, 0, none⟩ = some (.int .i64 N) ∧ W'.cell? ⟨SB, 1, none⟩ = some (.slice va el vc)) ∧ CaAt W' g (o + k * 7) x from fun W' hf => ⟨⟨hf.later s0, hf.later s1⟩, ⟨hf.later y0, hf.later y1, hf.later y2, hf.later y3, hf.later y4, hf.later y5, hf.later y6⟩⟩)
     clear s0 s1 y0 y1 y2 y3 y4 y5 y6
     go_wp2_with fail
     clear htb v0 v1 v2 v3 hV1 hW1
     refine wp_region_Y (zs := [9]) (S := fun W' => Fr0 none' W1 W') (by kernel_rfl) ?_
     have hHeld : Fr0 none' W1 W1.drew := (Fr0.refl _ _).drew
     refine takeY_on (i := 0) (v := .agg #[.int .i64 N, .slice va el vc]) rfl (by kernel_rfl) (by kernel_rfl) (by kernel_rfl) (by kernel_rfl) (by kernel_rfl) (fun _ _ _ h => h) (by kernel_rfl) (fun W' hSW => ?_) (by assumption) ?_
     ·obtain ⟨⟨t0, t1⟩, t2, t3, t4, t5, t6, t7, t8⟩ := HZ.out W' hSW
      first|go_simp;done|exact rfl|go_simp;rfl|go_simp;omega
     try simp only[pUt,pUn,sEt,sEz,sEs]
     refine takeY_on (i := 1) (v := .slice (some ⟨g, o, none⟩) m ca) rfl (by kernel_rfl) (by kernel_rfl) (by kernel_rfl) (by kernel_rfl) (by kernel_rfl) (fun _ _ _ h => h) (by kernel_rfl) (fun W' hSW => ?_) (by assumption) ?_
     ·obtain ⟨⟨t0, t1⟩, t2, t3, t4, t5, t6, t7, t8⟩ := HZ.out W' hSW
      first|go_simp;done|exact rfl|go_simp;rfl|go_simp;omega
     try simp only[pUt,pUn,sEt,sEz,sEs]
     refine takeY_on (i := 2) (v := .int .i64 (k : Int)) rfl (by kernel_rfl) (by kernel_rfl) (by kernel_rfl) (by kernel_rfl) (by kernel_rfl) (fun _ _ _ h => h) (by kernel_rfl) (fun W' hSW => ?_) (by assumption) ?_
     ·obtain ⟨⟨t0, t1⟩, t2, t3, t4, t5, t6, t7, t8⟩ := HZ.out W' hSW
      first|go_simp;done|exact rfl|go_simp;rfl|go_simp;omega
     try simp only[pUt,pUn,sEt,sEz,sEs]
     refine takeY_on (i := 3) (v := .pointer (some ⟨g, o + k * 7, none⟩)) rfl (by kernel_rfl) (by kernel_rfl) (by kernel_rfl) (by kernel_rfl) (by kernel_rfl) (fun _ _ _ h => h) (by kernel_rfl) (fun W' hSW => ?_) (by assumption) ?_
     ·obtain ⟨⟨t0, t1⟩, t2, t3, t4, t5, t6, t7, t8⟩ := HZ.out W' hSW
      first|go_simp;done|exact rfl|go_simp;rfl|go_simp;omega
     try simp only[pUt,pUn,sEt,sEz,sEs]
     refine takeY_on (i := 4) (v := .agg #[.int .u8 x.kind, .int .i64 x.x.key.time, .int .i64 x.x.key.source, .int .i64 x.x.key.seq, .int .i64 x.x.to, .int .i64 x.x.value, .int .i64 x.time]) rfl (by kernel_rfl) (by kernel_rfl) (by kernel_rfl) (by kernel_rfl) (by kernel_rfl) (fun _ _ _ h => h) (by kernel_rfl) (fun W' hSW => ?_) (by assumption) ?_
     ·obtain ⟨⟨t0, t1⟩, t2, t3, t4, t5, t6, t7, t8⟩ := HZ.out W' hSW
      first|go_simp;done|exact rfl|go_simp;rfl|go_simp;omega
     try simp only[pUt,pUn,sEt,sEz,sEs]
     refine takeY_call (i := 5) rfl (by kernel_rfl) (by kernel_rfl) (fun K hK => ?_)
     go_simp
     refine (HC.out _ hHeld).mono ?_
     rintro e w3 ⟨va', vc', ya, yc, rfl, hc', he, hy, fv, fy, f3⟩
     have fv : FromE va va' W1.heap.size w3.heap.size E E' := fv
     have fy : FromE va ya W1.heap.size w3.heap.size E T.evs := fy
     have f3 : Fr0 none' W1 w3 := hHeld.trans f3
     go_wp2_with fail
     refine hK.out _ _ (.inr f3) ?_
     clear hK K
     have hHeld := f3
     try simp only[pUt,pUn,sEt,sEz,sEs]
     refine takeY_on (i := 6) (v := .tuple #[.agg #[.int .i64 N, .slice va' E'.length vc'], .agg #[.int .i64 T.err, .slice ya T.evs.length yc]]) rfl (by kernel_rfl) (by kernel_rfl) (by kernel_rfl) (by kernel_rfl) (by kernel_rfl) (fun _ _ _ h => h) (by kernel_rfl) (fun W' hSW => ?_) (by assumption) ?_
     ·obtain ⟨⟨t0, t1⟩, t2, t3, t4, t5, t6, t7, t8⟩ := HZ.out W' hSW
      first|go_simp;done|exact rfl|go_simp;rfl|go_simp;omega
     try simp only[pUt,pUn,sEt,sEz,sEs]
     refine takeY_on (i := 7) (v := .agg #[.int .i64 N, .slice va' E'.length vc']) rfl (by kernel_rfl) (by kernel_rfl) (by kernel_rfl) (by kernel_rfl) (by kernel_rfl) (fun _ _ _ h => h) (by kernel_rfl) (fun W' hSW => ?_) (by assumption) ?_
     ·obtain ⟨⟨t0, t1⟩, t2, t3, t4, t5, t6, t7, t8⟩ := HZ.out W' hSW
      first|go_simp;done|exact rfl|go_simp;rfl|go_simp;omega
     try simp only[pUt,pUn,sEt,sEz,sEs]
     have Fv := Lib.hid fv
     have Fy := Lib.hid fy
     have He := Lib.hid he
     have Hy := Lib.hid hy
     have F3 := Lib.hid f3
     have b3 := (f3.block SB (Array.getElem?_eq_some_iff.1 Hbs.out).1 id).trans Hbs.out
     have t3 := (f3.block tb (Array.getElem?_eq_some_iff.1 Hbt.out).1 id).trans Hbt.out
     have a0 := cells_in b3 0
     have a1 := cells_in b3 1
     have a2 := cells_in t3 0
     have a3 := cells_in t3 1
     have u0 := thaw_in b3 0
     have u1 := thaw_in b3 1
     have u2 := thaw_in t3 0
     have u3 := thaw_in t3 1
     simp at a0 a1 a2 a3
     have hne : SB ≠ tb := by have := (Array.getElem?_eq_some_iff.1 hrp.out.bx).1; have := Htb.out; omega
     obtain ⟨W4, hW4⟩ : ∃ W, (((w3.setCell ⟨SB, 0, none⟩ (.int .i64 N)).setCell ⟨SB, 1, none⟩ (.slice va' E'.length vc')).setCell ⟨tb, 0, none⟩ (.int .i64 T.err)).setCell ⟨tb, 1, none⟩ (.slice ya T.evs.length yc) = W := ⟨_, rfl⟩
     have f4 : Fr0 (fun g => g = SB ∨ g = wr.heap.size) w3 W4 := by rw [← hW4, Htb.out]; exact setN (setN (setN (setN (Fr0.refl _ _) (.inl rfl)) (.inl rfl)) (.inr rfl)) (.inr rfl)
     have b4 : W4.heap[SB]? = some (.cells #[.int .i64 N, .slice va' E'.length vc'] 128 (0, 0)) := by
      have e1 := heap_set_cell (o := 1) (heap_set_cell (o := 0) b3 (.int .i64 N)) (.slice va' E'.length vc')
      have e2 : Fr0 (fun g => g = tb) ((w3.setCell ⟨SB, 0, none⟩ (.int .i64 N)).setCell ⟨SB, 1, none⟩ (.slice va' E'.length vc')) W4 := by rw [← hW4]; exact ((Fr0.refl (fun g => g = tb) _).setCell (fun _ => rfl) _).setCell (fun _ => rfl) _
      exact (e2.block SB (Array.getElem?_eq_some_iff.1 e1).1 hne).trans e1
     have t4 : W4.heap[tb]? = some (.cells #[.int .i64 T.err, .slice ya T.evs.length yc] 130 (0, 0)) := by
      have e0 : Fr0 (fun g => g = SB) w3 ((w3.setCell ⟨SB, 0, none⟩ (.int .i64 N)).setCell ⟨SB, 1, none⟩ (.slice va' E'.length vc')) := ((Fr0.refl (fun g => g = SB) _).setCell (fun _ => rfl) _).setCell (fun _ => rfl) _
      have e1 := (e0.block tb (Array.getElem?_eq_some_iff.1 t3).1 (fun e => hne e.symm)).trans t3
      rw [← hW4]
      exact heap_set_cell (o := 1) (heap_set_cell (o := 0) e1 (.int .i64 T.err)) (.slice ya T.evs.length yc)
     have c0 := cells_in t4 0
     have c1 := cells_in t4 1
     simp at c0 c1
     have hrow4 : W4.ownsRow (SB + 1) 130 2 u12 k (flatTd ys) := ownsRow_fr0 (ownsRow_fr0 (ownsRow_fr0 hrp.out.row F1r.out (fun _ _ h => h)) F3.out (fun _ _ h => h)) f4 (fun g hg h => by have := hrp.out.row.lt g hg; omega)
     have hsrc := Src.newRow (P := Tryz.prog) (size := 2) (tx := 76) (ty := 130) W4 Tryz.underlying76 1 1 [.int .i64 T.err, .slice ya T.evs.length yc] rfl (by simp [Value.oneCell'])
     have Hrow5 := Lib.hid (hrow4.alloc (.cells [Value.int .i64 T.err, .slice ya T.evs.length yc].toArray 130))
     have Hsrc := Lib.hid hsrc
     have F4 := Lib.hid f4
     have B4 := Lib.hid b4
     have Hsz : SB + 1 ≤ W4.heap.size := by have := (Array.getElem?_eq_some_iff.1 b4).1; omega
     obtain ⟨oa, oc, rfl⟩ : ∃ oa oc, u12 = .slice oa k oc := by
      rcases hrp.out.row.2 with ⟨rfl, h0⟩ | ⟨g, cap, cur, rfl, _⟩
      ·exact ⟨none, 0, by rw [h0]⟩
      ·exact ⟨_, cap, rfl⟩
     clear fv fy he hy f3 b3 t3 f4 b4 t4 hrow4 hsrc HC
     refine takeY_two (i := 8) (j := 9) rfl rfl (by kernel_rfl) (by kernel_rfl) (by kernel_rfl) (fun K hK => ?_) (fun K hK => ?_)
     ·go_simp
      refine hK.out _ _ (.inr hHeld) ?_
      clear hK K
      try simp only[pUt,pUn,sEt,sEz,sEs]
      refine takeY_call (i := 9) rfl (by kernel_rfl) (by kernel_rfl) (fun K hK => ?_)
      go_simp
      refine hK.out _ _ (.inl (by kernel_rfl)) ?_
      clear hK K
      try simp only[pUt,pUn,sEt,sEz,sEs]
      refine takeY_call (i := 10) rfl (by kernel_rfl) (by kernel_rfl) (fun K hK => ?_)
      go_simp
      try rw [hW4]
      refine hK.out _ _ (.inl (by kernel_rfl)) ?_
      clear hK K
      try simp only[pUt,pUn,sEt,sEz,sEs]
      refine wpAnyY_done (by kernel_rfl) ?_ _
      go_wp2_with (at_builtin; refine wpList_append_k rfl _ _ 76 76 rfl (SB + 1) 130 i0 (.agg #[.int .i64 0, .slice none 0 0]) 2 32 Tryz.underlying76 hi hz0 hz1 hz2 rfl (by decide) _ k _ rfl Hrow5.out (.slice (some ⟨W4.heap.size, 0, none⟩) 1 1) 1 _ rfl Hsrc.out (by unfold maxLen; omega) (by omega) (by simp; omega) ?_; intro v' w6 hown' hgrow hdr hob)
      have hst := hrp.out.step HLa.out Hsb.out F1r.out Hs1.out F3.out hc' He.out Hy.out Fv.out Fy.out F4.out B4.out ((Fr0.refl none' W4).alloc (.cells [Value.int .i64 T.err, .slice ya T.evs.length yc].toArray 130)) ((Fr0.refl (fun g => (Value.slice oa k oc).ownBlock = some g) _).grown hgrow (fun g hg _ => hg)) (err := T.err) (yc := yc) (out' := v') (by rw [flatTd_snoc]; exact hown') (fun g hg => by
       rcases hob with e | e
       ·rw [e] at hg; exact .inl hg
       ·rw [e] at hg; injection hg with hg; exact .inr (by omega))
      have htl' : (ys ++ [(⟨T.err, ya, T.evs.length, yc, T.evs⟩ : Td)]).map Td.tl = tlC N L (A.take (k + 1)) := by
       rw [List.map_append, htl.out, Htl.out, HT.out]
       rfl
      rw [← HE'.out, ← Hst.out] at hst
      have Hrp' := Lib.hid hst
      have Htl' := Lib.hid htl'
      obtain ⟨g', cap', rfl⟩ := ownsRow_k_succ hown'
      clear hgrow hdr hob hown' hst htl' a0 a1 a2 a3 u0 u1 u2 u3 c0 c1 hW4
      go_wp2
      go_roundw
      case rel => exact ⟨k + 1, va', vc', _, by omega, by go_num, Hrp', Htl'⟩
      case measure => simp [Go.RowKit.intOf]; omega
     ·go_simp
      refine hK.out _ _ (.inl (by kernel_rfl)) ?_
      clear hK K
      try simp only[pUt,pUn,sEt,sEz,sEs]
      refine takeY_call (i := 8) rfl (by kernel_rfl) (by kernel_rfl) (fun K hK => ?_)
      go_simp
      refine hK.out _ _ (.inl (by kernel_rfl)) ?_
      clear hK K
      try simp only[pUt,pUn,sEt,sEz,sEs]
      refine takeY_call (i := 10) rfl (by kernel_rfl) (by kernel_rfl) (fun K hK => ?_)
      go_simp
      try rw [hW4]
      refine hK.out _ _ (.inl (by kernel_rfl)) ?_
      clear hK K
      try simp only[pUt,pUn,sEt,sEz,sEs]
      refine wpAnyY_done (by kernel_rfl) ?_ _
      go_wp2_with (at_builtin; refine wpList_append_k rfl _ _ 76 76 rfl (SB + 1) 130 i0 (.agg #[.int .i64 0, .slice none 0 0]) 2 32 Tryz.underlying76 hi hz0 hz1 hz2 rfl (by decide) _ k _ rfl Hrow5.out (.slice (some ⟨W4.heap.size, 0, none⟩) 1 1) 1 _ rfl Hsrc.out (by unfold maxLen; omega) (by omega) (by simp; omega) ?_; intro v' w6 hown' hgrow hdr hob)
      have hst := hrp.out.step HLa.out Hsb.out F1r.out Hs1.out F3.out hc' He.out Hy.out Fv.out Fy.out F4.out B4.out ((Fr0.refl none' W4).alloc (.cells [Value.int .i64 T.err, .slice ya T.evs.length yc].toArray 130)) ((Fr0.refl (fun g => (Value.slice oa k oc).ownBlock = some g) _).grown hgrow (fun g hg _ => hg)) (err := T.err) (yc := yc) (out' := v') (by rw [flatTd_snoc]; exact hown') (fun g hg => by
       rcases hob with e | e
       ·rw [e] at hg; exact .inl hg
       ·rw [e] at hg; injection hg with hg; exact .inr (by omega))
      have htl' : (ys ++ [(⟨T.err, ya, T.evs.length, yc, T.evs⟩ : Td)]).map Td.tl = tlC N L (A.take (k + 1)) := by
       rw [List.map_append, htl.out, Htl.out, HT.out]
       rfl
      rw [← HE'.out, ← Hst.out] at hst
      have Hrp' := Lib.hid hst
      have Htl' := Lib.hid htl'
      obtain ⟨g', cap', rfl⟩ := ownsRow_k_succ hown'
      clear hgrow hdr hob hown' hst htl' a0 a1 a2 a3 u0 u1 u2 u3 c0 c1 hW4
      go_wp2
      go_roundw
      case rel => exact ⟨k + 1, va', vc', _, by omega, by go_num, Hrp', Htl'⟩
      case measure => simp [Go.RowKit.intOf]; omega
    ·have hkm : k = m := by omega
     subst hkm
     have s0 := cells_in hrp.out.bx 0
     have s1 := cells_in hrp.out.bx 1
     simp at s0 s1
     have htk : A.take k = A := List.take_of_length_le (by rw [HAl.out]; exact Nat.le_refl _)
     rw [htk] at hrp htl
     have HE := Lib.hid (show EndRP L N A a w (.returned (.tuple #[.slice va (stC N L A).length vc, u12, .int .i64 (-1), .int .i64 0])) wr from by
      unfold EndRP
      rw [Hp.out]
      have hsb := Hsb.out
      refine ⟨_, _, _, ys, rfl, hrp.out.cap, hrp.out.es, hrp.out.fr.mono (by omega) (Nat.le_refl _), ?_, htl.out, fun y hy => ⟨(hrp.out.tds y hy).1, (hrp.out.tds y hy).2.1, (hrp.out.tds y hy).2.2.mono (by omega) (Nat.le_refl _)⟩, hrp.out.f⟩
      have h1 := ownsRow_k_mono hrp.out.row (show w.heap.size ≤ SB + 1 by omega)
      have h2 : (tlC N L A).length = k := by rw [tlC_length, HAl.out]
      simp only
      rw [h2]
      exact h1)
     obtain ⟨en, hen⟩ : ∃ l, (stC N L A).length = l := ⟨_, rfl⟩
     rw [htk, hen] at s1
     rw [hen] at HE
     clear hrp htl htk hen
     go_wp2_with fail
     try simp only [Exit.inBlock, Exit.then]
     refine bodyPost_ret (results_tmp4 rfl _ _ _) rfl ?_
     exact HE.out
/-
  told: what acts told, compared with what the reference tells.
-/

set_option maxHeartbeats 2000000 in
theorem toldOne_any {w : World} (x y : Td) (hx : EsIn w x.sa x.evs) (hy : EsIn w y.sa y.evs) (hxl : x.evs.length = x.sn) (hyl : y.evs.length = y.sn) (hxm : x.sn ≤ 10000) (hym : y.sn ≤ 10000) :
  Calls Tryz.prog 64 #[x.val, y.val] w fun e w' => e = .returned (.bool (decide (x.tl = y.tl))) ∧ Fr0 none' w w' := by
 have HS := Lib.hid (fun (W : World) (hf : Fr0 none' w W) => sameEs_any x.sa y.sa x.sn y.sn x.sc y.sc x.evs y.evs W hxl hyl (by omega) (by omega) (hx.later hf) (hy.later hf))
 rw [tl_eq]
 obtain ⟨b, hb⟩ : ∃ b, decide (x.evs = y.evs) = b := ⟨_, rfl⟩
 rw [hb] at HS ⊢
 obtain ⟨c, hc⟩ : ∃ c, (x.err == y.err) = c := ⟨_, rfl⟩
 rw [hc]
 clear hx hy hxl hyl hb
 unfold Td.val
 cases c with
 | false =>
  go_enter Tryz.func64, Tryz.ntmps64
  go_wp2_with fail
  go_ret
  exact ⟨rfl, ((Fr0.refl _ _).alloc _).alloc _⟩
 | true =>
  go_enter Tryz.func64, Tryz.ntmps64
  go_wp2_with fail
  refine (HS.out _ (((Fr0.refl _ _).alloc _).alloc _)).mono ?_
  rintro e w1 ⟨rfl, hf⟩
  have F := Lib.hid ((((Fr0.refl none' w).alloc _).alloc _).trans hf)
  clear hf
  go_wp2_with fail
  go_ret
  exact ⟨rfl, F.out⟩
set_option maxHeartbeats 2000000 in
theorem equalRt_any (a a' : Option Addr) (n n' cap cap' : Nat) (xs ys : List Td) (w : World) (hn : xs.length = n) (hn' : ys.length = n') (hm : n ≤ 1000000) (hm' : n' ≤ 1000000)
  (hc : TdsIn w a xs) (hc' : TdsIn w a' ys) (he : TdEv w xs) (he' : TdEv w ys) :
  Calls Tryz.prog 63 #[.slice a n cap, .slice a' n' cap', .func (.func 64) #[] #[]] w fun e w' => e = .returned (.bool (decide (xs.map Td.tl = ys.map Td.tl))) ∧ Fr0 none' w w' := by
 obtain ⟨R, hR⟩ : ∃ R, decide (xs.map Td.tl = ys.map Td.tl) = R := ⟨_, rfl⟩
 rw [hR]
 have HR := Lib.hid hR
 have Hn := Lib.hid hn
 have Hn' := Lib.hid hn'
 have Hc := Lib.hid hc
 have Hc' := Lib.hid hc'
 have He := Lib.hid he
 have He' := Lib.hid he'
 clear hR hn hn' hc hc' he he'
 by_cases hnn : n = n'
 ·subst hnn
  have d0 : ((n : Int) != (n : Int)) = false := by simp
  go_enter Tryz.func63, Tryz.ntmps63
  go_wp2_with fail
  go_loopw [17] (fun i wr => ∃ k : Nat, k ≤ n ∧ i = .int .i64 k ∧ Hid ((xs.map Td.tl).take k = (ys.map Td.tl).take k) ∧ Hid (Fr0 none' w wr)) (fun i _ => n - (Go.RowKit.intOf i).toNat)
  case atStart => exact ⟨0, Nat.zero_le _, rfl, rfl, Fr0.refl _ _⟩
  case round =>
   obtain ⟨k, hk, rfl, hpre, hb⟩ := hrel
   by_cases hlt : k < n
   ·obtain ⟨x, hx⟩ : ∃ x, xs[k]? = some x := ⟨_, List.getElem?_eq_getElem (by rw [Hn.out]; exact hlt)⟩
    obtain ⟨y, hy⟩ : ∃ y, ys[k]? = some y := ⟨_, List.getElem?_eq_getElem (by rw [Hn'.out]; exact hlt)⟩
    obtain ⟨g, o, rfl, hcx⟩ := (Hc.out.later hb.out) k x hx
    obtain ⟨g', o', rfl, hcy⟩ := (Hc'.out.later hb.out) k y hy
    obtain ⟨x0, x1⟩ := hcx
    obtain ⟨y0, y1⟩ := hcy
    have c1 : (0 : Int) ≤ (k : Int) := by omega
    have c2 : (k : Int) < (n : Int) := by omega
    obtain ⟨W1, hW1⟩ : ∃ V, wr.alloc (.cells #[.int .i64 x.err, .slice x.sa x.sn x.sc] 56) = V := ⟨_, rfl⟩
    have f1 : Fr0 none' wr W1 := by rw [← hW1]; exact (Fr0.refl _ _).alloc _
    have y2 := f1.later y0
    have y3 := f1.later y1
    obtain ⟨W2, hW2⟩ : ∃ V, W1.alloc (.cells #[.int .i64 y.err, .slice y.sa y.sn y.sc] 130) = V := ⟨_, rfl⟩
    have f2 : Fr0 none' W1 W2 := by rw [← hW2]; exact (Fr0.refl _ _).alloc _
    have b1 : W1.heap[wr.heap.size]? = some (.cells #[.int .i64 x.err, .slice x.sa x.sn x.sc] 56 (0, 0)) := by rw [← hW1]; exact World.alloc_heap_new _ _
    have b2 : W2.heap[W1.heap.size]? = some (.cells #[.int .i64 y.err, .slice y.sa y.sn y.sc] 130 (0, 0)) := by rw [← hW2]; exact World.alloc_heap_new _ _
    have b3 := (f2.block wr.heap.size (Array.getElem?_eq_some_iff.1 b1).1 id).trans b1
    have t0 := cells_in b3 0
    have t1 := cells_in b3 1
    have s0 := cells_in b2 0
    have s1 := cells_in b2 1
    simp at t0 t1 s0 s1
    have F2 := Lib.hid ((hb.out.trans f1).trans f2)
    have hex := He.out x (List.mem_of_getElem? hx)
    have hey := He'.out y (List.mem_of_getElem? hy)
    have HA := Lib.hid (toldOne_any x y (hex.1.later F2.out) (hey.1.later F2.out) hex.2.1 hey.2.1 hex.2.2 hey.2.2)
    unfold Td.val at HA
    have hx' := Lib.hid hx
    have hy' := Lib.hid hy
    clear hx hy hex hey b1 b2 b3 f1 f2
    by_cases hxy : x.tl = y.tl
    ·rw [show decide (x.tl = y.tl) = true from decide_eq_true hxy] at HA
     have hnext := Lib.hid (show (xs.map Td.tl).take (k + 1) = (ys.map Td.tl).take (k + 1) by
      rw [List.take_add_one, List.take_add_one, hpre.out, List.getElem?_map, List.getElem?_map, hx'.out, hy'.out, Option.map_some, Option.map_some, hxy])
     clear hxy
     go_wp2_with fail
     refine HA.out.mono ?_
     rintro e w3 ⟨rfl, hf⟩
     have F3 := Lib.hid (F2.out.trans hf)
     clear hf
     go_wp2_with fail
     go_roundw
     case rel => exact ⟨k + 1, by omega, by go_num, hnext, F3⟩
     case measure => simp [Go.RowKit.intOf]; omega
    ·rw [show decide (x.tl = y.tl) = false from decide_eq_false hxy] at HA
     have hres : Hid (false = R) := by
      unfold Hid; rw [← HR.out]
      refine (decide_eq_false (fun h => hxy ?_)).symm
      have h1 := congrArg (fun l => l[k]?) h
      simp only [List.getElem?_map, hx'.out, hy'.out, Option.map_some] at h1
      exact Option.some.inj h1
     clear hxy
     go_wp2_with fail
     refine HA.out.mono ?_
     rintro e w3 ⟨rfl, hf⟩
     have F3 := Lib.hid (F2.out.trans hf)
     clear hf
     go_wp2_with fail
     go_ret
     exact ⟨ret_bool hres.out, F3.out⟩
   ·have hres : Hid (true = R) := by
     unfold Hid; rw [← HR.out]
     refine (decide_eq_true ?_).symm
     have := hpre.out
     rwa [List.take_of_length_le (by rw [List.length_map, Hn.out]; omega), List.take_of_length_le (by rw [List.length_map, Hn'.out]; omega)] at this
    go_wp2_with fail
    go_ret
    exact ⟨ret_bool hres.out, hb.out⟩
 ·have hres : Hid (false = R) := by
   unfold Hid; rw [← HR.out]
   refine (decide_eq_false (fun h => hnn ?_)).symm
   have := congrArg List.length h
   rw [List.length_map, List.length_map, Hn.out, Hn'.out] at this
   exact this
  have d0 : ((n : Int) != (n' : Int)) = true := by simp; omega
  clear hnn
  go_enter Tryz.func63, Tryz.ntmps63
  go_wp2_with fail
  go_ret
  exact ⟨ret_bool hres.out, Fr0.refl _ _⟩
theorem told12_any (a a' : Option Addr) (n n' cap cap' : Nat) (xs ys : List Td) (w : World) (hn : xs.length = n) (hn' : ys.length = n') (hm : n ≤ 1000000) (hm' : n' ≤ 1000000)
  (hc : TdsIn w a xs) (hc' : TdsIn w a' ys) (he : TdEv w xs) (he' : TdEv w ys) :
  Calls Tryz.prog 30 #[.slice a n cap, .slice a' n' cap'] w fun e w' => e = .returned (.bool (decide (xs.map Td.tl = ys.map Td.tl))) ∧ Fr0 none' w w' := by
 have HC := Lib.hid (equalRt_any a a' n n' cap cap' xs ys w hn hn' hm hm' hc hc' he he')
 obtain ⟨b, hb⟩ : ∃ b, decide (xs.map Td.tl = ys.map Td.tl) = b := ⟨_, rfl⟩
 rw [hb] at HC ⊢
 clear hn hn' hc hc' he he' hb
 go_enter Tryz.func30, Tryz.ntmps30
 go_wp2_with fail
 refine HC.out.mono ?_
 rintro e w1 ⟨rfl, hf⟩
 have F := Lib.hid hf
 clear hf
 go_wp2_with fail
 go_ret
 exact ⟨rfl, F.out⟩
/-
  slices.Clone and slices.Equal at acts.
-/

theorem flatCa_one (L : List Ca) : ∀ v ∈ flatCa L, v.oneCell' = true := fun v hv => by
 simp only [flatCa, List.mem_flatMap] at hv
 obtain ⟨p, _, hv⟩ := hv
 simp only [List.mem_cons, List.not_mem_nil, or_false] at hv
 rcases hv with rfl | rfl | rfl | rfl | rfl | rfl | rfl <;> rfl
theorem CasIn.flat {w : World} {g o : Nat} {L : List Ca} (h : CasIn w (some ⟨g, o, none⟩) L) (j : Nat) (u : Value) (hj : (flatCa L)[j]? = some u) : w.cell? ⟨g, o + j, none⟩ = some u := by
 have hlt : j < L.length * 7 := by rw [← flatCa_length]; exact (List.getElem?_eq_some_iff.1 hj).1
 have hk : j / 7 < L.length := by omega
 obtain ⟨g', o', e, c0, c1, c2, c3, c4, c5, c6⟩ := h (j / 7) L[j / 7] (List.getElem?_eq_getElem hk)
 injection e with e
 injection e with e1 e2
 subst e1; subst e2
 have h3 := flat_at caL_len L (j / 7) (j % 7) (by omega)
 rw [show j / 7 * 7 + j % 7 = j by omega, List.getElem?_eq_getElem hk] at h3
 have h3 : some u = (caL L[j / 7])[j % 7]? := hj.symm.trans h3
 have : j % 7 = 0 ∨ j % 7 = 1 ∨ j % 7 = 2 ∨ j % 7 = 3 ∨ j % 7 = 4 ∨ j % 7 = 5 ∨ j % 7 = 6 := by omega
 rcases this with h | h | h | h | h | h | h
 ·rw [h] at h3; rw [show o + j = o + j / 7 * 7 by omega, h3]; exact c0
 ·rw [h] at h3; rw [show o + j = o + j / 7 * 7 + 1 by omega, h3]; exact c1
 ·rw [h] at h3; rw [show o + j = o + j / 7 * 7 + 2 by omega, h3]; exact c2
 ·rw [h] at h3; rw [show o + j = o + j / 7 * 7 + 3 by omega, h3]; exact c3
 ·rw [h] at h3; rw [show o + j = o + j / 7 * 7 + 4 by omega, h3]; exact c4
 ·rw [h] at h3; rw [show o + j = o + j / 7 * 7 + 5 by omega, h3]; exact c5
 ·rw [h] at h3; rw [show o + j = o + j / 7 * 7 + 6 by omega, h3]; exact c6
theorem CasIn.src {w : World} {a : Option Addr} {L : List Ca} {n : Nat} (h : CasIn w a L) (hn : L.length = n) (cap : Nat) {tx e' : TypeId} (hk : Tryz.prog.underlying tx = some (.slice e')) : Src Tryz.prog 7 tx (.slice a n cap) n (flatCa L) w := by
 cases a with
 | none =>
  have hL : L = [] := by
   clear hn
   cases L with
   | nil => rfl
   | cons p r => obtain ⟨g, o, e, _⟩ := h 0 p rfl; cases e
  subst hL
  have hn : 0 = n := hn
  subst hn
  exact Src.ofNil w hk cap
 | some ad =>
  refine Src.ofSlice w hk ad n cap (flatCa L) (by rw [flatCa_length, hn]) (fun j u hj => ?_) (flatCa_one L)
  obtain ⟨g, o, s⟩ := ad
  obtain ⟨p, hp⟩ : ∃ p, L[0]? = some p := by
   cases L with
   | nil => simp [flatCa] at hj
   | cons p r => exact ⟨p, rfl⟩
  obtain ⟨g', o', e, _⟩ := h 0 p hp
  cases e
  rw [Addr.add_lit]
  exact h.flat j u hj
set_option maxHeartbeats 2000000 in
/-- Clone of a list of acts at any address. -/
theorem CloneA {w : World} {a : Option Addr} {n cap : Nat} (L : List Ca) (h : CasIn w a L) (hl : L.length = n) (hn : n ≤ 1000000) :
  Calls Tryz.prog 24 #[.slice a n cap] w fun e w' => ∃ v, e = .returned v ∧ w'.ownsRow w.heap.size 33 7 v n (flatCa L) ∧ Fr0 none' w w' := by
 obtain ⟨i0, hi0, hz0, hz1, hz2⟩ := info_parts info_act0
 have q22 : ∀ (w : World) (a : Option Addr) (n c n' c' : Nat), (binOp .eql 23 (.slice a n c) (.slice none n' c')).run Tryz.prog w = .ok (.bool a.isNone) w := fun w a n c n' c' => Lib.run_eql_slice_nil w _ _ a n c n' c' Tryz.underlying23
 cases a with
 | none =>
  have hL : L = [] := by
   cases L with
   | nil => rfl
   | cons p r => obtain ⟨g, o, e, _⟩ := h 0 p rfl; cases e
  subst hL
  obtain rfl : n = 0 := by rw [← hl]; rfl
  go_enter Tryz.func24, Tryz.ntmps24
  go_wp2
  go_ret
  exact ⟨_, rfl, World.ownsRow_nil _ _ _ _, Fr0.refl _ _⟩
 | some a =>
  have hsrc := Lib.hid (fun (W : World) (hf : Fr0 none' w W) => (h.later hf).src hl cap Tryz.underlying23)
  clear h hl
  go_enter Tryz.func24, Tryz.ntmps24
  go_wp2_with (at_builtin; refine wpList_append_k rfl _ _ 23 23 rfl w.heap.size 33 i0 (.agg #[.int .u8 0, .int .i64 0, .int .i64 0, .int .i64 0, .int .i64 0, .int .i64 0, .int .i64 0]) 7 56 Tryz.underlying23 hi0 hz0 hz1 hz2 rfl (by decide) (.slice (some ⟨w.heap.size, 0, none⟩) 0 0) 0 _ rfl (World.ownsRow_made w #[] 0 (Nat.le_refl _) (Nat.zero_le _) (by simp)) (.slice (some a) n cap) n _ rfl (hsrc.out _ ((Fr0.refl _ _).alloc _)) (by unfold maxLen; omega) (by omega) (by simp) ?_; intro v' w1 hown hgrow hdr hob)
  go_wp2
  go_ret
  exact ⟨_, rfl, by simpa using hown, ((Fr0.refl none' w).alloc _).grown hgrow (fun k hk hlt => by have : w.heap.size = k := Option.some.inj hk; omega)⟩
set_option maxHeartbeats 1000000 in
theorem run_neq_ca (k a b c d e f : Int) (w : World) : (binOp .neq 33 (.agg #[.int .u8 k, .int .i64 a, .int .i64 b, .int .i64 c, .int .i64 d, .int .i64 e, .int .i64 f]) (.agg #[.int .u8 k, .int .i64 a, .int .i64 b, .int .i64 c, .int .i64 d, .int .i64 e, .int .i64 f])).run Tryz.prog w = .ok (.bool false) w := by
 go_simp
section
attribute [local go_sem high] run_neq_ca
set_option maxHeartbeats 2000000 in
theorem sameCas_any (a a' : Option Addr) (n cap cap' : Nat) (xs : List Ca) (w : World) (hn : xs.length = n) (hm : n ≤ 1000000) (hc : CasIn w a xs) (hc' : CasIn w a' xs) :
  Calls Tryz.prog 36 #[.slice a n cap, .slice a' n cap'] w fun e w' => e = .returned (.bool true) ∧ Fr0 none' w w' := by
 have Hn := Lib.hid hn
 have Hc := Lib.hid hc
 have Hc' := Lib.hid hc'
 clear hn hc hc'
 have d0 : ((n : Int) != (n : Int)) = false := by simp
 go_enter Tryz.func36, Tryz.ntmps36
 go_wp2
 clear d0
 go_loopw [13] (fun i wr => ∃ k : Nat, k ≤ n ∧ i = .int .i64 k ∧ Hid (Fr0 none' w wr)) (fun i _ => n - (Go.RowKit.intOf i).toNat)
 case atStart => exact ⟨0, Nat.zero_le _, rfl, Fr0.refl _ _⟩
 case round =>
  obtain ⟨k, hk, rfl, hb⟩ := hrel
  by_cases hlt : k < n
  ·have h1 : k < xs.length := by rw [Hn.out]; exact hlt
   obtain ⟨x, hx⟩ : ∃ x, xs[k]? = some x := ⟨_, List.getElem?_eq_getElem h1⟩
   obtain ⟨g, o, rfl, hcx⟩ := (Hc.out.later hb.out) k x hx
   obtain ⟨g', o', rfl, hcy⟩ := (Hc'.out.later hb.out) k x hx
   obtain ⟨x0, x1, x2, x3, x4, x5, x6⟩ := hcx
   obtain ⟨y0, y1, y2, y3, y4, y5, y6⟩ := hcy
   have FW := hb
   clear hx h1
   have c1 : (0 : Int) ≤ (k : Int) := by omega
   have c2 : (k : Int) < (n : Int) := by omega
   go_wp2
   go_quiet (fail)
   go_wp2
   refine ⟨⟨k + 1, by omega, by go_num, by first | exact FW | exact ⟨FW.out.os, FW.out.tape, FW.out.output, FW.out.size, FW.out.block⟩⟩, ?_⟩
   simp [Go.RowKit.intOf]; omega
  ·go_wp2
   go_ret
   exact ⟨rfl, hb.out⟩
end
end Go.Proofs.YtieeloealklkgaaGreat

/-
  slices.Grow and slices.Concat at what was told.
-/
namespace Go.Proofs
open Go.Shelf
end Go.Proofs
namespace Go.Proofs.YtieeloealklkgaaGreat
open Go Go.RowKit
attribute [local go_sem ↓] Go.wp_at_zero Go.wp_at_succ
attribute [local go_sem] Oper.semAt_some wide_fn wide_depth wide_fnR wide_depthR

/-
  CalendarParts.
-/

theorem casIn_nil (W : World) (a : Option Addr) : CasIn W a [] := fun i x hx => by simp at hx
theorem esIn_nilC (W : World) (a : Option Addr) : EsIn W a [] := fun i x hx => by simp at hx
theorem tlC_le {n : Nat} : ∀ (A : List Ca) {E : List Ev}, GoodE n E → ∀ t ∈ tlC n E A, t.evs.length ≤ n
 | [], _, _, t, ht => by simp [tlC] at ht
 | a :: r, E, h, t, ht => by
  rw [tlC, List.mem_cons] at ht
  rcases ht with rfl | ht
  ·exact (told_good h a).le
  ·exact tlC_le r (h.act a) t ht
/-
  CalendarTells: tells.
-/

theorem playC_bounds (L : List Ev) (c : Int) (A : List Ca) : (playC L c A).1.length ≤ 256 ∧ (playC L c A).2.1.length ≤ A.length ∧ ∀ t ∈ (playC L c A).2.1, t.evs.length ≤ 256 := by
 by_cases h : RightC L c
 ·by_cases h0 : 0 ≤ oddC A
  ·rw [playC_odd h h0]; simp
  ·rw [playC_right h h0]
   obtain ⟨N, rfl⟩ : ∃ N : Nat, c = (N : Int) := ⟨c.toNat, by have := h.1; omega⟩
   have hN := h.1
   rw [Int.toNat_natCast]
   have hg := h.good
   exact ⟨by have := (GoodE.acts A hg).le; simp only; omega, by simp only; rw [tlC_length]; exact Nat.le_refl _, fun t ht => by have := tlC_le A hg t ht; omega⟩
 ·rw [playC_wrong h]; simp
theorem doT_cases (L : List Ev) (c : Int) (x : Ca) : ((playC L c [x]).2.2.2 = 0 ∧ (playC L c [x]).2.1 = [doT L c x]) ∨ ((playC L c [x]).2.2.2 ≠ 0 ∧ (playC L c [x]).2.1 = [] ∧ doT L c x = ⟨0, []⟩) := by
 unfold doT
 by_cases h : RightC L c
 ·by_cases h0 : 0 ≤ oddC [x]
  ·rw [playC_odd h h0]; right; exact ⟨by simp, rfl, rfl⟩
  ·rw [playC_right h h0]; left; exact ⟨rfl, rfl⟩
 ·rw [playC_wrong h]; right; exact ⟨by simp, rfl, rfl⟩
theorem TdsIn.of_ownR {w : World} {base : Nat} {v : Value} {n : Nat} {L : List Td} (h : w.ownsRow base 130 2 v n (flatTd L)) : ∃ a cap, v = .slice a n cap ∧ L.length = n ∧ TdsIn w a L := by
 have hl : L.length = n := by have := h.1; rw [flatTd_length] at this; omega
 rcases h.2 with ⟨rfl, h0⟩ | ⟨g, cap, cur, rfl, hb, hg, hn', hcm, hs, ht⟩
 ·have : L = [] := List.eq_nil_of_length_eq_zero (by omega)
  subst this
  exact ⟨none, 0, by rw [h0], hl, fun i x h => by simp at h⟩
 ·exact ⟨_, cap, rfl, hl, TdsIn.of_flat (fun j u hj => by
   rw [Nat.zero_add, cells_in hg, ← Array.getElem?_toList]
   rw [← ht, List.getElem?_take] at hj
   split at hj
   ·exact hj
   ·cases hj)⟩
theorem EsIn.of_own' {w : World} {base : Nat} {a : Option Addr} {m c n : Nat} {L : List Ev} (h : w.ownsRow base 30 5 (.slice a m c) n (flatEv L)) : EsIn w a L := by
 obtain ⟨a', c', e, _, h1⟩ := EsIn.of_own h
 injection e with e1 _ _
 rw [e1]; exact h1
theorem TdsIn.of_own' {w : World} {base : Nat} {a : Option Addr} {m c n : Nat} {L : List Td} (h : w.ownsRow base 56 2 (.slice a m c) n (flatTd L)) : TdsIn w a L := by
 obtain ⟨a', c', e, _, h1⟩ := TdsIn.of_own h
 injection e with e1 _ _
 rw [e1]; exact h1
/-- A row of events that may be written. -/
def WrRow (w : World) (a : Option Addr) (n : Nat) : Prop := n = 0 ∨ ∃ g cu ty, a = some ⟨g, 0, none⟩ ∧ w.heap[g]? = some (.cells cu ty (0, 0)) ∧ n * 5 ≤ cu.size
theorem WrRow.of_own {w : World} {base : Nat} {a : Option Addr} {m c n : Nat} {xs : List Value} (h : w.ownsRow base 30 5 (.slice a m c) n xs) : WrRow w a n := by
 rcases h.2 with ⟨_, h0⟩ | ⟨g, cap, cur, e, hb, hg, hn, hcm, hs, ht⟩
 ·exact .inl h0
 ·injection e with e1 _ _
  exact .inr ⟨g, cur, _, e1, hg, by rw [hs]; exact Nat.mul_le_mul_right 5 hn⟩
theorem WrRow.fr0 {S : Nat → Prop} {w w' : World} {a : Option Addr} {n : Nat} (h : WrRow w a n) (hf : Fr0 S w w') (hS : ∀ g o s, a = some ⟨g, o, s⟩ → ¬ S g) : WrRow w' a n := by
 rcases h with h | ⟨g, cu, ty, e, hg, hs⟩
 ·exact .inl h
 ·exact .inr ⟨g, cu, ty, e, (hf.block g (Array.getElem?_eq_some_iff.1 hg).1 (hS g 0 none e)).trans hg, hs⟩
theorem WrRow.put {w : World} {a : Option Addr} {n i : Nat} (h : WrRow w a n) (hi : i < n) (v0 v1 v2 v3 v4 : Value) : ∃ g, a = some ⟨g, 0, none⟩ ∧ (∃ u0 u1 u2 u3 u4, w.cell? ⟨g, i * 5, none⟩ = some u0 ∧ w.cell? ⟨g, i * 5 + 1, none⟩ = some u1 ∧ w.cell? ⟨g, i * 5 + 2, none⟩ = some u2 ∧ w.cell? ⟨g, i * 5 + 3, none⟩ = some u3 ∧ w.cell? ⟨g, i * 5 + 4, none⟩ = some u4) ∧
  (w.frozen? ⟨g, i * 5, none⟩ = false ∧ w.frozen? ⟨g, i * 5 + 1, none⟩ = false ∧ w.frozen? ⟨g, i * 5 + 2, none⟩ = false ∧ w.frozen? ⟨g, i * 5 + 3, none⟩ = false ∧ w.frozen? ⟨g, i * 5 + 4, none⟩ = false) ∧
  WrRow (((((w.setCell ⟨g, i * 5, none⟩ v0).setCell ⟨g, i * 5 + 1, none⟩ v1).setCell ⟨g, i * 5 + 2, none⟩ v2).setCell ⟨g, i * 5 + 3, none⟩ v3).setCell ⟨g, i * 5 + 4, none⟩ v4) a n ∧
  Fr0 (fun k => ∃ o s, a = some ⟨k, o, s⟩) w (((((w.setCell ⟨g, i * 5, none⟩ v0).setCell ⟨g, i * 5 + 1, none⟩ v1).setCell ⟨g, i * 5 + 2, none⟩ v2).setCell ⟨g, i * 5 + 3, none⟩ v3).setCell ⟨g, i * 5 + 4, none⟩ v4) := by
 rcases h with h | ⟨g, cu, ty, rfl, hg, hs⟩
 ·omega
 ·have hc : ∀ j, j < n * 5 → ∃ u, w.cell? ⟨g, j, none⟩ = some u := fun j hj => ⟨cu[j], by rw [cells_in hg]; exact Array.getElem?_eq_getElem (by omega)⟩
  obtain ⟨u0, c0⟩ := hc (i * 5) (by omega)
  obtain ⟨u1, c1⟩ := hc (i * 5 + 1) (by omega)
  obtain ⟨u2, c2⟩ := hc (i * 5 + 2) (by omega)
  obtain ⟨u3, c3⟩ := hc (i * 5 + 3) (by omega)
  obtain ⟨u4, c4⟩ := hc (i * 5 + 4) (by omega)
  refine ⟨g, rfl, ⟨u0, u1, u2, u3, u4, c0, c1, c2, c3, c4⟩, ⟨thaw_in hg _, thaw_in hg _, thaw_in hg _, thaw_in hg _, thaw_in hg _⟩, .inr ⟨g, _, ty, rfl, heap_set_cell (heap_set_cell (heap_set_cell (heap_set_cell (heap_set_cell hg _) _) _) _) _, by simpa using hs⟩, ?_⟩
  exact (((((Fr0.refl _ _).setCell (fun _ => ⟨0, none, rfl⟩) _).setCell (fun _ => ⟨0, none, rfl⟩) _).setCell (fun _ => ⟨0, none, rfl⟩) _).setCell (fun _ => ⟨0, none, rfl⟩) _).setCell (fun _ => ⟨0, none, rfl⟩) _
def d2 (cap n : Nat) (a : Option Addr) : Option Addr := if cap = n then a else a.map (fun x => x.add (n * 2))
theorem TdsIn.drop {w : World} {g o : Nat} {L : List Td} (h : TdsIn w (some ⟨g, o, none⟩) L) (i : Nat) : TdsIn w (some ⟨g, o + i * 2, none⟩) (L.drop i) := fun j x hx => by
 rw [List.getElem?_drop] at hx
 obtain ⟨g', o', e, hc⟩ := h (i + j) x hx
 injection e with e
 injection e with e1 e2
 subst e1 e2
 refine ⟨g, o + i * 2, rfl, ?_⟩
 rw [show o + i * 2 + j * 2 = o + (i + j) * 2 by omega]
 exact hc
theorem TdsIn.rest {W : World} {a : Option Addr} {S : List Td} (h : TdsIn W a S) {cap : Nat} (hc : S.length ≤ cap) (n : Nat) : TdsIn W (d2 cap n a) (S.drop n) := by
 unfold d2
 split
 ·next e =>
  rw [List.drop_of_length_le (by omega)]
  exact fun i x hx => by simp at hx
 ·cases a with
  | none =>
   intro i x hx
   rw [List.getElem?_drop] at hx
   obtain ⟨g, o, e, _⟩ := h _ x hx
   cases e
  | some A =>
   intro i x hx
   have hx' := hx
   rw [List.getElem?_drop] at hx'
   obtain ⟨g, o, e, _⟩ := h _ x hx'
   injection e with e
   subst e
   have h1 := h.drop n i x hx
   rw [Option.map_some, Addr.add_mid]
   exact h1
/-- What tells has written so far: the events, and the rows of the first acts. -/
def SW (oa : Option Addr) (ys : List Td) (k g : Nat) : Prop := (∃ o s, oa = some ⟨g, o, s⟩) ∨ ∃ y ∈ ys.take k, y.v.ownBlock = some g
theorem SW.mono {oa : Option Addr} {ys : List Td} {j k g : Nat} (hjk : j ≤ k) (h : SW oa ys j g) : SW oa ys k g := h.imp id fun ⟨y, hy, e⟩ => ⟨y, by
 obtain ⟨i, hi, rfl⟩ := List.mem_take_iff_getElem.1 hy
 exact List.mem_take_iff_getElem.2 ⟨i, by omega, rfl⟩, e⟩
theorem SW.off {W : World} {T : List Tl} {ys : List Td} {v : Value} {base on oc : Nat} {oa : Option Addr} (hT : TdsOk W T ys v base (fun k => (Value.slice oa on oc).ownBlock = some k)) {j k g : Nat} {y : Td} (hy : ys[j]? = some y) (hk : k ≤ j) (hg : y.v.ownBlock = some g) : ¬ SW oa ys k g := by
 rintro (⟨o, s, e⟩ | ⟨z, hz, e⟩)
 ·exact (hT.out y (List.mem_of_getElem? hy) g hg).1 (by rw [e]; rfl)
 ·obtain ⟨i, hi, rfl⟩ := List.mem_take_iff_getElem.1 hz
  obtain ⟨hj, rfl⟩ := List.getElem?_eq_some_iff.1 hy
  exact List.pairwise_iff_getElem.1 hT.two i j (by omega) hj (by omega) g e hg
theorem SW.mid {W : World} {T : List Tl} {ys : List Td} {v : Value} {base M : Nat} {S : Nat → Prop} {oa : Option Addr} (hT : TdsOk W T ys v base S) (hM : ∀ y ∈ ys, ∀ g, y.v.ownBlock = some g → g < M) (ho : ∀ g o s, oa = some ⟨g, o, s⟩ → base ≤ g ∧ g < M) {k g : Nat} (h : SW oa ys k g) : base ≤ g ∧ g < M := by
 rcases h with ⟨o, s, e⟩ | ⟨y, hy, e⟩
 ·exact ho g o s e
 ·have hy := List.mem_of_mem_take hy
  exact ⟨(hT.out y hy g e).2.2, hM y hy g e⟩
theorem CasIn.off {S : Nat → Prop} {w w' : World} {a : Option Addr} {F : List Ca} (h : CasIn w a F) (hf : Fr0 S w w') (hS : ∀ g o s, a = some ⟨g, o, s⟩ → F ≠ [] → ¬ S g) : CasIn w' a F := by
 cases F with
 | nil => exact fun i x hx => by simp at hx
 | cons x r => exact h.fr0 hf (fun g o s e => hS g o s e (by simp))
set_option maxHeartbeats 4000000 in
theorem tells12_any {w : World} {a aa : Option Addr} {n cap m ca : Nat} {c : Int} (L : List Ev) (A : List Ca) (h : EsIn w a L) (hl : L.length = n) (hn : n ≤ 1000) (hcap : n ≤ cap) (hA : CasIn w aa A) (hAl : A.length = m) (hm : m ≤ 1000) (hmc : m ≤ ca) (hk : ∀ x ∈ A, 0 ≤ x.kind ∧ x.kind < 256) :
  Calls Tryz.prog 10 #[.slice a n cap, .int .i64 c, .slice aa m ca] w fun e w' => e = .returned (.bool true) ∧ Fr0 none' w w' := by
 have HC := Lib.hid (CloneE (cap := cap) L h hl (by omega))
 have HCA := Lib.hid (fun (W : World) (hf : Fr0 none' w W) => CloneA (cap := ca) A (hA.later hf) hAl (by omega))
 have HL := Lib.hid h
 have HA := Lib.hid hA
 have Hl := Lib.hid hl
 have HAl := Lib.hid hAl
 have HK := Lib.hid hk
 clear h hl hA hAl hk
 go_enter Tryz.func10, Tryz.ntmps10
 go_wp2_with fail
 refine HC.out.mono ?_
 rintro e w1 ⟨v, rfl, hv, hf⟩
 obtain ⟨va, vc, rfl, _, hvi⟩ := EsIn.of_own hv
 have hvc : n ≤ vc := own_cap hv rfl
 have Hv := Lib.hid (show ∀ g o s, va = some ⟨g, o, s⟩ → w.heap.size ≤ g ∧ g < w1.heap.size from fun g o s e => hv.lt g (by rw [e]; rfl))
 have HV := Lib.hid hvi
 have F1 := Lib.hid hf
 clear hv hvi HC
 go_wp2_with fail
 refine (HCA.out _ hf).mono ?_
 rintro e w2 ⟨u, rfl, hu, hf2⟩
 obtain ⟨ua, uc, rfl, _, huc, hui⟩ := CasIn.of_own hu
 have Hu := Lib.hid (show ∀ g o s, ua = some ⟨g, o, s⟩ → w1.heap.size ≤ g ∧ g < w2.heap.size from fun g o s e => hu.lt g (by rw [e]; rfl))
 have HU := Lib.hid hui
 have HV := Lib.hid (HV.out.later hf2)
 have F2 := Lib.hid (hf.trans hf2)
 have F12 := Lib.hid hf2
 clear hu hui hf hf2 HCA
 go_wp2_with fail
 refine (Play_any (c := c) (cap := vc) (ca := uc) L A HV.out Hl.out (by omega) hvc HU.out HAl.out (by omega) HK.out).mono ?_
 rintro e w3 ⟨ov, av, ys, rfl, ho, hall, hT, hov, hf3⟩
 obtain ⟨oa, oc, rfl, hol, hoi⟩ := EsIn.of_own ho
 obtain ⟨ala, alc, rfl, hal, hali⟩ := TdsIn.of_own hall
 have HO := Lib.hid ho
 have HOlt := Lib.hid (show ∀ g o s, oa = some ⟨g, o, s⟩ → w2.heap.size ≤ g ∧ g < w3.heap.size from fun g o s e => ho.lt g (by rw [e]; rfl))
 have HYlt := Lib.hid (show ∀ y ∈ ys, ∀ g, y.v.ownBlock = some g → g < w3.heap.size from fun y hy g hg => hT.lt y hy g hg)
 have HALL := Lib.hid hall
 have HT := Lib.hid hT
 have HOV := Lib.hid hov
 have HLt := Lib.hid (HL.out.later (F2.out.trans hf3))
 have hB := playC_bounds L c A
 rw [HAl.out] at hB
 obtain ⟨PR, hPR⟩ : ∃ p, playC L c A = p := ⟨_, rfl⟩
 rw [hPR] at hB
 have HPR := Lib.hid hPR
 rw [hPR] at HO HALL HT hol hal ⊢
 obtain ⟨E, T, ix, er⟩ := PR
 simp only at HO HALL HT hol hal ⊢
 obtain ⟨on, hon⟩ : ∃ l, E.length = l := ⟨_, rfl⟩
 obtain ⟨tn, htn⟩ : ∃ l, T.length = l := ⟨_, rfl⟩
 rw [hon] at HO ⊢
 rw [htn] at HALL ⊢
 have Hon := Lib.hid hon
 have Htn := Lib.hid htn
 simp only [hon, htn] at hB
 obtain ⟨hon256, htnm, hB3⟩ := hB
 have HB3 := Lib.hid hB3
 clear hB3
 have F3 := Lib.hid hf3
 have HTH := Lib.hid (fun (W : World) (hf : Fr0 none' w W) => theirs_any (cap := ca) A (HA.out.later hf) HAl.out (by omega))
 clear ho hall hT hov hoi hali hPR hon htn hf3 hol hal
 go_wp2_with fail
 refine (HTH.out _ (F2.out.trans F3.out)).mono ?_
 rintro e w4 ⟨q, rfl, hq, hf4⟩
 obtain ⟨qa, qc, rfl, _, hqc, hqi⟩ := flatCa_ownR hq
 have F4 := Lib.hid hf4
 have HRP := Lib.hid (rPlay_any (c := c) (cap := cap) (ca := qc) L A (HLt.out.later hf4) Hl.out hn hcap hqi HAl.out (by omega))
 unfold EndRP at HRP
 rw [HPR.out] at HRP
 simp only [Hon.out, Htn.out] at HRP
 clear hq hqi hf4
 go_wp2_with fail
 refine HRP.out.mono ?_
 rintro e w5 ⟨wa, wc, sv, zs, rfl, _, hw, hfw, hsv, hzt, hz, hf5⟩
 obtain ⟨sa, sc, rfl, hzl, hsi⟩ := TdsIn.of_ownR hsv
 have f35 := F4.out.trans hf5
 have HO := Lib.hid (ownsRow_fr0 HO.out f35 (fun _ _ h => h))
 have HALL := Lib.hid (ownsRow_fr0 HALL.out f35 (fun _ _ h => h))
 have HT := Lib.hid (HT.out.later f35)
 have F25 := Lib.hid (F3.out.trans f35)
 have HV := Lib.hid (HV.out.later F25.out)
 have HU := Lib.hid (HU.out.later F25.out)
 have F5 := Lib.hid (F2.out.trans F25.out)
 have HL5 := Lib.hid (HL.out.later F5.out)
 have HA5 := Lib.hid (HA.out.later F5.out)
 have HW := Lib.hid hw
 have HFW := Lib.hid hfw
 have HSV := Lib.hid hsv
 have HSI := Lib.hid hsi
 have HZT := Lib.hid hzt
 have HZ := Lib.hid hz
 have HZL := Lib.hid hzl
 have HYL := Lib.hid (show ys.length = tn by rw [← Htn.out, ← HT.out.tl, List.length_map])
 have S34 := Lib.hid (show w3.heap.size ≤ w4.heap.size from F4.out.size)
 have S23 := Lib.hid F3.out.size
 have S12 := Lib.hid F12.out.size
 have S01 := Lib.hid F1.out.size
 clear hw hfw hsv hsi hzt hz hzl hf5 f35 HRP F4 HLt
 have HR1 := Lib.hid (CRight_any (w := w5) (c := c) (cap := vc) L HV.out Hl.out (by omega) hvc)
 go_wp2_with fail
 refine HR1.out.mono ?_
 rintro e w6 ⟨b1, rfl, hb1, hf⟩
 have FW := Lib.hid hf
 have Hb1 := Lib.hid hb1
 clear hf hb1 HR1
 go_wp2_with fail
 refine (rRight12_any (w := w6) (c := c) (cap := cap) L (HL5.out.later FW.out) Hl.out (by omega) hcap).mono ?_
 rintro e w7 ⟨b2, rfl, hb2, hf⟩
 have FW := Lib.hid (FW.out.trans hf)
 obtain rfl : b1 = b2 := by
  have := Hb1.out
  rw [Bool.eq_iff_iff, this, hb2]
 clear hf hb2 Hb1
 have hbne : (b1 != b1) = false := by simp
 go_wp2_with fail
 have HS := sameEs_any oa wa on on oc wc E E w7 Hon.out Hon.out (by omega) (by omega) ((EsIn.of_own' HO.out).later FW.out) (HW.out.later FW.out)
 rw [decide_eq_true rfl] at HS
 refine HS.mono ?_
 clear HS hbne
 rintro e w8 ⟨rfl, hf⟩
 have FW := Lib.hid (FW.out.trans hf)
 clear hf
 go_wp2_with fail
 have HYE := Lib.hid (show TdEv w5 ys from fun y hy => by
  have h1 := HT.out.row y hy
  have h2 := HB3.out y.tl (by rw [← HT.out.tl]; exact List.mem_map.2 ⟨y, hy, rfl⟩)
  have h2 : y.evs.length ≤ 256 := h2
  obtain ⟨p, cp, e1, e2, e3⟩ := EsIn.of_own h1
  injection e1 with f1 f2 f3
  rw [f1]
  exact ⟨e3, f2.symm, by omega⟩)
 have HZE := Lib.hid (show TdEv w5 zs from fun y hy => by
  have h2 := HB3.out y.tl (by rw [← HZT.out]; exact List.mem_map.2 ⟨y, hy, rfl⟩)
  have h2 : y.evs.length ≤ 256 := h2
  obtain ⟨h3, h4, _⟩ := HZ.out y hy
  exact ⟨h3, h4.symm, by omega⟩)
 have HS := told12_any ala sa tn tn alc sc ys zs w8 HYL.out HZL.out (by omega) (by omega) ((TdsIn.of_own' HALL.out).later FW.out) (HSI.out.later FW.out) (HYE.out.later FW.out) (HZE.out.later FW.out)
 rw [decide_eq_true (HT.out.tl.trans HZT.out.symm)] at HS
 refine HS.mono ?_
 clear HS
 rintro e w9 ⟨rfl, hf⟩
 have FW := Lib.hid (FW.out.trans hf)
 clear hf
 have q1 : (ix != ix) = false := by simp
 have q2 : (er != er) = false := by simp
 obtain ⟨k1, hk1⟩ : ∃ k, min m 1 = k := ⟨_, rfl⟩
 have q3 : min (m : Int) 1 = (k1 : Int) := by omega
 have q4 : (k1 : Int) ≤ (ca : Int) := by omega
 have Hk1 := Lib.hid hk1
 go_wp2_with fail
 clear q1 q2 q3 q4 hk1
 go_loopw [18, 19, 20, 21, 22, 23, 24, 25, 87] (fun _ _ _ _ _ _ _ _ i wr => ∃ k : Nat, k ≤ k1 ∧ i = .int .i64 k ∧ Hid (Fr0 none' w5 wr)) (fun _ _ _ _ _ _ _ _ i _ => k1 - (Go.RowKit.intOf i).toNat)
 case atStart => exact ⟨0, Nat.zero_le _, rfl, FW⟩
 case round =>
  obtain ⟨k, hk, rfl, hfr⟩ := hrel
  by_cases hlt : k < k1
  ·have hk0 : k = 0 ∧ k1 = 1 ∧ 1 ≤ m := by have := Hk1.out; omega
   have Hk0 := Lib.hid hk0
   have hkb : k ≤ 1000 := by omega
   have hm1 : 1 ≤ m := hk0.2.2
   obtain ⟨x, hx⟩ : ∃ x, A[k]? = some x := ⟨_, List.getElem?_eq_getElem (by rw [HAl.out]; omega)⟩
   obtain ⟨g, o, rfl, hxc⟩ := (HA5.out.later hfr.out) k x hx
   have z1 : (0 : Int) ≤ (k : Int) := by omega
   have z2 : (k : Int) < (k1 : Int) := by omega
   obtain ⟨x0, x1, x2, x3, x4, x5, x6⟩ := hxc
   have hA1 : A.take 1 = [x] := by rw [hk0.1] at hx; rw [List.take_add_one, hx]; rfl
   have HA1 := Lib.hid hA1
   have Hkx := Lib.hid (HK.out x (List.mem_of_getElem? hx))
   obtain ⟨ab, hab⟩ : ∃ b, wr.heap.size = b := ⟨_, rfl⟩
   obtain ⟨W1, hW1⟩ : ∃ V, wr.alloc (.cells #[.int .u8 x.kind, .int .i64 x.x.key.time, .int .i64 x.x.key.source, .int .i64 x.x.key.seq, .int .i64 x.x.to, .int .i64 x.x.value, .int .i64 x.time] 33) = V := ⟨_, rfl⟩
   have f1 : Fr0 none' wr W1 := by rw [← hW1]; exact (Fr0.refl _ _).alloc _
   have b1' : W1.heap[ab]? = some (.cells #[.int .u8 x.kind, .int .i64 x.x.key.time, .int .i64 x.x.key.source, .int .i64 x.x.key.seq, .int .i64 x.x.to, .int .i64 x.x.value, .int .i64 x.time] 33 (0, 0)) := by rw [← hW1, ← hab]; exact World.alloc_heap_new _ _
   have y0 := cells_in b1' 0
   have y1 := cells_in b1' 1
   have y2 := cells_in b1' 2
   have y3 := cells_in b1' 3
   have y4 := cells_in b1' 4
   have y5 := cells_in b1' 5
   have y6 := cells_in b1' 6
   simp at y0 y1 y2 y3 y4 y5 y6
   have FW1 := Lib.hid (hfr.out.trans f1)
   have B1 := Lib.hid b1'
   clear hx hA1 f1 b1' hfr hk0
   go_wp2_with fail
   clear hW1 y0 y1 y2 y3 y4 y5 y6 x0 x1 x2 x3 x4 x5 x6 hab z1 z2
   have HD := Do_any (w := W1) (c := c) (cap := vc) L x (HV.out.later FW1.out) Hl.out (by omega) hvc Hkx.out
   unfold actCV EndD at HD
   refine HD.mono ?_
   clear HD
   rintro e w10 ⟨nv, y, rfl, hnv, hyt, hyr, _, hf⟩
   obtain ⟨na, nc, rfl, _, hni⟩ := EsIn.of_own hnv
   have FW := Lib.hid (FW1.out.trans hf)
   have HNI := Lib.hid hni
   have HYT := Lib.hid hyt
   have hYR : EsIn w10 y.sa y.evs ∧ y.evs.length = y.sn := by
    obtain ⟨p, cp, e1, e2, e3⟩ := EsIn.of_own hyr
    unfold Td.v at e1
    injection e1 with f1 f2 f3
    rw [f1]
    exact ⟨e3, f2.symm⟩
   have HYR := Lib.hid hYR
   obtain ⟨tb, htb⟩ : ∃ b, w10.heap.size = b := ⟨_, rfl⟩
   obtain ⟨W2, hW2⟩ : ∃ V, w10.alloc (.cells #[.int .i64 y.err, .slice y.sa y.sn y.sc] 56) = V := ⟨_, rfl⟩
   have f2 : Fr0 none' w10 W2 := by rw [← hW2]; exact (Fr0.refl _ _).alloc _
   have b2' : W2.heap[tb]? = some (.cells #[.int .i64 y.err, .slice y.sa y.sn y.sc] 56 (0, 0)) := by rw [← hW2, ← htb]; exact World.alloc_heap_new _ _
   have FW2 := Lib.hid (FW.out.trans f2)
   have F2b := Lib.hid f2
   have B2 := Lib.hid b2'
   obtain ⟨P1, hP1⟩ : ∃ p, playC L c [x] = p := ⟨_, rfl⟩
   have hB1 := playC_bounds L c [x]
   have hd := doT_cases L c x
   rw [hP1] at hB1 hd HNI ⊢
   have HP1 := Lib.hid hP1
   obtain ⟨E1, T1, i1, f1⟩ := P1
   simp only at hB1 hd HNI ⊢
   obtain ⟨n1, hn1⟩ : ∃ l, E1.length = l := ⟨_, rfl⟩
   rw [hn1] at hB1 ⊢
   have Hn1 := Lib.hid hn1
   have Hd := Lib.hid hd
   have hn1' := hB1.1
   clear hnv hyt hyr hf hni hYR hP1 hn1 hd f2 b2' hB1
   unfold Td.val
   go_wp2_with fail
   clear hW2 htb
   have hA2 : CasIn W2 (some ⟨g, o, none⟩) [x] := by rw [← HA1.out]; exact (HA5.out.later FW2.out).take 1
   refine (theirs_any (n := 1) (cap := ca) [x] hA2 rfl (by omega)).mono ?_
   rintro e w11 ⟨q, rfl, hq, hf⟩
   obtain ⟨qa1, qc1, rfl, _, hqc1, hqi1⟩ := flatCa_ownR hq
   have FW := Lib.hid (FW2.out.trans hf)
   have F2b := Lib.hid (F2b.out.trans hf)
   have B2 := Lib.hid ((hf.block _ (Array.getElem?_eq_some_iff.1 B2.out).1 id).trans B2.out)
   have HRP1 := Lib.hid (rPlay_any (w := w11) (c := c) (cap := cap) (m := 1) (ca := qc1) L [x] (HL5.out.later FW.out) Hl.out hn hcap hqi1 rfl (by omega))
   unfold EndRP at HRP1
   rw [HP1.out] at HRP1
   simp only [Hn1.out] at HRP1
   clear hq hqi1 hf hA2
   go_wp2_with fail
   refine HRP1.out.mono ?_
   rintro e w12 ⟨wa1, wc1, sv1, zs1, rfl, _, hw, _, hsv, hzt, hz, hf⟩
   obtain ⟨sa1, sc1, rfl, hzl, hsi⟩ := TdsIn.of_ownR hsv
   have FW := Lib.hid (FW.out.trans hf)
   have F2b := Lib.hid (F2b.out.trans hf)
   have B2 := Lib.hid ((hf.block _ (Array.getElem?_eq_some_iff.1 B2.out).1 id).trans B2.out)
   have HW1 := Lib.hid hw
   have HSI1 := Lib.hid hsi
   have HZT1 := Lib.hid hzt
   have HZ1 := Lib.hid hz
   have HZL1 := Lib.hid hzl
   clear hw hsv hzt hz hf hzl hsi HRP1
   rcases Hd.out with ⟨rfl, hT1⟩ | ⟨h0, hT1, hdt⟩
   ·subst hT1
    simp only [List.length_cons, List.length_nil, Nat.zero_add, Nat.reduceAdd] at HZL1
    go_wp2_with fail
    have HS := sameEs_any na wa1 n1 n1 nc wc1 E1 E1 w12 Hn1.out Hn1.out (by omega) (by omega) (HNI.out.later F2b.out) HW1.out
    rw [decide_eq_true rfl] at HS
    refine HS.mono ?_
    clear HS
    rintro e w13 ⟨rfl, hf⟩
    have FW := Lib.hid (FW.out.trans hf)
    have F2b := Lib.hid (F2b.out.trans hf)
    have B2 := Lib.hid ((hf.block _ (Array.getElem?_eq_some_iff.1 B2.out).1 id).trans B2.out)
    have HSI1 := Lib.hid (HSI1.out.later hf)
    have HZ1 := Lib.hid (HZ1.out.later hf)
    clear hf
    have HYR := Lib.hid (show EsIn w13 y.sa y.evs ∧ y.evs.length = y.sn from ⟨HYR.out.1.later F2b.out, HYR.out.2⟩)
    have t0 := cells_in B2.out 0
    have t1 := cells_in B2.out 1
    simp at t0 t1
    obtain ⟨rb, hrb⟩ : ∃ b, w13.heap.size = b := ⟨_, rfl⟩
    obtain ⟨W4, hW4⟩ : ∃ V, w13.alloc (.cells #[.int .i64 y.err, .slice y.sa y.sn y.sc] 56) = V := ⟨_, rfl⟩
    have f4 : Fr0 none' w13 W4 := by rw [← hW4]; exact (Fr0.refl _ _).alloc _
    have b4 : W4.heap[rb]? = some (.cells #[.int .i64 y.err, .slice y.sa y.sn y.sc] 56 (0, 0)) := by rw [← hW4, ← hrb]; exact World.alloc_heap_new _ _
    have hyin : TdsIn W4 (some ⟨rb, 0, none⟩) [y] := fun i z hz => by
     match i with
     | 0 =>
      obtain rfl : _ = z := by simpa using hz
      exact ⟨rb, 0, rfl, cells_in b4 0, cells_in b4 1⟩
     | i + 1 => simp at hz
    have htl : y.tl = doT L c x := HYT.out
    have hev : (doT L c x).evs.length ≤ 256 := by
     have := (playC_bounds L c [x]).2.2 (doT L c x) (by rw [HP1.out]; simp)
     exact this
    have hyl : y.evs.length ≤ 256 := by
     have h1 : y.tl.evs.length ≤ 256 := by rw [htl]; exact hev
     exact h1
    have HTo := told12_any (some ⟨rb, 0, none⟩) sa1 1 1 1 sc1 [y] zs1 W4 rfl HZL1.out (by omega) (by omega) hyin (HSI1.out.later f4) (fun z hz => by
     obtain rfl := List.mem_singleton.1 hz
     exact ⟨HYR.out.1.later f4, HYR.out.2, by have := HYR.out.2; omega⟩) (fun z hz => by
     obtain ⟨h1, h2, _⟩ := HZ1.out z hz
     have h3 : z.tl ∈ zs1.map Td.tl := List.mem_map.2 ⟨z, hz, rfl⟩
     rw [HZT1.out] at h3
     have h4 : z.tl = doT L c x := by simpa using h3
     have h5 : z.tl.evs.length ≤ 256 := by rw [h4]; exact hev
     have h5 : z.evs.length ≤ 256 := h5
     exact ⟨h1.later f4, h2.symm, by omega⟩)
    rw [decide_eq_true (by rw [HZT1.out, ← htl]; rfl)] at HTo
    have HTo := Lib.hid HTo
    have FW := Lib.hid (FW.out.trans f4)
    clear f4 b4 hyin htl hev hyl
    go_wp2_with fail
    clear hW4 t0 t1 hrb
    refine HTo.out.mono ?_
    rintro e w14 ⟨rfl, hf⟩
    have FW := Lib.hid (FW.out.trans hf)
    clear hf HTo
    go_wp2_with fail
    go_roundw
    case rel => exact ⟨k + 1, by have := Hk0.out; omega, by go_num, FW⟩
    case measure => simp [Go.RowKit.intOf]; have := Hk0.out; omega
   ·subst hT1
    simp only [List.length_nil] at HZL1
    have e1 : (f1 == 0) = false := beq_eq_false_iff_ne.2 h0
    have e2 : (f1 != f1) = false := by simp
    have e3 : (f1 != 0) = true := by simp [h0]
    go_wp2_with fail
    have HS := sameEs_any na wa1 n1 n1 nc wc1 E1 E1 w12 Hn1.out Hn1.out (by omega) (by omega) (HNI.out.later F2b.out) HW1.out
    rw [decide_eq_true rfl] at HS
    refine HS.mono ?_
    clear HS
    rintro e w13 ⟨rfl, hf⟩
    have FW := Lib.hid (FW.out.trans hf)
    have F2b := Lib.hid (F2b.out.trans hf)
    have B2 := Lib.hid ((hf.block _ (Array.getElem?_eq_some_iff.1 B2.out).1 id).trans B2.out)
    have HSI1 := Lib.hid (HSI1.out.later hf)
    have HZ1 := Lib.hid (HZ1.out.later hf)
    clear hf
    have hy0 : y.err = 0 ∧ y.evs = [] := by
     have h1 := HYT.out
     rw [hdt] at h1
     unfold Td.tl at h1
     injection h1 with h1 h2
     exact ⟨h1, h2⟩
    have hys : y.sn = 0 := by rw [← HYR.out.2, hy0.2]; rfl
    have t0 := cells_in B2.out 0
    have t1 := cells_in B2.out 1
    simp at t0 t1
    rw [hy0.1] at t0
    rw [hys] at t1
    clear hy0 hys hdt
    go_wp2_with fail
    go_roundw
    case rel => exact ⟨k + 1, by have := Hk0.out; omega, by go_num, FW⟩
    case measure => simp [Go.RowKit.intOf]; have := Hk0.out; omega
  ·have FW := hfr
   have HWR := Lib.hid ((WrRow.of_own HO.out).fr0 FW.out (fun _ _ _ _ h => h))
   have FO := Lib.hid (FW.out.mono (S' := fun g => ∃ o s, oa = some ⟨g, o, s⟩) (fun _ _ h => h.elim))
   clear hfr FW
   go_wp2_with fail
   go_loopw [26, 157] (fun _ i wr => ∃ k : Nat, k ≤ on ∧ i = .int .i64 k ∧ Hid (WrRow wr oa on) ∧ Hid (Fr0 (fun g => ∃ o s, oa = some ⟨g, o, s⟩) w5 wr)) (fun _ i _ => on - (Go.RowKit.intOf i).toNat)
   case atStart => exact ⟨0, Nat.zero_le _, rfl, HWR, FO⟩
   case round =>
    obtain ⟨k, hk, rfl, hwr, hfo⟩ := hrel
    by_cases hlt : k < on
    ·obtain ⟨g, hoa, ⟨u0, u1, u2, u3, u4, c0, c1, c2, c3, c4⟩, ⟨t0, t1, t2, t3, t4⟩, hw', hf'⟩ := hwr.out.put hlt (.int .i64 0) (.int .i64 0) (.int .i64 0) (.int .i64 (-1)) (.int .i64 0)
     have Hw' := Lib.hid hw'
     have Hf' := Lib.hid (hfo.out.trans hf')
     have Hoa := Lib.hid hoa
     subst hoa
     have z1 : (0 : Int) ≤ (k : Int) := by omega
     have z2 : (k : Int) < (on : Int) := by omega
     clear hw' hf' hwr hfo
     go_wp2_with fail
     go_roundw
     case rel => exact ⟨k + 1, by omega, by go_num, Hw', Hf'⟩
     case measure => simp [Go.RowKit.intOf]; omega
    ·have HM := Lib.hid (show ∀ W, Fr0 (fun g => w2.heap.size ≤ g ∧ g < w3.heap.size) w5 W → (EsIn W va L ∧ CasIn W ua A) ∧ (EsIn W a L ∧ CasIn W aa A) ∧ TdsIn W sa zs ∧ TdEv W zs from fun W hf => by
      have h12 := S12.out
      have h01 := S01.out
      have h34 := S34.out
      refine ⟨⟨HV.out.off hf (fun g o s e _ hk => by have := Hv.out g o s e; omega), HU.out.off hf (fun g o s e _ hk => by have := Hu.out g o s e; omega)⟩, ⟨HL5.out.off hf (fun g o s e h0 hk => by have := HL.out.ltC h0 g o s e; omega), HA5.out.off hf (fun g o s e h0 hk => by have := HA.out.lt h0 g o s e; omega)⟩, HSI.out.fr0 hf (fun g o s e hk => by have := HSV.out.lt g (by rw [e]; rfl); omega), fun z hz => ⟨(HZ.out z hz).1.off hf (fun g o s e h0 hk => by
       rcases (HZ.out z hz).2.2 g o s e h0 with ⟨⟨o', s', e'⟩, h1⟩ | h1
       ·have := HL.out.ltC h1 g o' s' e'; omega
       ·omega), (HZE.out z hz).2⟩⟩)
     have FS := Lib.hid (hfo.out.mono (S' := SW oa ys 0) (fun g _ h => .inl h))
     clear hfo hwr HWR FO
     go_wp2_with fail
     go_loopw [27, 28, 167] (fun _ _ i wr => ∃ k : Nat, k ≤ tn ∧ i = .int .i64 k ∧ Hid (Fr0 (SW oa ys k) w5 wr)) (fun _ _ i _ => tn - (Go.RowKit.intOf i).toNat)
     case atStart => exact ⟨0, Nat.zero_le _, rfl, FS⟩
     case round =>
      obtain ⟨k, hk, rfl, hfs⟩ := hrel
      by_cases hlt : k < tn
      ·obtain ⟨y, hy⟩ : ∃ y, ys[k]? = some y := ⟨_, List.getElem?_eq_getElem (by rw [HYL.out]; exact hlt)⟩
       have hallT : ∀ i W, Fr0 (SW oa ys i) w5 W → TdsIn W ala ys := fun i W hf => (TdsIn.of_own' HALL.out).fr0 hf (fun g o s e hk => by
        rcases hk with ⟨o', s', e'⟩ | ⟨z, hz, e'⟩
        ·exact HOV.out g (by rw [e]; rfl) (by rw [e']; rfl)
        ·exact (HT.out.out z (List.mem_of_mem_take hz) g e').2.1 (by rw [e]; rfl))
       have HallT := Lib.hid hallT
       have hTd := hallT k wr hfs.out
       obtain ⟨g, o, rfl, t0, t1⟩ := hTd k y hy
       have hwy : WrRow wr y.sa y.sn := by
        have h1 := HT.out.row y (List.mem_of_getElem? hy)
        have h2 : y.sn = y.evs.length := (HYE.out y (List.mem_of_getElem? hy)).2.1.symm
        rw [h2]
        unfold Td.v at h1
        exact (WrRow.of_own h1).fr0 hfs.out (fun g o s e => SW.off HT.out hy (Nat.le_refl _) (by unfold Td.v; rw [e]; rfl))
       have HWY := Lib.hid hwy
       have hs256 : y.sn ≤ 256 := by
        have h2 := HB3.out y.tl (by rw [← HT.out.tl]; exact List.mem_map.2 ⟨y, List.mem_of_getElem? hy, rfl⟩)
        have h2 : y.evs.length ≤ 256 := h2
        have h3 := (HYE.out y (List.mem_of_getElem? hy)).2.1
        omega
       have Hy := Lib.hid hy
       have FS1 := Lib.hid (hfs.out.mono (S' := SW oa ys (k + 1)) (fun g _ h => h.mono (by omega)))
       have z1 : (0 : Int) ≤ (k : Int) := by omega
       have z2 : (k : Int) < (tn : Int) := by omega
       have hkb : k ≤ 1000 := by omega
       clear hallT hTd hwy hfs hy
       go_wp2_with fail
       go_loopw [28, 176] (fun _ i wr => ∃ j : Nat, j ≤ y.sn ∧ i = .int .i64 j ∧ Hid (WrRow wr y.sa y.sn) ∧ Hid (Fr0 (SW oa ys (k + 1)) w5 wr)) (fun _ i _ => y.sn - (Go.RowKit.intOf i).toNat)
       case atStart => exact ⟨0, Nat.zero_le _, rfl, HWY, FS1⟩
       case round =>
        obtain ⟨j, hj, rfl, hwr, hfo⟩ := hrel
        by_cases hlj : j < y.sn
        ·obtain ⟨g', o', e', v0, v1⟩ := HallT.out (k + 1) wr hfo.out k y Hy.out
         injection e' with e'
         injection e' with e1 e2 _
         subst e1
         subst e2
         obtain ⟨g2, hya, ⟨u0, u1, u2, u3, u4, c0, c1, c2, c3, c4⟩, ⟨p0, p1, p2, p3, p4⟩, hw', hf'⟩ := hwr.out.put hlj (.int .i64 0) (.int .i64 0) (.int .i64 0) (.int .i64 (-2)) (.int .i64 0)
         have Hw' := Lib.hid hw'
         have Hf' := Lib.hid (hfo.out.trans (hf'.mono (S' := SW oa ys (k + 1)) (fun q _ h => by
          obtain ⟨o3, s3, e3⟩ := h
          refine .inr ⟨y, ?_, by unfold Td.v; rw [e3]; rfl⟩
          have := Hy.out
          exact List.mem_take_iff_getElem.2 ⟨k, by have := (List.getElem?_eq_some_iff.1 this).1; omega, (List.getElem?_eq_some_iff.1 this).2⟩)))
         rw [hya] at v1
         have Hya := Lib.hid hya
         have y1 : (0 : Int) ≤ (j : Int) := by omega
         have y2 : (j : Int) < (y.sn : Int) := by omega
         clear hw' hf' hwr hfo hya
         go_wp2_with fail
         go_roundw
         case rel => exact ⟨j + 1, by omega, by go_num, Hw', Hf'⟩
         case measure => simp [Go.RowKit.intOf]; omega
        ·have HTD := Lib.hid ((HallT.out (k + 1) wr hfo.out).rest (cap := alc) (by rw [HYL.out]; exact own_cap HALL.out rfl) (k + 1))
         obtain ⟨_, _, hzsi, hzse⟩ := HM.out wr (hfo.out.mono (fun q _ h => h.mid HT.out HYlt.out HOlt.out))
         have HSD := Lib.hid (hzsi.rest (cap := sc) (by rw [HZL.out]; exact own_cap HSV.out rfl) (k + 1))
         have HYD := Lib.hid (show TdEv wr (ys.drop (k + 1)) from fun z hz => by
          obtain ⟨i, hi⟩ := List.getElem?_of_mem hz
          rw [List.getElem?_drop] at hi
          have h1 := HYE.out z (List.mem_of_getElem? hi)
          exact ⟨h1.1.fr0 hfo.out (fun q o3 s3 e => SW.off HT.out hi (by omega) (by unfold Td.v; rw [e]; rfl)), h1.2⟩)
         have HZD := Lib.hid (show TdEv wr (zs.drop (k + 1)) from fun z hz => hzse z (List.mem_of_mem_drop hz))
         have HEQ := Lib.hid (show (ys.drop (k + 1)).map Td.tl = (zs.drop (k + 1)).map Td.tl by rw [List.map_drop, List.map_drop, HT.out.tl, HZT.out])
         have HFS := hfo
         have halc := own_cap HALL.out rfl
         have hsca := own_cap HSV.out rfl
         have q1 : (k : Int) + 1 ≤ (tn : Int) := by omega
         have q2 : (tn : Int) ≤ (alc : Int) := by omega
         have q3 : (tn : Int) ≤ (sc : Int) := by omega
         clear hzsi hzse hwr hfo
         go_wp2_with fail
         refine wp_region_held_drew (S := fun W' => Fr0 none' wr W') (by kernel_rfl) ((Fr0.refl none' wr).drew) (fun hHeld => ?_)
         have q5 : IntKind.i64.wrap ((k : Int) + 1) = (k : Int) + 1 := IntWalk.i64_in _ (by omega)
         refine tk0 (i := 0) (v := .slice (some ⟨g, o, none⟩) tn alc) ?_
         try simp only[pUt,pUn,sEt,sEz,sEs]
         refine tk0 (i := 1) (v := .int .i64 (k : Int)) ?_
         try simp only[pUt,pUn,sEt,sEz,sEs]
         refine tk0 (i := 2) (v := .int .i64 ((k : Int) + 1)) ?_
         try simp only[pUt,pUn,sEt,sEz,sEs]
         refine tkn (i := 3) (v := .slice (d2 alc (k + 1) (some ⟨g, o, none⟩)) (tn - (k + 1)) (alc - (k + 1))) (fun W' hSW => ?_) ?_
         ·go_simp
          unfold d2
          first | done | rfl | simp
         try simp only[pUt,pUn,sEt,sEz,sEs]
         refine tk0 (i := 4) (v := .slice sa tn sc) ?_
         try simp only[pUt,pUn,sEt,sEz,sEs]
         refine tk0 (i := 5) (v := .int .i64 (k : Int)) ?_
         try simp only[pUt,pUn,sEt,sEz,sEs]
         refine tk0 (i := 6) (v := .int .i64 ((k : Int) + 1)) ?_
         try simp only[pUt,pUn,sEt,sEz,sEs]
         refine tkn (i := 7) (v := .slice (d2 sc (k + 1) sa) (tn - (k + 1)) (sc - (k + 1))) (fun W' hSW => ?_) ?_
         ·go_simp
          unfold d2
          first | done | rfl | simp
         try simp only[pUt,pUn,sEt,sEz,sEs]
         refine take_call (i := 8) rfl (by kernel_rfl) (by kernel_rfl) (fun K hK => ?_)
         go_simp
         have HTo := told12_any (d2 alc (k + 1) (some ⟨g, o, none⟩)) (d2 sc (k + 1) sa) (tn - (k + 1)) (tn - (k + 1)) (alc - (k + 1)) (sc - (k + 1)) (ys.drop (k + 1)) (zs.drop (k + 1)) wr.drew (by rw [List.length_drop, HYL.out]) (by rw [List.length_drop, HZL.out]) (by omega) (by omega) (HTD.out.later hHeld) (HSD.out.later hHeld) (HYD.out.later hHeld) (HZD.out.later hHeld)
         rw [decide_eq_true HEQ.out] at HTo
         refine HTo.mono ?_
         clear HTo
         rintro e w14 ⟨rfl, hf⟩
         have hHeld := hHeld.trans hf
         clear hf
         go_wp2_with fail
         refine hK.out _ _ hHeld (fun hS => ?_)
         clear hK K
         try simp only[pUt,pUn,sEt,sEz,sEs]
         refine tk0 (i := 9) (v := .bool false) ?_
         try simp only[pUt,pUn,sEt,sEz,sEs]
         refine wpAnyH_done (by kernel_rfl) ?_ _
         have FS2 := Lib.hid (HFS.out.trans (hHeld.mono (fun _ _ h => h.elim)))
         clear hS hHeld HFS q5
         go_wp2_with fail
         go_roundw
         case rel => exact ⟨k + 1, by omega, by go_num, FS2⟩
         case measure => simp [Go.RowKit.intOf]; omega
      ·obtain ⟨⟨hva, hua⟩, ⟨hla, haa⟩, _, _⟩ := HM.out wr (hfs.out.mono (fun q _ h => h.mid HT.out HYlt.out HOlt.out))
       have FE : Fr0 none' w wr := F5.out.trans' hfs.out (fun q hq hk => by
        have h1 := hk.mid HT.out HYlt.out HOlt.out
        have := F2.out.size
        omega)
       have HVA := Lib.hid hva
       have HUA := Lib.hid hua
       have HLA := Lib.hid hla
       have HAA := Lib.hid haa
       have FE := Lib.hid FE
       clear hva hua hla haa hfs
       go_wp2_with fail
       have HS := sameEs_any va a n n vc cap L L wr Hl.out Hl.out (by omega) (by omega) HVA.out HLA.out
       rw [decide_eq_true rfl] at HS
       refine HS.mono ?_
       clear HS
       rintro e w14 ⟨rfl, hf⟩
       have FE := Lib.hid (FE.out.trans hf)
       have HUA := Lib.hid (HUA.out.later hf)
       have HAA := Lib.hid (HAA.out.later hf)
       clear hf
       go_wp2_with fail
       refine (sameCas_any ua aa m uc ca A w14 HAl.out (by omega) HUA.out HAA.out).mono ?_
       rintro e w15 ⟨rfl, hf⟩
       have FE := Lib.hid (FE.out.trans hf)
       clear hf
       go_wp2_with fail
       go_ret
       exact ⟨rfl, FE.out⟩
/-
  CalendarCounts.
-/

set_option maxHeartbeats 4000000 in
theorem counts_any {w : World} {a : Option Addr} {n cap : Nat} {f t : Int} (L : List Ev) (h : EsIn w a L) (hl : L.length = n) (hn : n ≤ 10000) :
  Calls Tryz.prog 11 #[.slice a n cap, .int .i64 f, .int .i64 t] w fun e w' => e = .returned (.bool true) ∧ Fr0 none' w w' := by
 have HC := Lib.hid (CloneE (cap := cap) L h hl (by omega))
 have H := Lib.hid h
 have Hl := Lib.hid hl
 clear h hl
 go_enter Tryz.func11, Tryz.ntmps11
 go_wp2_with fail
 refine HC.out.mono ?_
 rintro e w1 ⟨v, rfl, hv, hf⟩
 obtain ⟨va, vc, rfl, _, hvi⟩ := EsIn.of_own hv
 have F := Lib.hid hf
 have H := Lib.hid (H.out.later hf)
 have HV := Lib.hid hvi
 clear hv hvi hf HC
 go_wp2_with fail
 refine (Count_any (cap := vc) (f := f) (t := t) L HV.out Hl.out hn).mono ?_
 rintro e w2 ⟨rfl, hf⟩
 have F := Lib.hid (F.out.trans hf)
 have H := Lib.hid (H.out.later hf)
 have HV := Lib.hid (HV.out.later hf)
 clear hf
 obtain ⟨c, hc⟩ : ∃ c, countC L f t = c := ⟨_, rfl⟩
 have Hcc := Lib.hid hc
 rw [hc]
 clear hc
 obtain ⟨m, e1⟩ := c
 simp only
 go_wp2_with fail
 have HR := rCount_any (cap := cap) (f := f) (t := t) L H.out Hl.out hn
 rw [Hcc.out] at HR
 refine HR.mono ?_
 rintro e w3 ⟨rfl, hf⟩
 have F := Lib.hid (F.out.trans hf)
 have H := Lib.hid (H.out.later hf)
 have HV := Lib.hid (HV.out.later hf)
 clear hf HR
 simp only
 go_wp2_with fail
 refine (Times_any (cap := vc) L HV.out Hl.out hn).mono ?_
 rintro e w4 ⟨u, rfl, hu, hf⟩
 have F := Lib.hid (F.out.trans hf)
 have H := Lib.hid (H.out.later hf)
 have HV := Lib.hid (HV.out.later hf)
 obtain ⟨e2, he2⟩ : ∃ c : Int, (if AscE L then (0 : Int) else 110) = c := ⟨_, rfl⟩
 obtain ⟨T, hT⟩ : ∃ c : List Int, (if AscE L then timesC L else []) = c := ⟨_, rfl⟩
 have hTl : (if AscE L then (timesC L).length else 0) = T.length := by rw [← hT]; split <;> rfl
 rw [hTl, hT] at hu
 rw [he2]
 obtain ⟨ua, uc, rfl, _, hui⟩ := IsIn.of_own hu
 have HU := Lib.hid hui
 have He2 := Lib.hid he2
 have HT := Lib.hid hT
 have HTl := Lib.hid hTl
 clear hf hu hui he2 hT hTl
 go_wp2_with fail
 have HR := rTimes_any (cap := cap) L H.out Hl.out hn
 rw [He2.out, HT.out, HTl.out] at HR
 refine HR.mono ?_
 rintro e w5 ⟨x, rfl, hx, hf⟩
 have F := Lib.hid (F.out.trans hf)
 have H := Lib.hid (H.out.later hf)
 have HV := Lib.hid (HV.out.later hf)
 have HU := Lib.hid (HU.out.later hf)
 obtain ⟨xa, xc, rfl, _, hxi⟩ := IsIn.of_own hx
 have HX := Lib.hid hxi
 have hTn : T.length ≤ 10000 := by
  have h1 := HTl.out
  have h2 := cuE_len L n
  rw [cuE_all Hl.out] at h2
  rw [← h1]
  split <;> omega
 obtain ⟨tn, htn⟩ : ∃ c, T.length = c := ⟨_, rfl⟩
 have Htn := Lib.hid htn
 rw [htn] at hTn ⊢
 clear hf hx hxi HR htn
 go_wp2_with fail
 have HQ := sameIs_any ua xa tn tn uc xc T T w5 Htn.out Htn.out (by omega) (by omega) HU.out HX.out
 rw [show decide (T = T) = true from decide_eq_true rfl] at HQ
 refine HQ.mono ?_
 clear HQ
 rintro e w6 ⟨rfl, hf⟩
 have F := Lib.hid (F.out.trans hf)
 have H := Lib.hid (H.out.later hf)
 have HV := Lib.hid (HV.out.later hf)
 clear hf
 go_wp2_with fail
 have HQ := sameEs_any va a n n vc cap L L w6 Hl.out Hl.out (by omega) (by omega) HV.out H.out
 rw [show decide (L = L) = true from decide_eq_true rfl] at HQ
 refine HQ.mono ?_
 clear HQ
 rintro e w7 ⟨rfl, hf⟩
 have F := Lib.hid (F.out.trans hf)
 clear hf
 go_wp2_with fail
 go_ret
 exact ⟨rfl, F.out⟩
end Go.Proofs.YtieeloealklkgaaGreat

/-
  A slice of events among the arguments; the row's post (no text of the queue).
-/
namespace Go.Proofs.YtieeloealklkgaaGreat
open Go.ChangeShapes Go.WideShapes Go.ChangeAt Go.RowKit Go.Deep Go.Joins

theorem post_belowC {H : Type} {enc : TypeId × Value → H} {P : Program} {f : Func} {s : ChangeSpec} {apart fresh handsOn : Bool} {W W' : World} {args : Array Value} {v : Value} {ds gs : List (DataW H)} {before pa pv : List MemPlace}
  (hW : DataW.Whole enc P f.params.toList s.vars apart W args.toList ds gs before)
  (hres : ∀ (b : Nat) (sp : Nat → Bool) (hd : Bool), DataW.TrodAll enc P W' b sp hd f.resultTypes.toList (v.resultList f.resultTypes.size) (s.fn H (ds ++ gs)).results [])
  (hargs : DataW.TrodAll enc P W' 0 (fun b => decide (b < W.heap.size)) true f.params.toList args.toList (s.fn H (ds ++ gs)).args pa)
  (hvars : ∀ sp : Nat → Bool, (∀ p ∈ before, sp p.block = true) → DataW.TrodVars enc P W' sp s.vars (s.fn H (ds ++ gs)).vars pv)
  (hb : Below W.heap.size W W') :
  s.post enc P f apart fresh handsOn false W args v W' := by
 have hold : ∀ p ∈ before, (fun b => decide (b < W.heap.size)) p.block = true := fun p hp => by simpa using hW.lt p hp
 exact ⟨ds, gs, before, [], pa, pv, hW, hres _ _ _, hargs, hvars _ hold, hb.frame _, fun h => by cases h⟩
theorem knobC : ownKnob Tryz.prog.godebug = none := by kernel_rfl

theorem listC {α : Type} {P : Nat → α → Prop} : ∀ n, (∀ i, i < n → ∃ x, P i x) → ∃ xs : List α, xs.length = n ∧ ∀ j x, xs[j]? = some x → P j x
 | 0, _ => ⟨[], rfl, fun j x h => by simp at h⟩
 | n + 1, h => by
  obtain ⟨xs, hl, hx⟩ := listC n (fun i hi => h i (by omega))
  obtain ⟨x, hp⟩ := h n (by omega)
  refine ⟨xs ++ [x], by simp [hl], fun j y hj => ?_⟩
  rcases Nat.lt_or_ge j xs.length with hjl | hjl
  ·rw [List.getElem?_append_left hjl] at hj; exact hx j y hj
  ·rw [List.getElem?_append_right hjl] at hj
   have : j - xs.length = 0 := by
    rcases Nat.eq_zero_or_pos (j - xs.length) with h0 | h0
    ·exact h0
    ·rw [List.getElem?_eq_none (by simp; omega)] at hj; cases hj
   rw [this] at hj
   simp at hj
   subst hj
   rw [show j = n by omega]; exact hp
theorem smallC {H : Type} {enc : TypeId × Value → H} {w : World} {n : Nat} {v : Value} {y : DataW H × List MemPlace} (h : DataW.trod enc Tryz.prog w 0 (fun _ => true) true n 5 [v] = some y) : ∃ a, v = .int .u8 a ∧ 0 ≤ a ∧ a < 256 := by
 obtain ⟨a, h1, _, hw⟩ := DataW.trod_int Tryz.underlying5 h
 injection h1 with h1 _
 have := bounds_u8 hw
 exact ⟨a, h1, this.1, by omega⟩

theorem intC {H : Type} {enc : TypeId × Value → H} {w : World} {n : Nat} {v : Value} {y : DataW H × List MemPlace} (h : DataW.trod enc Tryz.prog w 0 (fun _ => true) true n 3 [v] = some y) : ∃ a, v = .int .i64 a := by
 obtain ⟨a, h1, _, hw⟩ := DataW.trod_int Tryz.underlying3 h
 injection h1 with h1 _
 exact ⟨a, h1⟩
theorem int64C {H : Type} {enc : TypeId × Value → H} {w : World} {n : Nat} {v : Value} {y : DataW H × List MemPlace} (h : DataW.trod enc Tryz.prog w 0 (fun _ => true) true n 2 [v] = some y) : ∃ a, v = .int .i64 a := by
 obtain ⟨a, h1, _, hw⟩ := DataW.trod_int Tryz.underlying2 h
 injection h1 with h1 _
 exact ⟨a, h1⟩
theorem keyC {H : Type} {enc : TypeId × Value → H} {w : World} {n : Nat} {v0 v1 v2 : Value} {y : DataW H × List MemPlace} (h : DataW.trod enc Tryz.prog w 0 (fun _ => true) true n 28 [v0, v1, v2] = some y) : ∃ k : Key3, v0 = .int .i64 k.time ∧ v1 = .int .i64 k.source ∧ v2 = .int .i64 k.seq := by
 obtain ⟨ys, k, _, _, _, hyl, hfl⟩ := DataW.trod_struct Tryz.underlying28 h
 have hone : Tryz.prog.cellsOf 3 = 1 := by kernel_rfl
 have f0 : DataW.trod enc Tryz.prog w 0 (fun _ => true) true k 3 (([v0, v1, v2].drop 0).take (Tryz.prog.cellsOf 3)) = ys[0]? := hfl 0 _ rfl
 have f1 : DataW.trod enc Tryz.prog w 0 (fun _ => true) true k 3 (([v0, v1, v2].drop 1).take (Tryz.prog.cellsOf 3)) = ys[1]? := hfl 1 _ rfl
 have f2 : DataW.trod enc Tryz.prog w 0 (fun _ => true) true k 3 (([v0, v1, v2].drop 2).take (Tryz.prog.cellsOf 3)) = ys[2]? := hfl 2 _ rfl
 rw [hone] at f0 f1 f2
 have yl : ys.length = 3 := hyl
 have t0 : DataW.trod enc Tryz.prog w 0 (fun _ => true) true k 3 [v0] = some (ys[0]'(by omega)) := f0.trans (List.getElem?_eq_getElem _)
 have t1 : DataW.trod enc Tryz.prog w 0 (fun _ => true) true k 3 [v1] = some (ys[1]'(by omega)) := f1.trans (List.getElem?_eq_getElem _)
 have t2 : DataW.trod enc Tryz.prog w 0 (fun _ => true) true k 3 [v2] = some (ys[2]'(by omega)) := f2.trans (List.getElem?_eq_getElem _)
 obtain ⟨a0, rfl⟩ := intC t0
 obtain ⟨a1, rfl⟩ := intC t1
 obtain ⟨a2, rfl⟩ := intC t2
 exact ⟨⟨a0, a1, a2⟩, rfl, rfl, rfl⟩
theorem eventC {H : Type} {enc : TypeId × Value → H} {w : World} {n : Nat} {v0 v1 v2 v3 v4 : Value} {y : DataW H × List MemPlace} (h : DataW.trod enc Tryz.prog w 0 (fun _ => true) true n 30 [v0, v1, v2, v3, v4] = some y) : ∃ x : Ev, v0 = .int .i64 x.key.time ∧ v1 = .int .i64 x.key.source ∧ v2 = .int .i64 x.key.seq ∧ v3 = .int .i64 x.to ∧ v4 = .int .i64 x.value := by
 obtain ⟨ys, k, _, _, _, hyl, hfl⟩ := DataW.trod_struct Tryz.underlying30 h
 have hone : Tryz.prog.cellsOf 3 = 1 := by kernel_rfl
 have hone6 : Tryz.prog.cellsOf 2 = 1 := by kernel_rfl
 have hthree : Tryz.prog.cellsOf 28 = 3 := by kernel_rfl
 have f0 : DataW.trod enc Tryz.prog w 0 (fun _ => true) true k 28 (([v0, v1, v2, v3, v4].drop 0).take (Tryz.prog.cellsOf 28)) = ys[0]? := hfl 0 _ rfl
 have f1 : DataW.trod enc Tryz.prog w 0 (fun _ => true) true k 3 (([v0, v1, v2, v3, v4].drop 3).take (Tryz.prog.cellsOf 3)) = ys[1]? := hfl 1 _ rfl
 have f2 : DataW.trod enc Tryz.prog w 0 (fun _ => true) true k 2 (([v0, v1, v2, v3, v4].drop 4).take (Tryz.prog.cellsOf 2)) = ys[2]? := hfl 2 _ rfl
 rw [hthree] at f0
 rw [hone] at f1
 rw [hone6] at f2
 have yl : ys.length = 3 := hyl
 have t0 : DataW.trod enc Tryz.prog w 0 (fun _ => true) true k 28 [v0, v1, v2] = some (ys[0]'(by omega)) := f0.trans (List.getElem?_eq_getElem _)
 have t1 : DataW.trod enc Tryz.prog w 0 (fun _ => true) true k 3 [v3] = some (ys[1]'(by omega)) := f1.trans (List.getElem?_eq_getElem _)
 have t2 : DataW.trod enc Tryz.prog w 0 (fun _ => true) true k 2 [v4] = some (ys[2]'(by omega)) := f2.trans (List.getElem?_eq_getElem _)
 obtain ⟨kk, rfl, rfl, rfl⟩ := keyC t0
 obtain ⟨a1, rfl⟩ := intC t1
 obtain ⟨a2, rfl⟩ := int64C t2
 exact ⟨⟨kk, a1, a2⟩, rfl, rfl, rfl, rfl, rfl⟩
/-- A slice of events in memory. -/
theorem eventsC {H : Type} {enc : TypeId × Value → H} {W : World} {n : Nat} {v : Value} {y : DataW H × List MemPlace} (h : DataW.trod enc Tryz.prog W 0 (fun _ => true) true n 22 [v] = some y) : ∃ la lk lc L, v = .slice la lk lc ∧ EsIn W la L ∧ L.length = lk ∧ lk ≤ lc := by
 rcases open_slice Tryz.underlying22 h with ⟨hcs, _⟩ | ⟨a, len, cap', m, _, D, Pl, hcs, _, hl, hm, hz, _, hi⟩
 ·injection hcs with e _
  subst e
  exact ⟨none, 0, 0, [], rfl, fun i x hx => by simp at hx, rfl, Nat.le_refl _⟩
 ·injection hcs with e _
  subst e
  have hmn : len ≤ m := by rw [hz]; split <;> omega
  have key : ∀ i, i < len → ∃ x : Ev, ∃ g o, a = ⟨g, o, none⟩ ∧ EAt W g (o + i * 5) x := fun i hin => by
   obtain ⟨cs, hc, ht⟩ := hi i (by omega)
   rw [show Tryz.prog.cellsOf 30 = 5 by kernel_rfl] at hc
   obtain ⟨_, hcl, hat⟩ := World.cells?_some hc
   match cs, hcl with
   | [v0, v1, v2, v3, v4], _ =>
   have c0 := hat 0 (by omega)
   have c1 := hat 1 (by omega)
   have c2 := hat 2 (by omega)
   have c3 := hat 3 (by omega)
   have c4 := hat 4 (by omega)
   obtain ⟨x, rfl, rfl, rfl, rfl, rfl⟩ := eventC ht
   obtain ⟨cs', hc', _⟩ := hi 0 (by omega)
   rw [show Tryz.prog.cellsOf 30 = 5 by kernel_rfl] at hc'
   obtain ⟨_, hcl', hat'⟩ := World.cells?_some hc'
   have z0 := hat' 0 (by omega)
   rw [List.getElem?_eq_getElem (by omega)] at z0
   obtain ⟨b, off, spot⟩ := a
   have hspot : spot = none := by simpa [Addr.add] using World.cell?_spot z0
   subst hspot
   rw [Addr.add_mid, Addr.add_mid] at c0 c1 c2 c3 c4
   exact ⟨x, b, off, rfl, c0, c1, c2, c3, c4⟩
  obtain ⟨xs, hxl, hx⟩ := listC len key
  refine ⟨some a, len, cap', xs, rfl, fun j x hj => ?_, hxl, by omega⟩
  obtain ⟨g, o, rfl, hq⟩ := hx j x hj
  exact ⟨g, o, rfl, hq⟩
/-
  A slice of acts among the arguments.
-/

theorem actC7 {H : Type} {enc : TypeId × Value → H} {w : World} {n : Nat} {v0 v1 v2 v3 v4 v5 v6 : Value} {y : DataW H × List MemPlace} (h : DataW.trod enc Tryz.prog w 0 (fun _ => true) true n 33 [v0, v1, v2, v3, v4, v5, v6] = some y) : ∃ x : Ca, (0 ≤ x.kind ∧ x.kind < 256) ∧ v0 = .int .u8 x.kind ∧ v1 = .int .i64 x.x.key.time ∧ v2 = .int .i64 x.x.key.source ∧ v3 = .int .i64 x.x.key.seq ∧ v4 = .int .i64 x.x.to ∧ v5 = .int .i64 x.x.value ∧ v6 = .int .i64 x.time := by
 obtain ⟨ys, k, _, _, _, hyl, hfl⟩ := DataW.trod_struct Tryz.underlying33 h
 have hone : Tryz.prog.cellsOf 3 = 1 := by kernel_rfl
 have hone8 : Tryz.prog.cellsOf 5 = 1 := by kernel_rfl
 have hfive : Tryz.prog.cellsOf 30 = 5 := by kernel_rfl
 have f0 : DataW.trod enc Tryz.prog w 0 (fun _ => true) true k 5 (([v0, v1, v2, v3, v4, v5, v6].drop 0).take (Tryz.prog.cellsOf 5)) = ys[0]? := hfl 0 _ rfl
 have f1 : DataW.trod enc Tryz.prog w 0 (fun _ => true) true k 30 (([v0, v1, v2, v3, v4, v5, v6].drop 1).take (Tryz.prog.cellsOf 30)) = ys[1]? := hfl 1 _ rfl
 have f2 : DataW.trod enc Tryz.prog w 0 (fun _ => true) true k 3 (([v0, v1, v2, v3, v4, v5, v6].drop 6).take (Tryz.prog.cellsOf 3)) = ys[2]? := hfl 2 _ rfl
 rw [hone8] at f0
 rw [hfive] at f1
 rw [hone] at f2
 have yl : ys.length = 3 := hyl
 have t0 : DataW.trod enc Tryz.prog w 0 (fun _ => true) true k 5 [v0] = some (ys[0]'(by omega)) := f0.trans (List.getElem?_eq_getElem _)
 have t1 : DataW.trod enc Tryz.prog w 0 (fun _ => true) true k 30 [v1, v2, v3, v4, v5] = some (ys[1]'(by omega)) := f1.trans (List.getElem?_eq_getElem _)
 have t2 : DataW.trod enc Tryz.prog w 0 (fun _ => true) true k 3 [v6] = some (ys[2]'(by omega)) := f2.trans (List.getElem?_eq_getElem _)
 obtain ⟨a0, rfl, l0, m0⟩ := smallC t0
 obtain ⟨x, rfl, rfl, rfl, rfl, rfl⟩ := eventC t1
 obtain ⟨a2, rfl⟩ := intC t2
 exact ⟨⟨a0, x, a2⟩, ⟨l0, m0⟩, rfl, rfl, rfl, rfl, rfl, rfl, rfl⟩
/-- A slice of acts, opened. -/
theorem acts_argC {base : Nat} {H : Type} {enc : TypeId × Value → H} {W : World} {v : Value} {d : DataW H} {ps : List MemPlace}
  (hval : Value.okWide Tryz.prog W .any base 23 v) (h : DataW.Trod enc Tryz.prog W 0 (fun _ => true) true 23 v d ps) : ∃ a n cap xs, v = .slice a n cap ∧ CasIn W a xs ∧ (∀ x ∈ xs, 0 ≤ x.kind ∧ x.kind < 256) ∧ xs.length = n ∧ n ≤ cap := by
 obtain ⟨A, n, cap, rfl⟩ := okWide_slice Tryz.underlying23 hval
 obtain ⟨fuel, hf⟩ := h
 rcases open_slice Tryz.underlying23 hf with ⟨hcs, _⟩ | ⟨a, len, cap', m, _, D, Pl, hcs, _, hl, hm, hz, _, hi⟩
 ·simp [Value.cells] at hcs
  obtain ⟨rfl, rfl, rfl⟩ := hcs
  exact ⟨none, 0, 0, [], rfl, fun j x hj => by simp at hj, fun x hx => by simp at hx, rfl, Nat.le_refl _⟩
 ·simp [Value.cells] at hcs
  obtain ⟨rfl, rfl, rfl⟩ := hcs
  have hmn : n ≤ m := by rw [hz]; split <;> omega
  have key : ∀ i, i < n → ∃ x : Ca, (0 ≤ x.kind ∧ x.kind < 256) ∧ ∃ g o, a = ⟨g, o, none⟩ ∧ CaAt W g (o + i * 7) x := fun i hin => by
   obtain ⟨cs, hc, ht⟩ := hi i (by omega)
   rw [show Tryz.prog.cellsOf 33 = 7 by kernel_rfl] at hc
   obtain ⟨_, hcl, hat⟩ := World.cells?_some hc
   match cs, hcl with
   | [v0, v1, v2, v3, v4, v5, v6], _ =>
   have c0 := hat 0 (by omega)
   have c1 := hat 1 (by omega)
   have c2 := hat 2 (by omega)
   have c3 := hat 3 (by omega)
   have c4 := hat 4 (by omega)
   have c5 := hat 5 (by omega)
   have c6 := hat 6 (by omega)
   obtain ⟨x, hx, rfl, rfl, rfl, rfl, rfl, rfl, rfl⟩ := actC7 ht
   obtain ⟨cs', hc', _⟩ := hi 0 (by omega)
   rw [show Tryz.prog.cellsOf 33 = 7 by kernel_rfl] at hc'
   obtain ⟨_, hcl', hat'⟩ := World.cells?_some hc'
   have z0 := hat' 0 (by omega)
   rw [List.getElem?_eq_getElem (by omega)] at z0
   obtain ⟨b, off, spot⟩ := a
   have hspot : spot = none := by simpa [Addr.add] using World.cell?_spot z0
   subst hspot
   rw [Addr.add_mid, Addr.add_mid] at c0 c1 c2 c3 c4 c5 c6
   exact ⟨x, hx, b, off, rfl, c0, c1, c2, c3, c4, c5, c6⟩
  obtain ⟨xs, hxl, hx⟩ := listC n key
  refine ⟨some a, n, cap, xs, rfl, fun j x hj => ?_, fun x hx' => ?_, hxl, by simpa using hl⟩
  ·obtain ⟨_, g, o, rfl, q⟩ := hx j x hj
   exact ⟨g, o, rfl, q⟩
  ·obtain ⟨j, hj⟩ := List.getElem?_of_mem hx'
   exact (hx j x hj).1
end Go.Proofs.YtieeloealklkgaaGreat
