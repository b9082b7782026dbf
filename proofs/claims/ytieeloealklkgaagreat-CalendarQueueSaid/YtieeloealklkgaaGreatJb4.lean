/-
  Spaces: what each function of the package does, and what the laws make of it.
-/
import Derived.Test.YtieeloealklkgaaGreatJb3
import Derived.Shelf.Spec.SlicesGrow
import Derived.Test.YtieeloealklkgaaGreatJa2
import Derived.Test.YtieeloealklkgaaGreatJb1
import Derived.Test.YtieeloealklkgaaGreatJa1
import Derived.Test.YtieeloealklkgaaGreatJb2
import Derived.Test.YtieeloealklkgaaGreatRows
import Derived.WalkKit
import Derived.ProofKit
import Derived.OpenShut
import Derived.ChangeMaps5
import Derived.Carry
import Derived.Deep.Slices
import Derived.Deep.Fields
import Derived.ChangeSame
import Derived.Lib.SmallJoins
set_option linter.unusedSimpArgs false
set_option linter.unusedVariables false

/-
  The example of the chapter calendar.
-/
namespace Go.Proofs.YtieeloealklkgaaGreat
open Go Go.RowKit
attribute [local go_sem ↓] Go.wp_at_zero Go.wp_at_succ
attribute [local go_sem] Oper.semAt_some wide_fn wide_depth wide_fnR wide_depthR

set_option maxRecDepth 100000 in
set_option maxHeartbeats 1000000 in
theorem cat_any (a b c : Int) (w : World) : Calls Tryz.prog 9 #[.int .i64 a, .int .i64 b, .int .i64 c] w fun e w' => e = .returned (evV ⟨⟨a, b, c⟩, 1, 0⟩) ∧ Fr0 none' w w' := by
 unfold evV
 go_enter Tryz.func9, Tryz.ntmps9
 go_wp2_with fail
 obtain ⟨V, hV⟩ : ∃ V, (w.alloc (.cells #[.int .i64 a, .int .i64 b, .int .i64 c, .int .i64 1, .int .i64 0] 30)) = V := ⟨_, rfl⟩
 have hf : Fr0 none' w V := by rw [← hV]; exact (Fr0.refl _ _).alloc _
 have hb : V.heap[w.heap.size]? = some (.cells #[.int .i64 a, .int .i64 b, .int .i64 c, .int .i64 1, .int .i64 0] 30 (0, 0)) := by
  rw [← hV]
  exact World.alloc_heap_new w _
 rw [hV]
 have y0 := cells_in hb 0
 have y1 := cells_in hb 1
 have y2 := cells_in hb 2
 have y3 := cells_in hb 3
 have y4 := cells_in hb 4
 simp at y0 y1 y2 y3 y4
 exact bodyPost_ret (v := .agg #[.int .i64 a, .int .i64 b, .int .i64 c, .int .i64 1, .int .i64 0]) (by simp [results, Tryz.results9, go_sem, y0, y1, y2, y3, y4]) rfl ⟨rfl, hf⟩
theorem own_cap {w : World} {base : Nat} {e : TypeId} {size : Nat} {v : Value} {n : Nat} {xs : List Value} (h : w.ownsRow base e size v n xs) {a : Option Addr} {m c : Nat} (hv : v = .slice a m c) : n ≤ c := by
 rcases h.2 with ⟨rfl, h0⟩ | ⟨g, cap, cur, rfl, _, _, hn, _⟩
 ·injection hv with h1 h2 h3; omega
 ·injection hv with h1 h2 h3; omega
/-- Do at what it is known to do. -/
theorem Do_told {w : World} {a : Option Addr} {n cap : Nat} {c : Int} {L E : List Ev} {x : Ca} {T : Tl} {i f : Int} (hp : playC L c [x] = (E, [T], i, f)) (h : EsIn w a L) (hl : L.length = n) (hn : n ≤ 10000) (hcap : n ≤ cap) (hk : 0 ≤ x.kind ∧ x.kind < 256) :
  Calls Tryz.prog 17 #[.slice a n cap, .int .i64 c, actCV x] w fun e w' => ∃ va vc ya yc, e = .returned (.tuple #[.slice va E.length vc, .agg #[.int .i64 T.err, .slice ya T.evs.length yc], .int .i64 f]) ∧ E.length ≤ vc ∧ EsIn w' va E ∧ EsIn w' ya T.evs ∧ Fr0 none' w w' := by
 refine (Do_any (c := c) L x h hl hn hcap hk).mono ?_
 rintro e w' ⟨v, y, rfl, hv, hy, hyr, _, hf⟩
 unfold doT at hy
 rw [hp] at hv hy ⊢
 simp only [List.headD_cons] at hy
 subst hy
 obtain ⟨va, vc, rfl, _, h1⟩ := EsIn.of_own hv
 obtain ⟨ya, yc, hye, _, h2⟩ := EsIn.of_own hyr
 refine ⟨va, vc, ya, yc, ?_, own_cap hv rfl, h1, h2, hf⟩
 unfold Td.v at hye
 unfold Td.val Td.tl
 rw [hye]
/-- Play at what it is known to do. -/
theorem Play_told {w : World} {a aa : Option Addr} {n cap m ca : Nat} {c : Int} {L E : List Ev} {A : List Ca} {T : List Tl} {i f : Int} (hp : playC L c A = (E, T, i, f)) (h : EsIn w a L) (hl : L.length = n) (hn : n ≤ 10000) (hcap : n ≤ cap) (hA : CasIn w aa A) (hAl : A.length = m) (hm : m ≤ 100000) (hk : ∀ x ∈ A, 0 ≤ x.kind ∧ x.kind < 256) :
  Calls Tryz.prog 15 #[.slice a n cap, .int .i64 c, .slice aa m ca] w fun e w' => ∃ va vc ua uc ys, e = .returned (.tuple #[.slice va E.length vc, .slice ua T.length uc, .int .i64 i, .int .i64 f]) ∧ E.length ≤ vc ∧ EsIn w' va E ∧ TdsIn w' ua ys ∧ ys.map Td.tl = T ∧ (∀ y ∈ ys, EsIn w' y.sa y.evs ∧ y.sn = y.evs.length) ∧ Fr0 none' w w' := by
 refine (Play_any (c := c) L A h hl hn hcap hA hAl hm hk).mono ?_
 rintro e w' ⟨v, u, ys, rfl, hv, hu, hT, _, hf⟩
 rw [hp] at hv hu hT ⊢
 obtain ⟨va, vc, rfl, _, h1⟩ := EsIn.of_own hv
 obtain ⟨ua, uc, rfl, _, h2⟩ := TdsIn.of_own hu
 refine ⟨va, vc, ua, uc, ys, rfl, own_cap hv rfl, h1, h2, hT.tl, fun y hy => ?_, hf⟩
 obtain ⟨ya, yc, hye, _, h3⟩ := EsIn.of_own (hT.row y hy)
 unfold Td.v at hye
 injection hye with e1 e2 e3
 exact ⟨by rw [e1]; exact h3, e2⟩
theorem three_of {α β : Type} {f : α → β} {ys : List α} {a b c : β} (h : ys.map f = [a, b, c]) : ∃ x y z, ys = [x, y, z] := by
 have hl : ys.length = 3 := by rw [← List.length_map (f := f), h]; rfl
 cases ys with
 | nil => simp at hl
 | cons x r =>
  cases r with
  | nil => simp at hl
  | cons y r =>
   cases r with
   | nil => simp at hl
   | cons z r =>
    cases r with
    | nil => exact ⟨x, y, z, rfl⟩
    | cons _ _ => simp at hl
def caA : Ev := ⟨⟨5, 1, 0⟩, 1, 0⟩
def caB : Ev := ⟨⟨3, 2, 0⟩, 1, 0⟩
def caC : Ev := ⟨⟨9, 3, 3⟩, 1, 0⟩
def evZ : Ev := ⟨⟨0, 0, 0⟩, 0, 0⟩
theorem goodA : GoodE 2 [caA] := ⟨by decide, by unfold OnceE; decide, by intro x hx; simp at hx; subst hx; decide, by decide⟩
theorem goodBA : GoodE 2 [caB, caA] := ⟨by decide, by unfold OnceE; decide, by intro x hx; simp at hx; rcases hx with rfl | rfl <;> decide, by decide⟩
theorem awake_p1 : playC [caA] 2 [⟨1, caB, 0⟩] = ([caB, caA], [⟨0, []⟩], -1, 0) := by
 rw [show (2 : Int) = ((2 : Nat) : Int) from rfl, playC_ok goodA (by omega) (by intro a ha; simp at ha; subst ha; decide)]
 decide
theorem awake_p2 : playC [caB, caA] 2 [⟨1, caC, 0⟩] = ([caB, caA], [⟨4, []⟩], -1, 0) := by
 rw [show (2 : Int) = ((2 : Nat) : Int) from rfl, playC_ok goodBA (by omega) (by intro a ha; simp at ha; subst ha; decide)]
 decide
theorem awake_p3 : playC [caB, caA] 2 [⟨3, evZ, 5⟩, ⟨4, caA, 0⟩, ⟨2, evZ, 0⟩] = ([], [⟨0, [caB]⟩, ⟨0, [caA]⟩, ⟨6, []⟩], -1, 0) := by
 rw [show (2 : Int) = ((2 : Nat) : Int) from rfl, playC_ok goodBA (by omega) (by intro a ha; simp at ha; rcases ha with rfl | rfl | rfl <;> decide)]
 decide
theorem awake_c : countC [caB, caA] 3 5 = (1, 0) := by unfold countC; rw [if_pos (by decide)]; rfl
theorem awake_t : timesC [caB, caA] = [3, 5] := by decide
set_option maxRecDepth 100000 in
set_option maxHeartbeats 4000000 in
theorem cawake_any (w : World) : Calls Tryz.prog 8 #[] w fun e w' => e = .returned (.bool true) ∧ Fr0 none' w w' := by
 go_enter Tryz.func8, Tryz.ntmps8
 have F := Lib.hid (Fr0.refl none' w)
 go_wp2_with fail
 refine (cat_any 5 1 0 _).mono ?_
 rintro e wA ⟨rfl, hfA⟩
 have F := Lib.hid (F.out.trans hfA)
 clear hfA
 simp only [evV]
 go_wp2_with fail
 refine (cat_any 3 2 0 _).mono ?_
 rintro e wA ⟨rfl, hfA⟩
 have F := Lib.hid (F.out.trans hfA)
 clear hfA
 simp only [evV]
 go_wp2_with fail
 obtain ⟨ab, hab⟩ : ∃ b, wA.heap.size = b := ⟨_, rfl⟩
 obtain ⟨W1, hW1⟩ : ∃ W, ((wA.alloc (.cells #[.int .i64 5, .int .i64 1, .int .i64 0, .int .i64 1, .int .i64 0] 30)).alloc (.cells #[.int .i64 3, .int .i64 2, .int .i64 0, .int .i64 1, .int .i64 0] 30)).alloc (.cells #[.int .i64 5, .int .i64 1, .int .i64 0, .int .i64 1, .int .i64 0] 30) = W := ⟨_, rfl⟩
 have hA : W1.heap[ab]? = some (.cells #[.int .i64 5, .int .i64 1, .int .i64 0, .int .i64 1, .int .i64 0] 30 (0, 0)) := by
  rw [← hW1, ← hab]
  exact ((((Fr0.refl none' _).alloc _).alloc _).block _ (by rw [World.size_alloc]; omega) id).trans (World.alloc_heap_new wA _)
 have hB : W1.heap[ab + 1]? = some (.cells #[.int .i64 3, .int .i64 2, .int .i64 0, .int .i64 1, .int .i64 0] 30 (0, 0)) := by
  have h1 := World.alloc_heap_new (wA.alloc (.cells #[.int .i64 5, .int .i64 1, .int .i64 0, .int .i64 1, .int .i64 0] 30)) (.cells #[.int .i64 3, .int .i64 2, .int .i64 0, .int .i64 1, .int .i64 0] 30)
  rw [World.size_alloc, hab] at h1
  rw [← hW1]
  exact (((Fr0.refl none' _).alloc _).block _ (by rw [World.size_alloc, World.size_alloc, hab]; omega) id).trans h1
 have hl : EsIn W1 (some ⟨ab + 1 + 1, 0, none⟩) [caA] := by
  have h1 := World.alloc_heap_new ((wA.alloc (.cells #[.int .i64 5, .int .i64 1, .int .i64 0, .int .i64 1, .int .i64 0] 30)).alloc (.cells #[.int .i64 3, .int .i64 2, .int .i64 0, .int .i64 1, .int .i64 0] 30)) (.cells #[.int .i64 5, .int .i64 1, .int .i64 0, .int .i64 1, .int .i64 0] 30)
  rw [World.size_alloc, World.size_alloc, hab, hW1] at h1
  exact EsIn.of_cells (n := 1) h1 (by simp [flatEv, cev, caA])
 have HA := Lib.hid hA
 have HB := Lib.hid hB
 have F := Lib.hid (F.out.trans (show Fr0 none' wA W1 by rw [← hW1]; exact (((Fr0.refl _ _).alloc _).alloc _).alloc _))
 rw [hW1]
 try rw [hab]
 clear hA hB hW1 hab
 have HD := Do_told (n := 1) (cap := 1) awake_p1 hl rfl (by omega) (by omega) (by decide)
 simp only [actCV] at HD
 rw [show caB.key.time = 3 from rfl, show caB.key.source = 2 from rfl, show caB.key.seq = 0 from rfl, show caB.to = 1 from rfl, show caB.value = 0 from rfl] at HD
 refine HD.mono ?_
 clear hl HD
 rintro e w2 ⟨va, vc, ya, yc, rfl, hvc, hv, hy, hf⟩
 simp only [List.length_cons, List.length_nil, Nat.zero_add, Nat.reduceAdd] at hvc
 have HA := Lib.hid ((hf.block ab (Array.getElem?_eq_some_iff.1 HA.out).1 id).trans HA.out)
 have HB := Lib.hid ((hf.block (ab + 1) (Array.getElem?_eq_some_iff.1 HB.out).1 id).trans HB.out)
 have F := Lib.hid (F.out.trans hf)
 have HV := Lib.hid hv
 clear hv hy hf
 simp only [List.length_cons, List.length_nil, Nat.zero_add, Nat.reduceAdd]
 go_wp2_with fail
 obtain ⟨tb, htb⟩ : ∃ b, w2.heap.size = b := ⟨_, rfl⟩
 obtain ⟨W, hW⟩ : ∃ W, w2.alloc (.cells #[.int .i64 0, .slice ya 0 yc] 56) = W := ⟨_, rfl⟩
 have hf : Fr0 none' w2 W := by rw [← hW]; exact (Fr0.refl _ _).alloc _
 have hnew : W.heap[tb]? = some (.cells #[.int .i64 0, .slice ya 0 yc] 56 (0, 0)) := by rw [← hW, ← htb]; exact World.alloc_heap_new _ _
 rw [hW]
 try rw [htb]
 have HA := Lib.hid ((hf.block _ (Array.getElem?_eq_some_iff.1 HA.out).1 id).trans HA.out)
 have HB := Lib.hid ((hf.block _ (Array.getElem?_eq_some_iff.1 HB.out).1 id).trans HB.out)
 have HV := Lib.hid (HV.out.later hf)
 have F := Lib.hid (F.out.trans hf)
 try have HT := Lib.hid ((hf.block _ (Array.getElem?_eq_some_iff.1 HT.out).1 id).trans HT.out)
 try have HU := Lib.hid ((hf.block _ (Array.getElem?_eq_some_iff.1 HU.out).1 id).trans HU.out)
 try have HS := Lib.hid (HS.out.later hf)
 clear hf hW htb
 have HT := Lib.hid hnew
 clear hnew
 refine (cat_any 9 3 3 _).mono ?_
 rintro e wC ⟨rfl, hf⟩
 have HA := Lib.hid ((hf.block _ (Array.getElem?_eq_some_iff.1 HA.out).1 id).trans HA.out)
 have HB := Lib.hid ((hf.block _ (Array.getElem?_eq_some_iff.1 HB.out).1 id).trans HB.out)
 have HV := Lib.hid (HV.out.later hf)
 have F := Lib.hid (F.out.trans hf)
 try have HT := Lib.hid ((hf.block _ (Array.getElem?_eq_some_iff.1 HT.out).1 id).trans HT.out)
 try have HU := Lib.hid ((hf.block _ (Array.getElem?_eq_some_iff.1 HU.out).1 id).trans HU.out)
 try have HS := Lib.hid (HS.out.later hf)
 clear hf
 simp only [evV]
 go_wp2_with fail
 have HD := Do_told (n := 2) (cap := vc) awake_p2 HV.out rfl (by omega) hvc (by decide)
 simp only [actCV] at HD
 rw [show caC.key.time = 9 from rfl, show caC.key.source = 3 from rfl, show caC.key.seq = 3 from rfl, show caC.to = 1 from rfl, show caC.value = 0 from rfl] at HD
 refine HD.mono ?_
 clear HD
 rintro e w3 ⟨sa, sc, za, zc, rfl, hsc, hs, hz, hf⟩
 simp only [List.length_cons, List.length_nil, Nat.zero_add, Nat.reduceAdd] at hsc
 have HA := Lib.hid ((hf.block _ (Array.getElem?_eq_some_iff.1 HA.out).1 id).trans HA.out)
 have HB := Lib.hid ((hf.block _ (Array.getElem?_eq_some_iff.1 HB.out).1 id).trans HB.out)
 have HV := Lib.hid (HV.out.later hf)
 have F := Lib.hid (F.out.trans hf)
 try have HT := Lib.hid ((hf.block _ (Array.getElem?_eq_some_iff.1 HT.out).1 id).trans HT.out)
 try have HU := Lib.hid ((hf.block _ (Array.getElem?_eq_some_iff.1 HU.out).1 id).trans HU.out)
 try have HS := Lib.hid (HS.out.later hf)
 have HS := Lib.hid hs
 clear hs hz hf
 simp only [List.length_cons, List.length_nil, Nat.zero_add, Nat.reduceAdd]
 obtain ⟨ub, hub⟩ : ∃ b, w3.heap.size = b := ⟨_, rfl⟩
 obtain ⟨W, hW⟩ : ∃ W, w3.alloc (.cells #[.int .i64 4, .slice za 0 zc] 56) = W := ⟨_, rfl⟩
 have hf : Fr0 none' w3 W := by rw [← hW]; exact (Fr0.refl _ _).alloc _
 have hnew : W.heap[ub]? = some (.cells #[.int .i64 4, .slice za 0 zc] 56 (0, 0)) := by rw [← hW, ← hub]; exact World.alloc_heap_new _ _
 have HA := Lib.hid ((hf.block _ (Array.getElem?_eq_some_iff.1 HA.out).1 id).trans HA.out)
 have HB := Lib.hid ((hf.block _ (Array.getElem?_eq_some_iff.1 HB.out).1 id).trans HB.out)
 have HV := Lib.hid (HV.out.later hf)
 have F := Lib.hid (F.out.trans hf)
 try have HT := Lib.hid ((hf.block _ (Array.getElem?_eq_some_iff.1 HT.out).1 id).trans HT.out)
 try have HU := Lib.hid ((hf.block _ (Array.getElem?_eq_some_iff.1 HU.out).1 id).trans HU.out)
 try have HS := Lib.hid (HS.out.later hf)
 have HU := Lib.hid hnew
 clear hnew hf
 have a0 := cells_in HA.out 0
 have a1 := cells_in HA.out 1
 have a2 := cells_in HA.out 2
 have a3 := cells_in HA.out 3
 have a4 := cells_in HA.out 4
 simp at a0 a1 a2 a3 a4
 go_wp2_with fail
 clear a0 a1 a2 a3 a4
 try rw [hub]
 clear hW hub
 obtain ⟨lb, hlb⟩ : ∃ b, W.heap.size = b := ⟨_, rfl⟩
 obtain ⟨V, hV⟩ : ∃ V, W.alloc (.cells #[.int .u8 3, .int .i64 0, .int .i64 0, .int .i64 0, .int .i64 0, .int .i64 0, .int .i64 5, .int .u8 4, .int .i64 5, .int .i64 1, .int .i64 0, .int .i64 1, .int .i64 0, .int .i64 0, .int .u8 2, .int .i64 0, .int .i64 0, .int .i64 0, .int .i64 0, .int .i64 0, .int .i64 0] 33) = V := ⟨_, rfl⟩
 have hf : Fr0 none' W V := by rw [← hV]; exact (Fr0.refl _ _).alloc _
 have hnew : V.heap[lb]? = some (.cells #[.int .u8 3, .int .i64 0, .int .i64 0, .int .i64 0, .int .i64 0, .int .i64 0, .int .i64 5, .int .u8 4, .int .i64 5, .int .i64 1, .int .i64 0, .int .i64 1, .int .i64 0, .int .i64 0, .int .u8 2, .int .i64 0, .int .i64 0, .int .i64 0, .int .i64 0, .int .i64 0, .int .i64 0] 33 (0, 0)) := by rw [← hV, ← hlb]; exact World.alloc_heap_new _ _
 rw [hV]
 try rw [hlb]
 have HA := Lib.hid ((hf.block _ (Array.getElem?_eq_some_iff.1 HA.out).1 id).trans HA.out)
 have HB := Lib.hid ((hf.block _ (Array.getElem?_eq_some_iff.1 HB.out).1 id).trans HB.out)
 have HV := Lib.hid (HV.out.later hf)
 have F := Lib.hid (F.out.trans hf)
 try have HT := Lib.hid ((hf.block _ (Array.getElem?_eq_some_iff.1 HT.out).1 id).trans HT.out)
 try have HU := Lib.hid ((hf.block _ (Array.getElem?_eq_some_iff.1 HU.out).1 id).trans HU.out)
 try have HS := Lib.hid (HS.out.later hf)
 have hcas : CasIn V (some ⟨lb, 0, none⟩) [⟨3, evZ, 5⟩, ⟨4, caA, 0⟩, ⟨2, evZ, 0⟩] := fun i y hy => by
  match i with
  | 0 =>
   obtain rfl : _ = y := by simpa using hy
   exact ⟨_, _, rfl, cells_in hnew 0, cells_in hnew 1, cells_in hnew 2, cells_in hnew 3, cells_in hnew 4, cells_in hnew 5, cells_in hnew 6⟩
  | 1 =>
   obtain rfl : _ = y := by simpa using hy
   exact ⟨_, _, rfl, cells_in hnew 7, cells_in hnew 8, cells_in hnew 9, cells_in hnew 10, cells_in hnew 11, cells_in hnew 12, cells_in hnew 13⟩
  | 2 =>
   obtain rfl : _ = y := by simpa using hy
   exact ⟨_, _, rfl, cells_in hnew 14, cells_in hnew 15, cells_in hnew 16, cells_in hnew 17, cells_in hnew 18, cells_in hnew 19, cells_in hnew 20⟩
  | i + 3 => simp at hy
 have HP := Play_told (n := 2) (cap := vc) (m := 3) (ca := 3) awake_p3 HV.out rfl (by omega) hvc hcas rfl (by omega) (by intro x hx; simp at hx; rcases hx with rfl | rfl | rfl <;> decide)
 refine HP.mono ?_
 clear hnew hf hcas hV hlb HP
 rintro e w4 ⟨pa, pc, ua, uc, ys, rfl, _, hp, hu, hys, hyr, hf⟩
 have HA := Lib.hid ((hf.block _ (Array.getElem?_eq_some_iff.1 HA.out).1 id).trans HA.out)
 have HB := Lib.hid ((hf.block _ (Array.getElem?_eq_some_iff.1 HB.out).1 id).trans HB.out)
 have HV := Lib.hid (HV.out.later hf)
 have F := Lib.hid (F.out.trans hf)
 try have HT := Lib.hid ((hf.block _ (Array.getElem?_eq_some_iff.1 HT.out).1 id).trans HT.out)
 try have HU := Lib.hid ((hf.block _ (Array.getElem?_eq_some_iff.1 HU.out).1 id).trans HU.out)
 try have HS := Lib.hid (HS.out.later hf)
 obtain ⟨y0, y1, y2, rfl⟩ := three_of hys
 simp only [List.map_cons, List.map_nil, List.cons.injEq, and_true] at hys
 obtain ⟨t0, t1, t2⟩ := hys
 obtain ⟨m0, n0⟩ := hyr y0 (by simp)
 obtain ⟨m1, n1⟩ := hyr y1 (by simp)
 obtain ⟨m2, n2⟩ := hyr y2 (by simp)
 obtain ⟨e0, a0, k0, c0, v0⟩ := y0
 obtain ⟨e1, a1, k1, c1, v1⟩ := y1
 obtain ⟨e2, a2, k2, c2, v2⟩ := y2
 simp only [Td.tl, Tl.mk.injEq] at t0 t1 t2
 obtain ⟨rfl, rfl⟩ := t0
 obtain ⟨rfl, rfl⟩ := t1
 obtain ⟨rfl, rfl⟩ := t2
 simp only [List.length_cons, List.length_nil, Nat.zero_add] at n0 n1 n2
 subst n0 n1 n2
 simp only at m0 m1 m2
 have HM0 := Lib.hid m0
 have HM1 := Lib.hid m1
 have HTD := Lib.hid hu
 clear hf hyr hp m0 m1 m2 hu
 simp only [List.length_cons, List.length_nil, Nat.zero_add, Nat.reduceAdd]
 go_wp2_with fail
 refine (Count_any (n := 2) (cap := vc) (f := 3) (t := 5) [caB, caA] HV.out rfl (by omega)).mono ?_
 rw [awake_c]
 rintro e w5 ⟨rfl, hf⟩
 have HA := Lib.hid ((hf.block _ (Array.getElem?_eq_some_iff.1 HA.out).1 id).trans HA.out)
 have HB := Lib.hid ((hf.block _ (Array.getElem?_eq_some_iff.1 HB.out).1 id).trans HB.out)
 have HV := Lib.hid (HV.out.later hf)
 have F := Lib.hid (F.out.trans hf)
 try have HT := Lib.hid ((hf.block _ (Array.getElem?_eq_some_iff.1 HT.out).1 id).trans HT.out)
 try have HU := Lib.hid ((hf.block _ (Array.getElem?_eq_some_iff.1 HU.out).1 id).trans HU.out)
 try have HS := Lib.hid (HS.out.later hf)
 have HM0 := Lib.hid (HM0.out.later hf)
 have HM1 := Lib.hid (HM1.out.later hf)
 have HTD := Lib.hid (HTD.out.later hf)
 clear hf
 go_wp2_with fail
 refine (Times_any (n := 2) (cap := vc) [caB, caA] HV.out rfl (by omega)).mono ?_
 rw [if_pos (by decide), if_pos (by decide), if_pos (by decide), awake_t]
 rintro e w6 ⟨v, rfl, ht, hf⟩
 have HA := Lib.hid ((hf.block _ (Array.getElem?_eq_some_iff.1 HA.out).1 id).trans HA.out)
 have HB := Lib.hid ((hf.block _ (Array.getElem?_eq_some_iff.1 HB.out).1 id).trans HB.out)
 have HV := Lib.hid (HV.out.later hf)
 have F := Lib.hid (F.out.trans hf)
 try have HT := Lib.hid ((hf.block _ (Array.getElem?_eq_some_iff.1 HT.out).1 id).trans HT.out)
 try have HU := Lib.hid ((hf.block _ (Array.getElem?_eq_some_iff.1 HU.out).1 id).trans HU.out)
 try have HS := Lib.hid (HS.out.later hf)
 have HM0 := Lib.hid (HM0.out.later hf)
 have HM1 := Lib.hid (HM1.out.later hf)
 have HTD := Lib.hid (HTD.out.later hf)
 have HTI := Lib.hid ht
 clear hf ht
 go_wp2_with fail
 obtain ⟨g, o, rfl, d0⟩ := HTD.out 0 _ rfl
 obtain ⟨_, _, hg1, d1⟩ := HTD.out 1 _ rfl
 injection hg1 with hg1
 injection hg1 with hg1 ho1
 subst hg1 ho1
 obtain ⟨_, _, hg2, d2⟩ := HTD.out 2 _ rfl
 injection hg2 with hg2
 injection hg2 with hg2 ho2
 subst hg2 ho2
 obtain ⟨_, d0⟩ := d0
 obtain ⟨_, d1⟩ := d1
 obtain ⟨d2, _⟩ := d2
 simp only [Nat.zero_mul, Nat.add_zero, Nat.one_mul, Nat.reduceMul] at d0 d1 d2
 have z0 := cells_in HA.out 0
 have z1 := cells_in HA.out 1
 have z2 := cells_in HA.out 2
 have z3 := cells_in HA.out 3
 have z4 := cells_in HA.out 4
 have y0 := cells_in HB.out 0
 have y1 := cells_in HB.out 1
 have y2 := cells_in HB.out 2
 have y3 := cells_in HB.out 3
 have y4 := cells_in HB.out 4
 have t0 := cells_in HT.out 0
 have u0 := cells_in HU.out 0
 simp at z0 z1 z2 z3 z4 y0 y1 y2 y3 y4 t0 u0
 have HZ := Lib.hid (fun (W' : World) (hf : Fr0 none' w6 W') => And.intro (hf.later z0) <| And.intro (hf.later z1) <| And.intro (hf.later z2) <| And.intro (hf.later z3) <| And.intro (hf.later z4) <| And.intro (hf.later y0) <| And.intro (hf.later y1) <| And.intro (hf.later y2) <| And.intro (hf.later y3) <| And.intro (hf.later y4) <| And.intro (hf.later t0) <| And.intro (hf.later u0) <| And.intro (hf.later d0) <| And.intro (hf.later d1) (hf.later d2))
 clear z0 z1 z2 z3 z4 y0 y1 y2 y3 y4 t0 u0 d0 d1 d2
 obtain ⟨ti, tc, rfl, _, hti⟩ := IsIn.of_own HTI.out
 have HTX := Lib.hid hti
 clear hti
 refine wp_region_held_drew (S := fun W' => Fr0 none' w6 W') (by kernel_rfl) ((Fr0.refl none' w6).drew) (fun hHeld => ?_)
 generalize w6.drew = WD at hHeld ⊢
 refine tkn (i := 0) (v := .int .i64 0) (fun W' hSW => ?_) ?_
 ·first | (go_simp; done) | exact rfl | (go_simp; rfl) | (go_simp; omega)
 try simp only [pUt, pUn, sEt, sEz, sEs]
 refine tkn (i := 1) (v := .int .i64 0) (fun W' hSW => ?_) ?_
 ·first | (go_simp; done) | exact rfl | (go_simp; rfl) | (go_simp; omega)
 try simp only [pUt, pUn, sEt, sEz, sEs]
 refine tkn (i := 2) (v := .int .i64 0) (fun W' hSW => ?_) ?_
 ·first | (go_simp; done) | exact rfl | (go_simp; rfl) | (go_simp; omega)
 try simp only [pUt, pUn, sEt, sEz, sEs]
 refine tkn (i := 3) (v := .int .i64 0) (fun W' hSW => ?_) ?_
 ·first | (go_simp; done) | exact rfl | (go_simp; rfl) | (go_simp; omega)
 try simp only [pUt, pUn, sEt, sEz, sEs]
 refine tkn (i := 4) (v := .int .i64 0) (fun W' hSW => ?_) ?_
 ·first | (go_simp; done) | exact rfl | (go_simp; rfl) | (go_simp; omega)
 try simp only [pUt, pUn, sEt, sEz, sEs]
 refine tkn (i := 5) (v := .int .i64 0) (fun W' hSW => ?_) ?_
 ·first | (go_simp; done) | exact rfl | (go_simp; rfl) | (go_simp; omega)
 try simp only [pUt, pUn, sEt, sEz, sEs]
 refine tkn (i := 6) (v := .int .i64 0) (fun W' hSW => ?_) ?_
 ·first | (go_simp; done) | exact rfl | (go_simp; rfl) | (go_simp; omega)
 try simp only [pUt, pUn, sEt, sEz, sEs]
 refine tkn (i := 7) (v := .int .i64 0) (fun W' hSW => ?_) ?_
 ·first | (go_simp; done) | exact rfl | (go_simp; rfl) | (go_simp; omega)
 try simp only [pUt, pUn, sEt, sEz, sEs]
 refine tkn (i := 8) (v := .int .i64 0) (fun W' hSW => ?_) ?_
 ·first | (go_simp; done) | exact rfl | (go_simp; rfl) | (go_simp; omega)
 try simp only [pUt, pUn, sEt, sEz, sEs]
 refine tkn (i := 9) (v := .bool true) (fun W' hSW => ?_) ?_
 ·first | (go_simp; done) | exact rfl | (go_simp; rfl) | (go_simp; omega)
 try simp only [pUt, pUn, sEt, sEz, sEs]
 refine tkn (i := 10) (v := .bool true) (fun W' hSW => ?_) ?_
 ·first | (go_simp; done) | exact rfl | (go_simp; rfl) | (go_simp; omega)
 try simp only [pUt, pUn, sEt, sEz, sEs]
 refine tkn (i := 11) (v := .slice va 2 vc) (fun W' hSW => ?_) ?_
 ·first | (go_simp; done) | exact rfl | (go_simp; rfl) | (go_simp; omega)
 try simp only [pUt, pUn, sEt, sEz, sEs]
 refine tkn (i := 12) (v := .agg #[.int .i64 3, .int .i64 2, .int .i64 0, .int .i64 1, .int .i64 0]) (fun W' hSW => ?_) ?_
 ·obtain ⟨z0, z1, z2, z3, z4, y0, y1, y2, y3, y4, t0, u0, d0, d1, d2⟩ := HZ.out W' hSW
  first | (go_simp; done) | exact rfl | (go_simp; rfl) | (go_simp; omega)
 try simp only [pUt, pUn, sEt, sEz, sEs]
 refine tkn (i := 13) (v := .agg #[.int .i64 5, .int .i64 1, .int .i64 0, .int .i64 1, .int .i64 0]) (fun W' hSW => ?_) ?_
 ·obtain ⟨z0, z1, z2, z3, z4, y0, y1, y2, y3, y4, t0, u0, d0, d1, d2⟩ := HZ.out W' hSW
  first | (go_simp; done) | exact rfl | (go_simp; rfl) | (go_simp; omega)
 try simp only [pUt, pUn, sEt, sEz, sEs]
 refine take_call (i := 14) rfl (by kernel_rfl) (by kernel_rfl) (fun K hK => ?_)
 go_simp
 obtain ⟨nb, hnb⟩ : ∃ b, WD.heap.size = b := ⟨_, rfl⟩
 obtain ⟨W2, hW2⟩ : ∃ W2, WD.alloc (.cells #[.int .i64 3, .int .i64 2, .int .i64 0, .int .i64 1, .int .i64 0, .int .i64 5, .int .i64 1, .int .i64 0, .int .i64 1, .int .i64 0] 30) = W2 := ⟨_, rfl⟩
 have hn2 : W2.heap[nb]? = some (.cells #[.int .i64 3, .int .i64 2, .int .i64 0, .int .i64 1, .int .i64 0, .int .i64 5, .int .i64 1, .int .i64 0, .int .i64 1, .int .i64 0] 30 (0, 0)) := by rw [← hW2, ← hnb]; exact World.alloc_heap_new _ _
 have F2 := Lib.hid (hHeld.trans (show Fr0 none' WD W2 by rw [← hW2]; exact (Fr0.refl _ _).alloc _))
 rw [hW2]
 try rw [hnb]
 clear hW2 hnb
 refine hK.out _ _ F2.out (fun hHeld => ?_)
 clear hK K
 try simp only [pUt, pUn, sEt, sEz, sEs]
 refine take_call (i := 15) rfl (by kernel_rfl) (by kernel_rfl) (fun K hK => ?_)
 go_simp
 have HSM := Same_any va (some ⟨nb, 0, none⟩) 2 2 vc 2 [caB, caA] [caB, caA] W2 rfl rfl (by omega) (by omega) (HV.out.later hHeld) (EsIn.of_cells (n := 2) hn2 (by simp [flatEv, cev, caA, caB]))
 rw [show decide (([caB, caA] : List Ev) = [caB, caA]) = true by decide] at HSM
 refine HSM.mono ?_
 clear HSM
 rintro e WD ⟨rfl, hfA⟩
 have FA := Lib.hid (hHeld.trans hfA)
 clear hfA
 go_wp2_with fail
 refine hK.out _ _ FA.out (fun hHeld => ?_)
 clear hK K
 try simp only [pUt, pUn, sEt, sEz, sEs]
 refine tkn (i := 16) (v := .bool true) (fun W' hSW => ?_) ?_
 ·first | (go_simp; done) | exact rfl | (go_simp; rfl) | (go_simp; omega)
 try simp only [pUt, pUn, sEt, sEz, sEs]
 refine tkn (i := 17) (v := .bool true) (fun W' hSW => ?_) ?_
 ·first | (go_simp; done) | exact rfl | (go_simp; rfl) | (go_simp; omega)
 try simp only [pUt, pUn, sEt, sEz, sEs]
 refine tkn (i := 18) (v := .pointer (some ⟨tb, 0, none⟩)) (fun W' hSW => ?_) ?_
 ·obtain ⟨z0, z1, z2, z3, z4, y0, y1, y2, y3, y4, t0, u0, d0, d1, d2⟩ := HZ.out W' hSW
  first | (go_simp; done) | exact rfl | (go_simp; rfl) | (go_simp; omega)
 try simp only [pUt, pUn, sEt, sEz, sEs]
 refine tkn (i := 19) (v := .int .i64 0) (fun W' hSW => ?_) ?_
 ·obtain ⟨z0, z1, z2, z3, z4, y0, y1, y2, y3, y4, t0, u0, d0, d1, d2⟩ := HZ.out W' hSW
  first | (go_simp; done) | exact rfl | (go_simp; rfl) | (go_simp; omega)
 try simp only [pUt, pUn, sEt, sEz, sEs]
 refine tkn (i := 20) (v := .bool true) (fun W' hSW => ?_) ?_
 ·first | (go_simp; done) | exact rfl | (go_simp; rfl) | (go_simp; omega)
 try simp only [pUt, pUn, sEt, sEz, sEs]
 refine tkn (i := 21) (v := .bool true) (fun W' hSW => ?_) ?_
 ·first | (go_simp; done) | exact rfl | (go_simp; rfl) | (go_simp; omega)
 try simp only [pUt, pUn, sEt, sEz, sEs]
 refine tkn (i := 22) (v := .bool true) (fun W' hSW => ?_) ?_
 ·first | (go_simp; done) | exact rfl | (go_simp; rfl) | (go_simp; omega)
 try simp only [pUt, pUn, sEt, sEz, sEs]
 refine tkn (i := 23) (v := .pointer (some ⟨ub, 0, none⟩)) (fun W' hSW => ?_) ?_
 ·obtain ⟨z0, z1, z2, z3, z4, y0, y1, y2, y3, y4, t0, u0, d0, d1, d2⟩ := HZ.out W' hSW
  first | (go_simp; done) | exact rfl | (go_simp; rfl) | (go_simp; omega)
 try simp only [pUt, pUn, sEt, sEz, sEs]
 refine tkn (i := 24) (v := .int .i64 4) (fun W' hSW => ?_) ?_
 ·obtain ⟨z0, z1, z2, z3, z4, y0, y1, y2, y3, y4, t0, u0, d0, d1, d2⟩ := HZ.out W' hSW
  first | (go_simp; done) | exact rfl | (go_simp; rfl) | (go_simp; omega)
 try simp only [pUt, pUn, sEt, sEz, sEs]
 refine tkn (i := 25) (v := .bool true) (fun W' hSW => ?_) ?_
 ·first | (go_simp; done) | exact rfl | (go_simp; rfl) | (go_simp; omega)
 try simp only [pUt, pUn, sEt, sEz, sEs]
 refine tkn (i := 26) (v := .bool true) (fun W' hSW => ?_) ?_
 ·first | (go_simp; done) | exact rfl | (go_simp; rfl) | (go_simp; omega)
 try simp only [pUt, pUn, sEt, sEz, sEs]
 refine tkn (i := 27) (v := .bool true) (fun W' hSW => ?_) ?_
 ·first | (go_simp; done) | exact rfl | (go_simp; rfl) | (go_simp; omega)
 try simp only [pUt, pUn, sEt, sEz, sEs]
 refine tkn (i := 28) (v := .slice sa 2 sc) (fun W' hSW => ?_) ?_
 ·first | (go_simp; done) | exact rfl | (go_simp; rfl) | (go_simp; omega)
 try simp only [pUt, pUn, sEt, sEz, sEs]
 refine tkn (i := 29) (v := .slice va 2 vc) (fun W' hSW => ?_) ?_
 ·first | (go_simp; done) | exact rfl | (go_simp; rfl) | (go_simp; omega)
 try simp only [pUt, pUn, sEt, sEz, sEs]
 refine take_call (i := 30) rfl (by kernel_rfl) (by kernel_rfl) (fun K hK => ?_)
 go_simp
 have HSM := Same_any sa va 2 2 sc vc [caB, caA] [caB, caA] WD rfl rfl (by omega) (by omega) (HS.out.later hHeld) (HV.out.later hHeld)
 rw [show decide (([caB, caA] : List Ev) = [caB, caA]) = true by decide] at HSM
 refine HSM.mono ?_
 clear HSM
 rintro e WD ⟨rfl, hfA⟩
 have FA := Lib.hid (hHeld.trans hfA)
 clear hfA
 go_wp2_with fail
 refine hK.out _ _ FA.out (fun hHeld => ?_)
 clear hK K
 try simp only [pUt, pUn, sEt, sEz, sEs]
 refine tkn (i := 31) (v := .bool true) (fun W' hSW => ?_) ?_
 ·first | (go_simp; done) | exact rfl | (go_simp; rfl) | (go_simp; omega)
 try simp only [pUt, pUn, sEt, sEz, sEs]
 refine tkn (i := 32) (v := .bool true) (fun W' hSW => ?_) ?_
 ·first | (go_simp; done) | exact rfl | (go_simp; rfl) | (go_simp; omega)
 try simp only [pUt, pUn, sEt, sEz, sEs]
 refine tkn (i := 33) (v := .slice pa 0 pc) (fun W' hSW => ?_) ?_
 ·first | (go_simp; done) | exact rfl | (go_simp; rfl) | (go_simp; omega)
 try simp only [pUt, pUn, sEt, sEz, sEs]
 refine tkn (i := 34) (v := .int .i64 0) (fun W' hSW => ?_) ?_
 ·first | (go_simp; done) | exact rfl | (go_simp; rfl) | (go_simp; omega)
 try simp only [pUt, pUn, sEt, sEz, sEs]
 refine tkn (i := 35) (v := .bool true) (fun W' hSW => ?_) ?_
 ·first | (go_simp; done) | exact rfl | (go_simp; rfl) | (go_simp; omega)
 try simp only [pUt, pUn, sEt, sEz, sEs]
 refine tkn (i := 36) (v := .bool true) (fun W' hSW => ?_) ?_
 ·first | (go_simp; done) | exact rfl | (go_simp; rfl) | (go_simp; omega)
 try simp only [pUt, pUn, sEt, sEz, sEs]
 refine tkn (i := 37) (v := .bool true) (fun W' hSW => ?_) ?_
 ·first | (go_simp; done) | exact rfl | (go_simp; rfl) | (go_simp; omega)
 try simp only [pUt, pUn, sEt, sEz, sEs]
 refine tkn (i := 38) (v := .int .i64 (-1)) (fun W' hSW => ?_) ?_
 ·first | (go_simp; done) | exact rfl | (go_simp; rfl) | (go_simp; omega)
 try simp only [pUt, pUn, sEt, sEz, sEs]
 refine tkn (i := 39) (v := .bool true) (fun W' hSW => ?_) ?_
 ·first | (go_simp; done) | exact rfl | (go_simp; rfl) | (go_simp; omega)
 try simp only [pUt, pUn, sEt, sEz, sEs]
 refine tkn (i := 40) (v := .bool true) (fun W' hSW => ?_) ?_
 ·first | (go_simp; done) | exact rfl | (go_simp; rfl) | (go_simp; omega)
 try simp only [pUt, pUn, sEt, sEz, sEs]
 refine tkn (i := 41) (v := .bool true) (fun W' hSW => ?_) ?_
 ·first | (go_simp; done) | exact rfl | (go_simp; rfl) | (go_simp; omega)
 try simp only [pUt, pUn, sEt, sEz, sEs]
 refine tkn (i := 42) (v := .slice (some ⟨g, o, none⟩) 3 uc) (fun W' hSW => ?_) ?_
 ·first | (go_simp; done) | exact rfl | (go_simp; rfl) | (go_simp; omega)
 try simp only [pUt, pUn, sEt, sEz, sEs]
 refine tkn (i := 43) (v := .int .i64 3) (fun W' hSW => ?_) ?_
 ·first | (go_simp; done) | exact rfl | (go_simp; rfl) | (go_simp; omega)
 try simp only [pUt, pUn, sEt, sEz, sEs]
 refine tkn (i := 44) (v := .bool true) (fun W' hSW => ?_) ?_
 ·first | (go_simp; done) | exact rfl | (go_simp; rfl) | (go_simp; omega)
 try simp only [pUt, pUn, sEt, sEz, sEs]
 refine tkn (i := 45) (v := .bool true) (fun W' hSW => ?_) ?_
 ·first | (go_simp; done) | exact rfl | (go_simp; rfl) | (go_simp; omega)
 try simp only [pUt, pUn, sEt, sEz, sEs]
 refine tkn (i := 46) (v := .bool true) (fun W' hSW => ?_) ?_
 ·first | (go_simp; done) | exact rfl | (go_simp; rfl) | (go_simp; omega)
 try simp only [pUt, pUn, sEt, sEz, sEs]
 refine tkn (i := 47) (v := .slice (some ⟨g, o, none⟩) 3 uc) (fun W' hSW => ?_) ?_
 ·first | (go_simp; done) | exact rfl | (go_simp; rfl) | (go_simp; omega)
 try simp only [pUt, pUn, sEt, sEz, sEs]
 refine tkn (i := 48) (v := .pointer (some ⟨g, o, none⟩)) (fun W' hSW => ?_) ?_
 ·first | (go_simp; done) | exact rfl | (go_simp; rfl) | (go_simp; omega)
 try simp only [pUt, pUn, sEt, sEz, sEs]
 refine tkn (i := 49) (v := .pointer (some ⟨g, o + 1, none⟩)) (fun W' hSW => ?_) ?_
 ·first | (go_simp; done) | exact rfl | (go_simp; rfl) | (go_simp; omega)
 try simp only [pUt, pUn, sEt, sEz, sEs]
 refine tkn (i := 50) (v := .slice a0 1 c0) (fun W' hSW => ?_) ?_
 ·obtain ⟨z0, z1, z2, z3, z4, y0, y1, y2, y3, y4, t0, u0, d0, d1, d2⟩ := HZ.out W' hSW
  first | (go_simp; done) | exact rfl | (go_simp; rfl) | (go_simp; omega)
 try simp only [pUt, pUn, sEt, sEz, sEs]
 refine tkn (i := 51) (v := .agg #[.int .i64 3, .int .i64 2, .int .i64 0, .int .i64 1, .int .i64 0]) (fun W' hSW => ?_) ?_
 ·obtain ⟨z0, z1, z2, z3, z4, y0, y1, y2, y3, y4, t0, u0, d0, d1, d2⟩ := HZ.out W' hSW
  first | (go_simp; done) | exact rfl | (go_simp; rfl) | (go_simp; omega)
 try simp only [pUt, pUn, sEt, sEz, sEs]
 refine take_call (i := 52) rfl (by kernel_rfl) (by kernel_rfl) (fun K hK => ?_)
 go_simp
 obtain ⟨nb, hnb⟩ : ∃ b, WD.heap.size = b := ⟨_, rfl⟩
 obtain ⟨W2, hW2⟩ : ∃ W2, WD.alloc (.cells #[.int .i64 3, .int .i64 2, .int .i64 0, .int .i64 1, .int .i64 0] 30) = W2 := ⟨_, rfl⟩
 have hn2 : W2.heap[nb]? = some (.cells #[.int .i64 3, .int .i64 2, .int .i64 0, .int .i64 1, .int .i64 0] 30 (0, 0)) := by rw [← hW2, ← hnb]; exact World.alloc_heap_new _ _
 have F2 := Lib.hid (hHeld.trans (show Fr0 none' WD W2 by rw [← hW2]; exact (Fr0.refl _ _).alloc _))
 rw [hW2]
 try rw [hnb]
 clear hW2 hnb
 refine hK.out _ _ F2.out (fun hHeld => ?_)
 clear hK K
 try simp only [pUt, pUn, sEt, sEz, sEs]
 refine take_call (i := 53) rfl (by kernel_rfl) (by kernel_rfl) (fun K hK => ?_)
 go_simp
 have HSM := Same_any a0 (some ⟨nb, 0, none⟩) 1 1 c0 1 [caB] [caB] W2 rfl rfl (by omega) (by omega) (HM0.out.later hHeld) (EsIn.of_cells (n := 1) hn2 (by simp [flatEv, cev, caB]))
 rw [show decide (([caB] : List Ev) = [caB]) = true by decide] at HSM
 refine HSM.mono ?_
 clear HSM
 rintro e WD ⟨rfl, hfA⟩
 have FA := Lib.hid (hHeld.trans hfA)
 clear hfA
 go_wp2_with fail
 refine hK.out _ _ FA.out (fun hHeld => ?_)
 clear hK K
 try simp only [pUt, pUn, sEt, sEz, sEs]
 refine tkn (i := 54) (v := .bool true) (fun W' hSW => ?_) ?_
 ·first | (go_simp; done) | exact rfl | (go_simp; rfl) | (go_simp; omega)
 try simp only [pUt, pUn, sEt, sEz, sEs]
 refine tkn (i := 55) (v := .bool true) (fun W' hSW => ?_) ?_
 ·first | (go_simp; done) | exact rfl | (go_simp; rfl) | (go_simp; omega)
 try simp only [pUt, pUn, sEt, sEz, sEs]
 refine tkn (i := 56) (v := .slice (some ⟨g, o, none⟩) 3 uc) (fun W' hSW => ?_) ?_
 ·first | (go_simp; done) | exact rfl | (go_simp; rfl) | (go_simp; omega)
 try simp only [pUt, pUn, sEt, sEz, sEs]
 refine tkn (i := 57) (v := .pointer (some ⟨g, o + 2, none⟩)) (fun W' hSW => ?_) ?_
 ·first | (go_simp; done) | exact rfl | (go_simp; rfl) | (go_simp; omega)
 try simp only [pUt, pUn, sEt, sEz, sEs]
 refine tkn (i := 58) (v := .pointer (some ⟨g, o + 2 + 1, none⟩)) (fun W' hSW => ?_) ?_
 ·first | (go_simp; done) | exact rfl | (go_simp; rfl) | (go_simp; omega)
 try simp only [pUt, pUn, sEt, sEz, sEs]
 refine tkn (i := 59) (v := .slice a1 1 c1) (fun W' hSW => ?_) ?_
 ·obtain ⟨z0, z1, z2, z3, z4, y0, y1, y2, y3, y4, t0, u0, d0, d1, d2⟩ := HZ.out W' hSW
  first | (go_simp; done) | exact rfl | (go_simp; rfl) | (go_simp; omega)
 try simp only [pUt, pUn, sEt, sEz, sEs]
 refine tkn (i := 60) (v := .agg #[.int .i64 5, .int .i64 1, .int .i64 0, .int .i64 1, .int .i64 0]) (fun W' hSW => ?_) ?_
 ·obtain ⟨z0, z1, z2, z3, z4, y0, y1, y2, y3, y4, t0, u0, d0, d1, d2⟩ := HZ.out W' hSW
  first | (go_simp; done) | exact rfl | (go_simp; rfl) | (go_simp; omega)
 try simp only [pUt, pUn, sEt, sEz, sEs]
 refine take_call (i := 61) rfl (by kernel_rfl) (by kernel_rfl) (fun K hK => ?_)
 go_simp
 obtain ⟨nb, hnb⟩ : ∃ b, WD.heap.size = b := ⟨_, rfl⟩
 obtain ⟨W2, hW2⟩ : ∃ W2, WD.alloc (.cells #[.int .i64 5, .int .i64 1, .int .i64 0, .int .i64 1, .int .i64 0] 30) = W2 := ⟨_, rfl⟩
 have hn2 : W2.heap[nb]? = some (.cells #[.int .i64 5, .int .i64 1, .int .i64 0, .int .i64 1, .int .i64 0] 30 (0, 0)) := by rw [← hW2, ← hnb]; exact World.alloc_heap_new _ _
 have F2 := Lib.hid (hHeld.trans (show Fr0 none' WD W2 by rw [← hW2]; exact (Fr0.refl _ _).alloc _))
 rw [hW2]
 try rw [hnb]
 clear hW2 hnb
 refine hK.out _ _ F2.out (fun hHeld => ?_)
 clear hK K
 try simp only [pUt, pUn, sEt, sEz, sEs]
 refine take_call (i := 62) rfl (by kernel_rfl) (by kernel_rfl) (fun K hK => ?_)
 go_simp
 have HSM := Same_any a1 (some ⟨nb, 0, none⟩) 1 1 c1 1 [caA] [caA] W2 rfl rfl (by omega) (by omega) (HM1.out.later hHeld) (EsIn.of_cells (n := 1) hn2 (by simp [flatEv, cev, caA]))
 rw [show decide (([caA] : List Ev) = [caA]) = true by decide] at HSM
 refine HSM.mono ?_
 clear HSM
 rintro e WD ⟨rfl, hfA⟩
 have FA := Lib.hid (hHeld.trans hfA)
 clear hfA
 go_wp2_with fail
 refine hK.out _ _ FA.out (fun hHeld => ?_)
 clear hK K
 try simp only [pUt, pUn, sEt, sEz, sEs]
 refine tkn (i := 63) (v := .bool true) (fun W' hSW => ?_) ?_
 ·first | (go_simp; done) | exact rfl | (go_simp; rfl) | (go_simp; omega)
 try simp only [pUt, pUn, sEt, sEz, sEs]
 refine tkn (i := 64) (v := .bool true) (fun W' hSW => ?_) ?_
 ·first | (go_simp; done) | exact rfl | (go_simp; rfl) | (go_simp; omega)
 try simp only [pUt, pUn, sEt, sEz, sEs]
 refine tkn (i := 65) (v := .slice (some ⟨g, o, none⟩) 3 uc) (fun W' hSW => ?_) ?_
 ·first | (go_simp; done) | exact rfl | (go_simp; rfl) | (go_simp; omega)
 try simp only [pUt, pUn, sEt, sEz, sEs]
 refine tkn (i := 66) (v := .pointer (some ⟨g, o + 4, none⟩)) (fun W' hSW => ?_) ?_
 ·first | (go_simp; done) | exact rfl | (go_simp; rfl) | (go_simp; omega)
 try simp only [pUt, pUn, sEt, sEz, sEs]
 refine tkn (i := 67) (v := .pointer (some ⟨g, o + 4, none⟩)) (fun W' hSW => ?_) ?_
 ·first | (go_simp; done) | exact rfl | (go_simp; rfl) | (go_simp; omega)
 try simp only [pUt, pUn, sEt, sEz, sEs]
 refine tkn (i := 68) (v := .int .i64 6) (fun W' hSW => ?_) ?_
 ·obtain ⟨z0, z1, z2, z3, z4, y0, y1, y2, y3, y4, t0, u0, d0, d1, d2⟩ := HZ.out W' hSW
  first | (go_simp; done) | exact rfl | (go_simp; rfl) | (go_simp; omega)
 try simp only [pUt, pUn, sEt, sEz, sEs]
 refine tkn (i := 69) (v := .bool true) (fun W' hSW => ?_) ?_
 ·first | (go_simp; done) | exact rfl | (go_simp; rfl) | (go_simp; omega)
 try simp only [pUt, pUn, sEt, sEz, sEs]
 refine tkn (i := 70) (v := .bool true) (fun W' hSW => ?_) ?_
 ·first | (go_simp; done) | exact rfl | (go_simp; rfl) | (go_simp; omega)
 try simp only [pUt, pUn, sEt, sEz, sEs]
 refine tkn (i := 71) (v := .bool true) (fun W' hSW => ?_) ?_
 ·first | (go_simp; done) | exact rfl | (go_simp; rfl) | (go_simp; omega)
 try simp only [pUt, pUn, sEt, sEz, sEs]
 refine tkn (i := 72) (v := .int .i64 1) (fun W' hSW => ?_) ?_
 ·first | (go_simp; done) | exact rfl | (go_simp; rfl) | (go_simp; omega)
 try simp only [pUt, pUn, sEt, sEz, sEs]
 refine tkn (i := 73) (v := .bool true) (fun W' hSW => ?_) ?_
 ·first | (go_simp; done) | exact rfl | (go_simp; rfl) | (go_simp; omega)
 try simp only [pUt, pUn, sEt, sEz, sEs]
 refine tkn (i := 74) (v := .bool true) (fun W' hSW => ?_) ?_
 ·first | (go_simp; done) | exact rfl | (go_simp; rfl) | (go_simp; omega)
 try simp only [pUt, pUn, sEt, sEz, sEs]
 refine tkn (i := 75) (v := .bool true) (fun W' hSW => ?_) ?_
 ·first | (go_simp; done) | exact rfl | (go_simp; rfl) | (go_simp; omega)
 try simp only [pUt, pUn, sEt, sEz, sEs]
 refine tkn (i := 76) (v := .slice ti 2 tc) (fun W' hSW => ?_) ?_
 ·first | (go_simp; done) | exact rfl | (go_simp; rfl) | (go_simp; omega)
 try simp only [pUt, pUn, sEt, sEz, sEs]
 refine take_call (i := 77) rfl (by kernel_rfl) (by kernel_rfl) (fun K hK => ?_)
 go_simp
 obtain ⟨nb, hnb⟩ : ∃ b, WD.heap.size = b := ⟨_, rfl⟩
 obtain ⟨W2, hW2⟩ : ∃ W2, WD.alloc (.cells #[.int .i64 3, .int .i64 5] 3) = W2 := ⟨_, rfl⟩
 have hn2 : W2.heap[nb]? = some (.cells #[.int .i64 3, .int .i64 5] 3 (0, 0)) := by rw [← hW2, ← hnb]; exact World.alloc_heap_new _ _
 have F2 := Lib.hid (hHeld.trans (show Fr0 none' WD W2 by rw [← hW2]; exact (Fr0.refl _ _).alloc _))
 rw [hW2]
 try rw [hnb]
 clear hW2 hnb
 refine hK.out _ _ F2.out (fun hHeld => ?_)
 clear hK K
 try simp only [pUt, pUn, sEt, sEz, sEs]
 have hii : IsIn W2 (some ⟨nb, 0, none⟩) [3, 5] := fun i x hx => by
  match i with
  | 0 =>
   obtain rfl : _ = x := by simpa using hx
   exact ⟨_, _, rfl, cells_in hn2 0⟩
  | 1 =>
   obtain rfl : _ = x := by simpa using hx
   exact ⟨_, _, rfl, cells_in hn2 1⟩
  | i + 2 => simp at hx
 refine take_call (i := 78) rfl (by kernel_rfl) (by kernel_rfl) (fun K hK => ?_)
 go_simp
 have HSM := sameIs_any ti (some ⟨nb, 0, none⟩) 2 2 tc 2 [3, 5] [3, 5] W2 rfl rfl (by omega) (by omega) (HTX.out.later hHeld) hii
 rw [show decide (([3, 5] : List Int) = [3, 5]) = true by decide] at HSM
 refine HSM.mono ?_
 clear HSM
 rintro e WD ⟨rfl, hfA⟩
 have FA := Lib.hid (hHeld.trans hfA)
 clear hfA
 go_wp2_with fail
 refine hK.out _ _ FA.out (fun hHeld => ?_)
 clear hK K
 try simp only [pUt, pUn, sEt, sEz, sEs]
 refine tkn (i := 79) (v := .bool true) (fun W' hSW => ?_) ?_
 ·first | (go_simp; done) | exact rfl | (go_simp; rfl) | (go_simp; omega)
 try simp only [pUt, pUn, sEt, sEz, sEs]
 refine tkn (i := 80) (v := .bool true) (fun W' hSW => ?_) ?_
 ·first | (go_simp; done) | exact rfl | (go_simp; rfl) | (go_simp; omega)
 try simp only [pUt, pUn, sEt, sEz, sEs]
 refine wpAnyH_done (by kernel_rfl) ?_ _
 have FE := Lib.hid (F.out.trans hHeld)
 clear hHeld
 go_wp2_with fail
 go_ret
 exact ⟨rfl, FE.out⟩
end Go.Proofs.YtieeloealklkgaaGreat

/-
  Acts of small numbers.
-/
namespace Go.Proofs.YtieeloealklkgaaGreat
open Go Go.RowKit
attribute [local go_sem ↓] Go.wp_at_zero Go.wp_at_succ
attribute [local go_sem] Oper.semAt_some wide_fn wide_depth wide_fnR wide_depthR

/-- An event in small numbers (layer 11). -/
structure Sm5 where
 t : Int
 s : Int
 q : Int
 o : Int
 l : Int
def Sm5.ok (x : Sm5) : Prop := (0 ≤ x.t ∧ x.t < 256) ∧ (0 ≤ x.s ∧ x.s < 256) ∧ (0 ≤ x.q ∧ x.q < 256) ∧ (0 ≤ x.o ∧ x.o < 256) ∧ (0 ≤ x.l ∧ x.l < 256)
def sm5V (x : Sm5) : Value := .agg #[.int .u8 x.t, .int .u8 x.s, .int .u8 x.q, .int .u8 x.o, .int .u8 x.l]
def madeV (x : Sm5) : Ev := ⟨⟨x.t % 16, x.s % 5, x.q % 32⟩, 1 + x.o % 16, x.t - x.o⟩
set_option maxRecDepth 100000 in
set_option maxHeartbeats 1000000 in
theorem made11_any (x : Sm5) (hx : x.ok) (w : World) : Calls Tryz.prog 43 #[sm5V x] w fun e w' => e = .returned (evV (madeV x)) ∧ Fr0 none' w w' := by
 obtain ⟨⟨a1, a2⟩, ⟨b1, b2⟩, ⟨c1, c2⟩, ⟨d1, d2⟩, e1, e2⟩ := hx
 obtain ⟨r, hr⟩ : ∃ r, madeV x = r := ⟨_, rfl⟩
 rw [hr]
 have HR := Lib.hid hr
 clear hr
 unfold sm5V evV
 go_enter Tryz.func43, Tryz.ntmps43
 go_wp2_with fail
 obtain ⟨V, hV⟩ : ∃ V, ((w.alloc (.cells #[.int .u8 x.t, .int .u8 x.s, .int .u8 x.q, .int .u8 x.o, .int .u8 x.l] 97)).alloc (.cells #[.int .i64 (x.t % 16), .int .i64 (x.s % 5), .int .i64 (x.q % 32), .int .i64 (1 + x.o % 16), .int .i64 (x.t - x.o)] 30)) = V := ⟨_, rfl⟩
 have hf : Fr0 none' w V := by rw [← hV]; exact ((Fr0.refl _ _).alloc _).alloc _
 have hb : V.heap[w.heap.size + 1]? = some (.cells #[.int .i64 (x.t % 16), .int .i64 (x.s % 5), .int .i64 (x.q % 32), .int .i64 (1 + x.o % 16), .int .i64 (x.t - x.o)] 30 (0, 0)) := by
  rw [← hV]
  have := World.alloc_heap_new (w.alloc (.cells #[.int .u8 x.t, .int .u8 x.s, .int .u8 x.q, .int .u8 x.o, .int .u8 x.l] 97)) (.cells #[.int .i64 (x.t % 16), .int .i64 (x.s % 5), .int .i64 (x.q % 32), .int .i64 (1 + x.o % 16), .int .i64 (x.t - x.o)] 30)
  rwa [World.size_alloc] at this
 rw [hV]
 have y0 := cells_in hb 0
 have y1 := cells_in hb 1
 have y2 := cells_in hb 2
 have y3 := cells_in hb 3
 have y4 := cells_in hb 4
 simp at y0 y1 y2 y3 y4
 have hr := HR.out
 unfold madeV at hr
 subst hr
 exact bodyPost_ret (v := .agg #[.int .i64 (x.t % 16), .int .i64 (x.s % 5), .int .i64 (x.q % 32), .int .i64 (1 + x.o % 16), .int .i64 (x.t - x.o)]) (by simp [results, Tryz.results43, go_sem, y0, y1, y2, y3, y4]) rfl ⟨rfl, hf⟩
/-- An act in small numbers. -/
structure Smc where
 kind : Int
 x : Sm5
def Smc.ok (x : Smc) : Prop := (0 ≤ x.kind ∧ x.kind < 256) ∧ x.x.ok
def kindC (k : Int) : Int := if k % 16 ≤ 2 then 2 else if k % 16 = 3 then 3 else if k % 16 ≤ 5 then 4 else if k % 16 = 6 ∧ 200 < k then 5 else 1
def actC (x : Smc) : Ca := ⟨kindC x.kind, madeV x.x, x.x.o % 20⟩
theorem kindC_ok (k : Int) : 1 ≤ kindC k ∧ kindC k ≤ 5 := by
 unfold kindC
 split
 ·omega
 ·split
  ·omega
  ·split
   ·omega
   ·split <;> omega
end Go.Proofs.YtieeloealklkgaaGreat

/-
  Acts.
-/
namespace Go.Proofs.YtieeloealklkgaaGreat
open Go Go.RowKit
attribute [local go_sem ↓] Go.wp_at_zero Go.wp_at_succ
attribute [local go_sem] Oper.semAt_some wide_fn wide_depth wide_fnR wide_depthR

def SmcsIn (w : World) (a : Option Addr) (L : List Smc) : Prop := ∀ j x, L[j]? = some x → x.ok ∧ ∃ g o, a = some ⟨g, o, none⟩ ∧ w.cell? ⟨g, o + j * 6, none⟩ = some (.int .u8 x.kind) ∧ w.cell? ⟨g, o + j * 6 + 1, none⟩ = some (.int .u8 x.x.t) ∧ w.cell? ⟨g, o + j * 6 + 2, none⟩ = some (.int .u8 x.x.s) ∧ w.cell? ⟨g, o + j * 6 + 3, none⟩ = some (.int .u8 x.x.q) ∧ w.cell? ⟨g, o + j * 6 + 4, none⟩ = some (.int .u8 x.x.o) ∧ w.cell? ⟨g, o + j * 6 + 5, none⟩ = some (.int .u8 x.x.l)
theorem SmcsIn.later {w w' : World} {a : Option Addr} {L : List Smc} (h : SmcsIn w a L) (hf : Fr0 none' w w') : SmcsIn w' a L := by
 intro j x hj
 obtain ⟨h1, g, o, h2, c0, c1, c2, c3, c4, c5⟩ := h j x hj
 exact ⟨h1, g, o, h2, hf.later c0, hf.later c1, hf.later c2, hf.later c3, hf.later c4, hf.later c5⟩
def flatCa (L : List Ca) : List Value := L.flatMap fun a => [.int .u8 a.kind, .int .i64 a.x.key.time, .int .i64 a.x.key.source, .int .i64 a.x.key.seq, .int .i64 a.x.to, .int .i64 a.x.value, .int .i64 a.time]
theorem flatCa_snoc (L : List Ca) (a : Ca) : flatCa (L ++ [a]) = flatCa L ++ [.int .u8 a.kind, .int .i64 a.x.key.time, .int .i64 a.x.key.source, .int .i64 a.x.key.seq, .int .i64 a.x.to, .int .i64 a.x.value, .int .i64 a.time] := by simp [flatCa]
theorem set7_at {w : World} {b : Nat} {v0 v1 v2 v3 v4 v5 v6 : Value} {ty : TypeId} (h : w.heap[b]? = some (.cells #[v0, v1, v2, v3, v4, v5, v6] ty (0, 0))) (a0 a1 a2 a3 a4 a5 a6 : Value) :
  (((((((w.setCell ⟨b, 0, none⟩ a0).setCell ⟨b, 1, none⟩ a1).setCell ⟨b, 2, none⟩ a2).setCell ⟨b, 3, none⟩ a3).setCell ⟨b, 4, none⟩ a4).setCell ⟨b, 5, none⟩ a5).setCell ⟨b, 6, none⟩ a6).heap[b]? = some (.cells #[a0, a1, a2, a3, a4, a5, a6] ty (0, 0)) := by
 have h0 := heap_set_cell (o := 0) h a0
 have h1 := heap_set_cell (o := 1) h0 a1
 have h2 := heap_set_cell (o := 2) h1 a2
 have h3 := heap_set_cell (o := 3) h2 a3
 have h4 := heap_set_cell (o := 4) h3 a4
 have h5 := heap_set_cell (o := 5) h4 a5
 have h6 := heap_set_cell (o := 6) h5 a6
 simpa using h6
theorem set7_fr {S : Nat → Prop} {w W : World} (h : Fr0 S w W) {b : Nat} (hb : b < w.heap.size → S b) (a0 a1 a2 a3 a4 a5 a6 : Value) :
  Fr0 S w (((((((W.setCell ⟨b, 0, none⟩ a0).setCell ⟨b, 1, none⟩ a1).setCell ⟨b, 2, none⟩ a2).setCell ⟨b, 3, none⟩ a3).setCell ⟨b, 4, none⟩ a4).setCell ⟨b, 5, none⟩ a5).setCell ⟨b, 6, none⟩ a6) :=
 ((((((h.setCell hb _).setCell hb _).setCell hb _).setCell hb _).setCell hb _).setCell hb _).setCell hb _
theorem info_act0 : (Tryz.prog.info? 33).map (fun i => (i.zero, i.size, i.bytes)) = some (some (.agg #[.int .u8 0, .int .i64 0, .int .i64 0, .int .i64 0, .int .i64 0, .int .i64 0, .int .i64 0]), 7, 56) := by kernel_rfl
theorem viaC {T : Type} {P : Program} {c : Code} {K : Act → World → Prop} {Q : Exit → Act → World → Prop} {a : Act} {w : World} (F : T → World → Prop) (vs : T → List (Nat × Value))
  (t : ∀ q W, F q W → K ((vs q).foldl (fun a p => a.put (some p.1) p.2) a) W)
  (h : (∀ q W, F q W → K ((vs q).foldl (fun a p => a.put (some p.1) p.2) a) W) → c.wp P (Exit.then K Q) a w) : c.wp P (Exit.then K Q) a w := h t
theorem stepCa {L : List Smc} {j : Nat} {x : Smc} (h : L[j]? = some x) : flatCa ((L.take (j + 1)).map actC) = flatCa ((L.take j).map actC) ++ [.int .u8 (kindC x.kind), .int .i64 (x.x.t % 16), .int .i64 (x.x.s % 5), .int .i64 (x.x.q % 32), .int .i64 (1 + x.x.o % 16), .int .i64 (x.x.t - x.x.o), .int .i64 (x.x.o % 20)] := by
 rw [List.take_add_one, h, List.map_append, Option.toList_some, List.map_cons, List.map_nil, flatCa_snoc]
 rfl
set_option maxRecDepth 100000 in
set_option maxHeartbeats 4000000 in
theorem Acts_any {w : World} {a : Option Addr} {n cap most : Nat} (L : List Smc) (h : SmcsIn w a L) (hl : L.length = n) (hc : n ≤ cap) (hm : most ≤ 100) :
  Calls Tryz.prog 13 #[.slice a n cap, .int .i64 most] w fun e w' => ∃ v, e = .returned v ∧ w'.ownsRow w.heap.size 33 7 v ((L.take most).map actC).length (flatCa ((L.take most).map actC)) ∧ Fr0 none' w w' := by
 obtain ⟨i0, hi, hz0, hz1, hz2⟩ := info_parts info_act0
 obtain ⟨k, hk⟩ : ∃ k, min n most = k := ⟨_, rfl⟩
 have hk1 : ((if (n : Int) ≤ (most : Int) then (n : Int) else (most : Int)) : Int) = (k : Int) := by split <;> omega
 have H := Lib.hid h
 have Hl := Lib.hid hl
 have HK := Lib.hid hk
 obtain ⟨N, hN⟩ : ∃ N, w.heap.size = N := ⟨_, rfl⟩
 have HN := Lib.hid hN
 rw [hN]
 clear h hl hk hN
 go_enter Tryz.func13, Tryz.ntmps13
 go_wp2_with fail
 have e1 : min (n : Int) (most : Int) = (k : Int) := by have := HK.out; omega
 have e2 : max (k : Int) 0 = (k : Int) := by omega
 rw [e1, e2, Int.toNat_natCast]
 go_loopw [5, 16] (fun out i wr => ∃ j : Nat, j ≤ k ∧ i = .int .i64 j ∧ Hid (wr.ownsRow N 33 7 out j (flatCa ((L.take j).map actC))) ∧ Hid (Fr0 none' w wr)) (fun _ i _ => k - (Go.RowKit.intOf i).toNat)
 case atStart => exact ⟨0, Nat.zero_le _, rfl, World.ownsRow_nil _ _ _ _, Fr0.refl _ _⟩
 case round =>
  obtain ⟨j, hj, rfl, hown, hfr⟩ := hrel
  by_cases hlt : j < k
  ·obtain ⟨x, hx⟩ : ∃ x, L[j]? = some x := ⟨_, List.getElem?_eq_getElem (by rw [Hl.out]; have := HK.out; omega)⟩
   obtain ⟨hxo, g, o, rfl, c0, c1, c2, c3, c4, c5⟩ := (H.out.later hfr.out) j x hx
   obtain ⟨va, vc, rfl⟩ : ∃ va vc, u5 = .slice va j vc := by
    rcases hown.out.2 with ⟨rfl, h0⟩ | ⟨g, cap, cur, rfl, _⟩
    ·exact ⟨none, 0, by rw [h0]⟩
    ·exact ⟨_, cap, rfl⟩
   have k1 : (0 : Int) ≤ (j : Int) := by omega
   have k2 : (j : Int) < (k : Int) := by omega
   obtain ⟨xb, hxb⟩ : ∃ b, wr.heap.size = b := ⟨_, rfl⟩
   obtain ⟨W1, hW1⟩ : ∃ W, wr.alloc (.cells #[.int .u8 x.kind, .int .u8 x.x.t, .int .u8 x.x.s, .int .u8 x.x.q, .int .u8 x.x.o, .int .u8 x.x.l] 99) = W := ⟨_, rfl⟩
   have hf1 : Fr0 none' wr W1 := by rw [← hW1]; exact (Fr0.refl _ _).alloc _
   have hb : W1.heap[xb]? = some (.cells #[.int .u8 x.kind, .int .u8 x.x.t, .int .u8 x.x.s, .int .u8 x.x.q, .int .u8 x.x.o, .int .u8 x.x.l] 99 (0, 0)) := by rw [← hW1, ← hxb]; exact World.alloc_heap_new _ _
   have z0 := cells_in hb 0
   have z1 := cells_in hb 1
   have z2 := cells_in hb 2
   have z3 := cells_in hb 3
   have z4 := cells_in hb 4
   have z5 := cells_in hb 5
   simp at z0 z1 z2 z3 z4 z5
   have HZ := Lib.hid (fun (W' : World) (hf : Fr0 none' W1 W') => And.intro (hf.later z0) <| And.intro (hf.later z1) <| And.intro (hf.later z2) <| And.intro (hf.later z3) <| And.intro (hf.later z4) (hf.later z5))
   have HM := Lib.hid (fun (W : World) => made11_any x.x hxo.2 W)
   have Hxo := Lib.hid hxo
   obtain ⟨q1, q2⟩ := hxo.2.2.2.2.1
   obtain ⟨q3, q4⟩ := hxo.1
   have q5 : Int.tmod x.x.o 20 = x.x.o % 20 := Int.tmod_eq_emod_of_nonneg q1
   have q6 : IntKind.i64.wrap (x.x.o % 20) = x.x.o % 20 := IntWalk.i64_in _ (by omega)
   have Hx := Lib.hid hx
   have HO1 := Lib.hid (ownsRow_fr0 hown.out hf1 (fun _ _ h => h))
   have FW1 := Lib.hid (hfr.out.trans hf1)
   have hxB : xb < W1.heap.size := (Array.getElem?_eq_some_iff.1 hb).1
   simp only [sm5V, evV, madeV] at HM
   clear hx hxo hb z0 z1 z2 z3 z4 z5 hf1 hown hfr
   go_wp2_with fail
   try rw [hxb]
   clear hxb hW1 c0 c1 c2 c3 c4 c5
   refine viaC (T := (Nat → Value) × Nat) (fun q W => W.heap[q.2]? = some (.cells #[.int .u8 1, .int .i64 (x.x.t % 16), .int .i64 (x.x.s % 5), .int .i64 (x.x.q % 32), .int .i64 (1 + x.x.o % 16), .int .i64 (x.x.t - x.x.o), .int .i64 (x.x.o % 20)] 33 (0, 0)) ∧ W1.heap.size ≤ q.2 ∧ Fr0 none' W1 W)
    (fun q => [(20, q.1 0), (21, q.1 1), (22, q.1 2), (23, q.1 3), (24, q.1 4), (25, q.1 5), (26, q.1 6), (27, q.1 7), (28, q.1 8), (8, .pointer (some ⟨q.2, 0, none⟩))]) (fun q W hF => ?_) (fun hT => ?_)
   ·simp only [List.foldl, Act.put, List.setIfInBounds_toArray, List.set_cons_zero, List.set_cons_succ]
    obtain ⟨us, ab⟩ := q
    obtain ⟨hab, habn, hf⟩ := hF
    simp only at hab habn ⊢
    obtain ⟨z0, z1, z2, z3, z4, z5⟩ := HZ.out W hf
    have b0 := cells_in hab 0
    have b1 := cells_in hab 1
    have b2 := cells_in hab 2
    have b3 := cells_in hab 3
    have b4 := cells_in hab 4
    have b5 := cells_in hab 5
    have b6 := cells_in hab 6
    simp at b0 b1 b2 b3 b4 b5 b6
    have u0 := thaw_in hab 0
    have q7 : Int.tmod x.kind 16 = x.kind % 16 := Int.tmod_eq_emod_of_nonneg q3
    have hor := ownsRow_fr0 HO1.out hf (fun _ _ h => h)
    have hfa := FW1.out.trans hf
    have hoff : ∀ kd : Value, (W.setCell ⟨ab, 0, none⟩ kd).ownsRow N 33 7 (.slice va j vc) j (flatCa ((L.take j).map actC)) ∧ Fr0 none' w (W.setCell ⟨ab, 0, none⟩ kd) := fun kd =>
     ⟨ownsRow_fr0 hor ((Fr0.refl (fun k => k = ab) W).setCell (fun _ => rfl) kd) (fun g hg e => by have := (HO1.out.lt g hg).2; have e : g = ab := e; omega), hfa.trans' ((Fr0.refl (fun k => k = ab) W).setCell (fun _ => rfl) kd) (fun i h1 h2 => by have := FW1.out.size; have h2 : i = ab := h2; omega)⟩
    have Hoff := Lib.hid hoff
    have HO2 := Lib.hid hor
    have FW2 := Lib.hid hfa
    clear hab habn hf hor hfa hoff
    obtain ⟨m, hm⟩ : ∃ m, x.kind % 16 = m := ⟨_, rfl⟩
    rw [hm] at q7
    have Hm := Lib.hid hm
    have hm0 : 0 ≤ m := by omega
    clear hm
    have hcs : m = 0 ∨ m = 1 ∨ m = 2 ∨ m = 3 ∨ m = 4 ∨ m = 5 ∨ m = 6 ∨ 7 ≤ m := by omega
    rcases hcs with rfl | rfl | rfl | rfl | rfl | rfl | rfl | h7
    ·skip
     have HO2 := Lib.hid (Hoff.out (.int .u8 2)).1
     have FW2 := Lib.hid (Hoff.out (.int .u8 2)).2
     clear Hoff
     have hsrc := Src.newRow (P := Tryz.prog) (size := 7) (tx := 23) (ty := 33) (W.setCell ⟨ab, 0, none⟩ (.int .u8 2)) Tryz.underlying23 1 1 [.int .u8 2, .int .i64 (x.x.t % 16), .int .i64 (x.x.s % 5), .int .i64 (x.x.q % 32), .int .i64 (1 + x.x.o % 16), .int .i64 (x.x.t - x.x.o), .int .i64 (x.x.o % 20)] rfl (by simp [Value.oneCell'])
     have Hown2 := Lib.hid (HO2.out.alloc (.cells [Value.int .u8 2, .int .i64 (x.x.t % 16), .int .i64 (x.x.s % 5), .int .i64 (x.x.q % 32), .int .i64 (1 + x.x.o % 16), .int .i64 (x.x.t - x.x.o), .int .i64 (x.x.o % 20)].toArray 33))
     have Fr2 := Lib.hid (FW2.out.alloc (.cells [Value.int .u8 2, .int .i64 (x.x.t % 16), .int .i64 (x.x.s % 5), .int .i64 (x.x.q % 32), .int .i64 (1 + x.x.o % 16), .int .i64 (x.x.t - x.x.o), .int .i64 (x.x.o % 20)].toArray 33))
     have Hsrc := Lib.hid hsrc
     have hNW : N ≤ (W.setCell ⟨ab, 0, none⟩ (.int .u8 2)).heap.size := by rw [← HN.out]; exact FW2.out.size
     try simp only [World.size_setCell] at hsrc hNW
     have Hsrc := Lib.hid hsrc
     clear hsrc
     go_wp2_with (at_builtin; refine wpList_append_k rfl _ _ 23 23 rfl N 33 i0 (.agg #[.int .u8 0, .int .i64 0, .int .i64 0, .int .i64 0, .int .i64 0, .int .i64 0, .int .i64 0]) 7 56 Tryz.underlying23 hi hz0 hz1 hz2 rfl (by decide) _ j _ rfl Hown2.out (.slice (some ⟨W.heap.size, 0, none⟩) 1 1) 1 _ rfl Hsrc.out (by unfold maxLen; omega) (by omega) (by simp; omega) ?_; intro v' w2 hown' hgrow hdr hob)
     have hkd : kindC x.kind = 2 := by
      have := Hm.out
      unfold kindC
      (repeat' split) <;> omega
     have hfin := Fr2.out.grown hgrow (fun i hi hl => by
      have h1 := (Hown2.out.lt i hi).1
      rw [HN.out] at hl; omega)
     have hstp := stepCa Hx.out
     rw [hkd] at hstp
     refine ⟨⟨j + 1, by omega, by go_num, Lib.hid (by rw [hstp]; exact hown'), Lib.hid hfin⟩, ?_⟩
     simp [Go.RowKit.intOf]; omega
    ·skip
     have HO2 := Lib.hid (Hoff.out (.int .u8 2)).1
     have FW2 := Lib.hid (Hoff.out (.int .u8 2)).2
     clear Hoff
     have hsrc := Src.newRow (P := Tryz.prog) (size := 7) (tx := 23) (ty := 33) (W.setCell ⟨ab, 0, none⟩ (.int .u8 2)) Tryz.underlying23 1 1 [.int .u8 2, .int .i64 (x.x.t % 16), .int .i64 (x.x.s % 5), .int .i64 (x.x.q % 32), .int .i64 (1 + x.x.o % 16), .int .i64 (x.x.t - x.x.o), .int .i64 (x.x.o % 20)] rfl (by simp [Value.oneCell'])
     have Hown2 := Lib.hid (HO2.out.alloc (.cells [Value.int .u8 2, .int .i64 (x.x.t % 16), .int .i64 (x.x.s % 5), .int .i64 (x.x.q % 32), .int .i64 (1 + x.x.o % 16), .int .i64 (x.x.t - x.x.o), .int .i64 (x.x.o % 20)].toArray 33))
     have Fr2 := Lib.hid (FW2.out.alloc (.cells [Value.int .u8 2, .int .i64 (x.x.t % 16), .int .i64 (x.x.s % 5), .int .i64 (x.x.q % 32), .int .i64 (1 + x.x.o % 16), .int .i64 (x.x.t - x.x.o), .int .i64 (x.x.o % 20)].toArray 33))
     have Hsrc := Lib.hid hsrc
     have hNW : N ≤ (W.setCell ⟨ab, 0, none⟩ (.int .u8 2)).heap.size := by rw [← HN.out]; exact FW2.out.size
     try simp only [World.size_setCell] at hsrc hNW
     have Hsrc := Lib.hid hsrc
     clear hsrc
     go_wp2_with (at_builtin; refine wpList_append_k rfl _ _ 23 23 rfl N 33 i0 (.agg #[.int .u8 0, .int .i64 0, .int .i64 0, .int .i64 0, .int .i64 0, .int .i64 0, .int .i64 0]) 7 56 Tryz.underlying23 hi hz0 hz1 hz2 rfl (by decide) _ j _ rfl Hown2.out (.slice (some ⟨W.heap.size, 0, none⟩) 1 1) 1 _ rfl Hsrc.out (by unfold maxLen; omega) (by omega) (by simp; omega) ?_; intro v' w2 hown' hgrow hdr hob)
     have hkd : kindC x.kind = 2 := by
      have := Hm.out
      unfold kindC
      (repeat' split) <;> omega
     have hfin := Fr2.out.grown hgrow (fun i hi hl => by
      have h1 := (Hown2.out.lt i hi).1
      rw [HN.out] at hl; omega)
     have hstp := stepCa Hx.out
     rw [hkd] at hstp
     refine ⟨⟨j + 1, by omega, by go_num, Lib.hid (by rw [hstp]; exact hown'), Lib.hid hfin⟩, ?_⟩
     simp [Go.RowKit.intOf]; omega
    ·skip
     have HO2 := Lib.hid (Hoff.out (.int .u8 2)).1
     have FW2 := Lib.hid (Hoff.out (.int .u8 2)).2
     clear Hoff
     have hsrc := Src.newRow (P := Tryz.prog) (size := 7) (tx := 23) (ty := 33) (W.setCell ⟨ab, 0, none⟩ (.int .u8 2)) Tryz.underlying23 1 1 [.int .u8 2, .int .i64 (x.x.t % 16), .int .i64 (x.x.s % 5), .int .i64 (x.x.q % 32), .int .i64 (1 + x.x.o % 16), .int .i64 (x.x.t - x.x.o), .int .i64 (x.x.o % 20)] rfl (by simp [Value.oneCell'])
     have Hown2 := Lib.hid (HO2.out.alloc (.cells [Value.int .u8 2, .int .i64 (x.x.t % 16), .int .i64 (x.x.s % 5), .int .i64 (x.x.q % 32), .int .i64 (1 + x.x.o % 16), .int .i64 (x.x.t - x.x.o), .int .i64 (x.x.o % 20)].toArray 33))
     have Fr2 := Lib.hid (FW2.out.alloc (.cells [Value.int .u8 2, .int .i64 (x.x.t % 16), .int .i64 (x.x.s % 5), .int .i64 (x.x.q % 32), .int .i64 (1 + x.x.o % 16), .int .i64 (x.x.t - x.x.o), .int .i64 (x.x.o % 20)].toArray 33))
     have Hsrc := Lib.hid hsrc
     have hNW : N ≤ (W.setCell ⟨ab, 0, none⟩ (.int .u8 2)).heap.size := by rw [← HN.out]; exact FW2.out.size
     try simp only [World.size_setCell] at hsrc hNW
     have Hsrc := Lib.hid hsrc
     clear hsrc
     go_wp2_with (at_builtin; refine wpList_append_k rfl _ _ 23 23 rfl N 33 i0 (.agg #[.int .u8 0, .int .i64 0, .int .i64 0, .int .i64 0, .int .i64 0, .int .i64 0, .int .i64 0]) 7 56 Tryz.underlying23 hi hz0 hz1 hz2 rfl (by decide) _ j _ rfl Hown2.out (.slice (some ⟨W.heap.size, 0, none⟩) 1 1) 1 _ rfl Hsrc.out (by unfold maxLen; omega) (by omega) (by simp; omega) ?_; intro v' w2 hown' hgrow hdr hob)
     have hkd : kindC x.kind = 2 := by
      have := Hm.out
      unfold kindC
      (repeat' split) <;> omega
     have hfin := Fr2.out.grown hgrow (fun i hi hl => by
      have h1 := (Hown2.out.lt i hi).1
      rw [HN.out] at hl; omega)
     have hstp := stepCa Hx.out
     rw [hkd] at hstp
     refine ⟨⟨j + 1, by omega, by go_num, Lib.hid (by rw [hstp]; exact hown'), Lib.hid hfin⟩, ?_⟩
     simp [Go.RowKit.intOf]; omega
    ·skip
     have HO2 := Lib.hid (Hoff.out (.int .u8 3)).1
     have FW2 := Lib.hid (Hoff.out (.int .u8 3)).2
     clear Hoff
     have hsrc := Src.newRow (P := Tryz.prog) (size := 7) (tx := 23) (ty := 33) (W.setCell ⟨ab, 0, none⟩ (.int .u8 3)) Tryz.underlying23 1 1 [.int .u8 3, .int .i64 (x.x.t % 16), .int .i64 (x.x.s % 5), .int .i64 (x.x.q % 32), .int .i64 (1 + x.x.o % 16), .int .i64 (x.x.t - x.x.o), .int .i64 (x.x.o % 20)] rfl (by simp [Value.oneCell'])
     have Hown2 := Lib.hid (HO2.out.alloc (.cells [Value.int .u8 3, .int .i64 (x.x.t % 16), .int .i64 (x.x.s % 5), .int .i64 (x.x.q % 32), .int .i64 (1 + x.x.o % 16), .int .i64 (x.x.t - x.x.o), .int .i64 (x.x.o % 20)].toArray 33))
     have Fr2 := Lib.hid (FW2.out.alloc (.cells [Value.int .u8 3, .int .i64 (x.x.t % 16), .int .i64 (x.x.s % 5), .int .i64 (x.x.q % 32), .int .i64 (1 + x.x.o % 16), .int .i64 (x.x.t - x.x.o), .int .i64 (x.x.o % 20)].toArray 33))
     have Hsrc := Lib.hid hsrc
     have hNW : N ≤ (W.setCell ⟨ab, 0, none⟩ (.int .u8 3)).heap.size := by rw [← HN.out]; exact FW2.out.size
     try simp only [World.size_setCell] at hsrc hNW
     have Hsrc := Lib.hid hsrc
     clear hsrc
     go_wp2_with (at_builtin; refine wpList_append_k rfl _ _ 23 23 rfl N 33 i0 (.agg #[.int .u8 0, .int .i64 0, .int .i64 0, .int .i64 0, .int .i64 0, .int .i64 0, .int .i64 0]) 7 56 Tryz.underlying23 hi hz0 hz1 hz2 rfl (by decide) _ j _ rfl Hown2.out (.slice (some ⟨W.heap.size, 0, none⟩) 1 1) 1 _ rfl Hsrc.out (by unfold maxLen; omega) (by omega) (by simp; omega) ?_; intro v' w2 hown' hgrow hdr hob)
     have hkd : kindC x.kind = 3 := by
      have := Hm.out
      unfold kindC
      (repeat' split) <;> omega
     have hfin := Fr2.out.grown hgrow (fun i hi hl => by
      have h1 := (Hown2.out.lt i hi).1
      rw [HN.out] at hl; omega)
     have hstp := stepCa Hx.out
     rw [hkd] at hstp
     refine ⟨⟨j + 1, by omega, by go_num, Lib.hid (by rw [hstp]; exact hown'), Lib.hid hfin⟩, ?_⟩
     simp [Go.RowKit.intOf]; omega
    ·skip
     have HO2 := Lib.hid (Hoff.out (.int .u8 4)).1
     have FW2 := Lib.hid (Hoff.out (.int .u8 4)).2
     clear Hoff
     have hsrc := Src.newRow (P := Tryz.prog) (size := 7) (tx := 23) (ty := 33) (W.setCell ⟨ab, 0, none⟩ (.int .u8 4)) Tryz.underlying23 1 1 [.int .u8 4, .int .i64 (x.x.t % 16), .int .i64 (x.x.s % 5), .int .i64 (x.x.q % 32), .int .i64 (1 + x.x.o % 16), .int .i64 (x.x.t - x.x.o), .int .i64 (x.x.o % 20)] rfl (by simp [Value.oneCell'])
     have Hown2 := Lib.hid (HO2.out.alloc (.cells [Value.int .u8 4, .int .i64 (x.x.t % 16), .int .i64 (x.x.s % 5), .int .i64 (x.x.q % 32), .int .i64 (1 + x.x.o % 16), .int .i64 (x.x.t - x.x.o), .int .i64 (x.x.o % 20)].toArray 33))
     have Fr2 := Lib.hid (FW2.out.alloc (.cells [Value.int .u8 4, .int .i64 (x.x.t % 16), .int .i64 (x.x.s % 5), .int .i64 (x.x.q % 32), .int .i64 (1 + x.x.o % 16), .int .i64 (x.x.t - x.x.o), .int .i64 (x.x.o % 20)].toArray 33))
     have Hsrc := Lib.hid hsrc
     have hNW : N ≤ (W.setCell ⟨ab, 0, none⟩ (.int .u8 4)).heap.size := by rw [← HN.out]; exact FW2.out.size
     try simp only [World.size_setCell] at hsrc hNW
     have Hsrc := Lib.hid hsrc
     clear hsrc
     go_wp2_with (at_builtin; refine wpList_append_k rfl _ _ 23 23 rfl N 33 i0 (.agg #[.int .u8 0, .int .i64 0, .int .i64 0, .int .i64 0, .int .i64 0, .int .i64 0, .int .i64 0]) 7 56 Tryz.underlying23 hi hz0 hz1 hz2 rfl (by decide) _ j _ rfl Hown2.out (.slice (some ⟨W.heap.size, 0, none⟩) 1 1) 1 _ rfl Hsrc.out (by unfold maxLen; omega) (by omega) (by simp; omega) ?_; intro v' w2 hown' hgrow hdr hob)
     have hkd : kindC x.kind = 4 := by
      have := Hm.out
      unfold kindC
      (repeat' split) <;> omega
     have hfin := Fr2.out.grown hgrow (fun i hi hl => by
      have h1 := (Hown2.out.lt i hi).1
      rw [HN.out] at hl; omega)
     have hstp := stepCa Hx.out
     rw [hkd] at hstp
     refine ⟨⟨j + 1, by omega, by go_num, Lib.hid (by rw [hstp]; exact hown'), Lib.hid hfin⟩, ?_⟩
     simp [Go.RowKit.intOf]; omega
    ·skip
     have HO2 := Lib.hid (Hoff.out (.int .u8 4)).1
     have FW2 := Lib.hid (Hoff.out (.int .u8 4)).2
     clear Hoff
     have hsrc := Src.newRow (P := Tryz.prog) (size := 7) (tx := 23) (ty := 33) (W.setCell ⟨ab, 0, none⟩ (.int .u8 4)) Tryz.underlying23 1 1 [.int .u8 4, .int .i64 (x.x.t % 16), .int .i64 (x.x.s % 5), .int .i64 (x.x.q % 32), .int .i64 (1 + x.x.o % 16), .int .i64 (x.x.t - x.x.o), .int .i64 (x.x.o % 20)] rfl (by simp [Value.oneCell'])
     have Hown2 := Lib.hid (HO2.out.alloc (.cells [Value.int .u8 4, .int .i64 (x.x.t % 16), .int .i64 (x.x.s % 5), .int .i64 (x.x.q % 32), .int .i64 (1 + x.x.o % 16), .int .i64 (x.x.t - x.x.o), .int .i64 (x.x.o % 20)].toArray 33))
     have Fr2 := Lib.hid (FW2.out.alloc (.cells [Value.int .u8 4, .int .i64 (x.x.t % 16), .int .i64 (x.x.s % 5), .int .i64 (x.x.q % 32), .int .i64 (1 + x.x.o % 16), .int .i64 (x.x.t - x.x.o), .int .i64 (x.x.o % 20)].toArray 33))
     have Hsrc := Lib.hid hsrc
     have hNW : N ≤ (W.setCell ⟨ab, 0, none⟩ (.int .u8 4)).heap.size := by rw [← HN.out]; exact FW2.out.size
     try simp only [World.size_setCell] at hsrc hNW
     have Hsrc := Lib.hid hsrc
     clear hsrc
     go_wp2_with (at_builtin; refine wpList_append_k rfl _ _ 23 23 rfl N 33 i0 (.agg #[.int .u8 0, .int .i64 0, .int .i64 0, .int .i64 0, .int .i64 0, .int .i64 0, .int .i64 0]) 7 56 Tryz.underlying23 hi hz0 hz1 hz2 rfl (by decide) _ j _ rfl Hown2.out (.slice (some ⟨W.heap.size, 0, none⟩) 1 1) 1 _ rfl Hsrc.out (by unfold maxLen; omega) (by omega) (by simp; omega) ?_; intro v' w2 hown' hgrow hdr hob)
     have hkd : kindC x.kind = 4 := by
      have := Hm.out
      unfold kindC
      (repeat' split) <;> omega
     have hfin := Fr2.out.grown hgrow (fun i hi hl => by
      have h1 := (Hown2.out.lt i hi).1
      rw [HN.out] at hl; omega)
     have hstp := stepCa Hx.out
     rw [hkd] at hstp
     refine ⟨⟨j + 1, by omega, by go_num, Lib.hid (by rw [hstp]; exact hown'), Lib.hid hfin⟩, ?_⟩
     simp [Go.RowKit.intOf]; omega
    ·by_cases hg : 200 < x.kind
     ·have d1 : decide (x.kind > 200) = true := decide_eq_true hg
      have d2 : decide (200 < x.kind) = true := decide_eq_true hg
      have HO2 := Lib.hid (Hoff.out (.int .u8 5)).1
      have FW2 := Lib.hid (Hoff.out (.int .u8 5)).2
      clear Hoff
      have hsrc := Src.newRow (P := Tryz.prog) (size := 7) (tx := 23) (ty := 33) (W.setCell ⟨ab, 0, none⟩ (.int .u8 5)) Tryz.underlying23 1 1 [.int .u8 5, .int .i64 (x.x.t % 16), .int .i64 (x.x.s % 5), .int .i64 (x.x.q % 32), .int .i64 (1 + x.x.o % 16), .int .i64 (x.x.t - x.x.o), .int .i64 (x.x.o % 20)] rfl (by simp [Value.oneCell'])
      have Hown2 := Lib.hid (HO2.out.alloc (.cells [Value.int .u8 5, .int .i64 (x.x.t % 16), .int .i64 (x.x.s % 5), .int .i64 (x.x.q % 32), .int .i64 (1 + x.x.o % 16), .int .i64 (x.x.t - x.x.o), .int .i64 (x.x.o % 20)].toArray 33))
      have Fr2 := Lib.hid (FW2.out.alloc (.cells [Value.int .u8 5, .int .i64 (x.x.t % 16), .int .i64 (x.x.s % 5), .int .i64 (x.x.q % 32), .int .i64 (1 + x.x.o % 16), .int .i64 (x.x.t - x.x.o), .int .i64 (x.x.o % 20)].toArray 33))
      have Hsrc := Lib.hid hsrc
      have hNW : N ≤ (W.setCell ⟨ab, 0, none⟩ (.int .u8 5)).heap.size := by rw [← HN.out]; exact FW2.out.size
      try simp only [World.size_setCell] at hsrc hNW
      have Hsrc := Lib.hid hsrc
      clear hsrc
      go_wp2_with (at_builtin; refine wpList_append_k rfl _ _ 23 23 rfl N 33 i0 (.agg #[.int .u8 0, .int .i64 0, .int .i64 0, .int .i64 0, .int .i64 0, .int .i64 0, .int .i64 0]) 7 56 Tryz.underlying23 hi hz0 hz1 hz2 rfl (by decide) _ j _ rfl Hown2.out (.slice (some ⟨W.heap.size, 0, none⟩) 1 1) 1 _ rfl Hsrc.out (by unfold maxLen; omega) (by omega) (by simp; omega) ?_; intro v' w2 hown' hgrow hdr hob)
      have hkd : kindC x.kind = 5 := by
       have := Hm.out
       unfold kindC
       (repeat' split) <;> omega
      have hfin := Fr2.out.grown hgrow (fun i hi hl => by
       have h1 := (Hown2.out.lt i hi).1
       rw [HN.out] at hl; omega)
      have hstp := stepCa Hx.out
      rw [hkd] at hstp
      refine ⟨⟨j + 1, by omega, by go_num, Lib.hid (by rw [hstp]; exact hown'), Lib.hid hfin⟩, ?_⟩
      simp [Go.RowKit.intOf]; omega
     ·have d1 : decide (x.kind > 200) = false := decide_eq_false hg
      have d2 : decide (200 < x.kind) = false := decide_eq_false hg
      have hsrc := Src.newRow (P := Tryz.prog) (size := 7) (tx := 23) (ty := 33) (W) Tryz.underlying23 1 1 [.int .u8 1, .int .i64 (x.x.t % 16), .int .i64 (x.x.s % 5), .int .i64 (x.x.q % 32), .int .i64 (1 + x.x.o % 16), .int .i64 (x.x.t - x.x.o), .int .i64 (x.x.o % 20)] rfl (by simp [Value.oneCell'])
      have Hown2 := Lib.hid (HO2.out.alloc (.cells [Value.int .u8 1, .int .i64 (x.x.t % 16), .int .i64 (x.x.s % 5), .int .i64 (x.x.q % 32), .int .i64 (1 + x.x.o % 16), .int .i64 (x.x.t - x.x.o), .int .i64 (x.x.o % 20)].toArray 33))
      have Fr2 := Lib.hid (FW2.out.alloc (.cells [Value.int .u8 1, .int .i64 (x.x.t % 16), .int .i64 (x.x.s % 5), .int .i64 (x.x.q % 32), .int .i64 (1 + x.x.o % 16), .int .i64 (x.x.t - x.x.o), .int .i64 (x.x.o % 20)].toArray 33))
      have Hsrc := Lib.hid hsrc
      have hNW : N ≤ (W).heap.size := by rw [← HN.out]; exact FW2.out.size
      try simp only [World.size_setCell] at hsrc hNW
      have Hsrc := Lib.hid hsrc
      clear hsrc
      go_wp2_with (at_builtin; refine wpList_append_k rfl _ _ 23 23 rfl N 33 i0 (.agg #[.int .u8 0, .int .i64 0, .int .i64 0, .int .i64 0, .int .i64 0, .int .i64 0, .int .i64 0]) 7 56 Tryz.underlying23 hi hz0 hz1 hz2 rfl (by decide) _ j _ rfl Hown2.out (.slice (some ⟨W.heap.size, 0, none⟩) 1 1) 1 _ rfl Hsrc.out (by unfold maxLen; omega) (by omega) (by simp; omega) ?_; intro v' w2 hown' hgrow hdr hob)
      have hkd : kindC x.kind = 1 := by
       have := Hm.out
       unfold kindC
       (repeat' split) <;> omega
      have hfin := Fr2.out.grown hgrow (fun i hi hl => by
       have h1 := (Hown2.out.lt i hi).1
       rw [HN.out] at hl; omega)
      have hstp := stepCa Hx.out
      rw [hkd] at hstp
      refine ⟨⟨j + 1, by omega, by go_num, Lib.hid (by rw [hstp]; exact hown'), Lib.hid hfin⟩, ?_⟩
      simp [Go.RowKit.intOf]; omega
    ·have e0 : (m == 0) = false := beq_eq_false_iff_ne.2 (by omega)
     have e1 : (m == 1) = false := beq_eq_false_iff_ne.2 (by omega)
     have e2 : (m == 2) = false := beq_eq_false_iff_ne.2 (by omega)
     have e3 : (m == 3) = false := beq_eq_false_iff_ne.2 (by omega)
     have e4 : (m == 4) = false := beq_eq_false_iff_ne.2 (by omega)
     have e5 : (m == 5) = false := beq_eq_false_iff_ne.2 (by omega)
     have e6 : (m == 6) = false := beq_eq_false_iff_ne.2 (by omega)
     have hsrc := Src.newRow (P := Tryz.prog) (size := 7) (tx := 23) (ty := 33) (W) Tryz.underlying23 1 1 [.int .u8 1, .int .i64 (x.x.t % 16), .int .i64 (x.x.s % 5), .int .i64 (x.x.q % 32), .int .i64 (1 + x.x.o % 16), .int .i64 (x.x.t - x.x.o), .int .i64 (x.x.o % 20)] rfl (by simp [Value.oneCell'])
     have Hown2 := Lib.hid (HO2.out.alloc (.cells [Value.int .u8 1, .int .i64 (x.x.t % 16), .int .i64 (x.x.s % 5), .int .i64 (x.x.q % 32), .int .i64 (1 + x.x.o % 16), .int .i64 (x.x.t - x.x.o), .int .i64 (x.x.o % 20)].toArray 33))
     have Fr2 := Lib.hid (FW2.out.alloc (.cells [Value.int .u8 1, .int .i64 (x.x.t % 16), .int .i64 (x.x.s % 5), .int .i64 (x.x.q % 32), .int .i64 (1 + x.x.o % 16), .int .i64 (x.x.t - x.x.o), .int .i64 (x.x.o % 20)].toArray 33))
     have Hsrc := Lib.hid hsrc
     have hNW : N ≤ (W).heap.size := by rw [← HN.out]; exact FW2.out.size
     try simp only [World.size_setCell] at hsrc hNW
     have Hsrc := Lib.hid hsrc
     clear hsrc
     go_wp2_with (at_builtin; refine wpList_append_k rfl _ _ 23 23 rfl N 33 i0 (.agg #[.int .u8 0, .int .i64 0, .int .i64 0, .int .i64 0, .int .i64 0, .int .i64 0, .int .i64 0]) 7 56 Tryz.underlying23 hi hz0 hz1 hz2 rfl (by decide) _ j _ rfl Hown2.out (.slice (some ⟨W.heap.size, 0, none⟩) 1 1) 1 _ rfl Hsrc.out (by unfold maxLen; omega) (by omega) (by simp; omega) ?_; intro v' w2 hown' hgrow hdr hob)
     have hkd : kindC x.kind = 1 := by
      have := Hm.out
      unfold kindC
      (repeat' split) <;> omega
     have hfin := Fr2.out.grown hgrow (fun i hi hl => by
      have h1 := (Hown2.out.lt i hi).1
      rw [HN.out] at hl; omega)
     have hstp := stepCa Hx.out
     rw [hkd] at hstp
     refine ⟨⟨j + 1, by omega, by go_num, Lib.hid (by rw [hstp]; exact hown'), Lib.hid hfin⟩, ?_⟩
     simp [Go.RowKit.intOf]; omega
   ·refine wp_region_held_drew (S := fun W' => Fr0 none' W1 W') (by kernel_rfl) ((Fr0.refl none' W1).drew) (fun hHeld => ?_)
    generalize W1.drew = WD at hHeld ⊢
    refine tkn (i := 0) (v := .pointer (some ⟨xb, 1, none⟩)) (fun W' hSW => ?_) ?_
    ·obtain ⟨z0, z1, z2, z3, z4, z5⟩ := HZ.out W' hSW
     first | (go_simp; done) | exact rfl | (go_simp; rfl) | (go_simp; omega)
    try simp only [pUt, pUn, sEt, sEz, sEs]
    refine tkn (i := 1) (v := .agg #[.int .u8 x.x.t, .int .u8 x.x.s, .int .u8 x.x.q, .int .u8 x.x.o, .int .u8 x.x.l]) (fun W' hSW => ?_) ?_
    ·obtain ⟨z0, z1, z2, z3, z4, z5⟩ := HZ.out W' hSW
     first | (go_simp; done) | exact rfl | (go_simp; rfl) | (go_simp; omega)
    try simp only [pUt, pUn, sEt, sEz, sEs]
    refine tkn (i := 3) (v := .pointer (some ⟨xb, 1, none⟩)) (fun W' hSW => ?_) ?_
    ·first | (go_simp; done) | exact rfl | (go_simp; rfl) | (go_simp; omega)
    try simp only [pUt, pUn, sEt, sEz, sEs]
    refine tkn (i := 4) (v := .pointer (some ⟨xb, 4, none⟩)) (fun W' hSW => ?_) ?_
    ·first | (go_simp; done) | exact rfl | (go_simp; rfl) | (go_simp; omega)
    try simp only [pUt, pUn, sEt, sEz, sEs]
    refine tkn (i := 5) (v := .int .u8 x.x.o) (fun W' hSW => ?_) ?_
    ·obtain ⟨z0, z1, z2, z3, z4, z5⟩ := HZ.out W' hSW
     first | (go_simp; done) | exact rfl | (go_simp; rfl) | (go_simp; omega)
    try simp only [pUt, pUn, sEt, sEz, sEs]
    refine tkn (i := 6) (v := .int .u8 (x.x.o % 20)) (fun W' hSW => ?_) ?_
    ·first | (go_simp; done) | exact rfl | (go_simp; rfl) | (go_simp; omega)
    try simp only [pUt, pUn, sEt, sEz, sEs]
    refine tkn (i := 7) (v := .int .i64 (x.x.o % 20)) (fun W' hSW => ?_) ?_
    ·first | (go_simp; done) | exact rfl | (go_simp; rfl) | (go_simp; omega)
    try simp only [pUt, pUn, sEt, sEz, sEs]
    refine wpAnyH_ready (rs := [2, 9]) (by kernel_rfl) (by simp) (AllReadyH.cons (op_at rfl) (fun K hK => ?_) (AllReadyH.cons (op_at rfl) (fun K hK => ?_) AllReadyH.nil))
    ·rw [if_pos (by kernel_rfl)]
     go_simp
     refine (HM.out _).mono ?_
     rintro e WA ⟨rfl, hf⟩
     have hHeld := hHeld.trans hf
     clear hf
     go_wp2_with fail
     refine hK.out _ _ hHeld (fun hS => ?_)
     clear hK K
     try simp only [pUt, pUn, sEt, sEz, sEs]
     refine tkn (i := 8) (v := .agg #[.int .u8 1, .int .i64 (x.x.t % 16), .int .i64 (x.x.s % 5), .int .i64 (x.x.q % 32), .int .i64 (1 + x.x.o % 16), .int .i64 (x.x.t - x.x.o), .int .i64 (x.x.o % 20)]) (fun W' hSW => ?_) ?_
     ·first | (go_simp; done) | exact rfl | (go_simp; rfl) | (go_simp; omega)
     try simp only [pUt, pUn, sEt, sEz, sEs]
     refine take_call (i := 9) rfl (by kernel_rfl) (by kernel_rfl) (fun K hK => ?_)
     go_simp
     obtain ⟨ab, hab⟩ : ∃ b, WA.heap.size = b := ⟨_, rfl⟩
     obtain ⟨VB, hVA⟩ : ∃ V, WA.alloc (.cells #[.int .u8 0, .int .i64 0, .int .i64 0, .int .i64 0, .int .i64 0, .int .i64 0, .int .i64 0] 33) = V := ⟨_, rfl⟩
     have hfA : Fr0 none' WA VB := by rw [← hVA]; exact (Fr0.refl _ _).alloc _
     have HB0 := Lib.hid (show VB.heap[ab]? = some (.cells #[.int .u8 0, .int .i64 0, .int .i64 0, .int .i64 0, .int .i64 0, .int .i64 0, .int .i64 0] 33 (0, 0)) by rw [← hVA, ← hab]; exact World.alloc_heap_new _ _)
     have Hab := Lib.hid (show W1.heap.size ≤ ab by rw [← hab]; exact hHeld.size)
     have hHeld := hHeld.trans hfA
     rw [hVA]
     try rw [hab]
     clear hVA hab hfA
     refine hK.out _ _ hHeld (fun hS => ?_)
     clear hK K
     try simp only [pUt, pUn, sEt, sEz, sEs]
     have b0 := cells_in HB0.out 0
     have b1 := cells_in HB0.out 1
     have b2 := cells_in HB0.out 2
     have b3 := cells_in HB0.out 3
     have b4 := cells_in HB0.out 4
     have b5 := cells_in HB0.out 5
     have b6 := cells_in HB0.out 6
     simp at b0 b1 b2 b3 b4 b5 b6
     have u0 := thaw_in HB0.out 0
     have u1 := thaw_in HB0.out 1
     have u2 := thaw_in HB0.out 2
     have u3 := thaw_in HB0.out 3
     have u4 := thaw_in HB0.out 4
     have u5 := thaw_in HB0.out 5
     have u6 := thaw_in HB0.out 6
     refine take_call (i := 10) rfl (by kernel_rfl) (by kernel_rfl) (fun K hK => ?_)
     go_simp
     have h7 := set7_at HB0.out (.int .u8 1) (.int .i64 (x.x.t % 16)) (.int .i64 (x.x.s % 5)) (.int .i64 (x.x.q % 32)) (.int .i64 (1 + x.x.o % 16)) (.int .i64 (x.x.t - x.x.o)) (.int .i64 (x.x.o % 20))
     have f7 := set7_fr (S := none') (w := W1) hHeld (b := ab) (fun h => absurd h (by have := Hab.out; omega)) (.int .u8 1) (.int .i64 (x.x.t % 16)) (.int .i64 (x.x.s % 5)) (.int .i64 (x.x.q % 32)) (.int .i64 (1 + x.x.o % 16)) (.int .i64 (x.x.t - x.x.o)) (.int .i64 (x.x.o % 20))
     have H7 := Lib.hid h7
     have F7 := Lib.hid f7
     clear b0 b1 b2 b3 b4 b5 b6 u0 u1 u2 u3 u4 u5 u6 h7 f7
     refine hK.out _ _ F7.out (fun hS => ?_)
     clear hK K
     try simp only [pUt, pUn, sEt, sEz, sEs]
     refine wpAnyH_done (by kernel_rfl) ?_ _
     simp only [Exit.then]
     have hU := hT (fun i => [.pointer (some ⟨xb, 1, none⟩), .agg #[.int .u8 x.x.t, .int .u8 x.x.s, .int .u8 x.x.q, .int .u8 x.x.o, .int .u8 x.x.l], .agg #[.int .i64 (x.x.t % 16), .int .i64 (x.x.s % 5), .int .i64 (x.x.q % 32), .int .i64 (1 + x.x.o % 16), .int .i64 (x.x.t - x.x.o)], .pointer (some ⟨xb, 1, none⟩), .pointer (some ⟨xb, 4, none⟩), .int .u8 x.x.o, .int .u8 (x.x.o % 20), .int .i64 (x.x.o % 20), .agg #[.int .u8 1, .int .i64 (x.x.t % 16), .int .i64 (x.x.s % 5), .int .i64 (x.x.q % 32), .int .i64 (1 + x.x.o % 16), .int .i64 (x.x.t - x.x.o), .int .i64 (x.x.o % 20)]].getD i undef, ab) _ ⟨H7.out, Hab.out, F7.out⟩
     simp only [List.foldl, Act.put, List.setIfInBounds_toArray, List.set_cons_zero, List.set_cons_succ, List.getD_cons_zero, List.getD_cons_succ] at hU
     exact hU
    ·rw [if_pos (by kernel_rfl)]
     go_simp
     obtain ⟨ab, hab⟩ : ∃ b, WD.heap.size = b := ⟨_, rfl⟩
     obtain ⟨VB, hVA⟩ : ∃ V, WD.alloc (.cells #[.int .u8 0, .int .i64 0, .int .i64 0, .int .i64 0, .int .i64 0, .int .i64 0, .int .i64 0] 33) = V := ⟨_, rfl⟩
     have hfA : Fr0 none' WD VB := by rw [← hVA]; exact (Fr0.refl _ _).alloc _
     have HB0 := Lib.hid (show VB.heap[ab]? = some (.cells #[.int .u8 0, .int .i64 0, .int .i64 0, .int .i64 0, .int .i64 0, .int .i64 0, .int .i64 0] 33 (0, 0)) by rw [← hVA, ← hab]; exact World.alloc_heap_new _ _)
     have Hab := Lib.hid (show W1.heap.size ≤ ab by rw [← hab]; exact hHeld.size)
     have hHeld := hHeld.trans hfA
     rw [hVA]
     try rw [hab]
     clear hVA hab hfA
     refine hK.out _ _ hHeld (fun hS => ?_)
     clear hK K
     try simp only [pUt, pUn, sEt, sEz, sEs]
     refine take_call (i := 2) rfl (by kernel_rfl) (by kernel_rfl) (fun K hK => ?_)
     go_simp
     refine (HM.out _).mono ?_
     rintro e WA ⟨rfl, hf⟩
     have hHeld := hHeld.trans hf
     have HB0 := Lib.hid ((hf.block ab (Array.getElem?_eq_some_iff.1 HB0.out).1 id).trans HB0.out)
     clear hf
     go_wp2_with fail
     refine hK.out _ _ hHeld (fun hS => ?_)
     clear hK K
     try simp only [pUt, pUn, sEt, sEz, sEs]
     refine tkn (i := 8) (v := .agg #[.int .u8 1, .int .i64 (x.x.t % 16), .int .i64 (x.x.s % 5), .int .i64 (x.x.q % 32), .int .i64 (1 + x.x.o % 16), .int .i64 (x.x.t - x.x.o), .int .i64 (x.x.o % 20)]) (fun W' hSW => ?_) ?_
     ·first | (go_simp; done) | exact rfl | (go_simp; rfl) | (go_simp; omega)
     try simp only [pUt, pUn, sEt, sEz, sEs]
     have b0 := cells_in HB0.out 0
     have b1 := cells_in HB0.out 1
     have b2 := cells_in HB0.out 2
     have b3 := cells_in HB0.out 3
     have b4 := cells_in HB0.out 4
     have b5 := cells_in HB0.out 5
     have b6 := cells_in HB0.out 6
     simp at b0 b1 b2 b3 b4 b5 b6
     have u0 := thaw_in HB0.out 0
     have u1 := thaw_in HB0.out 1
     have u2 := thaw_in HB0.out 2
     have u3 := thaw_in HB0.out 3
     have u4 := thaw_in HB0.out 4
     have u5 := thaw_in HB0.out 5
     have u6 := thaw_in HB0.out 6
     refine take_call (i := 10) rfl (by kernel_rfl) (by kernel_rfl) (fun K hK => ?_)
     go_simp
     have h7 := set7_at HB0.out (.int .u8 1) (.int .i64 (x.x.t % 16)) (.int .i64 (x.x.s % 5)) (.int .i64 (x.x.q % 32)) (.int .i64 (1 + x.x.o % 16)) (.int .i64 (x.x.t - x.x.o)) (.int .i64 (x.x.o % 20))
     have f7 := set7_fr (S := none') (w := W1) hHeld (b := ab) (fun h => absurd h (by have := Hab.out; omega)) (.int .u8 1) (.int .i64 (x.x.t % 16)) (.int .i64 (x.x.s % 5)) (.int .i64 (x.x.q % 32)) (.int .i64 (1 + x.x.o % 16)) (.int .i64 (x.x.t - x.x.o)) (.int .i64 (x.x.o % 20))
     have H7 := Lib.hid h7
     have F7 := Lib.hid f7
     clear b0 b1 b2 b3 b4 b5 b6 u0 u1 u2 u3 u4 u5 u6 h7 f7
     refine hK.out _ _ F7.out (fun hS => ?_)
     clear hK K
     try simp only [pUt, pUn, sEt, sEz, sEs]
     refine wpAnyH_done (by kernel_rfl) ?_ _
     simp only [Exit.then]
     have hU := hT (fun i => [.pointer (some ⟨xb, 1, none⟩), .agg #[.int .u8 x.x.t, .int .u8 x.x.s, .int .u8 x.x.q, .int .u8 x.x.o, .int .u8 x.x.l], .agg #[.int .i64 (x.x.t % 16), .int .i64 (x.x.s % 5), .int .i64 (x.x.q % 32), .int .i64 (1 + x.x.o % 16), .int .i64 (x.x.t - x.x.o)], .pointer (some ⟨xb, 1, none⟩), .pointer (some ⟨xb, 4, none⟩), .int .u8 x.x.o, .int .u8 (x.x.o % 20), .int .i64 (x.x.o % 20), .agg #[.int .u8 1, .int .i64 (x.x.t % 16), .int .i64 (x.x.s % 5), .int .i64 (x.x.q % 32), .int .i64 (1 + x.x.o % 16), .int .i64 (x.x.t - x.x.o), .int .i64 (x.x.o % 20)]].getD i undef, ab) _ ⟨H7.out, Hab.out, F7.out⟩
     simp only [List.foldl, Act.put, List.setIfInBounds_toArray, List.set_cons_zero, List.set_cons_succ, List.getD_cons_zero, List.getD_cons_succ] at hU
     exact hU
  ·have hjk : j = k := by omega
   subst hjk
   have htk : L.take j = L.take most := by
    have := HK.out
    by_cases h : n ≤ most
    ·rw [List.take_of_length_le (by rw [Hl.out]; omega), List.take_of_length_le (by rw [Hl.out]; omega)]
    ·rw [show j = most by omega]
   have hle : ((L.take most).map actC).length = j := by
    have := HK.out
    rw [List.length_map, List.length_take, Hl.out]; omega
   have Hfin := Lib.hid (show wr.ownsRow N 33 7 u5 ((L.take most).map actC).length (flatCa ((L.take most).map actC)) by rw [hle, ← htk]; exact hown.out)
   clear hown htk hle
   go_wp2_with fail
   go_ret
   exact ⟨_, rfl, Hfin.out, hfr.out⟩
end Go.Proofs.YtieeloealklkgaaGreat

/-
  alike: what acts told, compared.
-/
namespace Go.Proofs.YtieeloealklkgaaGreat
open Go Go.RowKit
attribute [local go_sem ↓] Go.wp_at_zero Go.wp_at_succ
attribute [local go_sem] Oper.semAt_some wide_fn wide_depth wide_fnR wide_depthR

theorem tl_eq (x y : Td) : decide (x.tl = y.tl) = ((x.err == y.err) && decide (x.evs = y.evs)) := by
 unfold Td.tl
 rw [Bool.eq_iff_iff]
 simp
set_option maxRecDepth 100000 in
set_option maxHeartbeats 2000000 in
theorem alikeOne_any {w : World} (x y : Td) (hx : EsIn w x.sa x.evs) (hy : EsIn w y.sa y.evs) (hxl : x.evs.length = x.sn) (hyl : y.evs.length = y.sn) (hxm : x.sn ≤ 10000) (hym : y.sn ≤ 10000) :
  Calls Tryz.prog 50 #[x.val, y.val] w fun e w' => e = .returned (.bool (decide (x.tl = y.tl))) ∧ Fr0 none' w w' := by
 have HS := Lib.hid (fun (W : World) (hf : Fr0 none' w W) => Same_any x.sa y.sa x.sn y.sn x.sc y.sc x.evs y.evs W hxl hyl (by omega) (by omega) (hx.later hf) (hy.later hf))
 rw [tl_eq]
 obtain ⟨b, hb⟩ : ∃ b, decide (x.evs = y.evs) = b := ⟨_, rfl⟩
 rw [hb] at HS ⊢
 obtain ⟨c, hc⟩ : ∃ c, (x.err == y.err) = c := ⟨_, rfl⟩
 rw [hc]
 clear hx hy hxl hyl hb
 unfold Td.val
 cases c with
 | false =>
  go_enter Tryz.func50, Tryz.ntmps50
  go_wp2_with fail
  go_ret
  exact ⟨rfl, ((Fr0.refl _ _).alloc _).alloc _⟩
 | true =>
  go_enter Tryz.func50, Tryz.ntmps50
  go_wp2_with fail
  refine (HS.out _ (((Fr0.refl _ _).alloc _).alloc _)).mono ?_
  rintro e w1 ⟨rfl, hf⟩
  have F := Lib.hid ((((Fr0.refl none' w).alloc _).alloc _).trans hf)
  clear hf
  go_wp2_with fail
  go_ret
  exact ⟨rfl, F.out⟩
/-- What was told, its events in memory. -/
def TdEv (w : World) (xs : List Td) : Prop := ∀ x ∈ xs, EsIn w x.sa x.evs ∧ x.evs.length = x.sn ∧ x.sn ≤ 10000
theorem TdEv.later {w w' : World} {xs : List Td} (h : TdEv w xs) (hf : Fr0 none' w w') : TdEv w' xs := fun x hx => ⟨(h x hx).1.later hf, (h x hx).2⟩
set_option maxRecDepth 100000 in
set_option maxHeartbeats 2000000 in
theorem equalTd_any (a a' : Option Addr) (n n' cap cap' : Nat) (xs ys : List Td) (w : World) (hn : xs.length = n) (hn' : ys.length = n') (hm : n ≤ 1000000) (hm' : n' ≤ 1000000)
  (hc : TdsIn w a xs) (hc' : TdsIn w a' ys) (he : TdEv w xs) (he' : TdEv w ys) :
  Calls Tryz.prog 49 #[.slice a n cap, .slice a' n' cap', .func (.func 50) #[] #[]] w fun e w' => e = .returned (.bool (decide (xs.map Td.tl = ys.map Td.tl))) ∧ Fr0 none' w w' := by
 obtain ⟨R, hR⟩ : ∃ R, decide (xs.map Td.tl = ys.map Td.tl) = R := ⟨_, rfl⟩
 rw [hR]
 have HR := Lib.hid hR
 have Hn := Lib.hid hn
 have Hn' := Lib.hid hn'
 have Hc := Lib.hid hc
 have Hc' := Lib.hid hc'
 have He := Lib.hid he
 have He' := Lib.hid he'
 clear hR hn hn' hc hc' he he'
 by_cases hnn : n = n'
 ·subst hnn
  have d0 : ((n : Int) != (n : Int)) = false := by simp
  go_enter Tryz.func49, Tryz.ntmps49
  go_wp2_with fail
  go_loopw [17] (fun i wr => ∃ k : Nat, k ≤ n ∧ i = .int .i64 k ∧ Hid ((xs.map Td.tl).take k = (ys.map Td.tl).take k) ∧ Hid (Fr0 none' w wr)) (fun i _ => n - (Go.RowKit.intOf i).toNat)
  case atStart => exact ⟨0, Nat.zero_le _, rfl, rfl, Fr0.refl _ _⟩
  case round =>
   obtain ⟨k, hk, rfl, hpre, hb⟩ := hrel
   by_cases hlt : k < n
   ·obtain ⟨x, hx⟩ : ∃ x, xs[k]? = some x := ⟨_, List.getElem?_eq_getElem (by rw [Hn.out]; exact hlt)⟩
    obtain ⟨y, hy⟩ : ∃ y, ys[k]? = some y := ⟨_, List.getElem?_eq_getElem (by rw [Hn'.out]; exact hlt)⟩
    obtain ⟨g, o, rfl, hcx⟩ := (Hc.out.later hb.out) k x hx
    obtain ⟨g', o', rfl, hcy⟩ := (Hc'.out.later hb.out) k y hy
    obtain ⟨x0, x1⟩ := hcx
    obtain ⟨y0, y1⟩ := hcy
    have c1 : (0 : Int) ≤ (k : Int) := by omega
    have c2 : (k : Int) < (n : Int) := by omega
    obtain ⟨W1, hW1⟩ : ∃ V, wr.alloc (.cells #[.int .i64 x.err, .slice x.sa x.sn x.sc] 56) = V := ⟨_, rfl⟩
    have f1 : Fr0 none' wr W1 := by rw [← hW1]; exact (Fr0.refl _ _).alloc _
    have y2 := f1.later y0
    have y3 := f1.later y1
    obtain ⟨W2, hW2⟩ : ∃ V, W1.alloc (.cells #[.int .i64 y.err, .slice y.sa y.sn y.sc] 56) = V := ⟨_, rfl⟩
    have f2 : Fr0 none' W1 W2 := by rw [← hW2]; exact (Fr0.refl _ _).alloc _
    have b1 : W1.heap[wr.heap.size]? = some (.cells #[.int .i64 x.err, .slice x.sa x.sn x.sc] 56 (0, 0)) := by rw [← hW1]; exact World.alloc_heap_new _ _
    have b2 : W2.heap[W1.heap.size]? = some (.cells #[.int .i64 y.err, .slice y.sa y.sn y.sc] 56 (0, 0)) := by rw [← hW2]; exact World.alloc_heap_new _ _
    have b3 := (f2.block wr.heap.size (Array.getElem?_eq_some_iff.1 b1).1 id).trans b1
    have t0 := cells_in b3 0
    have t1 := cells_in b3 1
    have s0 := cells_in b2 0
    have s1 := cells_in b2 1
    simp at t0 t1 s0 s1
    have F2 := Lib.hid ((hb.out.trans f1).trans f2)
    have hex := He.out x (List.mem_of_getElem? hx)
    have hey := He'.out y (List.mem_of_getElem? hy)
    have HA := Lib.hid (alikeOne_any x y (hex.1.later F2.out) (hey.1.later F2.out) hex.2.1 hey.2.1 hex.2.2 hey.2.2)
    unfold Td.val at HA
    have hx' := Lib.hid hx
    have hy' := Lib.hid hy
    clear hx hy hex hey b1 b2 b3 f1 f2
    by_cases hxy : x.tl = y.tl
    ·rw [show decide (x.tl = y.tl) = true from decide_eq_true hxy] at HA
     have hnext := Lib.hid (show (xs.map Td.tl).take (k + 1) = (ys.map Td.tl).take (k + 1) by
      rw [List.take_add_one, List.take_add_one, hpre.out, List.getElem?_map, List.getElem?_map, hx'.out, hy'.out, Option.map_some, Option.map_some, hxy])
     clear hxy
     go_wp2_with fail
     refine HA.out.mono ?_
     rintro e w3 ⟨rfl, hf⟩
     have F3 := Lib.hid (F2.out.trans hf)
     clear hf
     go_wp2_with fail
     go_roundw
     case rel => exact ⟨k + 1, by omega, by go_num, hnext, F3⟩
     case measure => simp [Go.RowKit.intOf]; omega
    ·rw [show decide (x.tl = y.tl) = false from decide_eq_false hxy] at HA
     have hres : Hid (false = R) := by
      unfold Hid; rw [← HR.out]
      refine (decide_eq_false (fun h => hxy ?_)).symm
      have h1 := congrArg (fun l => l[k]?) h
      simp only [List.getElem?_map, hx'.out, hy'.out, Option.map_some] at h1
      exact Option.some.inj h1
     clear hxy
     go_wp2_with fail
     refine HA.out.mono ?_
     rintro e w3 ⟨rfl, hf⟩
     have F3 := Lib.hid (F2.out.trans hf)
     clear hf
     go_wp2_with fail
     go_ret
     exact ⟨ret_bool hres.out, F3.out⟩
   ·have hres : Hid (true = R) := by
     unfold Hid; rw [← HR.out]
     refine (decide_eq_true ?_).symm
     have := hpre.out
     rwa [List.take_of_length_le (by rw [List.length_map, Hn.out]; omega), List.take_of_length_le (by rw [List.length_map, Hn'.out]; omega)] at this
    go_wp2_with fail
    go_ret
    exact ⟨ret_bool hres.out, hb.out⟩
 ·have hres : Hid (false = R) := by
   unfold Hid; rw [← HR.out]
   refine (decide_eq_false (fun h => hnn ?_)).symm
   have := congrArg List.length h
   rw [List.length_map, List.length_map, Hn.out, Hn'.out] at this
   exact this
  have d0 : ((n : Int) != (n' : Int)) = true := by simp; omega
  clear hnn
  go_enter Tryz.func49, Tryz.ntmps49
  go_wp2_with fail
  go_ret
  exact ⟨ret_bool hres.out, Fr0.refl _ _⟩
set_option maxRecDepth 100000 in
theorem alike_any (a a' : Option Addr) (n n' cap cap' : Nat) (xs ys : List Td) (w : World) (hn : xs.length = n) (hn' : ys.length = n') (hm : n ≤ 1000000) (hm' : n' ≤ 1000000)
  (hc : TdsIn w a xs) (hc' : TdsIn w a' ys) (he : TdEv w xs) (he' : TdEv w ys) :
  Calls Tryz.prog 18 #[.slice a n cap, .slice a' n' cap'] w fun e w' => e = .returned (.bool (decide (xs.map Td.tl = ys.map Td.tl))) ∧ Fr0 none' w w' := by
 have HC := Lib.hid (equalTd_any a a' n n' cap cap' xs ys w hn hn' hm hm' hc hc' he he')
 obtain ⟨b, hb⟩ : ∃ b, decide (xs.map Td.tl = ys.map Td.tl) = b := ⟨_, rfl⟩
 rw [hb] at HC ⊢
 clear hn hn' hc hc' he he' hb
 go_enter Tryz.func18, Tryz.ntmps18
 go_wp2_with fail
 refine HC.out.mono ?_
 rintro e w1 ⟨rfl, hf⟩
 have F := Lib.hid hf
 clear hf
 go_wp2_with fail
 go_ret
 exact ⟨rfl, F.out⟩
end Go.Proofs.YtieeloealklkgaaGreat

/-
  A row of acts, read.
-/
namespace Go.Proofs.YtieeloealklkgaaGreat
open Go Go.RowKit

def caL (a : Ca) : List Value := [.int .u8 a.kind, .int .i64 a.x.key.time, .int .i64 a.x.key.source, .int .i64 a.x.key.seq, .int .i64 a.x.to, .int .i64 a.x.value, .int .i64 a.time]
theorem caL_len : ∀ a : Ca, (caL a).length = 7 := fun _ => rfl
theorem flatCa_length (L : List Ca) : (flatCa L).length = L.length * 7 := by
 induction L with
 | nil => rfl
 | cons x r ih =>
  have e : flatCa (x :: r) = caL x ++ flatCa r := rfl
  rw [e, List.length_append, ih, caL_len, List.length_cons]; omega
theorem CasIn.of_flat {w : World} {g o : Nat} {L : List Ca} (h : ∀ j u, (flatCa L)[j]? = some u → w.cell? ⟨g, o + j, none⟩ = some u) : CasIn w (some ⟨g, o, none⟩) L := fun i x hx => by
 refine ⟨g, o, rfl, ?_, ?_, ?_, ?_, ?_, ?_, ?_⟩
 ·exact h (i * 7) _ (flat_some caL_len hx (j := 0) (by omega) rfl)
 ·rw [Nat.add_assoc]; exact h (i * 7 + 1) _ (flat_some caL_len hx (j := 1) (by omega) rfl)
 ·rw [Nat.add_assoc]; exact h (i * 7 + 2) _ (flat_some caL_len hx (j := 2) (by omega) rfl)
 ·rw [Nat.add_assoc]; exact h (i * 7 + 3) _ (flat_some caL_len hx (j := 3) (by omega) rfl)
 ·rw [Nat.add_assoc]; exact h (i * 7 + 4) _ (flat_some caL_len hx (j := 4) (by omega) rfl)
 ·rw [Nat.add_assoc]; exact h (i * 7 + 5) _ (flat_some caL_len hx (j := 5) (by omega) rfl)
 ·rw [Nat.add_assoc]; exact h (i * 7 + 6) _ (flat_some caL_len hx (j := 6) (by omega) rfl)
theorem CasIn.of_own {w : World} {base : Nat} {v : Value} {n : Nat} {L : List Ca} (h : w.ownsRow base 33 7 v n (flatCa L)) : ∃ a cap, v = .slice a n cap ∧ L.length = n ∧ n ≤ cap ∧ CasIn w a L := by
 have hl : L.length = n := by have := h.1; rw [flatCa_length] at this; omega
 rcases h.2 with ⟨rfl, h0⟩ | ⟨g, cap, cur, rfl, hb, hg, hn', hcm, hs, ht⟩
 ·have : L = [] := List.eq_nil_of_length_eq_zero (by omega)
  subst this
  exact ⟨none, 0, by rw [h0], hl, by omega, fun i x h => by simp at h⟩
 ·exact ⟨_, cap, rfl, hl, hn', CasIn.of_flat (fun j u hj => by
   rw [Nat.zero_add, cells_in hg, ← Array.getElem?_toList]
   rw [← ht, List.getElem?_take] at hj
   split at hj
   ·exact hj
   ·cases hj)⟩
theorem CasIn.take {w : World} {a : Option Addr} {L : List Ca} (h : CasIn w a L) (i : Nat) : CasIn w a (L.take i) := fun j x hx => by
 rw [List.getElem?_take] at hx
 split at hx
 ·exact h j x hx
 ·cases hx
theorem CasIn.drop {w : World} {g o : Nat} {L : List Ca} (h : CasIn w (some ⟨g, o, none⟩) L) (i : Nat) : CasIn w (some ⟨g, o + i * 7, none⟩) (L.drop i) := fun j x hx => by
 rw [List.getElem?_drop] at hx
 obtain ⟨g', o', e, hc⟩ := h (i + j) x hx
 injection e with e
 injection e with e1 e2
 subst e1 e2
 refine ⟨g, o + i * 7, rfl, ?_⟩
 rw [show o + i * 7 + j * 7 = o + (i + j) * 7 by omega]
 exact hc
end Go.Proofs.YtieeloealklkgaaGreat

/-
  slices.Grow and slices.Concat at what was told.
-/
namespace Go.Proofs
open Go.Shelf
end Go.Proofs
namespace Go.Proofs.YtieeloealklkgaaGreat
open Go Go.RowKit
attribute [local go_sem ↓] Go.wp_at_zero Go.wp_at_succ
attribute [local go_sem] Oper.semAt_some wide_fn wide_depth wide_fnR wide_depthR

theorem flatTd_one (L : List Td) : ∀ v ∈ flatTd L, v.oneCell' = true := fun v hv => by
 simp only [flatTd, List.mem_flatMap] at hv
 obtain ⟨p, _, hv⟩ := hv
 simp only [Td.cells, List.mem_cons, List.not_mem_nil, or_false] at hv
 rcases hv with rfl | rfl <;> rfl
theorem TdsIn.flat {w : World} {g o : Nat} {L : List Td} (h : TdsIn w (some ⟨g, o, none⟩) L) (j : Nat) (u : Value) (hj : (flatTd L)[j]? = some u) : w.cell? ⟨g, o + j, none⟩ = some u := by
 have hlt : j < L.length * 2 := by rw [← flatTd_length]; exact (List.getElem?_eq_some_iff.1 hj).1
 have hk : j / 2 < L.length := by omega
 obtain ⟨g', o', e, c0, c1⟩ := h (j / 2) L[j / 2] (List.getElem?_eq_getElem hk)
 injection e with e
 injection e with e1 e2
 subst e1; subst e2
 have h3 := flat_at td_len L (j / 2) (j % 2) (by omega)
 rw [show j / 2 * 2 + j % 2 = j by omega, List.getElem?_eq_getElem hk] at h3
 have h3 : some u = (L[j / 2].cells)[j % 2]? := hj.symm.trans h3
 have : j % 2 = 0 ∨ j % 2 = 1 := by omega
 rcases this with h | h
 ·rw [h] at h3; rw [show o + j = o + j / 2 * 2 by omega, h3]; exact c0
 ·rw [h] at h3; rw [show o + j = o + j / 2 * 2 + 1 by omega, h3]; exact c1
theorem TdsIn.src {w : World} {a : Option Addr} {L : List Td} {n : Nat} (h : TdsIn w a L) (hn : L.length = n) (cap : Nat) {tx e' : TypeId} (hk : Tryz.prog.underlying tx = some (.slice e')) : Src Tryz.prog 2 tx (.slice a n cap) n (flatTd L) w := by
 cases a with
 | none =>
  have hL : L = [] := by
   clear hn
   cases L with
   | nil => rfl
   | cons p r => obtain ⟨g, o, e, _⟩ := h 0 p rfl; cases e
  subst hL
  have hn : 0 = n := hn
  subst hn
  exact Src.ofNil w hk cap
 | some ad =>
  refine Src.ofSlice w hk ad n cap (flatTd L) (by rw [flatTd_length, hn]) (fun j u hj => ?_) (flatTd_one L)
  obtain ⟨g, o, s⟩ := ad
  obtain ⟨p, hp⟩ : ∃ p, L[0]? = some p := by
   cases L with
   | nil => simp [flatTd] at hj
   | cons p r => exact ⟨p, rfl⟩
  obtain ⟨g', o', e, _⟩ := h 0 p hp
  cases e
  rw [Addr.add_lit]
  exact h.flat j u hj
/-- Two rows among the arguments. -/
structure TwoRowsT (w : World) (lb : Nat) (a1 a2 : Option Addr) (n1 n2 c1 c2 : Nat) (L1 L2 : List Td) : Prop where
 blk : w.heap[lb]? = some (.cells #[.slice a1 n1 c1, .slice a2 n2 c2] 44 (0, 0))
 r1 : TdsIn w a1 L1
 r2 : TdsIn w a2 L2
 l1 : L1.length = n1
 l2 : L2.length = n2
 m : n1 ≤ 400 ∧ n2 ≤ 400
theorem TwoRowsT.later {w w' : World} {lb : Nat} {a1 a2 : Option Addr} {n1 n2 c1 c2 : Nat} {L1 L2 : List Td} (h : TwoRowsT w lb a1 a2 n1 n2 c1 c2 L1 L2) (hf : Fr0 none' w w') : TwoRowsT w' lb a1 a2 n1 n2 c1 c2 L1 L2 :=
 ⟨(hf.block lb (Array.getElem?_eq_some_iff.1 h.blk).1 id).trans h.blk, h.r1.later hf, h.r2.later hf, h.l1, h.l2, h.m⟩
end Go.Proofs.YtieeloealklkgaaGreat

/-
  CalendarParts.
-/
namespace Go.Proofs.YtieeloealklkgaaGreat
open Go Go.RowKit
attribute [local go_sem ↓] Go.wp_at_zero Go.wp_at_succ
attribute [local go_sem] Oper.semAt_some wide_fn wide_depth wide_fnR wide_depthR

/-- Where the rest of a row of acts starts. -/
def dC (cap n : Nat) (a : Option Addr) : Option Addr := if cap = n then a else a.map (fun x => x.add (n * 7))
theorem casIn_nil (W : World) (a : Option Addr) : CasIn W a [] := fun i x hx => by simp at hx
theorem CasIn.rest {W : World} {a : Option Addr} {S : List Ca} (h : CasIn W a S) {cap : Nat} (hc : S.length ≤ cap) (n : Nat) : CasIn W (dC cap n a) (S.drop n) := by
 unfold dC
 split
 ·next e =>
  rw [List.drop_of_length_le (by omega)]
  exact casIn_nil W a
 ·cases a with
  | none =>
   intro i x hx
   rw [List.getElem?_drop] at hx
   obtain ⟨g, o, e, _⟩ := h _ x hx
   cases e
  | some A =>
   intro i x hx
   have hx' := hx
   rw [List.getElem?_drop] at hx'
   obtain ⟨g, o, e, _⟩ := h _ x hx'
   injection e with e
   subst e
   have h1 := h.drop n i x hx
   rw [Option.map_some, Addr.add_mid]
   exact h1
theorem esIn_nilC (W : World) (a : Option Addr) : EsIn W a [] := fun i x hx => by simp at hx
theorem kinds_acts (l : List Smc) : ∀ a ∈ l.map actC, 1 ≤ a.kind ∧ a.kind ≤ 5 := fun a ha => by
 obtain ⟨x, _, rfl⟩ := List.mem_map.1 ha
 exact kindC_ok x.kind
theorem kinds_wide {A : List Ca} (h : ∀ a ∈ A, 1 ≤ a.kind ∧ a.kind ≤ 5) : ∀ a ∈ A, 0 ≤ a.kind ∧ a.kind < 256 := fun a ha => by have := h a ha; omega
end Go.Proofs.YtieeloealklkgaaGreat

/-
  The reference's Sorted, Count, Times.
-/
namespace Go.Proofs.YtieeloealklkgaaGreat
open Go Go.RowKit
attribute [local go_sem ↓] Go.wp_at_zero Go.wp_at_succ
attribute [local go_sem] Oper.semAt_some wide_fn wide_depth wide_fnR wide_depthR

end Go.Proofs.YtieeloealklkgaaGreat

/-
  The reference of layer 10: Less, Right, at, with.
-/
namespace Go.Proofs.YtieeloealklkgaaGreat
open Go Go.RowKit
attribute [local go_sem ↓] Go.wp_at_zero Go.wp_at_succ
attribute [local go_sem] Oper.semAt_some wide_fn wide_depth wide_fnR wide_depthR

end Go.Proofs.YtieeloealklkgaaGreat

/-
  The reference of layer 10: Take, Find.
-/
namespace Go.Proofs.YtieeloealklkgaaGreat
open Go Go.RowKit
attribute [local go_sem ↓] Go.wp_at_zero Go.wp_at_succ
attribute [local go_sem] Oper.semAt_some wide_fn wide_depth wide_fnR wide_depthR

/-- A queue of the reference: its capacity, its events in a row that lies in the old one's block, or in a new one. -/
def RAt (w' : World) (a : Option Addr) (N : Nat) (c : Int) (E : List Ev) (v : Value) : Prop := ∃ a' cap, v = .agg #[.int .i64 c, .slice a' E.length cap] ∧ E.length ≤ cap ∧ EsIn w' a' E ∧ ∀ g o s, a' = some ⟨g, o, s⟩ → (∃ o' s', a = some ⟨g, o', s'⟩) ∨ (N ≤ g ∧ g < w'.heap.size)
theorem RAt.same {w w' : World} {a : Option Addr} {N cap : Nat} {c : Int} {E : List Ev} (h : EsIn w a E) (hf : Fr0 none' w w') (hc : E.length ≤ cap) : RAt w' a N c E (.agg #[.int .i64 c, .slice a E.length cap]) :=
 ⟨a, cap, rfl, hc, h.later hf, fun g o s e => .inl ⟨o, s, e⟩⟩
theorem RAt.own {w' : World} {a : Option Addr} {base N : Nat} {c : Int} {E : List Ev} {v : Value} (h : w'.ownsRow base 30 5 v E.length (flatEv E)) (hb : N ≤ base) : RAt w' a N c E (.agg #[.int .i64 c, v]) := by
 have hlt := h.lt
 have hcap : ∀ a' cap, v = .slice a' E.length cap → E.length ≤ cap := fun a' cap hv => by
  rcases h.2 with ⟨h0, h1⟩ | ⟨g, cap', cur, hv', _, _, hn, _⟩
  ·omega
  ·rw [hv] at hv'; injection hv' with _ _ h; omega
 have hown := h.2
 obtain ⟨a', cap, rfl, _, he⟩ := EsIn.of_own h
 refine ⟨a', cap, rfl, hcap a' cap rfl, he, fun g o s e => .inr ?_⟩
 rcases hown with ⟨h0, h1⟩ | ⟨g', cap', cur, hv', hg, _⟩
 ·injection h0 with h0 _ _
  rw [h0] at e; cases e
 ·injection hv' with h1 _ _
  rw [h1] at e
  injection e with e
  injection e with e1 _ _
  subst e1
  have := hlt g' (by rw [h1]; rfl)
  omega
theorem RAt.rest {w w' : World} {a : Option Addr} {N cap m : Nat} {c : Int} {E : List Ev} (h : EsIn w a E) (hl : E.length = m) (hf : Fr0 none' w w') (hc : m ≤ cap) (n : Nat) (hn : n ≤ m) : RAt w' a N c (E.drop n) (.agg #[.int .i64 c, .slice (dR cap n a) (m - n) (cap - n)]) := by
 subst hl
 refine ⟨dR cap n a, cap - n, by rw [List.length_drop], by rw [List.length_drop]; omega, (h.later hf).restR hc n, fun g o s e => .inl ?_⟩
 unfold dR at e
 split at e
 ·exact ⟨o, s, e⟩
 ·cases a with
  | none => cases e
  | some A =>
   rw [Option.map_some] at e
   injection e with e
   have hb : (A.add (n * 5)).block = A.block := by unfold Addr.add; split <;> rfl
   rw [e] at hb
   obtain ⟨g', o', s'⟩ := A
   simp only at hb
   subst hb
   exact ⟨o', s', rfl⟩
end Go.Proofs.YtieeloealklkgaaGreat

/-
  The reference of layer 10: Put.
-/
namespace Go.Proofs.YtieeloealklkgaaGreat
open Go Go.RowKit
attribute [local go_sem ↓] Go.wp_at_zero Go.wp_at_succ
attribute [local go_sem] Oper.semAt_some wide_fn wide_depth wide_fnR wide_depthR

/-- Where a queue of the reference lies behind a put: as before, or in a new row. -/
def PutAt (w' : World) (a : Option Addr) (N : Nat) (c : Int) (E E' : List Ev) (v : Value) : Prop := (E' = E ∧ RAt w' a N c E v) ∨ RAt w' none N c E' v
theorem PutAt.at {w' : World} {a : Option Addr} {N : Nat} {c : Int} {E E' : List Ev} {v : Value} (h : PutAt w' a N c E E' v) : RAt w' a N c E' v := by
 rcases h with ⟨rfl, h⟩ | ⟨a', cap, h1, h2, h3, h4⟩
 ·exact h
 ·exact ⟨a', cap, h1, h2, h3, fun g o s e => (h4 g o s e).elim (fun ⟨_, _, e⟩ => by cases e) .inr⟩
end Go.Proofs.YtieeloealklkgaaGreat

/-
  The reference of layer 10: PutAll.
-/
namespace Go.Proofs.YtieeloealklkgaaGreat
open Go Go.RowKit
attribute [local go_sem ↓] Go.wp_at_zero Go.wp_at_succ
attribute [local go_sem] Oper.semAt_some wide_fn wide_depth wide_fnR wide_depthR

theorem RAt.base {w1 w2 : World} {a a' : Option Addr} {N N' : Nat} {c : Int} {E : List Ev} {v : Value} (h : RAt w2 a' N' c E v) (h0 : ∀ g o s, a' = some ⟨g, o, s⟩ → (∃ o' s', a = some ⟨g, o', s'⟩) ∨ (N ≤ g ∧ g < w1.heap.size)) (hN : N ≤ N') (hs : w1.heap.size ≤ w2.heap.size) : RAt w2 a N c E v := by
 obtain ⟨b, cap, h1, h2, h3, h4⟩ := h
 refine ⟨b, cap, h1, h2, h3, fun g o s e => ?_⟩
 rcases h4 g o s e with ⟨o', s', e'⟩ | h5
 ·rcases h0 g o' s' e' with h6 | h6
  ·exact .inl h6
  ·exact .inr (by omega)
 ·exact .inr (by omega)
end Go.Proofs.YtieeloealklkgaaGreat

/-
  The reference of layer 12: Odd, Right.
-/
namespace Go.Proofs.YtieeloealklkgaaGreat
open Go Go.RowKit
attribute [local go_sem ↓] Go.wp_at_zero Go.wp_at_succ
attribute [local go_sem] Oper.semAt_some wide_fn wide_depth wide_fnR wide_depthR

end Go.Proofs.YtieeloealklkgaaGreat

/-
  The reference of layer 10: Cancel.
-/
namespace Go.Proofs.YtieeloealklkgaaGreat
open Go Go.RowKit
attribute [local go_sem ↓] Go.wp_at_zero Go.wp_at_succ
attribute [local go_sem] Oper.semAt_some wide_fn wide_depth wide_fnR wide_depthR

end Go.Proofs.YtieeloealklkgaaGreat

/-
  The reference of layer 10: TakeBefore (no text of the queue).
-/
namespace Go.Proofs.YtieeloealklkgaaGreat
open Go Go.RowKit
attribute [local go_sem ↓] Go.wp_at_zero Go.wp_at_succ
attribute [local go_sem] Oper.semAt_some wide_fn wide_depth wide_fnR wide_depthR

end Go.Proofs.YtieeloealklkgaaGreat

/-
  The reference of layer 12: act.
-/
namespace Go.Proofs.YtieeloealklkgaaGreat
open Go Go.RowKit
attribute [local go_sem ↓] Go.wp_at_zero Go.wp_at_succ
attribute [local go_sem] Oper.semAt_some wide_fn wide_depth wide_fnR wide_depthR

/-- Where a row of the reference lies, if it has events: in an old one's block, which has some too, or in a new one. -/
def FromE (a b : Option Addr) (N M : Nat) (E F : List Ev) : Prop := ∀ g o s, b = some ⟨g, o, s⟩ → F ≠ [] → ((∃ o' s', a = some ⟨g, o', s'⟩) ∧ E ≠ []) ∨ (N ≤ g ∧ g < M)
theorem FromE.nil (a b : Option Addr) (N M : Nat) (E : List Ev) : FromE a b N M E [] := fun g o s e h => absurd rfl h
theorem FromE.mono {a b : Option Addr} {N N' M M' : Nat} {E F : List Ev} (h : FromE a b N M E F) (hN : N' ≤ N) (hM : M ≤ M') : FromE a b N' M' E F := fun g o s e h0 => (h g o s e h0).imp id (fun h => by omega)
theorem FromE.trans {a b c : Option Addr} {N N' M M' : Nat} {E F G : List Ev} (h : FromE a b N M E F) (h2 : FromE b c N' M' F G) (hN : N ≤ N') (hM : M ≤ M') : FromE a c N M' E G := fun g o s e h0 => by
 rcases h2 g o s e h0 with ⟨⟨o', s', e'⟩, h1⟩ | h3
 ·exact (h g o' s' e' h1).imp id (fun h => by omega)
 ·exact .inr (by omega)
theorem FromE.of {a b : Option Addr} {w' : World} {N N' : Nat} {E F : List Ev} (h : ∀ g o s, b = some ⟨g, o, s⟩ → (∃ o' s', a = some ⟨g, o', s'⟩) ∨ (N ≤ g ∧ g < w'.heap.size)) (hE : F ≠ [] → E ≠ []) (hN : N' ≤ N) : FromE a b N' w'.heap.size E F := fun g o s e h0 => (h g o s e).imp (fun h => ⟨h, hE h0⟩) (fun h => by omega)
theorem EsIn.off {S : Nat → Prop} {w w' : World} {a : Option Addr} {F : List Ev} (h : EsIn w a F) (hf : Fr0 S w w') (hS : ∀ g o s, a = some ⟨g, o, s⟩ → F ≠ [] → ¬ S g) : EsIn w' a F := by
 cases F with
 | nil => exact fun i x hx => by simp at hx
 | cons x r => exact h.fr0 hf (fun g o s e => hS g o s e (by simp))
/-- The boxes of act. -/
structure ActB (W : World) (N n : Nat) (a : Option Addr) (m cap : Nat) (x : Ca) : Prop where
 b0 : W.heap[N]? = some (.cells #[.int .i64 n, .slice a m cap] 128 (0, 0))
 b1 : W.heap[N + 1]? = some (.cells #[.int .u8 x.kind, .int .i64 x.x.key.time, .int .i64 x.x.key.source, .int .i64 x.x.key.seq, .int .i64 x.x.to, .int .i64 x.x.value, .int .i64 x.time] 75 (0, 0))
 b2 : W.heap[N + 1 + 1]? = some (.cells #[.int .i64 0, .slice none 0 0] 128 (0, 0))
 b3 : W.heap[N + 1 + 1 + 1]? = some (.cells #[.int .i64 0, .slice none 0 0] 130 (0, 0))
 b4 : W.heap[N + 1 + 1 + 1 + 1]? = some (.cells #[.int .i64 0, .int .i64 0, .int .i64 0, .int .i64 0, .int .i64 0] 30 (0, 0))
theorem ActB.later {W W' : World} {N n : Nat} {a : Option Addr} {m cap : Nat} {x : Ca} (h : ActB W N n a m cap x) (hf : Fr0 none' W W') : ActB W' N n a m cap x :=
 ⟨(hf.block _ (Array.getElem?_eq_some_iff.1 h.b0).1 id).trans h.b0, (hf.block _ (Array.getElem?_eq_some_iff.1 h.b1).1 id).trans h.b1, (hf.block _ (Array.getElem?_eq_some_iff.1 h.b2).1 id).trans h.b2, (hf.block _ (Array.getElem?_eq_some_iff.1 h.b3).1 id).trans h.b3, (hf.block _ (Array.getElem?_eq_some_iff.1 h.b4).1 id).trans h.b4⟩
end Go.Proofs.YtieeloealklkgaaGreat

/-
  The reference of layer 12: act, acts for the reference.
-/
namespace Go.Proofs.YtieeloealklkgaaGreat
open Go Go.RowKit
attribute [local go_sem ↓] Go.wp_at_zero Go.wp_at_succ
attribute [local go_sem] Oper.semAt_some wide_fn wide_depth wide_fnR wide_depthR

end Go.Proofs.YtieeloealklkgaaGreat

/-
  The reference of layer 12: Play.
-/
namespace Go.Proofs.YtieeloealklkgaaGreat
open Go Go.RowKit
attribute [local go_sem ↓] Go.wp_at_zero Go.wp_at_succ
attribute [local go_sem] Oper.semAt_some wide_fn wide_depth wide_fnR wide_depthR

/-- What was told, its events in memory, in an old row's block or behind N. -/
def RTds (w : World) (a : Option Addr) (N : Nat) (L : List Ev) (ys : List Td) : Prop := ∀ y ∈ ys, EsIn w y.sa y.evs ∧ y.sn = y.evs.length ∧ FromE a y.sa N w.heap.size L y.evs
theorem RTds.later {w w' : World} {a : Option Addr} {N : Nat} {L : List Ev} {ys : List Td} (h : RTds w a N L ys) (hf : Fr0 none' w w') : RTds w' a N L ys := fun y hy => ⟨(h y hy).1.later hf, (h y hy).2.1, (h y hy).2.2.mono (Nat.le_refl _) hf.size⟩
theorem RTds.nil (w : World) (a : Option Addr) (N : Nat) (L : List Ev) : RTds w a N L [] := fun y hy => by simp at hy
/-- The end of the reference's Play. -/
def EndRP (L : List Ev) (c : Int) (A : List Ca) (a : Option Addr) (w : World) (e : Ending) (w' : World) : Prop :=
 ∃ va vc u ys, e = .returned (.tuple #[.slice va (playC L c A).1.length vc, u, .int .i64 (playC L c A).2.2.1, .int .i64 (playC L c A).2.2.2]) ∧ (playC L c A).1.length ≤ vc ∧ EsIn w' va (playC L c A).1 ∧ FromE a va w.heap.size w'.heap.size L (playC L c A).1 ∧ w'.ownsRow w.heap.size 130 2 u (playC L c A).2.1.length (flatTd ys) ∧ ys.map Td.tl = (playC L c A).2.1 ∧ RTds w' a w.heap.size L ys ∧ Fr0 none' w w'
theorem EndRP.none {L : List Ev} {c : Int} {A : List Ca} {a : Option Addr} {w w' : World} {i f : Int} {e : Ending} (he : e = .returned (.tuple #[.slice none 0 0, .slice none 0 0, .int .i64 i, .int .i64 f])) (h : playC L c A = ([], [], i, f)) (hf : Fr0 none' w w') : EndRP L c A a w e w' := by
 unfold EndRP
 rw [h]
 exact ⟨Option.none, 0, _, [], he, Nat.le_refl _, fun i x hx => by simp at hx, FromE.nil _ _ _ _ _, World.ownsRow_nil _ _ _ _, rfl, RTds.nil _ _ _ _, hf⟩
/-- A row of events that is not in the row of what was told. -/
def OffRow (out : Value) (b : Option Addr) (F : List Ev) : Prop := ∀ g o s, b = some ⟨g, o, s⟩ → F ≠ [] → out.ownBlock ≠ some g
/-- Where the reference's Play stands. -/
structure RPl (w wr : World) (a : Option Addr) (n SB : Nat) (L E : List Ev) (va : Option Addr) (vc : Nat) (out : Value) (k : Nat) (ys : List Td) : Prop where
 bx : wr.heap[SB]? = some (.cells #[.int .i64 n, .slice va E.length vc] 128 (0, 0))
 cap : E.length ≤ vc
 es : EsIn wr va E
 fr : FromE a va (SB + 1) wr.heap.size L E
 row : wr.ownsRow (SB + 1) 130 2 out k (flatTd ys)
 tds : RTds wr a (SB + 1) L ys
 oe : OffRow out va E
 oy : ∀ y ∈ ys, OffRow out y.sa y.evs
 f : Fr0 none' w wr
theorem RPl.step {w wr W1 w3 W4 W5 w6 : World} {a va va' ya : Option Addr} {n SB vc vc' yc k : Nat} {L E E' evs : List Ev} {out out' : Value} {ys : List Td} {err : Int} (h : RPl w wr a n SB L E va vc out k ys) (hla : ∀ g o s, a = some ⟨g, o, s⟩ → L ≠ [] → g < w.heap.size) (hsb : w.heap.size ≤ SB)
  (f1 : Fr0 none' wr W1) (hs1 : W1.heap.size = wr.heap.size + 1) (f3 : Fr0 none' W1 w3) (hc' : E'.length ≤ vc') (he : EsIn w3 va' E') (hy : EsIn w3 ya evs) (fv : FromE va va' W1.heap.size w3.heap.size E E') (fy : FromE va ya W1.heap.size w3.heap.size E evs)
  (f4 : Fr0 (fun g => g = SB ∨ g = wr.heap.size) w3 W4) (b4 : W4.heap[SB]? = some (.cells #[.int .i64 n, .slice va' E'.length vc'] 128 (0, 0))) (f5 : Fr0 none' W4 W5)
  (f6 : Fr0 (fun g => out.ownBlock = some g) W5 w6) (row6 : w6.ownsRow (SB + 1) 130 2 out' (k + 1) (flatTd (ys ++ [⟨err, ya, evs.length, yc, evs⟩]))) (ob : ∀ g, out'.ownBlock = some g → out.ownBlock = some g ∨ W5.heap.size ≤ g) :
  RPl w w6 a n SB L E' va' vc' out' (k + 1) (ys ++ [⟨err, ya, evs.length, yc, evs⟩]) := by
 have hsz : SB < wr.heap.size := (Array.getElem?_eq_some_iff.1 h.bx).1
 have s3 := f3.size
 have s4 := f4.size
 have s5 := f5.size
 have s6 := f6.size
 have hw := h.f.size
 have hout : ∀ g, out.ownBlock = some g → SB + 1 ≤ g ∧ g < wr.heap.size := fun g hg => h.row.lt g hg
 have old : ∀ b F, FromE a b (SB + 1) wr.heap.size L F → ∀ g o s, b = some ⟨g, o, s⟩ → F ≠ [] → g ≠ SB ∧ g < wr.heap.size := fun b F hf g o s e h0 => by
  rcases hf g o s e h0 with ⟨⟨o', s', e'⟩, h1⟩ | h1
  ·have := hla g o' s' e' h1; omega
  ·omega
 have key : ∀ b F, FromE va b W1.heap.size w3.heap.size E F → ∀ g o s, b = some ⟨g, o, s⟩ → F ≠ [] → (g ≠ SB ∧ g ≠ wr.heap.size ∧ g < w3.heap.size) ∧ out.ownBlock ≠ some g := fun b F hf g o s e h0 => by
  rcases hf g o s e h0 with ⟨⟨o', s', e'⟩, h1⟩ | h1
  ·have := old va E h.fr g o' s' e' h1
   exact ⟨by omega, h.oe g o' s' e' h1⟩
  ·exact ⟨by omega, fun hg => by have := hout g hg; omega⟩
 have far : ∀ b F, EsIn w3 b F → FromE va b W1.heap.size w3.heap.size E F → EsIn w6 b F := fun b F hb hf => by
  have h4 := hb.off f4 (fun g o s e h0 hk => by have := (key b F hf g o s e h0).1; omega)
  exact (h4.later f5).off f6 (fun g o s e h0 hk => (key b F hf g o s e h0).2 hk)
 have from' : ∀ b F, FromE va b W1.heap.size w3.heap.size E F → FromE a b (SB + 1) w6.heap.size L F := fun b F hf => (h.fr.trans hf (by omega) (by omega)).mono (Nat.le_refl _) (by omega)
 have offn : ∀ b F, FromE va b W1.heap.size w3.heap.size E F → OffRow out' b F := fun b F hf g o s e h0 hg => by
  have hk := key b F hf g o s e h0
  rcases ob g hg with h1 | h1
  ·exact hk.2 h1
  ·omega
 have f13 : Fr0 none' wr w3 := f1.trans f3
 have hbn : out.ownBlock ≠ some SB := fun hg => by have := hout SB hg; omega
 refine ⟨?_, hc', far va' E' he fv, from' va' E' fv, row6, fun y hy' => ?_, offn va' E' fv, fun y hy' => ?_, ?_⟩
 ·have b5 := (f5.block SB (Array.getElem?_eq_some_iff.1 b4).1 id).trans b4
  exact (f6.block SB (Array.getElem?_eq_some_iff.1 b5).1 hbn).trans b5
 ·rcases List.mem_append.1 hy' with hy' | hy'
  ·obtain ⟨t1, t2, t3⟩ := h.tds y hy'
   have t4 := (t1.later f13).off f4 (fun g o s e h0 hk => by have := old y.sa y.evs t3 g o s e h0; omega)
   exact ⟨(t4.later f5).off f6 (fun g o s e h0 hk => h.oy y hy' g o s e h0 hk), t2, t3.mono (Nat.le_refl _) (by omega)⟩
  ·obtain rfl := List.mem_singleton.1 hy'
   exact ⟨far ya evs hy fy, rfl, from' ya evs fy⟩
 ·rcases List.mem_append.1 hy' with hy' | hy'
  ·intro g o s e h0 hg
   rcases ob g hg with h1 | h1
   ·exact h.oy y hy' g o s e h0 h1
   ·have := old y.sa y.evs (h.tds y hy').2.2 g o s e h0; omega
  ·obtain rfl := List.mem_singleton.1 hy'
   exact offn ya evs fy
 ·exact (((h.f.trans f13).trans' f4 (fun g hg hk => by exfalso; rcases hk with rfl | rfl <;> omega)).trans f5).trans' f6 (fun g hg hk => by exfalso; have := hout g hk; omega)
end Go.Proofs.YtieeloealklkgaaGreat

/-
  told: what acts told, compared with what the reference tells.
-/
namespace Go.Proofs.YtieeloealklkgaaGreat
open Go Go.RowKit
attribute [local go_sem ↓] Go.wp_at_zero Go.wp_at_succ
attribute [local go_sem] Oper.semAt_some wide_fn wide_depth wide_fnR wide_depthR

end Go.Proofs.YtieeloealklkgaaGreat

/-
  slices.Clone and slices.Equal at acts.
-/
namespace Go.Proofs.YtieeloealklkgaaGreat
open Go Go.RowKit
attribute [local go_sem ↓] Go.wp_at_zero Go.wp_at_succ
attribute [local go_sem] Oper.semAt_some wide_fn wide_depth wide_fnR wide_depthR

theorem flatCa_one (L : List Ca) : ∀ v ∈ flatCa L, v.oneCell' = true := fun v hv => by
 simp only [flatCa, List.mem_flatMap] at hv
 obtain ⟨p, _, hv⟩ := hv
 simp only [List.mem_cons, List.not_mem_nil, or_false] at hv
 rcases hv with rfl | rfl | rfl | rfl | rfl | rfl | rfl <;> rfl
theorem CasIn.flat {w : World} {g o : Nat} {L : List Ca} (h : CasIn w (some ⟨g, o, none⟩) L) (j : Nat) (u : Value) (hj : (flatCa L)[j]? = some u) : w.cell? ⟨g, o + j, none⟩ = some u := by
 have hlt : j < L.length * 7 := by rw [← flatCa_length]; exact (List.getElem?_eq_some_iff.1 hj).1
 have hk : j / 7 < L.length := by omega
 obtain ⟨g', o', e, c0, c1, c2, c3, c4, c5, c6⟩ := h (j / 7) L[j / 7] (List.getElem?_eq_getElem hk)
 injection e with e
 injection e with e1 e2
 subst e1; subst e2
 have h3 := flat_at caL_len L (j / 7) (j % 7) (by omega)
 rw [show j / 7 * 7 + j % 7 = j by omega, List.getElem?_eq_getElem hk] at h3
 have h3 : some u = (caL L[j / 7])[j % 7]? := hj.symm.trans h3
 have : j % 7 = 0 ∨ j % 7 = 1 ∨ j % 7 = 2 ∨ j % 7 = 3 ∨ j % 7 = 4 ∨ j % 7 = 5 ∨ j % 7 = 6 := by omega
 rcases this with h | h | h | h | h | h | h
 ·rw [h] at h3; rw [show o + j = o + j / 7 * 7 by omega, h3]; exact c0
 ·rw [h] at h3; rw [show o + j = o + j / 7 * 7 + 1 by omega, h3]; exact c1
 ·rw [h] at h3; rw [show o + j = o + j / 7 * 7 + 2 by omega, h3]; exact c2
 ·rw [h] at h3; rw [show o + j = o + j / 7 * 7 + 3 by omega, h3]; exact c3
 ·rw [h] at h3; rw [show o + j = o + j / 7 * 7 + 4 by omega, h3]; exact c4
 ·rw [h] at h3; rw [show o + j = o + j / 7 * 7 + 5 by omega, h3]; exact c5
 ·rw [h] at h3; rw [show o + j = o + j / 7 * 7 + 6 by omega, h3]; exact c6
theorem CasIn.src {w : World} {a : Option Addr} {L : List Ca} {n : Nat} (h : CasIn w a L) (hn : L.length = n) (cap : Nat) {tx e' : TypeId} (hk : Tryz.prog.underlying tx = some (.slice e')) : Src Tryz.prog 7 tx (.slice a n cap) n (flatCa L) w := by
 cases a with
 | none =>
  have hL : L = [] := by
   clear hn
   cases L with
   | nil => rfl
   | cons p r => obtain ⟨g, o, e, _⟩ := h 0 p rfl; cases e
  subst hL
  have hn : 0 = n := hn
  subst hn
  exact Src.ofNil w hk cap
 | some ad =>
  refine Src.ofSlice w hk ad n cap (flatCa L) (by rw [flatCa_length, hn]) (fun j u hj => ?_) (flatCa_one L)
  obtain ⟨g, o, s⟩ := ad
  obtain ⟨p, hp⟩ : ∃ p, L[0]? = some p := by
   cases L with
   | nil => simp [flatCa] at hj
   | cons p r => exact ⟨p, rfl⟩
  obtain ⟨g', o', e, _⟩ := h 0 p hp
  cases e
  rw [Addr.add_lit]
  exact h.flat j u hj
set_option maxRecDepth 100000 in
set_option maxHeartbeats 2000000 in
/-- Clone of a list of acts at any address. -/
theorem CloneA {w : World} {a : Option Addr} {n cap : Nat} (L : List Ca) (h : CasIn w a L) (hl : L.length = n) (hn : n ≤ 1000000) :
  Calls Tryz.prog 24 #[.slice a n cap] w fun e w' => ∃ v, e = .returned v ∧ w'.ownsRow w.heap.size 33 7 v n (flatCa L) ∧ Fr0 none' w w' := by
 obtain ⟨i0, hi0, hz0, hz1, hz2⟩ := info_parts info_act0
 have q22 : ∀ (w : World) (a : Option Addr) (n c n' c' : Nat), (binOp .eql 23 (.slice a n c) (.slice none n' c')).run Tryz.prog w = .ok (.bool a.isNone) w := fun w a n c n' c' => Lib.run_eql_slice_nil w _ _ a n c n' c' Tryz.underlying23
 cases a with
 | none =>
  have hL : L = [] := by
   cases L with
   | nil => rfl
   | cons p r => obtain ⟨g, o, e, _⟩ := h 0 p rfl; cases e
  subst hL
  obtain rfl : n = 0 := by rw [← hl]; rfl
  go_enter Tryz.func24, Tryz.ntmps24
  go_wp2
  go_ret
  exact ⟨_, rfl, World.ownsRow_nil _ _ _ _, Fr0.refl _ _⟩
 | some a =>
  have hsrc := Lib.hid (fun (W : World) (hf : Fr0 none' w W) => (h.later hf).src hl cap Tryz.underlying23)
  clear h hl
  go_enter Tryz.func24, Tryz.ntmps24
  go_wp2_with (at_builtin; refine wpList_append_k rfl _ _ 23 23 rfl w.heap.size 33 i0 (.agg #[.int .u8 0, .int .i64 0, .int .i64 0, .int .i64 0, .int .i64 0, .int .i64 0, .int .i64 0]) 7 56 Tryz.underlying23 hi0 hz0 hz1 hz2 rfl (by decide) (.slice (some ⟨w.heap.size, 0, none⟩) 0 0) 0 _ rfl (World.ownsRow_made w #[] 0 (Nat.le_refl _) (Nat.zero_le _) (by simp)) (.slice (some a) n cap) n _ rfl (hsrc.out _ ((Fr0.refl _ _).alloc _)) (by unfold maxLen; omega) (by omega) (by simp) ?_; intro v' w1 hown hgrow hdr hob)
  go_wp2
  go_ret
  exact ⟨_, rfl, by simpa using hown, ((Fr0.refl none' w).alloc _).grown hgrow (fun k hk hlt => by have : w.heap.size = k := Option.some.inj hk; omega)⟩
set_option maxRecDepth 100000 in
set_option maxHeartbeats 1000000 in
theorem run_neq_ca (k a b c d e f : Int) (w : World) : (binOp .neq 33 (.agg #[.int .u8 k, .int .i64 a, .int .i64 b, .int .i64 c, .int .i64 d, .int .i64 e, .int .i64 f]) (.agg #[.int .u8 k, .int .i64 a, .int .i64 b, .int .i64 c, .int .i64 d, .int .i64 e, .int .i64 f])).run Tryz.prog w = .ok (.bool false) w := by
 go_simp
section
attribute [local go_sem high] run_neq_ca
end
end Go.Proofs.YtieeloealklkgaaGreat

/-
  CalendarTells: tells.
-/
namespace Go.Proofs.YtieeloealklkgaaGreat
open Go Go.RowKit
attribute [local go_sem ↓] Go.wp_at_zero Go.wp_at_succ
attribute [local go_sem] Oper.semAt_some wide_fn wide_depth wide_fnR wide_depthR

theorem EsIn.of_own' {w : World} {base : Nat} {a : Option Addr} {m c n : Nat} {L : List Ev} (h : w.ownsRow base 30 5 (.slice a m c) n (flatEv L)) : EsIn w a L := by
 obtain ⟨a', c', e, _, h1⟩ := EsIn.of_own h
 injection e with e1 _ _
 rw [e1]; exact h1
theorem TdsIn.of_own' {w : World} {base : Nat} {a : Option Addr} {m c n : Nat} {L : List Td} (h : w.ownsRow base 56 2 (.slice a m c) n (flatTd L)) : TdsIn w a L := by
 obtain ⟨a', c', e, _, h1⟩ := TdsIn.of_own h
 injection e with e1 _ _
 rw [e1]; exact h1
/-- A row of events that may be written. -/
def WrRow (w : World) (a : Option Addr) (n : Nat) : Prop := n = 0 ∨ ∃ g cu ty, a = some ⟨g, 0, none⟩ ∧ w.heap[g]? = some (.cells cu ty (0, 0)) ∧ n * 5 ≤ cu.size
theorem WrRow.of_own {w : World} {base : Nat} {a : Option Addr} {m c n : Nat} {xs : List Value} (h : w.ownsRow base 30 5 (.slice a m c) n xs) : WrRow w a n := by
 rcases h.2 with ⟨_, h0⟩ | ⟨g, cap, cur, e, hb, hg, hn, hcm, hs, ht⟩
 ·exact .inl h0
 ·injection e with e1 _ _
  exact .inr ⟨g, cur, _, e1, hg, by rw [hs]; exact Nat.mul_le_mul_right 5 hn⟩
theorem WrRow.fr0 {S : Nat → Prop} {w w' : World} {a : Option Addr} {n : Nat} (h : WrRow w a n) (hf : Fr0 S w w') (hS : ∀ g o s, a = some ⟨g, o, s⟩ → ¬ S g) : WrRow w' a n := by
 rcases h with h | ⟨g, cu, ty, e, hg, hs⟩
 ·exact .inl h
 ·exact .inr ⟨g, cu, ty, e, (hf.block g (Array.getElem?_eq_some_iff.1 hg).1 (hS g 0 none e)).trans hg, hs⟩
theorem WrRow.put {w : World} {a : Option Addr} {n i : Nat} (h : WrRow w a n) (hi : i < n) (v0 v1 v2 v3 v4 : Value) : ∃ g, a = some ⟨g, 0, none⟩ ∧ (∃ u0 u1 u2 u3 u4, w.cell? ⟨g, i * 5, none⟩ = some u0 ∧ w.cell? ⟨g, i * 5 + 1, none⟩ = some u1 ∧ w.cell? ⟨g, i * 5 + 2, none⟩ = some u2 ∧ w.cell? ⟨g, i * 5 + 3, none⟩ = some u3 ∧ w.cell? ⟨g, i * 5 + 4, none⟩ = some u4) ∧
  (w.frozen? ⟨g, i * 5, none⟩ = false ∧ w.frozen? ⟨g, i * 5 + 1, none⟩ = false ∧ w.frozen? ⟨g, i * 5 + 2, none⟩ = false ∧ w.frozen? ⟨g, i * 5 + 3, none⟩ = false ∧ w.frozen? ⟨g, i * 5 + 4, none⟩ = false) ∧
  WrRow (((((w.setCell ⟨g, i * 5, none⟩ v0).setCell ⟨g, i * 5 + 1, none⟩ v1).setCell ⟨g, i * 5 + 2, none⟩ v2).setCell ⟨g, i * 5 + 3, none⟩ v3).setCell ⟨g, i * 5 + 4, none⟩ v4) a n ∧
  Fr0 (fun k => ∃ o s, a = some ⟨k, o, s⟩) w (((((w.setCell ⟨g, i * 5, none⟩ v0).setCell ⟨g, i * 5 + 1, none⟩ v1).setCell ⟨g, i * 5 + 2, none⟩ v2).setCell ⟨g, i * 5 + 3, none⟩ v3).setCell ⟨g, i * 5 + 4, none⟩ v4) := by
 rcases h with h | ⟨g, cu, ty, rfl, hg, hs⟩
 ·omega
 ·have hc : ∀ j, j < n * 5 → ∃ u, w.cell? ⟨g, j, none⟩ = some u := fun j hj => ⟨cu[j], by rw [cells_in hg]; exact Array.getElem?_eq_getElem (by omega)⟩
  obtain ⟨u0, c0⟩ := hc (i * 5) (by omega)
  obtain ⟨u1, c1⟩ := hc (i * 5 + 1) (by omega)
  obtain ⟨u2, c2⟩ := hc (i * 5 + 2) (by omega)
  obtain ⟨u3, c3⟩ := hc (i * 5 + 3) (by omega)
  obtain ⟨u4, c4⟩ := hc (i * 5 + 4) (by omega)
  refine ⟨g, rfl, ⟨u0, u1, u2, u3, u4, c0, c1, c2, c3, c4⟩, ⟨thaw_in hg _, thaw_in hg _, thaw_in hg _, thaw_in hg _, thaw_in hg _⟩, .inr ⟨g, _, ty, rfl, heap_set_cell (heap_set_cell (heap_set_cell (heap_set_cell (heap_set_cell hg _) _) _) _) _, by simpa using hs⟩, ?_⟩
  exact (((((Fr0.refl _ _).setCell (fun _ => ⟨0, none, rfl⟩) _).setCell (fun _ => ⟨0, none, rfl⟩) _).setCell (fun _ => ⟨0, none, rfl⟩) _).setCell (fun _ => ⟨0, none, rfl⟩) _).setCell (fun _ => ⟨0, none, rfl⟩) _
def d2 (cap n : Nat) (a : Option Addr) : Option Addr := if cap = n then a else a.map (fun x => x.add (n * 2))
theorem TdsIn.drop {w : World} {g o : Nat} {L : List Td} (h : TdsIn w (some ⟨g, o, none⟩) L) (i : Nat) : TdsIn w (some ⟨g, o + i * 2, none⟩) (L.drop i) := fun j x hx => by
 rw [List.getElem?_drop] at hx
 obtain ⟨g', o', e, hc⟩ := h (i + j) x hx
 injection e with e
 injection e with e1 e2
 subst e1 e2
 refine ⟨g, o + i * 2, rfl, ?_⟩
 rw [show o + i * 2 + j * 2 = o + (i + j) * 2 by omega]
 exact hc
theorem TdsIn.rest {W : World} {a : Option Addr} {S : List Td} (h : TdsIn W a S) {cap : Nat} (hc : S.length ≤ cap) (n : Nat) : TdsIn W (d2 cap n a) (S.drop n) := by
 unfold d2
 split
 ·next e =>
  rw [List.drop_of_length_le (by omega)]
  exact fun i x hx => by simp at hx
 ·cases a with
  | none =>
   intro i x hx
   rw [List.getElem?_drop] at hx
   obtain ⟨g, o, e, _⟩ := h _ x hx
   cases e
  | some A =>
   intro i x hx
   have hx' := hx
   rw [List.getElem?_drop] at hx'
   obtain ⟨g, o, e, _⟩ := h _ x hx'
   injection e with e
   subst e
   have h1 := h.drop n i x hx
   rw [Option.map_some, Addr.add_mid]
   exact h1
/-- What tells has written so far: the events, and the rows of the first acts. -/
def SW (oa : Option Addr) (ys : List Td) (k g : Nat) : Prop := (∃ o s, oa = some ⟨g, o, s⟩) ∨ ∃ y ∈ ys.take k, y.v.ownBlock = some g
theorem SW.mono {oa : Option Addr} {ys : List Td} {j k g : Nat} (hjk : j ≤ k) (h : SW oa ys j g) : SW oa ys k g := h.imp id fun ⟨y, hy, e⟩ => ⟨y, by
 obtain ⟨i, hi, rfl⟩ := List.mem_take_iff_getElem.1 hy
 exact List.mem_take_iff_getElem.2 ⟨i, by omega, rfl⟩, e⟩
theorem SW.off {W : World} {T : List Tl} {ys : List Td} {v : Value} {base on oc : Nat} {oa : Option Addr} (hT : TdsOk W T ys v base (fun k => (Value.slice oa on oc).ownBlock = some k)) {j k g : Nat} {y : Td} (hy : ys[j]? = some y) (hk : k ≤ j) (hg : y.v.ownBlock = some g) : ¬ SW oa ys k g := by
 rintro (⟨o, s, e⟩ | ⟨z, hz, e⟩)
 ·exact (hT.out y (List.mem_of_getElem? hy) g hg).1 (by rw [e]; rfl)
 ·obtain ⟨i, hi, rfl⟩ := List.mem_take_iff_getElem.1 hz
  obtain ⟨hj, rfl⟩ := List.getElem?_eq_some_iff.1 hy
  exact List.pairwise_iff_getElem.1 hT.two i j (by omega) hj (by omega) g e hg
theorem CasIn.off {S : Nat → Prop} {w w' : World} {a : Option Addr} {F : List Ca} (h : CasIn w a F) (hf : Fr0 S w w') (hS : ∀ g o s, a = some ⟨g, o, s⟩ → F ≠ [] → ¬ S g) : CasIn w' a F := by
 cases F with
 | nil => exact fun i x hx => by simp at hx
 | cons x r => exact h.fr0 hf (fun g o s e => hS g o s e (by simp))
end Go.Proofs.YtieeloealklkgaaGreat

/-
  A slice of events among the arguments; the row's post (no text of the queue).
-/
namespace Go.Proofs.YtieeloealklkgaaGreat
open Go.ChangeShapes Go.WideShapes Go.ChangeAt Go.RowKit Go.Deep Go.Joins

theorem post_belowC {H : Type} {enc : TypeId × Value → H} {P : Program} {f : Func} {s : ChangeSpec} {apart fresh handsOn : Bool} {W W' : World} {args : Array Value} {v : Value} {ds gs : List (DataW H)} {before pa pv : List MemPlace}
  (hW : DataW.Whole enc P f.params.toList s.vars apart W args.toList ds gs before)
  (hres : ∀ (b : Nat) (sp : Nat → Bool) (hd : Bool), DataW.TrodAll enc P W' b sp hd f.resultTypes.toList (v.resultList f.resultTypes.size) (s.fn H (ds ++ gs)).results [])
  (hargs : DataW.TrodAll enc P W' 0 (fun b => decide (b < W.heap.size)) true f.params.toList args.toList (s.fn H (ds ++ gs)).args pa)
  (hvars : ∀ sp : Nat → Bool, (∀ p ∈ before, sp p.block = true) → DataW.TrodVars enc P W' sp s.vars (s.fn H (ds ++ gs)).vars pv)
  (hb : Below W.heap.size W W') :
  s.post enc P f apart fresh handsOn false W args v W' := by
 have hold : ∀ p ∈ before, (fun b => decide (b < W.heap.size)) p.block = true := fun p hp => by simpa using hW.lt p hp
 exact ⟨ds, gs, before, [], pa, pv, hW, hres _ _ _, hargs, hvars _ hold, hb.frame _, fun h => by cases h⟩
theorem laidC : laidOutB Tryz.prog = true := by kernel_rfl
theorem knobC : ownKnob Tryz.prog.godebug = none := by kernel_rfl

theorem listC {α : Type} {P : Nat → α → Prop} : ∀ n, (∀ i, i < n → ∃ x, P i x) → ∃ xs : List α, xs.length = n ∧ ∀ j x, xs[j]? = some x → P j x
 | 0, _ => ⟨[], rfl, fun j x h => by simp at h⟩
 | n + 1, h => by
  obtain ⟨xs, hl, hx⟩ := listC n (fun i hi => h i (by omega))
  obtain ⟨x, hp⟩ := h n (by omega)
  refine ⟨xs ++ [x], by simp [hl], fun j y hj => ?_⟩
  rcases Nat.lt_or_ge j xs.length with hjl | hjl
  ·rw [List.getElem?_append_left hjl] at hj; exact hx j y hj
  ·rw [List.getElem?_append_right hjl] at hj
   have : j - xs.length = 0 := by
    rcases Nat.eq_zero_or_pos (j - xs.length) with h0 | h0
    ·exact h0
    ·rw [List.getElem?_eq_none (by simp; omega)] at hj; cases hj
   rw [this] at hj
   simp at hj
   subst hj
   rw [show j = n by omega]; exact hp
theorem smallC {H : Type} {enc : TypeId × Value → H} {w : World} {n : Nat} {v : Value} {y : DataW H × List MemPlace} (h : DataW.trod enc Tryz.prog w 0 (fun _ => true) true n 5 [v] = some y) : ∃ a, v = .int .u8 a ∧ 0 ≤ a ∧ a < 256 := by
 obtain ⟨a, h1, _, hw⟩ := DataW.trod_int Tryz.underlying5 h
 injection h1 with h1 _
 have := bounds_u8 hw
 exact ⟨a, h1, this.1, by omega⟩

theorem intC {H : Type} {enc : TypeId × Value → H} {w : World} {n : Nat} {v : Value} {y : DataW H × List MemPlace} (h : DataW.trod enc Tryz.prog w 0 (fun _ => true) true n 3 [v] = some y) : ∃ a, v = .int .i64 a := by
 obtain ⟨a, h1, _, hw⟩ := DataW.trod_int Tryz.underlying3 h
 injection h1 with h1 _
 exact ⟨a, h1⟩
theorem int64C {H : Type} {enc : TypeId × Value → H} {w : World} {n : Nat} {v : Value} {y : DataW H × List MemPlace} (h : DataW.trod enc Tryz.prog w 0 (fun _ => true) true n 2 [v] = some y) : ∃ a, v = .int .i64 a := by
 obtain ⟨a, h1, _, hw⟩ := DataW.trod_int Tryz.underlying2 h
 injection h1 with h1 _
 exact ⟨a, h1⟩
set_option maxRecDepth 100000 in
theorem keyC {H : Type} {enc : TypeId × Value → H} {w : World} {n : Nat} {v0 v1 v2 : Value} {y : DataW H × List MemPlace} (h : DataW.trod enc Tryz.prog w 0 (fun _ => true) true n 28 [v0, v1, v2] = some y) : ∃ k : Key3, v0 = .int .i64 k.time ∧ v1 = .int .i64 k.source ∧ v2 = .int .i64 k.seq := by
 obtain ⟨ys, k, _, _, _, hyl, hfl⟩ := DataW.trod_struct Tryz.underlying28 h
 have hone : Tryz.prog.cellsOf 3 = 1 := by kernel_rfl
 have f0 : DataW.trod enc Tryz.prog w 0 (fun _ => true) true k 3 (([v0, v1, v2].drop 0).take (Tryz.prog.cellsOf 3)) = ys[0]? := hfl 0 _ rfl
 have f1 : DataW.trod enc Tryz.prog w 0 (fun _ => true) true k 3 (([v0, v1, v2].drop 1).take (Tryz.prog.cellsOf 3)) = ys[1]? := hfl 1 _ rfl
 have f2 : DataW.trod enc Tryz.prog w 0 (fun _ => true) true k 3 (([v0, v1, v2].drop 2).take (Tryz.prog.cellsOf 3)) = ys[2]? := hfl 2 _ rfl
 rw [hone] at f0 f1 f2
 have yl : ys.length = 3 := hyl
 have t0 : DataW.trod enc Tryz.prog w 0 (fun _ => true) true k 3 [v0] = some (ys[0]'(by omega)) := f0.trans (List.getElem?_eq_getElem _)
 have t1 : DataW.trod enc Tryz.prog w 0 (fun _ => true) true k 3 [v1] = some (ys[1]'(by omega)) := f1.trans (List.getElem?_eq_getElem _)
 have t2 : DataW.trod enc Tryz.prog w 0 (fun _ => true) true k 3 [v2] = some (ys[2]'(by omega)) := f2.trans (List.getElem?_eq_getElem _)
 obtain ⟨a0, rfl⟩ := intC t0
 obtain ⟨a1, rfl⟩ := intC t1
 obtain ⟨a2, rfl⟩ := intC t2
 exact ⟨⟨a0, a1, a2⟩, rfl, rfl, rfl⟩
set_option maxRecDepth 100000 in
theorem eventC {H : Type} {enc : TypeId × Value → H} {w : World} {n : Nat} {v0 v1 v2 v3 v4 : Value} {y : DataW H × List MemPlace} (h : DataW.trod enc Tryz.prog w 0 (fun _ => true) true n 30 [v0, v1, v2, v3, v4] = some y) : ∃ x : Ev, v0 = .int .i64 x.key.time ∧ v1 = .int .i64 x.key.source ∧ v2 = .int .i64 x.key.seq ∧ v3 = .int .i64 x.to ∧ v4 = .int .i64 x.value := by
 obtain ⟨ys, k, _, _, _, hyl, hfl⟩ := DataW.trod_struct Tryz.underlying30 h
 have hone : Tryz.prog.cellsOf 3 = 1 := by kernel_rfl
 have hone6 : Tryz.prog.cellsOf 2 = 1 := by kernel_rfl
 have hthree : Tryz.prog.cellsOf 28 = 3 := by kernel_rfl
 have f0 : DataW.trod enc Tryz.prog w 0 (fun _ => true) true k 28 (([v0, v1, v2, v3, v4].drop 0).take (Tryz.prog.cellsOf 28)) = ys[0]? := hfl 0 _ rfl
 have f1 : DataW.trod enc Tryz.prog w 0 (fun _ => true) true k 3 (([v0, v1, v2, v3, v4].drop 3).take (Tryz.prog.cellsOf 3)) = ys[1]? := hfl 1 _ rfl
 have f2 : DataW.trod enc Tryz.prog w 0 (fun _ => true) true k 2 (([v0, v1, v2, v3, v4].drop 4).take (Tryz.prog.cellsOf 2)) = ys[2]? := hfl 2 _ rfl
 rw [hthree] at f0
 rw [hone] at f1
 rw [hone6] at f2
 have yl : ys.length = 3 := hyl
 have t0 : DataW.trod enc Tryz.prog w 0 (fun _ => true) true k 28 [v0, v1, v2] = some (ys[0]'(by omega)) := f0.trans (List.getElem?_eq_getElem _)
 have t1 : DataW.trod enc Tryz.prog w 0 (fun _ => true) true k 3 [v3] = some (ys[1]'(by omega)) := f1.trans (List.getElem?_eq_getElem _)
 have t2 : DataW.trod enc Tryz.prog w 0 (fun _ => true) true k 2 [v4] = some (ys[2]'(by omega)) := f2.trans (List.getElem?_eq_getElem _)
 obtain ⟨kk, rfl, rfl, rfl⟩ := keyC t0
 obtain ⟨a1, rfl⟩ := intC t1
 obtain ⟨a2, rfl⟩ := int64C t2
 exact ⟨⟨kk, a1, a2⟩, rfl, rfl, rfl, rfl, rfl⟩
set_option maxRecDepth 100000 in
/-- A slice of events in memory. -/
theorem eventsC {H : Type} {enc : TypeId × Value → H} {W : World} {n : Nat} {v : Value} {y : DataW H × List MemPlace} (h : DataW.trod enc Tryz.prog W 0 (fun _ => true) true n 22 [v] = some y) : ∃ la lk lc L, v = .slice la lk lc ∧ EsIn W la L ∧ L.length = lk ∧ lk ≤ lc := by
 rcases open_slice Tryz.underlying22 h with ⟨hcs, _⟩ | ⟨a, len, cap', m, _, D, Pl, hcs, _, hl, hm, hz, _, hi⟩
 ·injection hcs with e _
  subst e
  exact ⟨none, 0, 0, [], rfl, fun i x hx => by simp at hx, rfl, Nat.le_refl _⟩
 ·injection hcs with e _
  subst e
  have hmn : len ≤ m := by rw [hz]; split <;> omega
  have key : ∀ i, i < len → ∃ x : Ev, ∃ g o, a = ⟨g, o, none⟩ ∧ EAt W g (o + i * 5) x := fun i hin => by
   obtain ⟨cs, hc, ht⟩ := hi i (by omega)
   rw [show Tryz.prog.cellsOf 30 = 5 by kernel_rfl] at hc
   obtain ⟨_, hcl, hat⟩ := World.cells?_some hc
   match cs, hcl with
   | [v0, v1, v2, v3, v4], _ =>
   have c0 := hat 0 (by omega)
   have c1 := hat 1 (by omega)
   have c2 := hat 2 (by omega)
   have c3 := hat 3 (by omega)
   have c4 := hat 4 (by omega)
   obtain ⟨x, rfl, rfl, rfl, rfl, rfl⟩ := eventC ht
   obtain ⟨cs', hc', _⟩ := hi 0 (by omega)
   rw [show Tryz.prog.cellsOf 30 = 5 by kernel_rfl] at hc'
   obtain ⟨_, hcl', hat'⟩ := World.cells?_some hc'
   have z0 := hat' 0 (by omega)
   rw [List.getElem?_eq_getElem (by omega)] at z0
   obtain ⟨b, off, spot⟩ := a
   have hspot : spot = none := by simpa [Addr.add] using World.cell?_spot z0
   subst hspot
   rw [Addr.add_mid, Addr.add_mid] at c0 c1 c2 c3 c4
   exact ⟨x, b, off, rfl, c0, c1, c2, c3, c4⟩
  obtain ⟨xs, hxl, hx⟩ := listC len key
  refine ⟨some a, len, cap', xs, rfl, fun j x hj => ?_, hxl, by omega⟩
  obtain ⟨g, o, rfl, hq⟩ := hx j x hj
  exact ⟨g, o, rfl, hq⟩
end Go.Proofs.YtieeloealklkgaaGreat
