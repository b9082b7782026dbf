/- SpaceSmall: the statement, and its tied card: for any arguments the law returns true, and the arguments read as before. -/
import Derived.Test.YtieeloealklkgaaGreatDoorRows
import Derived.WalkKit
import Derived.ProofKit
import Derived.OpenShut
import Derived.SizedLaws
import Derived.ChangeSame
import Derived.ChangeVars
import Derived.ChangeMaps5
import Derived.Carry
import Derived.Deep.Slices
import Derived.Deep.Fields
import Derived.JoinedOf
import Derived.JoinedAt
import Derived.RowKit
import Derived.RowKit3
import Derived.RowKitTokens
import Derived.LaidLaws
import Derived.Lib.ItoaNum
import Derived.Lib.LaidTab
import Derived.Stop.LaidErr
import Derived.Lib.SmallJoins
import Derived.Test.YtieeloealklkgaaGreatDoorJb2
import Derived.Test.YtieeloealklkgaaGreatDoorJb4
import Derived.Test.YtieeloealklkgaaGreatDoorCards
import Derived.Test.YtieeloealklkgaaGreatDoorTie
set_option linter.unusedSimpArgs false
set_option linter.unusedVariables false

/-
  The row of a law without arguments: three tables are listed.
-/
namespace Go.Proofs.YtieeloealklkgaaGreatDoor
open Go Go.ChangeShapes Go.WideShapes Go.ChangeAt Go.RowKit Go.Deep Go.Joins

theorem post_belowW {H : Type} {enc : TypeId × Value → H} {P : Program} {f : Func} {s : ChangeSpec} {apart fresh handsOn : Bool} {W W' : World} {args : Array Value} {v : Value} {ds gs : List (DataW H)} {before pa pv : List MemPlace}
    (hW : DataW.Whole enc P f.params.toList s.vars apart W args.toList ds gs before)
    (hres : ∀ (b : Nat) (sp : Nat → Bool) (hd : Bool), DataW.TrodAll enc P W' b sp hd f.resultTypes.toList (v.resultList f.resultTypes.size) (s.fn H (ds ++ gs)).results [])
    (hargs : DataW.TrodAll enc P W' 0 (fun b => decide (b < W.heap.size)) true f.params.toList args.toList (s.fn H (ds ++ gs)).args pa)
    (hvars : ∀ sp : Nat → Bool, (∀ p ∈ before, sp p.block = true) → DataW.TrodVars enc P W' sp s.vars (s.fn H (ds ++ gs)).vars pv)
    (hb : Below W.heap.size W W') :
    s.post enc P f apart fresh handsOn false W args v W' := by
  have hold : ∀ p ∈ before, (fun b => decide (b < W.heap.size)) p.block = true := fun p hp => by simpa using hW.lt p hp
  exact ⟨ds, gs, before, [], pa, pv, hW, hres _ _ _, hargs, hvars _ hold, hb.frame _, fun h => by cases h⟩
theorem own_knobW : ownKnob Tryz.prog.godebug = none := by kernel_rfl

abbrev laidW : List (String × DataW Unit) := [("math/bits.deBruijn32tab", Rows.laid_math_bits_deBruijn32tab), ("math/bits.deBruijn64tab", Rows.laid_math_bits_deBruijn64tab), ("internal/strconv.uint64pow10", Rows.laid_internal_strconv_uint64pow10)]
def valsW : DataW Unit → Array Value
  | .agg l => (l.filterMap fun | .lit (.int k z) => some (Value.int k z) | _ => none).toArray
  | _ => #[]
def layW (h : Array Obj) (g : Nat) (cs : Array Value) : Array Obj := h.modify g fun
  | .cells _ t frozen => .cells cs t frozen
  | o => o
noncomputable def laidWorldW (os : Os) : World :=
  let w0 := World.holding Tryz.prog os ⟨#[], #[], []⟩
  { w0 with heap := layW (layW (layW w0.heap 0 (valsW Rows.laid_internal_strconv_uint64pow10)) 2 (valsW Rows.laid_math_bits_deBruijn32tab)) 3 (valsW Rows.laid_math_bits_deBruijn64tab) }
theorem laidWorldW_met (os : Os) (args : Array Value) : laidMet Tryz.prog laidW ((laidWorldW os).forCall (fun _ _ => 0) ⟨#[], args, []⟩).memory :=
  laidMet_of_run' 8 (by kernel_rfl) (by kernel_rfl)
end Go.Proofs.YtieeloealklkgaaGreatDoor

/-
  A space that is none: nil, or one that New did not make.
-/
namespace Go.Proofs.YtieeloealklkgaaGreatDoor
open Go Go.RowKit Go.Maps
attribute [local go_sem ↓] Go.wp_at_zero Go.wp_at_succ
attribute [local go_sem] Oper.semAt_some wide_fn wide_depth wide_fnR wide_depthR
variable {w w' : World} {p : Option Addr}

/-- No space. -/
def NoS (w : World) (p : Option Addr) : Prop := p = none ∨ ∃ b, p = some ⟨b, 0, none⟩ ∧ w.heap[b]? = some (.cells #[.bool false, .int .i64 0, .int .i64 0, .map none, .slice none 0 0] 40 (0, 0))
def noFoot (p : Option Addr) (k : Nat) : Prop := ∃ o s, p = some ⟨k, o, s⟩
theorem NoS.later (h : NoS w p) (hf : Fr0 none' w w') : NoS w' p := by
  rcases h with h | ⟨b, h1, h2⟩
  · exact .inl h
  · exact .inr ⟨b, h1, (hf.block b (Array.getElem?_eq_some_iff.1 h2).1 id).trans h2⟩
theorem NoS.lt (h : NoS w p) {k : Nat} (hk : noFoot p k) : k < w.heap.size := by
  obtain ⟨o, s, rfl⟩ := hk
  rcases h with h | ⟨b, h1, h2⟩
  · cases h
  · injection h1 with h1
    injection h1 with h1
    subst h1
    exact (Array.getElem?_eq_some_iff.1 h2).1
theorem NoS.isnt (h : NoS w p) : Calls Tryz.prog 32 #[.pointer p] w fun e w' => e = .returned (.bool false) ∧ w = w' := by
  rcases h with rfl | ⟨b, rfl, hb⟩
  · exact sis_nil w
  · exact sis_made b false w (by rw [cells_in hb]; rfl)
set_option maxRecDepth 100000 in
set_option maxHeartbeats 1000000 in
theorem NoS.opens (h : NoS w p) (s : ByteArray) (n : Int) : Calls Tryz.prog 7 #[.pointer p, .string s, .int .i64 n] w fun e w' => e = .returned (.tuple #[.int .i64 0, .int .i64 1]) ∧ Fr0 none' w w' := by
  have HI := Lib.hid (fun W (hf : Fr0 none' w W) => (h.later hf).isnt)
  clear h
  go_enter Tryz.func7, Tryz.ntmps7
  go_wp2_with fail
  refine (HI.out _ (by first | exact Fr0.refl _ _ | exact (Fr0.refl _ _).alloc _)).mono ?_
  rintro e w1 ⟨rfl, rfl⟩
  go_wp2_with fail
  go_ret2
  exact ⟨rfl, by first | exact Fr0.refl _ _ | exact (Fr0.refl _ _).alloc _ | exact ((Fr0.refl _ _).alloc _).alloc _⟩
set_option maxRecDepth 100000 in
set_option maxHeartbeats 1000000 in
theorem NoS.get (h : NoS w p) (n : Int) : Calls Tryz.prog 13 #[.pointer p, .int .i64 n] w fun e w' => e = .returned (.tuple #[.agg #[.int .i64 0, .string ⟨#[]⟩, .int .i64 0], .int .i64 1]) ∧ Fr0 none' w w' := by
  have HI := Lib.hid (fun W (hf : Fr0 none' w W) => (h.later hf).isnt)
  clear h
  obtain ⟨W, hW⟩ : ∃ W, w.alloc (.cells #[.int .i64 0, .string ⟨#[]⟩, .int .i64 0] 43) = W := ⟨_, rfl⟩
  have fW : Fr0 none' w W := by rw [← hW]; exact (Fr0.refl _ _).alloc _
  have hx : W.heap[w.heap.size]? = some (.cells #[.int .i64 0, .string ⟨#[]⟩, .int .i64 0] 43) := by rw [← hW]; exact World.alloc_heap_new w _
  have x0 := cells_in hx 0
  have x1 := cells_in hx 1
  have x2 := cells_in hx 2
  simp at x0 x1 x2
  have y0 := thaw_in hx 0
  have y1 := thaw_in hx 1
  have y2 := thaw_in hx 2
  have hlt : w.heap.size < W.heap.size := by rw [← hW]; simp
  have FW := Lib.hid fW
  have HW := Lib.hid hW
  obtain ⟨B, hB⟩ : ∃ B, w.heap.size = B := ⟨_, rfl⟩
  rw [hB] at x0 x1 x2 y0 y1 y2 hlt
  have HB := Lib.hid hB
  clear hx fW hW hB
  go_enter Tryz.func13, Tryz.ntmps13
  go_wp2_with fail
  rw [HB.out, HW.out]
  refine (HI.out _ FW.out).mono ?_
  rintro e w1 ⟨rfl, rfl⟩
  go_wp2
  refine bodyPost_ret (v := .tuple #[.agg #[.int .i64 0, .string ⟨#[]⟩, .int .i64 0], .int .i64 1]) (by simp [results, Tryz.results13, go_sem, x0, x1, x2, hlt]) rfl ⟨rfl, ?_⟩
  have := HB.out
  first | exact ((FW.out.setCell (fun h => by omega) _).setCell (fun h => by omega) _).setCell (fun h => by omega) _ | exact ((((FW.out.setCell (fun h => by omega) _).setCell (fun h => by omega) _).setCell (fun h => by omega) _)).alloc _
set_option maxRecDepth 100000 in
set_option maxHeartbeats 1000000 in
theorem NoS.find (h : NoS w p) (s : ByteArray) : Calls Tryz.prog 14 #[.pointer p, .string s] w fun e w' => e = .returned (.tuple #[.agg #[.int .i64 0, .string ⟨#[]⟩, .int .i64 0], .int .i64 1]) ∧ Fr0 none' w w' := by
  have HI := Lib.hid (fun W (hf : Fr0 none' w W) => (h.later hf).isnt)
  clear h
  obtain ⟨W, hW⟩ : ∃ W, w.alloc (.cells #[.int .i64 0, .string ⟨#[]⟩, .int .i64 0] 43) = W := ⟨_, rfl⟩
  have fW : Fr0 none' w W := by rw [← hW]; exact (Fr0.refl _ _).alloc _
  have hx : W.heap[w.heap.size]? = some (.cells #[.int .i64 0, .string ⟨#[]⟩, .int .i64 0] 43) := by rw [← hW]; exact World.alloc_heap_new w _
  have x0 := cells_in hx 0
  have x1 := cells_in hx 1
  have x2 := cells_in hx 2
  simp at x0 x1 x2
  have y0 := thaw_in hx 0
  have y1 := thaw_in hx 1
  have y2 := thaw_in hx 2
  have hlt : w.heap.size < W.heap.size := by rw [← hW]; simp
  have FW := Lib.hid fW
  have HW := Lib.hid hW
  obtain ⟨B, hB⟩ : ∃ B, w.heap.size = B := ⟨_, rfl⟩
  rw [hB] at x0 x1 x2 y0 y1 y2 hlt
  have HB := Lib.hid hB
  clear hx fW hW hB
  go_enter Tryz.func14, Tryz.ntmps14
  go_wp2_with fail
  rw [HB.out, HW.out]
  refine (HI.out _ FW.out).mono ?_
  rintro e w1 ⟨rfl, rfl⟩
  go_wp2
  refine bodyPost_ret (v := .tuple #[.agg #[.int .i64 0, .string ⟨#[]⟩, .int .i64 0], .int .i64 1]) (by simp [results, Tryz.results14, go_sem, x0, x1, x2, hlt]) rfl ⟨rfl, ?_⟩
  have := HB.out
  first | exact ((FW.out.setCell (fun h => by omega) _).setCell (fun h => by omega) _).setCell (fun h => by omega) _ | exact ((((FW.out.setCell (fun h => by omega) _).setCell (fun h => by omega) _).setCell (fun h => by omega) _)).alloc _
set_option maxRecDepth 100000 in
set_option maxHeartbeats 1000000 in
theorem NoS.under (h : NoS w p) (s : ByteArray) : Calls Tryz.prog 15 #[.pointer p, .string s] w fun e w' => e = .returned (.tuple #[.slice none 0 0, .int .i64 1]) ∧ Fr0 none' w w' := by
  have HI := Lib.hid (fun W (hf : Fr0 none' w W) => (h.later hf).isnt)
  clear h
  go_enter Tryz.func15, Tryz.ntmps15
  go_wp2_with fail
  refine (HI.out _ (by first | exact Fr0.refl _ _ | exact (Fr0.refl _ _).alloc _)).mono ?_
  rintro e w1 ⟨rfl, rfl⟩
  go_wp2_with fail
  go_ret2
  exact ⟨rfl, by first | exact Fr0.refl _ _ | exact (Fr0.refl _ _).alloc _ | exact ((Fr0.refl _ _).alloc _).alloc _⟩
set_option maxRecDepth 100000 in
set_option maxHeartbeats 1000000 in
theorem NoS.names (h : NoS w p)  : Calls Tryz.prog 10 #[.pointer p] w fun e w' => e = .returned (.slice none 0 0) ∧ Fr0 none' w w' := by
  have HI := Lib.hid (fun W (hf : Fr0 none' w W) => (h.later hf).isnt)
  clear h
  go_enter Tryz.func10, Tryz.ntmps10
  go_wp2_with fail
  refine (HI.out _ (by first | exact Fr0.refl _ _ | exact (Fr0.refl _ _).alloc _)).mono ?_
  rintro e w1 ⟨rfl, rfl⟩
  go_wp2_with fail
  go_ret
  exact ⟨rfl, by first | exact Fr0.refl _ _ | exact (Fr0.refl _ _).alloc _ | exact ((Fr0.refl _ _).alloc _).alloc _⟩
set_option maxRecDepth 100000 in
set_option maxHeartbeats 1000000 in
theorem NoS.len (h : NoS w p)  : Calls Tryz.prog 17 #[.pointer p] w fun e w' => e = .returned (.int .i64 0) ∧ Fr0 none' w w' := by
  have HI := Lib.hid (fun W (hf : Fr0 none' w W) => (h.later hf).isnt)
  clear h
  go_enter Tryz.func17, Tryz.ntmps17
  go_wp2_with fail
  refine (HI.out _ (by first | exact Fr0.refl _ _ | exact (Fr0.refl _ _).alloc _)).mono ?_
  rintro e w1 ⟨rfl, rfl⟩
  go_wp2_with fail
  go_ret
  exact ⟨rfl, by first | exact Fr0.refl _ _ | exact (Fr0.refl _ _).alloc _ | exact ((Fr0.refl _ _).alloc _).alloc _⟩
set_option maxRecDepth 100000 in
set_option maxHeartbeats 1000000 in
theorem NoS.limit (h : NoS w p)  : Calls Tryz.prog 18 #[.pointer p] w fun e w' => e = .returned (.int .i64 0) ∧ Fr0 none' w w' := by
  have HI := Lib.hid (fun W (hf : Fr0 none' w W) => (h.later hf).isnt)
  clear h
  go_enter Tryz.func18, Tryz.ntmps18
  go_wp2_with fail
  refine (HI.out _ (by first | exact Fr0.refl _ _ | exact (Fr0.refl _ _).alloc _)).mono ?_
  rintro e w1 ⟨rfl, rfl⟩
  go_wp2_with fail
  go_ret
  exact ⟨rfl, by first | exact Fr0.refl _ _ | exact (Fr0.refl _ _).alloc _ | exact ((Fr0.refl _ _).alloc _).alloc _⟩
set_option maxRecDepth 100000 in
set_option maxHeartbeats 1000000 in
theorem NoS.next (h : NoS w p)  : Calls Tryz.prog 19 #[.pointer p] w fun e w' => e = .returned (.int .i64 0) ∧ Fr0 none' w w' := by
  have HI := Lib.hid (fun W (hf : Fr0 none' w W) => (h.later hf).isnt)
  clear h
  go_enter Tryz.func19, Tryz.ntmps19
  go_wp2_with fail
  refine (HI.out _ (by first | exact Fr0.refl _ _ | exact (Fr0.refl _ _).alloc _)).mono ?_
  rintro e w1 ⟨rfl, rfl⟩
  go_wp2_with fail
  go_ret
  exact ⟨rfl, by first | exact Fr0.refl _ _ | exact (Fr0.refl _ _).alloc _ | exact ((Fr0.refl _ _).alloc _).alloc _⟩
set_option maxRecDepth 100000 in
set_option maxHeartbeats 1000000 in
theorem NoS.copy (h : NoS w p)  : Calls Tryz.prog 20 #[.pointer p] w fun e w' => e = .returned (.pointer none) ∧ Fr0 none' w w' := by
  have HI := Lib.hid (fun W (hf : Fr0 none' w W) => (h.later hf).isnt)
  clear h
  go_enter Tryz.func20, Tryz.ntmps20
  go_wp2_with fail
  refine (HI.out _ (by first | exact Fr0.refl _ _ | exact (Fr0.refl _ _).alloc _)).mono ?_
  rintro e w1 ⟨rfl, rfl⟩
  go_wp2_with fail
  go_ret
  exact ⟨rfl, by first | exact Fr0.refl _ _ | exact (Fr0.refl _ _).alloc _ | exact ((Fr0.refl _ _).alloc _).alloc _⟩
set_option maxRecDepth 100000 in
set_option maxHeartbeats 2000000 in
theorem NoS.close (h : NoS w p) (n : Int) : Calls Tryz.prog 11 #[.pointer p, .int .i64 n] w fun e w' => e = .returned (.tuple #[.agg #[.int .i64 0, .string ⟨#[]⟩, .int .i64 0], .int .i64 1]) ∧ Fr0 none' w w' := by
  obtain ⟨q1, q2, q3, HG⟩ : ∃ q1 q2 q3, Hid (∀ V, Fr0 none' w V → Calls Tryz.prog 13 #[.pointer p, .int .i64 n] V fun e w' => e = .returned (.tuple #[.agg #[.int .i64 q1, .string q2, .int .i64 q3], .int .i64 1]) ∧ Fr0 none' V w') := ⟨0, ⟨#[]⟩, 0, fun V hV => (h.later hV).get n⟩
  clear h
  obtain ⟨W0, hW0⟩ : ∃ W0, w.alloc (.cells #[.int .i64 0, .string ⟨#[]⟩, .int .i64 0] 43) = W0 := ⟨_, rfl⟩
  have hC0 : W0.heap[w.heap.size]? = some (.cells #[.int .i64 0, .string ⟨#[]⟩, .int .i64 0] 43) := by rw [← hW0]; exact World.alloc_heap_new w _
  have f0 : Fr0 none' w W0 := by rw [← hW0]; exact (Fr0.refl _ _).alloc _
  obtain ⟨C, hCe⟩ : ∃ C, w.heap.size = C := ⟨_, rfl⟩
  have HCn := Lib.hid (show w.heap.size ≤ C by omega)
  have HCl := Lib.hid (show C ≤ w.heap.size by omega)
  go_enter Tryz.func11, Tryz.ntmps11
  go_wp2_with fail
  rw [hCe] at hC0
  have HC0 := Lib.hid hC0
  have F0 := Lib.hid f0
  clear hCe hW0 hC0 f0
  refine (HG.out W0 F0.out).mono ?_
  rintro e w1 ⟨rfl, hf⟩
  have f1 := Lib.hid (F0.out.trans hf)
  have hx := (hf.block C (Array.getElem?_eq_some_iff.1 HC0.out).1 id).trans HC0.out
  have hx2 := (Below.heap_alloc w1 (.cells #[.int .i64 q1, .string q2, .int .i64 q3] 43) C (Array.getElem?_eq_some_iff.1 hx).1).trans hx
  obtain ⟨W, hW⟩ : ∃ W, w1.alloc (.cells #[.int .i64 q1, .string q2, .int .i64 q3] 43) = W := ⟨_, rfl⟩
  have FW := Lib.hid (show Fr0 none' w W from by rw [← hW]; exact f1.out.alloc _)
  rw [hW] at hx2
  have x0 := cells_in hx2 0
  have x1 := cells_in hx2 1
  have x2 := cells_in hx2 2
  simp at x0 x1 x2
  have y0 := thaw_in hx2 0
  have y1 := thaw_in hx2 1
  have y2 := thaw_in hx2 2
  have hlt : C < W.heap.size := (Array.getElem?_eq_some_iff.1 hx2).1
  clear f1 hx hx2 hf
  go_wp2
  refine bodyPost_ret (v := .tuple #[.agg #[.int .i64 0, .string ⟨#[]⟩, .int .i64 0], .int .i64 1]) (by simp [results, Tryz.results11, go_sem, x0, x1, x2, hlt]) rfl ⟨rfl, ?_⟩
  have := HCn.out
  exact ((FW.out.setCell (fun h => by omega) _).setCell (fun h => by omega) _).setCell (fun h => by omega) _
set_option maxRecDepth 100000 in
set_option maxHeartbeats 1000000 in
theorem NoS.rename (h : NoS w p) (n : Int) (s : ByteArray) : Calls Tryz.prog 12 #[.pointer p, .int .i64 n, .string s] w fun e w' => e = .returned (.tuple #[.string ⟨#[]⟩, .int .i64 1]) ∧ Fr0 none' w w' := by
  have HI := Lib.hid (fun W (hf : Fr0 none' w W) => (h.later hf).get n)
  clear h
  go_enter Tryz.func12, Tryz.ntmps12
  go_wp2_with fail
  refine (HI.out _ (by first | exact Fr0.refl _ _ | exact (Fr0.refl _ _).alloc _)).mono ?_
  rintro e w1 ⟨rfl, hf⟩
  have F : Hid (Fr0 none' w w1) := by first | exact hf | exact ((Fr0.refl _ _).alloc _).trans hf
  clear hf
  go_wp2_with fail
  go_ret2
  exact ⟨rfl, by first | exact F.out | exact F.out.alloc _ | exact (F.out.alloc _).alloc _⟩
set_option maxRecDepth 100000 in
set_option maxHeartbeats 1000000 in
theorem none_iter (h : NoS w p) (sx : Nat) (fv : Value) (hsx : Box w sx (.pointer p)) :
    IterX0 Tryz.prog 86 #[.pointer (some ⟨sx, 0, none⟩), fv] (fun p : Pt => #[ptV p]) [] none' (fun k => noFoot p k ∨ k = sx) w := by
  intro l J Jx W hK hJ hJx hY h0
  have hsxW : Box W sx (.pointer p) := hsx.of_block (hK.2 sx (.inr rfl))
  have hn : NoS W p := by
    rcases h with h | ⟨b, h1, h2⟩
    · exact .inl h
    · exact .inr ⟨b, h1, (hK.2 b (.inl ⟨_, _, h1⟩)).trans h2⟩
  have s1 := hsxW.cell
  have HI := Lib.hid hn.isnt
  clear hsxW hn h hsx hJ hJx hY hK
  refine callsIn_of_wp Tryz.func86 rfl trivial ?_ rfl
  simp only [Tryz.ntmps86, List.size_toArray, List.length_cons, List.length_nil, Nat.reduceAdd, Nat.reduceSub, Array.replicate_succ, Array.replicate_zero, List.push_toArray, List.append_toArray, List.nil_append, List.cons_append]
  gi_wp2_with fail
  refine (callsIn_wide.2 HI.out).mono ?_
  rintro e w1 ⟨rfl, rfl⟩
  gi_wp2
  refine bodyPost_ret (results_none rfl _ _ _) rfl ?_
  exact ⟨⟨_, rfl⟩, .inl ⟨_, h0⟩⟩
theorem row_none {base : Nat} {v : Value} {t : TypeId} {k : Nat} {xs : List Value} (h : w.ownsRow base t k v 0 xs) : ∃ a cap, v = .slice a 0 cap := by
  rcases h.2 with ⟨rfl, _⟩ | ⟨g, cap, cur, rfl, _⟩
  · exact ⟨none, 0, rfl⟩
  · exact ⟨_, cap, rfl⟩
set_option maxRecDepth 100000 in
set_option maxHeartbeats 1000000 in
theorem NoS.all (h : NoS w p) : Calls Tryz.prog 9 #[.pointer p] w fun e w' => ∃ a cap, e = .returned (.slice a 0 cap) ∧ Fr0 none' w w' := by
  have H := Lib.hid h
  clear h
  go_enter Tryz.func9, Tryz.ntmps9
  go_wp2_with fail
  refine (each_any _ _ _ ⟨_, rfl⟩ ⟨_, _, _, rfl⟩).mono ?_
  rintro e w1 ⟨rfl, rfl⟩
  obtain ⟨W, hW⟩ : ∃ W, (w.alloc (.cells #[.pointer p] 27)).alloc (.cells #[.func (.func 38) #[] #[]] 80) = W := ⟨_, rfl⟩
  rw [hW]
  have fW : Fr0 none' w W := by rw [← hW]; exact ((Fr0.refl _ _).alloc _).alloc _
  have hz : W.heap.size = w.heap.size + 2 := by rw [← hW]; simp
  have b1 : Box W w.heap.size (.pointer p) := by rw [← hW]; exact (Box.new _ _ _).alloc _
  have it := none_iter (H.out.later fW) w.heap.size (.pointer (some ⟨w.heap.size + 1, 0, none⟩)) b1
  have hC := CollectP _ _ _ _ _ W (by intro args w; rfl) it (fun _ h => h.elim) (fun k hk => by
    rcases hk with hk | rfl
    · have := H.out.lt hk; omega
    · omega) (by simp)
  have HC := Lib.hid hC
  have FW := Lib.hid fW
  clear hW fW hz b1 it hC
  go_wp2_with fail
  refine HC.out.mono ?_
  rintro e w1 ⟨v, rfl, hrow, hfr⟩
  obtain ⟨a, cap, rfl⟩ := row_none hrow
  have Hp := Lib.hid (FW.out.trans hfr)
  clear hrow hfr
  go_wp2
  go_ret
  exact ⟨a, cap, rfl, Hp.out⟩
set_option maxRecDepth 100000 in
set_option maxHeartbeats 1000000 in
theorem NoS.of (h : NoS w p) (n : Int) : Calls Tryz.prog 16 #[.pointer p, .int .i64 n] w fun e w' => ∃ a cap, e = .returned (.slice a 0 cap) ∧ Fr0 none' w w' := by
  have H := Lib.hid h
  clear h
  have hmf : ∀ (fn : Fn) (first cap : Array Value) (w : World), (Instr.makeFunc fn first cap).run Tryz.prog w = .ok (.func fn first cap) w := fun _ _ _ _ => rfl
  go_enter Tryz.func16, Tryz.ntmps16
  go_wp2_with fail
  refine (each_any _ _ _ ⟨_, rfl⟩ ⟨_, _, _, rfl⟩).mono ?_
  rintro e w1 ⟨rfl, rfl⟩
  obtain ⟨W0, hW0⟩ : ∃ W0, w.alloc (.cells #[.int .i64 n] 3) = W0 := ⟨_, rfl⟩
  have f0 : Fr0 none' w W0 := by rw [← hW0]; exact (Fr0.refl _ _).alloc _
  have z0 : W0.heap.size = w.heap.size + 1 := by rw [← hW0]; simp
  rw [hW0]
  obtain ⟨W, hW⟩ : ∃ W, (W0.alloc (.cells #[.pointer p] 27)).alloc (.cells #[.func (.func 43) #[] #[.pointer (some ⟨w.heap.size, 0, none⟩)]] 80) = W := ⟨_, rfl⟩
  rw [hW]
  have fW : Fr0 none' w W := by rw [← hW]; exact (f0.alloc _).alloc _
  have hz : W.heap.size = W0.heap.size + 2 := by rw [← hW]; simp
  have b1 : Box W W0.heap.size (.pointer p) := by rw [← hW]; exact (Box.new _ _ _).alloc _
  have it := none_iter (H.out.later fW) W0.heap.size (.pointer (some ⟨W0.heap.size + 1, 0, none⟩)) b1
  have hC := CollectP _ _ _ _ _ W (by intro args w; rfl) it (fun _ h => h.elim) (fun k hk => by
    rcases hk with hk | rfl
    · have := H.out.lt hk; omega
    · omega) (by simp)
  have HC := Lib.hid hC
  have FW := Lib.hid fW
  clear hW0 hW fW hz b1 it hC f0 z0
  go_wp2_with fail
  refine HC.out.mono ?_
  rintro e w1 ⟨v, rfl, hrow, hfr⟩
  obtain ⟨a, cap, rfl⟩ := row_none hrow
  have Hp := Lib.hid (FW.out.trans hfr)
  clear hrow hfr
  go_wp2
  go_ret
  exact ⟨a, cap, rfl, Hp.out⟩
end Go.Proofs.YtieeloealklkgaaGreatDoor

/-
  SpaceSmall.
-/
namespace Go.Proofs.YtieeloealklkgaaGreatDoor
open Go Go.RowKit
attribute [local go_sem ↓] Go.wp_at_zero Go.wp_at_succ
attribute [local go_sem] Oper.semAt_some wide_fn wide_depth wide_fnR wide_depthR

def actV (x : Act4) : List Value := [.int .u8 x.kind, .string x.name, .int .i64 x.num, .int .i64 x.proc]
def flatA (L : List Act4) : List Value := L.flatMap actV
theorem flatA_at (l : List Act4) (k c : Nat) (x : Act4) (hk : l[k]? = some x) (hc : c < 4) : (flatA l)[k * 4 + c]? = (actV x)[c]? := by
  induction l generalizing k with
  | nil => simp at hk
  | cons y r ih =>
    rw [flatA, List.flatMap_cons]
    cases k with
    | zero =>
      simp only [List.getElem?_cons_zero, Option.some.injEq] at hk
      subst hk
      rw [List.getElem?_append_left (by simp [actV]; omega)]
      simp
    | succ k =>
      rw [List.getElem?_append_right (by simp [actV]; omega)]
      have := ih k (by simpa using hk)
      rw [← this]
      congr 1
      simp [actV]; omega
theorem ActsAt.cells {w : World} {g cap : Nat} {cu : Array Value} {ty : TypeId} {L : List Act4} (hg : w.heap[g]? = some (.cells cu ty (0, 0))) (ht : cu.toList = flatA L) (hok : ∀ x ∈ L, x.ok) {n : Nat} (hn : L.length = n) : ActsAt w (.slice (some ⟨g, 0, none⟩) n cap) L := by
  subst hn
  refine ⟨_, cap, rfl, fun i x hx => ⟨hok x (List.mem_of_getElem? hx), g, 0, rfl, ?_⟩⟩
  have key : ∀ c, c < 4 → w.cell? ⟨g, 0 + i * 4 + c, none⟩ = (actV x)[c]? := fun c hc => by
    rw [cells_in hg, ← Array.getElem?_toList, ht, Nat.zero_add]
    exact flatA_at L i c x hx hc
  exact ⟨key 0 (by omega), key 1 (by omega), key 2 (by omega), key 3 (by omega)⟩
def actW (x : Act4) : Value := .agg #[.int .u8 x.kind, .string x.name, .int .i64 x.num, .int .i64 x.proc]
/-- An act at a place. -/
def ActAt (w : World) (g o : Nat) (x : Act4) : Prop := w.cell? ⟨g, o, none⟩ = some (.int .u8 x.kind) ∧ w.cell? ⟨g, o + 1, none⟩ = some (.string x.name) ∧ w.cell? ⟨g, o + 2, none⟩ = some (.int .i64 x.num) ∧ w.cell? ⟨g, o + 3, none⟩ = some (.int .i64 x.proc)
theorem ActAt.later {w w' : World} {g o : Nat} {x : Act4} (h : ActAt w g o x) (hf : Fr0 none' w w') : ActAt w' g o x := ⟨hf.later h.1, hf.later h.2.1, hf.later h.2.2.1, hf.later h.2.2.2⟩
theorem ActAt.nth {w : World} {g n i : Nat} {cu : Array Value} {ty : TypeId} {L : List Act4} (hg : w.heap[g]? = some (.cells cu ty (0, 0))) (ht : cu.toList = flatA L) (hl : L.length = n) (hi : i < n) : ∃ x, x ∈ L ∧ ActAt w g (i * 4) x := by
  obtain ⟨x, hx⟩ : ∃ x, L[i]? = some x := ⟨_, List.getElem?_eq_getElem (by omega)⟩
  have key : ∀ c, c < 4 → w.cell? ⟨g, i * 4 + c, none⟩ = (actV x)[c]? := fun c hc => by
    rw [cells_in hg, ← Array.getElem?_toList, ht]
    exact flatA_at L i c x hx hc
  exact ⟨x, List.mem_of_getElem? hx, key 0 (by omega), key 1 (by omega), key 2 (by omega), key 3 (by omega)⟩
/-- The ten acts. -/
def tenA : List Act4 := [⟨0, ⟨#[97]⟩, 0, 1⟩, ⟨0, ⟨#[97, 46, 98]⟩, 0, 2⟩, ⟨0, ⟨#[97, 45, 98]⟩, 0, 1⟩, ⟨3, ⟨#[]⟩, 1, 0⟩, ⟨3, ⟨#[]⟩, 2, 0⟩, ⟨4, ⟨#[97]⟩, 2, 0⟩, ⟨4, ⟨#[97, 46, 98]⟩, 1, 0⟩, ⟨4, ⟨#[]⟩, 1, 0⟩, ⟨5, ⟨#[97]⟩, 2, 2⟩, ⟨0, ⟨#[97, 46, 98, 46, 99]⟩, 0, 2⟩]
def numsI : List Int := [-9223372036854775808, -1, 0, 1, 2, 16, 17, 64, 65, 4294967294, 4294967295, 4294967296, 9223372036854775807]
theorem nums_64 : ∀ n ∈ numsI, -9223372036854775808 ≤ n ∧ n ≤ 9223372036854775807 := by decide
theorem intsA_cell {w : World} {b j : Nat} {ty : TypeId} {L : List Int} {n : Int} (h : w.heap[b]? = some (.cells (L.map (Value.int .i64)).toArray ty (0, 0))) (hn : L[j]? = some n) : w.cell? ⟨b, j, none⟩ = some (.int .i64 n) := by
  rw [cells_in h]
  simp [hn]
def eightA (n : Int) : List Act4 := [⟨0, ⟨#[97]⟩, 0, n⟩, ⟨0, ⟨#[98]⟩, 0, 1⟩, ⟨3, ⟨#[]⟩, n, 0⟩, ⟨0, ⟨#[99]⟩, 0, 1⟩, ⟨4, ⟨#[100]⟩, n, 0⟩, ⟨0, ⟨#[]⟩, 0, n⟩, ⟨4, ⟨#[]⟩, n, 0⟩, ⟨5, ⟨#[65]⟩, n, n⟩]
theorem eight_ok {n : Int} (hn : -9223372036854775808 ≤ n ∧ n ≤ 9223372036854775807) : ∀ x ∈ eightA n, x.ok := by
  intro x hx
  simp only [eightA, List.mem_cons, List.not_mem_nil, or_false] at hx
  rcases hx with rfl | rfl | rfl | rfl | rfl | rfl | rfl | rfl <;> exact ⟨by simp, by simp <;> omega, by simp <;> omega⟩
def digs (i : Nat) : Bs := if i < 10 then [UInt8.ofNat (48 + i)] else [UInt8.ofNat (48 + i / 10), UInt8.ofNat (48 + i % 10)]
theorem digs_eq {i : Nat} (h : i < 100) : Lib.decDigits i = digs i := by
  unfold digs
  rw [Lib.decDigits]
  split
  · rfl
  · rw [Lib.decDigits, dif_pos (by omega)]
    rfl
def pn (i : Nat) : Bs := 112 :: digs i
def portsS (k : Nat) : List Pt := (List.range k).map fun i => ⟨((i : Nat) : Int) + 1, pn i, 1 + ((i % 16 : Nat) : Int)⟩
theorem portsS_succ (k : Nat) : portsS (k + 1) = portsS k ++ [⟨(k : Int) + 1, pn k, 1 + ((k % 16 : Nat) : Int)⟩] := by
  unfold portsS
  rw [List.range_succ, List.map_append]
  rfl
theorem portsS_len (k : Nat) : (portsS k).length = k := by simp [portsS]
theorem port_ok : ∀ k : Nat, k < 64 → openE 64 ((k : Int) + 1) (portsS k) (pn k) (1 + ((k % 16 : Nat) : Int)) = 0 := by decide +kernel
theorem port_q : openE 64 65 (portsS 64) [113] 1 = 5 := by decide +kernel
theorem port_17 : openE 64 65 (portsS 64) [112, 48] 17 = 2 := by decide +kernel
theorem port_p0 : openE 64 65 (portsS 64) [112, 48] 1 = 240 := by decide +kernel
theorem pn_len : ∀ k : Nat, k < 64 → (pn k).length ≤ 3 := by decide +kernel
theorem pn_cat {k : Nat} (h : k < 64) : (⟨#[112]⟩ : ByteArray) ++ ⟨(Lib.decDigits k).toArray⟩ = bs (pn k) := by
  rw [digs_eq (by omega)]
  show _ = (⟨(112 :: digs k).toArray⟩ : ByteArray)
  apply ByteArray.ext
  rw [ByteArray.data_append]
  simp
theorem open_k {w0 w : World} {sb mb : Nat} {nv : Value} {E : List (Nat × Obj)} {k r : Nat} (h : SpSt w0 w sb mb nv 64 ((k : Int) + 1) (portsS k) E) (hk : k < 64) (hr : k % 16 = r) :
    Calls Tryz.prog 7 #[.pointer (some ⟨sb, 0, none⟩), .string (bs (pn k)), .int .i64 (1 + (r : Int))] w fun e w' => e = .returned (.tuple #[.int .i64 ((k : Int) + 1), .int .i64 0]) ∧ ∃ nv', SpSt w0 w' sb mb nv' 64 (((k + 1 : Nat) : Int) + 1) (portsS (k + 1)) E := by
  subst hr
  have ok := port_ok k hk
  refine (open_st h (pn k) (by have := pn_len k hk; omega) _).mono ?_
  rintro e w' ⟨rfl, nv', hs, _⟩
  have h1 : openN 64 ((k : Int) + 1) (portsS k) (pn k) (1 + ((k % 16 : Nat) : Int)) = (k : Int) + 1 := if_pos ok
  have h2 : openX 64 ((k : Int) + 1) (portsS k) (pn k) (1 + ((k % 16 : Nat) : Int)) = (k : Int) + 1 + 1 := if_pos ok
  have h3 : openL 64 ((k : Int) + 1) (portsS k) (pn k) (1 + ((k % 16 : Nat) : Int)) = portsS (k + 1) := by rw [portsS_succ]; exact if_pos ok
  rw [h2, h3] at hs
  rw [h1, ok]
  exact ⟨rfl, nv', hs⟩
theorem open_not {w0 w : World} {sb mb : Nat} {nv : Value} {E : List (Nat × Obj)} {s : Bs} {p e : Int} (h : SpSt w0 w sb mb nv 64 65 (portsS 64) E) (he : openE 64 65 (portsS 64) s p = e) (h0 : e ≠ 0) (hl : s.length ≤ 1000) :
    Calls Tryz.prog 7 #[.pointer (some ⟨sb, 0, none⟩), .string (bs s), .int .i64 p] w fun r w' => r = .returned (.tuple #[.int .i64 0, .int .i64 e]) ∧ ∃ nv', SpSt w0 w' sb mb nv' 64 65 (portsS 64) E := by
  refine (open_st h s hl p).mono ?_
  rintro r w' ⟨rfl, nv', hs, _⟩
  have hne : ¬ openE 64 65 (portsS 64) s p = 0 := by rw [he]; exact h0
  have h1 : openN 64 65 (portsS 64) s p = 0 := if_neg hne
  have h2 : openX 64 65 (portsS 64) s p = 65 := if_neg hne
  have h3 : openL 64 65 (portsS 64) s p = portsS 64 := if_neg hne
  rw [h2, h3] at hs
  rw [h1, he]
  exact ⟨rfl, nv', hs⟩
theorem names_64 : (namesP (portsS 64)).length = 64 := by decide +kernel
theorem row_len {w : World} {base n : Nat} {v : Value} {t : TypeId} {k : Nat} {xs : List Value} (h : w.ownsRow base t k v n xs) : ∃ a cap, v = .slice a n cap := by
  rcases h.2 with ⟨rfl, h0⟩ | ⟨g, cap, cur, rfl, _⟩
  · exact ⟨none, 0, by rw [h0]⟩
  · exact ⟨_, cap, rfl⟩
theorem right_a : rightB (ByteArray.mk #[97]).data.toList = true := by decide +kernel
theorem ten_ok : ∀ x ∈ tenA, x.ok := by
  intro x hx
  simp only [tenA, List.mem_cons, List.not_mem_nil, or_false] at hx
  rcases hx with rfl | rfl | rfl | rfl | rfl | rfl | rfl | rfl | rfl | rfl <;> exact ⟨by decide, by decide, by decide⟩
set_option maxRecDepth 100000 in
set_option maxHeartbeats 4000000 in
theorem SpaceSmall_any (w : World) : Calls Tryz.prog 3 #[] w fun e w' => e = .returned (.bool true) ∧ Fr0 none' w w' := by
  go_enter Tryz.func3, Tryz.ntmps3
  go_wp2_with fail
  obtain ⟨TB, hTB⟩ : ∃ b, w.heap.size = b := ⟨_, rfl⟩
  obtain ⟨W8, hW8⟩ : ∃ W, w.alloc (.cells (flatA tenA).toArray 23) = W := ⟨_, rfl⟩
  have HT := Lib.hid (show W8.heap[TB]? = some (.cells (flatA tenA).toArray 23 (0, 0)) by rw [← hW8, ← hTB]; exact World.alloc_heap_new _ _)
  have FW : Hid (Fr0 none' w W8) := by rw [← hW8]; exact (Fr0.refl _ _).alloc _
  simp only [flatA, tenA, actV, List.flatMap_cons, List.flatMap_nil, List.cons_append, List.nil_append] at hW8
  rw [hW8]
  rw [hTB]
  clear hW8 hTB
  go_loopw [2, 45] (fun _ i wr => ∃ k : Nat, k ≤ 10000 ∧ i = .int .i64 k ∧ Hid (Fr0 none' W8 wr)) (fun _ i _ => 10000 - (Go.RowKit.intOf i).toNat)
  case atStart => exact ⟨0, Nat.zero_le _, rfl, Fr0.refl _ _⟩
  case round =>
    obtain ⟨k, hk, rfl, hb⟩ := hrel
    by_cases hlt : k < 10000
    · skip
      -- DEV<
      have k1 : (k : Int) < 10000 := by omega
      obtain ⟨i1, hi1⟩ : ∃ i, k % 10 = i := ⟨_, rfl⟩
      obtain ⟨j2, hj2⟩ : ∃ i, k / 10 = i := ⟨_, rfl⟩
      obtain ⟨i2, hi2⟩ : ∃ i, j2 % 10 = i := ⟨_, rfl⟩
      obtain ⟨j3, hj3⟩ : ∃ i, k / 100 = i := ⟨_, rfl⟩
      obtain ⟨i3, hi3⟩ : ∃ i, j3 % 10 = i := ⟨_, rfl⟩
      obtain ⟨i4, hi4⟩ : ∃ i, k / 1000 = i := ⟨_, rfl⟩
      obtain ⟨r3, hr3⟩ : ∃ i, k % 3 = i := ⟨_, rfl⟩
      have t1 : (k : Int).tmod 10 = (i1 : Int) := by rw [Int.tmod_eq_emod_of_nonneg (by omega)]; omega
      have d2 : (k : Int).tdiv 10 = (j2 : Int) := by rw [Int.tdiv_eq_ediv_of_nonneg (by omega)]; omega
      have t2 : (j2 : Int).tmod 10 = (i2 : Int) := by rw [Int.tmod_eq_emod_of_nonneg (by omega)]; omega
      have d3 : (k : Int).tdiv 100 = (j3 : Int) := by rw [Int.tdiv_eq_ediv_of_nonneg (by omega)]; omega
      have t3 : (j3 : Int).tmod 10 = (i3 : Int) := by rw [Int.tmod_eq_emod_of_nonneg (by omega)]; omega
      have d4 : (k : Int).tdiv 1000 = (i4 : Int) := by rw [Int.tdiv_eq_ediv_of_nonneg (by omega)]; omega
      have t5 : (k : Int).tmod 3 = (r3 : Int) := by rw [Int.tmod_eq_emod_of_nonneg (by omega)]; omega
      have n1 : i1 < 10 := by omega
      have n2 : i2 < 10 := by omega
      have n3 : i3 < 10 := by omega
      have n4 : i4 < 10 := by omega
      have m1 : (i1 : Int) < 10 := by omega
      have m2 : (i2 : Int) < 10 := by omega
      have m3 : (i3 : Int) < 10 := by omega
      have m4 : (i4 : Int) < 10 := by omega
      have wj2 : IntKind.i64.wrap (j2 : Int) = (j2 : Int) := IntWalk.i64_in _ (by omega)
      have wj3 : IntKind.i64.wrap (j3 : Int) = (j3 : Int) := IntWalk.i64_in _ (by omega)
      have wj4 : IntKind.i64.wrap (i4 : Int) = (i4 : Int) := IntWalk.i64_in _ (by omega)
      have wr3 : IntKind.i64.wrap (1 + (r3 : Int)) = 1 + (r3 : Int) := IntWalk.i64_in _ (by omega)
      clear hi1 hj2 hi2 hj3 hi3 hi4 hr3
      obtain ⟨xa, ha, ina⟩ := ActAt.nth (n := 10) (i := i1) HT.out rfl rfl n1
      obtain ⟨xb, hb', inb⟩ := ActAt.nth (n := 10) (i := i2) HT.out rfl rfl n2
      obtain ⟨xc, hc, inc⟩ := ActAt.nth (n := 10) (i := i3) HT.out rfl rfl n3
      obtain ⟨xd, hd, ind⟩ := ActAt.nth (n := 10) (i := i4) HT.out rfl rfl n4
      have HM := Lib.hid (show xa ∈ tenA ∧ xb ∈ tenA ∧ xc ∈ tenA ∧ xd ∈ tenA from ⟨ha, hb', hc, hd⟩)
      have HIa := Lib.hid (ina.later hb.out)
      have HIb := Lib.hid (inb.later hb.out)
      have HIc := Lib.hid (inc.later hb.out)
      have HId := Lib.hid (ind.later hb.out)
      clear ina inb inc ind ha hb' hc hd
      go_wp2_with fail
      refine wp_region_held_drew (S := fun W' => Fr0 none' wr W') (by kernel_rfl) ((Fr0.refl none' wr).drew) (fun hHeld => ?_)
      refine take_on (i := 0) (v := .int .i64 (k : Int)) rfl (by kernel_rfl) (by kernel_rfl) (by kernel_rfl) (fun _ _ _ h => h) (by kernel_rfl) (fun W' hSW => ?_) (by assumption) ?_
      · first | (go_simp; done) | exact rfl | (go_simp; rfl) | (go_simp; omega)
      try simp only [Act.put, List.setIfInBounds_toArray, List.set_cons_zero, List.set_cons_succ]
      refine take_on (i := 1) (v := .int .i64 (r3 : Int)) rfl (by kernel_rfl) (by kernel_rfl) (by kernel_rfl) (fun _ _ _ h => h) (by kernel_rfl) (fun W' hSW => ?_) (by assumption) ?_
      · first | (go_simp; done) | exact rfl | (go_simp; rfl) | (go_simp; omega)
      try simp only [Act.put, List.setIfInBounds_toArray, List.set_cons_zero, List.set_cons_succ]
      refine take_on (i := 2) (v := .int .i64 (1 + (r3 : Int))) rfl (by kernel_rfl) (by kernel_rfl) (by kernel_rfl) (fun _ _ _ h => h) (by kernel_rfl) (fun W' hSW => ?_) (by assumption) ?_
      · first | (go_simp; done) | exact rfl | (go_simp; rfl) | (go_simp; omega)
      try simp only [Act.put, List.setIfInBounds_toArray, List.set_cons_zero, List.set_cons_succ]
      refine take_on (i := 3) (v := .slice (some ⟨TB, 0, none⟩) 10 10) rfl (by kernel_rfl) (by kernel_rfl) (by kernel_rfl) (fun _ _ _ h => h) (by kernel_rfl) (fun W' hSW => ?_) (by assumption) ?_
      · first | (go_simp; done) | exact rfl | (go_simp; rfl) | (go_simp; omega)
      try simp only [Act.put, List.setIfInBounds_toArray, List.set_cons_zero, List.set_cons_succ]
      refine take_on (i := 4) (v := .int .i64 (k : Int)) rfl (by kernel_rfl) (by kernel_rfl) (by kernel_rfl) (fun _ _ _ h => h) (by kernel_rfl) (fun W' hSW => ?_) (by assumption) ?_
      · first | (go_simp; done) | exact rfl | (go_simp; rfl) | (go_simp; omega)
      try simp only [Act.put, List.setIfInBounds_toArray, List.set_cons_zero, List.set_cons_succ]
      refine take_on (i := 5) (v := .int .i64 (i1 : Int)) rfl (by kernel_rfl) (by kernel_rfl) (by kernel_rfl) (fun _ _ _ h => h) (by kernel_rfl) (fun W' hSW => ?_) (by assumption) ?_
      · first | (go_simp; done) | exact rfl | (go_simp; rfl) | (go_simp; omega)
      try simp only [Act.put, List.setIfInBounds_toArray, List.set_cons_zero, List.set_cons_succ]
      refine take_on (i := 6) (v := .pointer (some ⟨TB, i1 * 4, none⟩)) rfl (by kernel_rfl) (by kernel_rfl) (by kernel_rfl) (fun _ _ _ h => h) (by kernel_rfl) (fun W' hSW => ?_) (by assumption) ?_
      · first | (go_simp; done) | exact rfl | (go_simp; rfl) | (go_simp; omega)
      try simp only [Act.put, List.setIfInBounds_toArray, List.set_cons_zero, List.set_cons_succ]
      refine take_on (i := 7) (v := actW xa) rfl (by kernel_rfl) (by kernel_rfl) (by kernel_rfl) (fun _ _ _ h => h) (by kernel_rfl) (fun W' hSW => ?_) (by assumption) ?_
      · obtain ⟨a0, a1, a2, a3⟩ := HIa.out.later hSW
        unfold actW
        first | (go_simp; done) | exact rfl | (go_simp; rfl) | (go_simp; omega)
      try simp only [Act.put, List.setIfInBounds_toArray, List.set_cons_zero, List.set_cons_succ]
      refine take_on (i := 8) (v := .slice (some ⟨TB, 0, none⟩) 10 10) rfl (by kernel_rfl) (by kernel_rfl) (by kernel_rfl) (fun _ _ _ h => h) (by kernel_rfl) (fun W' hSW => ?_) (by assumption) ?_
      · first | (go_simp; done) | exact rfl | (go_simp; rfl) | (go_simp; omega)
      try simp only [Act.put, List.setIfInBounds_toArray, List.set_cons_zero, List.set_cons_succ]
      refine take_on (i := 9) (v := .int .i64 (k : Int)) rfl (by kernel_rfl) (by kernel_rfl) (by kernel_rfl) (fun _ _ _ h => h) (by kernel_rfl) (fun W' hSW => ?_) (by assumption) ?_
      · first | (go_simp; done) | exact rfl | (go_simp; rfl) | (go_simp; omega)
      try simp only [Act.put, List.setIfInBounds_toArray, List.set_cons_zero, List.set_cons_succ]
      refine take_on (i := 10) (v := .int .i64 (j2 : Int)) rfl (by kernel_rfl) (by kernel_rfl) (by kernel_rfl) (fun _ _ _ h => h) (by kernel_rfl) (fun W' hSW => ?_) (by assumption) ?_
      · first | (go_simp; done) | exact rfl | (go_simp; rfl) | (go_simp; omega)
      try simp only [Act.put, List.setIfInBounds_toArray, List.set_cons_zero, List.set_cons_succ]
      refine take_on (i := 11) (v := .int .i64 (i2 : Int)) rfl (by kernel_rfl) (by kernel_rfl) (by kernel_rfl) (fun _ _ _ h => h) (by kernel_rfl) (fun W' hSW => ?_) (by assumption) ?_
      · first | (go_simp; done) | exact rfl | (go_simp; rfl) | (go_simp; omega)
      try simp only [Act.put, List.setIfInBounds_toArray, List.set_cons_zero, List.set_cons_succ]
      refine take_on (i := 12) (v := .pointer (some ⟨TB, i2 * 4, none⟩)) rfl (by kernel_rfl) (by kernel_rfl) (by kernel_rfl) (fun _ _ _ h => h) (by kernel_rfl) (fun W' hSW => ?_) (by assumption) ?_
      · first | (go_simp; done) | exact rfl | (go_simp; rfl) | (go_simp; omega)
      try simp only [Act.put, List.setIfInBounds_toArray, List.set_cons_zero, List.set_cons_succ]
      refine take_on (i := 13) (v := actW xb) rfl (by kernel_rfl) (by kernel_rfl) (by kernel_rfl) (fun _ _ _ h => h) (by kernel_rfl) (fun W' hSW => ?_) (by assumption) ?_
      · obtain ⟨a0, a1, a2, a3⟩ := HIb.out.later hSW
        unfold actW
        first | (go_simp; done) | exact rfl | (go_simp; rfl) | (go_simp; omega)
      try simp only [Act.put, List.setIfInBounds_toArray, List.set_cons_zero, List.set_cons_succ]
      refine take_on (i := 14) (v := .slice (some ⟨TB, 0, none⟩) 10 10) rfl (by kernel_rfl) (by kernel_rfl) (by kernel_rfl) (fun _ _ _ h => h) (by kernel_rfl) (fun W' hSW => ?_) (by assumption) ?_
      · first | (go_simp; done) | exact rfl | (go_simp; rfl) | (go_simp; omega)
      try simp only [Act.put, List.setIfInBounds_toArray, List.set_cons_zero, List.set_cons_succ]
      refine take_on (i := 15) (v := .int .i64 (k : Int)) rfl (by kernel_rfl) (by kernel_rfl) (by kernel_rfl) (fun _ _ _ h => h) (by kernel_rfl) (fun W' hSW => ?_) (by assumption) ?_
      · first | (go_simp; done) | exact rfl | (go_simp; rfl) | (go_simp; omega)
      try simp only [Act.put, List.setIfInBounds_toArray, List.set_cons_zero, List.set_cons_succ]
      refine take_on (i := 16) (v := .int .i64 (j3 : Int)) rfl (by kernel_rfl) (by kernel_rfl) (by kernel_rfl) (fun _ _ _ h => h) (by kernel_rfl) (fun W' hSW => ?_) (by assumption) ?_
      · first | (go_simp; done) | exact rfl | (go_simp; rfl) | (go_simp; omega)
      try simp only [Act.put, List.setIfInBounds_toArray, List.set_cons_zero, List.set_cons_succ]
      refine take_on (i := 17) (v := .int .i64 (i3 : Int)) rfl (by kernel_rfl) (by kernel_rfl) (by kernel_rfl) (fun _ _ _ h => h) (by kernel_rfl) (fun W' hSW => ?_) (by assumption) ?_
      · first | (go_simp; done) | exact rfl | (go_simp; rfl) | (go_simp; omega)
      try simp only [Act.put, List.setIfInBounds_toArray, List.set_cons_zero, List.set_cons_succ]
      refine take_on (i := 18) (v := .pointer (some ⟨TB, i3 * 4, none⟩)) rfl (by kernel_rfl) (by kernel_rfl) (by kernel_rfl) (fun _ _ _ h => h) (by kernel_rfl) (fun W' hSW => ?_) (by assumption) ?_
      · first | (go_simp; done) | exact rfl | (go_simp; rfl) | (go_simp; omega)
      try simp only [Act.put, List.setIfInBounds_toArray, List.set_cons_zero, List.set_cons_succ]
      refine take_on (i := 19) (v := actW xc) rfl (by kernel_rfl) (by kernel_rfl) (by kernel_rfl) (fun _ _ _ h => h) (by kernel_rfl) (fun W' hSW => ?_) (by assumption) ?_
      · obtain ⟨a0, a1, a2, a3⟩ := HIc.out.later hSW
        unfold actW
        first | (go_simp; done) | exact rfl | (go_simp; rfl) | (go_simp; omega)
      try simp only [Act.put, List.setIfInBounds_toArray, List.set_cons_zero, List.set_cons_succ]
      refine take_on (i := 20) (v := .slice (some ⟨TB, 0, none⟩) 10 10) rfl (by kernel_rfl) (by kernel_rfl) (by kernel_rfl) (fun _ _ _ h => h) (by kernel_rfl) (fun W' hSW => ?_) (by assumption) ?_
      · first | (go_simp; done) | exact rfl | (go_simp; rfl) | (go_simp; omega)
      try simp only [Act.put, List.setIfInBounds_toArray, List.set_cons_zero, List.set_cons_succ]
      refine take_on (i := 21) (v := .int .i64 (k : Int)) rfl (by kernel_rfl) (by kernel_rfl) (by kernel_rfl) (fun _ _ _ h => h) (by kernel_rfl) (fun W' hSW => ?_) (by assumption) ?_
      · first | (go_simp; done) | exact rfl | (go_simp; rfl) | (go_simp; omega)
      try simp only [Act.put, List.setIfInBounds_toArray, List.set_cons_zero, List.set_cons_succ]
      refine take_on (i := 22) (v := .int .i64 (i4 : Int)) rfl (by kernel_rfl) (by kernel_rfl) (by kernel_rfl) (fun _ _ _ h => h) (by kernel_rfl) (fun W' hSW => ?_) (by assumption) ?_
      · first | (go_simp; done) | exact rfl | (go_simp; rfl) | (go_simp; omega)
      try simp only [Act.put, List.setIfInBounds_toArray, List.set_cons_zero, List.set_cons_succ]
      refine take_on (i := 23) (v := .pointer (some ⟨TB, i4 * 4, none⟩)) rfl (by kernel_rfl) (by kernel_rfl) (by kernel_rfl) (fun _ _ _ h => h) (by kernel_rfl) (fun W' hSW => ?_) (by assumption) ?_
      · first | (go_simp; done) | exact rfl | (go_simp; rfl) | (go_simp; omega)
      try simp only [Act.put, List.setIfInBounds_toArray, List.set_cons_zero, List.set_cons_succ]
      refine take_on (i := 24) (v := actW xd) rfl (by kernel_rfl) (by kernel_rfl) (by kernel_rfl) (fun _ _ _ h => h) (by kernel_rfl) (fun W' hSW => ?_) (by assumption) ?_
      · obtain ⟨a0, a1, a2, a3⟩ := HId.out.later hSW
        unfold actW
        first | (go_simp; done) | exact rfl | (go_simp; rfl) | (go_simp; omega)
      try simp only [Act.put, List.setIfInBounds_toArray, List.set_cons_zero, List.set_cons_succ]
      unfold actW
      refine take_call (i := 25) rfl (by kernel_rfl) (by kernel_rfl) (fun K hK => ?_)
      go_simp
      have hz8 := World.alloc_heap_new wr.drew (.cells (flatA [xa, xb, xc, xd]).toArray 23)
      have hf8 : Fr0 none' wr (wr.drew.alloc (.cells (flatA [xa, xb, xc, xd]).toArray 23)) := (Fr0.refl none' wr).drew.alloc _
      obtain ⟨W9, hW9⟩ : ∃ W, wr.drew.alloc (.cells (flatA [xa, xb, xc, xd]).toArray 23) = W := ⟨_, rfl⟩
      rw [hW9] at hz8 hf8
      refine (congrArg (K _) hW9).mpr ?_
      obtain ⟨LB, hLB⟩ : ∃ b, wr.drew.heap.size = b := ⟨_, rfl⟩
      rw [hLB] at hz8
      have hLB : wr.heap.size = LB := hLB
      rw [hLB]
      have HL := Lib.hid (show ActsAt W9 (.slice (some ⟨LB, 0, none⟩) 4 4) [xa, xb, xc, xd] from ActsAt.cells hz8 rfl (fun x hx => ten_ok x (by
        have := HM.out
        simp only [List.mem_cons, List.not_mem_nil, or_false] at hx
        rcases hx with rfl | rfl | rfl | rfl
        · exact this.1
        · exact this.2.1
        · exact this.2.2.1
        · exact this.2.2.2)) rfl)
      have F9 := Lib.hid hf8
      clear hW9 hz8 hf8 hLB
      refine hK.out _ _ F9.out (fun hHeld => ?_)
      clear hK K
      try simp only [Act.put, List.setIfInBounds_toArray, List.set_cons_zero, List.set_cons_succ]
      refine take_call (i := 26) rfl (by kernel_rfl) (by kernel_rfl) (fun K hK => ?_)
      go_simp
      refine (acts_any HL.out _ _).mono ?_
      rintro e w10 ⟨rfl, hf⟩
      have F10 := Lib.hid (F9.out.trans hf)
      clear hf
      go_wp2_with fail
      refine hK.out _ _ F10.out (fun hHeld => ?_)
      clear hK K
      try simp only [Act.put, List.setIfInBounds_toArray, List.set_cons_zero, List.set_cons_succ]
      refine take_on (i := 27) (v := .bool false) rfl (by kernel_rfl) (by kernel_rfl) (by kernel_rfl) (fun _ _ _ h => h) (by kernel_rfl) (fun W' hSW => ?_) (by assumption) ?_
      · first | (go_simp; done) | exact rfl | (go_simp; rfl) | (go_simp; omega)
      try simp only [Act.put, List.setIfInBounds_toArray, List.set_cons_zero, List.set_cons_succ]
      refine wpAnyH_done (by kernel_rfl) ?_ _
      have FE := Lib.hid (hb.out.trans F10.out)
      clear hHeld HIa HIb HIc HId t1 t2 t3 d2 d3 d4 wj2 wj3 wj4 m1 m2 m3 m4 n1 n2 n3 n4 F9 F10 hb HL
      go_wp2_with fail
      go_roundw
      case rel => exact ⟨k + 1, by omega, by go_num, FE⟩
      case measure => simp [Go.RowKit.intOf]; omega
      -- >DEV
    · have FR := Lib.hid (FW.out.trans hb.out)
      clear HT hb FW
      go_wp2_with fail
      obtain ⟨W0, hW0⟩ : ∃ W, wr = W := ⟨_, rfl⟩
      subst hW0
      obtain ⟨G, hG⟩ : ∃ G, wr.heap.size = G := ⟨_, rfl⟩
      obtain ⟨W21, hW21⟩ : ∃ W, wr.alloc (.cells #[.int .i64 (-9223372036854775808), .int .i64 (-1), .int .i64 0, .int .i64 1, .int .i64 2, .int .i64 16, .int .i64 17, .int .i64 64, .int .i64 65, .int .i64 4294967294, .int .i64 4294967295, .int .i64 4294967296, .int .i64 9223372036854775807] 3) = W := ⟨_, rfl⟩
      have HI := Lib.hid (show W21.heap[G]? = some (.cells (numsI.map (Value.int .i64)).toArray 3 (0, 0)) by rw [← hW21, ← hG]; exact World.alloc_heap_new _ _)
      have f21 : Fr0 none' wr W21 := by rw [← hW21]; exact (Fr0.refl _ _).alloc _
      have F21 := Lib.hid (FR.out.trans f21)
      rw [hW21]
      try rw [hG]
      clear hG hW21 f21 FR
      go_loopw [5, 6, 80] (fun _ _ i wr => ∃ t : Nat, t ≤ 13 ∧ i = .int .i64 t ∧ Hid (Fr0 none' W21 wr)) (fun _ _ i _ => 13 - (Go.RowKit.intOf i).toNat)
      case atStart => exact ⟨0, Nat.zero_le _, rfl, Fr0.refl _ _⟩
      case round =>
        obtain ⟨t, ht, rfl, hb2⟩ := hrel
        by_cases hlt2 : t < 13
        · obtain ⟨n, hn⟩ : ∃ n, numsI[t]? = some n := ⟨_, List.getElem?_eq_getElem (by simpa [numsI] using hlt2)⟩
          have c0 := hb2.out.later (intsA_cell HI.out hn)
          have HN := Lib.hid (nums_64 n (List.mem_of_getElem? hn))
          have t1 : (0 : Int) ≤ (t : Int) := by omega
          have t2 : (t : Int) < 13 := by omega
          have F1 := Lib.hid (F21.out.trans hb2.out)
          clear hn
          go_wp2_with fail
          obtain ⟨AB, hAB⟩ : ∃ G, wr.heap.size = G := ⟨_, rfl⟩
          obtain ⟨W22, hW22⟩ : ∃ W, wr.alloc (.cells (flatA (eightA n)).toArray 23) = W := ⟨_, rfl⟩
          have HL := Lib.hid (show ActsAt W22 (.slice (some ⟨AB, 0, none⟩) 8 8) (eightA n) from ActsAt.cells (by rw [← hW22, ← hAB]; exact World.alloc_heap_new _ _) rfl (eight_ok HN.out) rfl)
          have f22 : Fr0 none' wr W22 := by rw [← hW22]; exact (Fr0.refl _ _).alloc _
          simp only [flatA, eightA, actV, List.flatMap_cons, List.flatMap_nil, List.cons_append, List.nil_append] at hW22
          have F2 := Lib.hid (hb2.out.trans f22)
          rw [hW22]
          try rw [hAB]
          clear hW22 hAB f22 hb2 c0
          refine (acts_any HL.out _ _).mono ?_
          rintro e v1 ⟨rfl, hf⟩
          have F2 := Lib.hid (F2.out.trans hf)
          have HL := Lib.hid (HL.out.later hf)
          clear hf
          go_wp2_with fail
          refine (acts_any HL.out _ _).mono ?_
          rintro e v2 ⟨rfl, hf⟩
          have F2 := Lib.hid (F2.out.trans hf)
          have HL := Lib.hid (HL.out.later hf)
          clear hf
          go_wp2_with fail
          refine (acts_any HL.out _ _).mono ?_
          rintro e v3 ⟨rfl, hf⟩
          have F2 := Lib.hid (F2.out.trans hf)
          clear hf HL
          go_wp2_with fail
          go_roundw
          case rel => exact ⟨t + 1, by omega, by go_num, F2⟩
          case measure => simp [Go.RowKit.intOf]; omega
        · have FR := Lib.hid (F21.out.trans hb2.out)
          clear hb2 F21 HI
          go_wp2_with fail
          refine (SNew_ok 64 1 _ (by omega) (by omega) (by omega) (by omega)).mono ?_
          rintro e V0 ⟨sb, mb, rfl, his, hf, hnew⟩
          have HS := Lib.hid (show ∃ nv, SpSt wr V0 sb mb nv 64 ((0 : Nat) + 1 : Int) (portsS 0) [] from ⟨_, his, hf, hnew, fun x hx => by cases hx⟩)
          clear his hf hnew
          go_wp2_with fail
          obtain ⟨V1, hV1⟩ : ∃ W, V0 = W := ⟨_, rfl⟩
          subst hV1
          go_loopw [9, 10, 11, 126] (fun _ _ _ i wv => ∃ k : Nat, k ≤ 64 ∧ i = .int .i64 k ∧ Hid (∃ nv, SpSt wr wv sb mb nv 64 ((k : Int) + 1) (portsS k) [])) (fun _ _ _ i _ => 64 - (Go.RowKit.intOf i).toNat)
          case atStart => exact ⟨0, Nat.zero_le _, rfl, HS⟩
          case round =>
            obtain ⟨k, hk, rfl, hst⟩ := hrel
            by_cases hlt3 : k < 64
            · have k1 : (k : Int) < 64 := by omega
              obtain ⟨r, hr⟩ : ∃ r, k % 16 = r := ⟨_, rfl⟩
              have t1 : (k : Int).tmod 16 = (r : Int) := by rw [Int.tmod_eq_emod_of_nonneg (by omega)]; omega
              have w1 : IntKind.i64.wrap (1 + (r : Int)) = 1 + (r : Int) := IntWalk.i64_in _ (by omega)
              have w2 : IntKind.i64.wrap ((k : Int) + 1) = (k : Int) + 1 := IntWalk.i64_in _ (by omega)
              have g1 := pn_cat hlt3
              have g2 : ¬ 9223372036854775807 < 1 + (Lib.decDigits k).length := by
                have h2 : (digs k).length ≤ 2 := by
                  unfold digs
                  split <;> simp
                rw [digs_eq (by omega)]
                omega
              have Hr := Lib.hid hr
              clear hr
              go_wp2_with fail
              refine (Tryz.strconv_Itoa_small k (by omega) _).mono ?_
              rintro e v1 ⟨rfl, rfl⟩
              go_wp2_with fail
              obtain ⟨nv, hs⟩ := hst.out
              refine (open_k hs hlt3 Hr.out).mono ?_
              clear hs
              rintro e v2 ⟨rfl, nv2, hs⟩
              have HS2 := Lib.hid (show ∃ nv, SpSt wr v2 sb mb nv 64 (((k + 1 : Nat) : Int) + 1) (portsS (k + 1)) [] from ⟨nv2, hs⟩)
              clear hs hst g1 g2 t1 w1
              go_wp2_with fail
              go_roundw
              case rel => exact ⟨k + 1, by omega, by go_num, HS2⟩
              case measure => simp [Go.RowKit.intOf]; omega
            · obtain rfl : k = 64 := by omega
              clear hlt3 hk HS
              go_wp2_with fail
              obtain ⟨nv, hs⟩ := hst.out
              clear hst
              refine (open_not hs (s := [113]) (p := 1) port_q (by omega) (by simp)).mono ?_
              clear hs
              rintro e v1 ⟨rfl, nv1, hs⟩
              have HS := Lib.hid hs
              clear hs
              go_wp2_with fail
              refine (open_not HS.out (s := [112, 48]) (p := 17) port_17 (by omega) (by simp)).mono ?_
              clear HS
              rintro e v2 ⟨rfl, nv2, hs⟩
              have HS := Lib.hid hs
              clear hs
              go_wp2_with fail
              refine (open_not HS.out (s := [112, 48]) (p := 1) port_p0 (by omega) (by simp)).mono ?_
              clear HS
              rintro e v3 ⟨rfl, nv3, hs⟩
              have HS := Lib.hid hs
              clear hs
              go_wp2_with fail
              refine (all_st HS.out).mono ?_
              rintro e v4 ⟨u4, rfl, hrow, hf⟩
              obtain ⟨a4, c4, rfl, _⟩ := hrow.row
              rw [portsS_len]
              have HS := Lib.hid (HS.out.later hf)
              clear hf hrow
              go_wp2_with fail
              refine (Names_is HS.out.is).mono ?_
              rintro e v5 ⟨u5, rfl, hrow, hf⟩
              obtain ⟨a5, c5, rfl⟩ := row_len hrow
              rw [names_64]
              have FR := Lib.hid (FR.out.trans (HS.out.fr.trans hf))
              clear hf hrow HS
              go_wp2_with fail
              obtain ⟨G1, hG⟩ : ∃ G, v5.heap.size = G := ⟨_, rfl⟩
              obtain ⟨W31, hW31⟩ : ∃ W, v5.alloc (.cells #[.bool false, .int .i64 0, .int .i64 0, .map none, .slice none 0 0] 40) = W := ⟨_, rfl⟩
              have f31 : Fr0 none' v5 W31 := by rw [← hW31]; exact (Fr0.refl _ _).alloc _
              have b31 : W31.heap[G1]? = some (.cells #[.bool false, .int .i64 0, .int .i64 0, .map none, .slice none 0 0] 40 (0, 0)) := by rw [← hW31, ← hG]; exact World.alloc_heap_new _ _
              rw [hW31]
              try rw [hG]
              have hG2 : W31.heap.size = G1 + 1 := by rw [← hW31, World.size_alloc, hG]
              obtain ⟨W32, hW32⟩ : ∃ W, W31.alloc (.cells #[.pointer none, .pointer (some ⟨G1, 0, none⟩)] 27) = W := ⟨_, rfl⟩
              have f32 : Fr0 none' W31 W32 := by rw [← hW32]; exact (Fr0.refl _ _).alloc _
              have b32 : W32.heap[G1 + 1]? = some (.cells #[.pointer none, .pointer (some ⟨G1, 0, none⟩)] 27 (0, 0)) := by rw [← hW32, ← hG2]; exact World.alloc_heap_new _ _
              rw [hW32]
              try rw [hG2]
              have HQ1 := Lib.hid (show NoS W32 none from .inl rfl)
              have HQ2 := Lib.hid (show NoS W32 (some ⟨G1, 0, none⟩) from .inr ⟨G1, rfl, (f32.block _ (Array.getElem?_eq_some_iff.1 b31).1 id).trans b31⟩)
              have HQs := Lib.hid b32
              have FR := Lib.hid ((FR.out.trans f31).trans f32)
              clear hG hG2 hW31 hW32 f31 f32 b31 b32
              go_loopw [19, 20, 21, 22, 23, 24, 25, 26, 27, 28, 29, 30, 31, 33, 190] (fun _ _ _ _ _ _ _ _ _ _ _ _ _ _ i wv => ∃ j : Nat, j ≤ 2 ∧ i = .int .i64 j ∧ Hid (Fr0 none' W32 wv)) (fun _ _ _ _ _ _ _ _ _ _ _ _ _ _ i _ => 2 - (Go.RowKit.intOf i).toNat)
              case atStart => exact ⟨0, Nat.zero_le _, rfl, Fr0.refl _ _⟩
              case round =>
                obtain ⟨t, ht, rfl, hb5⟩ := hrel
                by_cases hlt5 : t < 2
                · obtain ⟨p, hp, hq⟩ : ∃ p, wr.cell? ⟨G1 + 1, t, none⟩ = some (.pointer p) ∧ NoS wr p := by
                    rcases t with _ | _ | t
                    · exact ⟨none, hb5.out.later (by rw [cells_in HQs.out]; rfl), HQ1.out.later hb5.out⟩
                    · exact ⟨_, hb5.out.later (by rw [cells_in HQs.out]; rfl), HQ2.out.later hb5.out⟩
                    · omega
                  have HQ := Lib.hid hq
                  have t1 : (0 : Int) ≤ (t : Int) := by omega
                  have t2 : (t : Int) < 2 := by omega
                  clear hq
                  go_wp2_with fail
                  refine (HQ.out.opens _ _).mono ?_
                  rintro e w1 ⟨rfl, hf⟩
                  have F1 := Lib.hid (hb5.out.trans hf)
                  have HQ := Lib.hid (HQ.out.later hf)
                  clear hf hp
                  go_wp2_with fail
                  refine (HQ.out.close _).mono ?_
                  rintro e w2 ⟨rfl, hf⟩
                  have F1 := Lib.hid (F1.out.trans hf)
                  have HQ := Lib.hid (HQ.out.later hf)
                  clear hf
                  go_wp2_with fail
                  refine ((HQ.out.later ((Fr0.refl _ _).alloc _)).rename _ _).mono ?_
                  rintro e w3 ⟨rfl, hf⟩
                  have F1 := Lib.hid ((F1.out.alloc _).trans hf)
                  have HQ := Lib.hid ((HQ.out.later ((Fr0.refl _ _).alloc _)).later hf)
                  clear hf
                  go_wp2_with fail
                  refine (HQ.out.get _).mono ?_
                  rintro e w4 ⟨rfl, hf⟩
                  have F1 := Lib.hid (F1.out.trans hf)
                  have HQ := Lib.hid (HQ.out.later hf)
                  clear hf
                  go_wp2_with fail
                  refine ((HQ.out.later ((Fr0.refl _ _).alloc _)).find _).mono ?_
                  rintro e w5 ⟨rfl, hf⟩
                  have F1 := Lib.hid ((F1.out.alloc _).trans hf)
                  have HQ := Lib.hid ((HQ.out.later ((Fr0.refl _ _).alloc _)).later hf)
                  clear hf
                  go_wp2_with fail
                  refine ((HQ.out.later ((Fr0.refl _ _).alloc _)).under _).mono ?_
                  rintro e w6 ⟨rfl, hf⟩
                  have F1 := Lib.hid ((F1.out.alloc _).trans hf)
                  have HQ := Lib.hid ((HQ.out.later ((Fr0.refl _ _).alloc _)).later hf)
                  clear hf
                  go_wp2_with fail
                  obtain ⟨EB, hEB⟩ : ∃ G, w6.heap.size = G := ⟨_, rfl⟩
                  obtain ⟨W40, hW40⟩ : ∃ W, w6.alloc (.cells #[.int .i64 1, .int .i64 1, .int .i64 1, .int .i64 1, .int .i64 1, .int .i64 1] 28) = W := ⟨_, rfl⟩
                  have f40 : Fr0 none' w6 W40 := by rw [← hW40]; exact (Fr0.refl _ _).alloc _
                  have HE := Lib.hid (show W40.heap[EB]? = some (.cells #[.int .i64 1, .int .i64 1, .int .i64 1, .int .i64 1, .int .i64 1, .int .i64 1] 28 (0, 0)) by rw [← hW40, ← hEB]; exact World.alloc_heap_new _ _)
                  have F1 := Lib.hid (F1.out.trans f40)
                  have HQ := Lib.hid (HQ.out.later f40)
                  rw [hW40]
                  try rw [hEB]
                  clear hW40 hEB f40
                  go_loopw [33, 232] (fun _ i wv => ∃ s : Nat, s ≤ 6 ∧ i = .int .i64 s ∧ Hid (Fr0 none' W40 wv)) (fun _ i _ => 6 - (Go.RowKit.intOf i).toNat)
                  case atStart => exact ⟨0, Nat.zero_le _, rfl, Fr0.refl _ _⟩
                  case round =>
                    obtain ⟨s, hs, rfl, hb6⟩ := hrel
                    by_cases hlt6 : s < 6
                    · have c0 : wr.cell? ⟨EB, s, none⟩ = some (.int .i64 1) := hb6.out.later (by
                        rw [cells_in HE.out]
                        rcases s with _ | _ | _ | _ | _ | _ | s
                        · rfl
                        · rfl
                        · rfl
                        · rfl
                        · rfl
                        · rfl
                        · omega)
                      have s1 : (0 : Int) ≤ (s : Int) := by omega
                      have s2 : (s : Int) < 6 := by omega
                      go_wp2_with fail
                      go_roundw
                      case rel => exact ⟨s + 1, by omega, by go_num, hb6⟩
                      case measure => simp [Go.RowKit.intOf]; omega
                    · have F1 := Lib.hid (F1.out.trans hb6.out)
                      have HQ := Lib.hid (HQ.out.later hb6.out)
                      clear hb6 HE
                      go_wp2_with fail
                      refine (HQ.out.all).mono ?_
                      rintro e w7 ⟨a7, c7, rfl, hf⟩
                      have F1 := Lib.hid (F1.out.trans hf)
                      have HQ := Lib.hid (HQ.out.later hf)
                      clear hf
                      go_wp2_with fail
                      refine (HQ.out.of _).mono ?_
                      rintro e w8 ⟨a8, c8, rfl, hf⟩
                      have F1 := Lib.hid (F1.out.trans hf)
                      have HQ := Lib.hid (HQ.out.later hf)
                      clear hf
                      go_wp2_with fail
                      refine (HQ.out.names).mono ?_
                      rintro e w9 ⟨rfl, hf⟩
                      have F1 := Lib.hid (F1.out.trans hf)
                      have HQ := Lib.hid (HQ.out.later hf)
                      clear hf
                      go_wp2_with fail
                      refine (HQ.out.len).mono ?_
                      rintro e w10 ⟨rfl, hf⟩
                      have F1 := Lib.hid (F1.out.trans hf)
                      have HQ := Lib.hid (HQ.out.later hf)
                      clear hf
                      go_wp2_with fail
                      refine (HQ.out.limit).mono ?_
                      rintro e w11 ⟨rfl, hf⟩
                      have F1 := Lib.hid (F1.out.trans hf)
                      have HQ := Lib.hid (HQ.out.later hf)
                      clear hf
                      go_wp2_with fail
                      refine (HQ.out.next).mono ?_
                      rintro e w12 ⟨rfl, hf⟩
                      have F1 := Lib.hid (F1.out.trans hf)
                      have HQ := Lib.hid (HQ.out.later hf)
                      clear hf
                      go_wp2_with fail
                      refine (HQ.out.copy).mono ?_
                      rintro e w13 ⟨rfl, hf⟩
                      have F1 := Lib.hid (F1.out.trans hf)
                      have HQ := Lib.hid (HQ.out.later hf)
                      clear hf
                      go_wp2_with fail
                      go_roundw
                      case rel => exact ⟨t + 1, by omega, by go_num, F1⟩
                      case measure => simp [Go.RowKit.intOf]; omega
                · have FR := Lib.hid (FR.out.trans hb5.out)
                  clear hb5 HQ1 HQ2 HQs
                  go_wp2_with fail
                  refine (Right_any ⟨#[97]⟩ _ (by decide)).mono ?_
                  rintro e w1 ⟨rfl, rfl⟩
                  rw [right_a]
                  go_wp2_with fail
                  refine (sawake_any _).mono ?_
                  rintro e w2 ⟨rfl, hf⟩
                  have FR := Lib.hid (FR.out.trans hf)
                  clear hf
                  go_wp2_with fail
                  go_ret
                  exact ⟨rfl, FR.out⟩
end Go.Proofs.YtieeloealklkgaaGreatDoor

namespace Go.Proofs.YtieeloealklkgaaGreatDoor.spaceSmall
open Go Go.ChangeShapes Go.WideShapes Go.ChangeAt Go.RowKit Go.Proofs.YtieeloealklkgaaGreatDoor

set_option maxRecDepth 100000 in
theorem lifted (os : Os) (started : os.Started) (H : Type) (enc : TypeId × Value → H) :
    ReturnsInHanded {} Tryz.checked os 3 .any (fun w args => (Rows.spaceSmallSpec.pre enc Tryz.prog Tryz.f3 Rows.spaceSmallRow.domain false w args ∧ laidMet Tryz.prog laidW w) ∧ sizedMet enc Tryz.prog Tryz.f3 (OpenSpec.ofChange Rows.spaceSmallSpec) false w args)
      (Rows.spaceSmallSpec.post enc Tryz.prog Tryz.f3 false true false false) := by
  refine returnsInHanded_of_change_and (C := Tryz.checked) (X := fun w _ => laidMet Tryz.prog laidW w) (fun _ _ _ hh h => h.of_heap hh) own_knobW started (by kernel_rfl) Tryz.func3
    (ChangeSpec.witness_at (enc := enc) (C := Tryz.checked) (os := os) (X := fun w _ => laidMet Tryz.prog laidW w) false (laidWorldW os) #[] 8 rfl (by kernel_rfl) (by kernel_rfl) (by kernel_rfl) (by kernel_rfl) (by kernel_rfl) (laidWorldW_met os _)) ?_
  intro W base args ds gs before hval0 hW _ hsz0 hL _
  have hval : ∀ (j : Nat) t v, Tryz.f3.params[j]? = some t → args[j]? = some v → Value.okWide Tryz.prog W .any base t v := hval0
  have hW' := hW
  obtain ⟨p, q, hA0, hV, rfl, hfz, hnd⟩ := hW
  have hA : DataW.TrodAll enc Tryz.prog W 0 (fun _ => true) true Tryz.f3.params.toList args.toList ds p := hA0
  rw [Tryz.params3] at hA hval
  obtain ⟨hargs, rfl, rfl⟩ := trodAll_nil hA
  obtain rfl : args = #[] := by cases args; simp_all
  obtain ⟨rfl, rfl⟩ := trodVars_none hV
  clear hA0 hval0
  simp only [List.append_nil] at hW'
  refine (SpaceSmall_any W).mono fun e W' ⟨he, hg0⟩ => ?_
  have hg := hg0.below (Nat.le_refl _) (fun _ _ h => h)
  subst he
  exact ⟨_, rfl, post_belowW (pa := []) (pv := []) hW' (fun _ _ _ => (trodAll_cons_mk (shut_bool Tryz.underlying4 _) trodAll_mk0)) trodAll_mk0 (fun _ _ => rfl) hg⟩

theorem over : Rows.spaceSmallRow.holds Tryz.pinned (OpenSpec.ofChange Rows.spaceSmallSpec) :=
  OpenClaim.holds_of_wide 3 Tryz.f3 rfl rfl rfl rfl rfl rfl rfl ⟨rfl, rfl, rfl, rfl, rfl⟩ rfl rfl rfl rfl rfl (by kernel_rfl) Tryz.func3 (by kernel_rfl)
    (of_decide_eq_true (by kernel_rfl)) (by unfold Func.isWrapper; first | (rw [if_pos (by decide +kernel)]; kernel_rfl) | (rw [if_neg (by decide +kernel)]; exact ⟨rfl, rfl⟩))
    (fun os started H enc _ => lifted os started H enc)

theorem proved : Rows.SpaceSmallCardSaid :=
  Claim7.holds_tied_plain_at .later [] [.data, .data, .data] true _ true
    over (fun _ h => by cases h) (by kernel_rfl) (fun _ h => by cases h) spaceSmall_row_tie rfl ⟨rfl, rfl⟩ (by kernel_rfl) rfl
    (fun f fn hf hfn => by
      obtain rfl : f = 3 := Option.some.inj ((show Tryz.prog.funcNamed "fermata/fermatalaw24.SpaceSmall" = some 3 by kernel_rfl).symm.trans hf) |>.symm
      obtain rfl : fn = Tryz.f3 := (Option.some.inj (Tryz.func3.symm.trans hfn)).symm
      exact ⟨by kernel_rfl, fun j t ht => by
        rw [Tryz.params3] at ht
        simp at ht⟩)
    (by kernel_rfl)
#print axioms proved
end Go.Proofs.YtieeloealklkgaaGreatDoor.spaceSmall
