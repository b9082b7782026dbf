/-
  The helpers on lent memory: markText, LentTexts, OverTexts.
-/
import Derived.Test.YtnanleopoedgfaaKit
import Derived.Test.YtnanleopoedgfaaAppS
import Derived.Test.YtnanleopoedgfaaIns
import Derived.Test.YtnanleopoedgfaaAdd
set_option linter.unusedSimpArgs false
set_option linter.unusedVariables false
namespace Go.Proofs.Ytnanleopoedgfaa
open Go.RowKit Go.Lib
attribute [local go_sem ↓] Go.wp_at_zero Go.wp_at_succ

/-- The mark of an index. -/
def mkB (k i : Nat) : Bs := [35, k.toUInt8, (k / 256).toUInt8, (k / 65536).toUInt8, 47, i.toUInt8, (i / 256).toUInt8, (i / 65536).toUInt8]
theorem mk_vals (k i : Nat) (hk : k ≤ 2) (hi : i ≤ 1000) : (mkB k i).map (fun b => Value.int .u8 (b.toNat : Int)) = [.int .u8 35, .int .u8 (k : Int), .int .u8 ((k : Int) / 256), .int .u8 ((k : Int) / 65536), .int .u8 47, .int .u8 ((i : Int) % 256), .int .u8 ((i : Int) / 256), .int .u8 ((i : Int) / 65536)] := by
  have e1 : (k.toUInt8).toNat = k := by rw [Nat.toUInt8, UInt8.toNat_ofNat']; omega
  have e2 : ((k / 256).toUInt8).toNat = k / 256 := by rw [Nat.toUInt8, UInt8.toNat_ofNat']; omega
  have e3 : ((k / 65536).toUInt8).toNat = k / 65536 := by rw [Nat.toUInt8, UInt8.toNat_ofNat']; omega
  have e4 : (i.toUInt8).toNat = i % 256 := by rw [Nat.toUInt8, UInt8.toNat_ofNat']
  have e5 : ((i / 256).toUInt8).toNat = i / 256 := by rw [Nat.toUInt8, UInt8.toNat_ofNat']; omega
  have e6 : ((i / 65536).toUInt8).toNat = i / 65536 := by rw [Nat.toUInt8, UInt8.toNat_ofNat']; omega
  simp only [mkB, List.map_cons, List.map_nil, e1, e2, e3, e4, e5, e6]
  rfl

set_option maxRecDepth 100000 in
set_option maxHeartbeats 4000000 in
theorem mark_any (k i : Nat) (w : World) (hk : k ≤ 2) (hi : i ≤ 1000) :
    Calls Try.prog 73 #[.int .i64 k, .int .i64 i] w fun e w' => e = .returned (.string (bs (mkB k i))) ∧ Below w.heap.size w w' := by
  have hv := mk_vals k i hk hi
  obtain ⟨B, hB⟩ : ∃ B : Array Value, B = #[.int .u8 35, .int .u8 (k : Int), .int .u8 ((k : Int) / 256), .int .u8 ((k : Int) / 65536), .int .u8 47, .int .u8 ((i : Int) % 256), .int .u8 ((i : Int) / 256), .int .u8 ((i : Int) / 65536)] := ⟨_, rfl⟩
  have kc : (convert 44 9 (.slice (some ⟨w.heap.size, 0, none⟩) 8 8)).run Try.prog (w.alloc (.cells #[.int .u8 35, .int .u8 (k : Int), .int .u8 ((k : Int) / 256), .int .u8 ((k : Int) / 65536), .int .u8 47, .int .u8 ((i : Int) % 256), .int .u8 ((i : Int) / 256), .int .u8 ((i : Int) / 65536)] 5)) = .ok (.string (bs (mkB k i))) (w.alloc (.cells #[.int .u8 35, .int .u8 (k : Int), .int .u8 ((k : Int) / 256), .int .u8 ((k : Int) / 65536), .int .u8 47, .int .u8 ((i : Int) % 256), .int .u8 ((i : Int) / 256), .int .u8 ((i : Int) / 65536)] 5)) := by
    refine run_own_string (P := Try.prog) _ w.heap.size 44 9 5 _ (mkB k i) Try.underlying44 Try.underlying5 Try.underlying9 ?_
    rw [hv]
    exact World.ownsRow_lit w _ 8 (Nat.le_refl _) (by unfold maxLen; omega) rfl
  have hb : Below w.heap.size w (w.alloc (.cells #[.int .u8 35, .int .u8 (k : Int), .int .u8 ((k : Int) / 256), .int .u8 ((k : Int) / 65536), .int .u8 47, .int .u8 ((i : Int) % 256), .int .u8 ((i : Int) / 256), .int .u8 ((i : Int) / 65536)] 5)) := (Below.refl _ _).alloc (Nat.le_refl _) _
  obtain ⟨X, hX⟩ : ∃ X, bs (mkB k i) = X := ⟨_, rfl⟩
  rw [hX] at kc ⊢
  have Hb := Lib.hid hb
  clear hv hb hX hB
  go_enter Try.func73, Try.ntmps73
  go_wp2
  go_ret
  exact ⟨rfl, Hb.out⟩

def marksB (k n : Nat) : List Bs := (List.range n).map (mkB k)
/-- What LentTexts gives. -/
def LentPost (xs : List Bs) (n : Nat) (w : World) (e : Ending) (w' : World) : Prop :=
  ∃ g cap, e = .returned (.slice (some ⟨g, 0, none⟩) n cap) ∧ w.heap.size ≤ g ∧ g < w'.heap.size ∧ n + 12 ≤ cap ∧ cap ≤ maxLen ∧ Cells w' (some ⟨g, 0, none⟩) ((xs ++ marksB 1 12).map strV) ∧ Below w.heap.size w w'

set_option maxRecDepth 100000 in
set_option maxHeartbeats 4000000 in
theorem Lent_any (a : Option Addr) (n cap : Nat) (xs : List Bs) (w : World) (hn : xs.length = n) (hm : n ≤ 10000) (hc : Cells w a (xs.map strV)) :
    Calls Try.prog 46 #[.slice a n cap] w (LentPost xs n w) := by
  obtain ⟨i0, hi, hz0, hz1, hz2⟩ := info_parts info_str
  have Hc := Lib.hid hc
  have Hn := Lib.hid hn
  clear hc hn
  go_enter Try.func46, Try.ntmps46
  go_wp2_with (first
    | (at_builtin; refine wpList_append_src rfl _ _ 22 rfl w.heap.size 9 i0 (.string ⟨#[]⟩) 16 Try.underlying22 hi hz0 hz1 hz2 rfl (.slice (some ⟨w.heap.size, 0, none⟩) 0 (n + 12)) 0 [] rfl hown1 a n cap (xs.map strV) rfl (by rw [List.length_map, Hn.out]) (Hc.out.below hb1) (fun u hu => one_strV xs u hu) (by unfold maxLen; omega) (by omega) hb1.size ?_
       intro v2 w2 hown2 hgrow2
       have hb2 : Below w.heap.size w w2 := hb1.grown hgrow2 hb1.size (fun j hj => (hown1.lt j hj).1))
    | (refine wpList_make_own _ rfl _ _ 22 rfl w.heap.size 9 i0 (.string ⟨#[]⟩) 1 Try.underlying22 hi hz0 hz1 .i64 .i64 _ (n + 12) rfl rfl (by omega) (by rw [hz2]; omega) (by unfold maxLen; omega) (Nat.le_refl _) ?_
       intro w1 hown1 hgrow1
       have hb1 : Below w.heap.size w w1 := (Below.refl _ _).grown hgrow1 (Nat.le_refl _) (fun j hj => by cases hj)))
  have hown2' : Hid (w2.ownsRow w.heap.size 9 1 v2 (n + 0) ((xs ++ marksB 1 0).map strV)) := by
    unfold Hid
    have e : (xs ++ marksB 1 0).map strV = [] ++ xs.map strV := by simp [marksB]
    rw [e, Nat.add_comm]; exact hown2
  clear hown1 hown2 hgrow1 hgrow2 hb1
  go_loopw [3, 4] (fun o i wr => ∃ k : Nat, k ≤ 12 ∧ i = .int .i64 k ∧ Hid (wr.ownsRow w.heap.size 9 1 o (n + k) ((xs ++ marksB 1 k).map strV)) ∧ Below w.heap.size w wr) (fun _ i _ => 12 - (intOf i).toNat)
  case atStart => exact ⟨0, Nat.zero_le _, rfl, hown2', hb2⟩
  case round =>
    obtain ⟨k, hk, rfl, hown, hb⟩ := hrel
    by_cases hlt : k < 12
    · have HM := Lib.hid (fun W => mark_any 1 k W (by omega) (by omega))
      have hnew : Hid ((xs ++ marksB 1 (k + 1)).map strV = (xs ++ marksB 1 k).map strV ++ [.string (bs (mkB 1 k))]) := by
        unfold Hid marksB; rw [List.range_succ, List.map_append (f := mkB 1), ← List.append_assoc, List.map_append (f := strV)]; rfl
      obtain ⟨X, hX⟩ : ∃ X, bs (mkB 1 k) = X := ⟨_, rfl⟩
      simp only [hX] at HM
      rw [hX] at hnew
      obtain ⟨nk, hnk⟩ : ∃ nk, n + k = nk := ⟨_, rfl⟩
      have hnk2 : nk ≤ 10012 := by omega
      have hown := hown.out
      rw [hnk] at hown
      have Hnk := Lib.hid hnk
      clear hX hnk
      go_wp2_with (first
        | (at_builtin; refine wpList_append_own _ rfl _ _ 22 rfl w.heap.size 9 i0 (.string ⟨#[]⟩) 1 16 Try.underlying22 hi hz0 hz1 hz2 rfl (by decide) u3 nk _ rfl (hown'.alloc _) ⟨w1.heap.size, 0, none⟩ 1 1 [.string X] rfl rfl (cell_one_new _ _ _) (by simp [Value.oneCell']) (by unfold maxLen; omega) (by omega) (by have := hb1.size; simp; omega) ?_
           intro v' w2 hown'' hgrow _
           obtain ⟨g', cap', rfl⟩ := ownsRow_succ hown''
           have hb2 := (hb1.alloc hb1.size (.cells #[.string X] 9)).grown hgrow (by have := hb1.size; simp; omega) (fun j hj => (hown'.lt j hj).1))
        | (refine (HM.out _).mono ?_
           rintro e w1 ⟨rfl, hbm⟩
           have hown' := hown.kept (below_grows hbm) (Classical.em _)
           have hb1 := hb.trans (hbm.mono hb.size)))
      have hown3 : Hid (w2.ownsRow w.heap.size 9 1 (.slice (some ⟨g', 0, none⟩) (nk + 1) cap') (n + (k + 1)) ((xs ++ marksB 1 (k + 1)).map strV)) := by
        unfold Hid; rw [hnew.out, show n + (k + 1) = nk + 1 by have := Hnk.out; omega]; exact hown''
      refine ⟨?_, by simp [intOf]; omega⟩
      first
        | exact ⟨k + 1, by omega, by go_num, hown3, hb2⟩
        | ((repeat apply Exists.intro); refine ⟨?_, rfl⟩; exact ⟨k + 1, by omega, by go_num, hown3, hb2⟩)
    · have hk12 : k = 12 := by omega
      subst hk12
      obtain ⟨g, cap', rfl⟩ := ownsRow_succ (k := n + 11) hown.out
      obtain ⟨A, c, he, hcap', hcm', _, hcc, _, hblk⟩ := ownsRow_cells hown.out
      cases he
      have hg := hblk g 0 none rfl
      have Hcc := Lib.hid hcc
      have q1 : (0 : Int) ≤ (n : Int) := by omega
      have q2 : (n : Int) ≤ (cap' : Int) := by omega
      unfold maxLen at hcm'
      have hfin : Hid (LentPost xs n w (.returned (.slice (some ⟨g, 0, none⟩) n cap')) wr) := ⟨g, cap', rfl, hg.1, hg.2, hcap', by unfold maxLen; exact hcm', Hcc.out, hb⟩
      clear hcc hown
      go_wp2
      go_ret
      exact hfin.out

theorem grown_refl (w : World) (row : Option Nat) : w.grownBy w row := ⟨rfl, rfl, rfl, Nat.le_refl _, fun _ _ _ => rfl⟩
theorem grown_below {w w1 w2 : World} {row : Option Nat} (h : w.grownBy w1 row) (hb : Below w1.heap.size w1 w2) : w.grownBy w2 row :=
  ⟨hb.os.trans h.os, hb.tape.trans h.tape, hb.output.trans h.output, Nat.le_trans h.size hb.size, fun k hk hr => (hb.block k (Nat.lt_of_lt_of_le hk h.size)).trans (h.block k hk hr)⟩
theorem grown_set {w w1 : World} {g k : Nat} (h : w.grownBy w1 (some g)) (u : Value) : w.grownBy (w1.setCell ⟨g, k, none⟩ u) (some g) :=
  ⟨h.os, h.tape, h.output, by have := h.size; simp [World.setCell]; omega, fun j hj hr => (Below.heap_setCell w1 ⟨g, k, none⟩ u j (fun e => hr (by rw [e]))).trans (h.block j hj hr)⟩

set_option maxRecDepth 100000 in
set_option maxHeartbeats 4000000 in
theorem Over_any (v : Value) (n base : Nat) (xs : List Value) (w : World) (hm : n ≤ 900) (hrow : w.ownsRow base 9 1 v n xs) (hbase : base ≤ w.heap.size) :
    Calls Try.prog 53 #[v] w fun e w' => e = .returned (.tuple #[]) ∧ w.grownBy w' v.ownBlock := by
  rcases hrow.2 with ⟨rfl, h0⟩ | ⟨g, cap, cur, rfl, hbg, hg, hncap, hcm, hs, _⟩
  · subst h0
    go_enter Try.func53, Try.ntmps53
    go_wp2
    refine wp_loop_rounds 1 ?_
    rw [rounds_succ]
    go_wp2
    go_end0
    exact ⟨rfl, grown_refl _ _⟩
  · have Hg := Lib.hid hg
    rw [Nat.mul_one] at hs
    have Hs := Lib.hid hs
    obtain ⟨q, hq⟩ : ∃ q : Nat, min (cap : Int) ((n : Int) + 12) = (q : Int) := ⟨min cap (n + 12), by omega⟩
    have hqc : q ≤ cap := by omega
    have hq1 : q ≤ 912 := by omega
    have q1 : (0 : Int) ≤ (q : Int) := by omega
    have q2 : (q : Int) ≤ (cap : Int) := by omega
    clear hrow hg hs
    unfold maxLen at hcm
    go_enter Try.func53, Try.ntmps53
    go_wp2
    go_loopw [3] (fun i wr => ∃ k : Nat, k ≤ q ∧ i = .int .i64 k ∧ Hid (∃ cu : Array Value, wr.heap[g]? = some (.cells cu 9 (0, 0)) ∧ cu.size = cap) ∧ w.grownBy wr (some g)) (fun i _ => q - (intOf i).toNat)
    case atStart => exact ⟨0, Nat.zero_le _, rfl, ⟨cur, Hg.out, Hs.out⟩, grown_refl _ _⟩
    case round =>
      obtain ⟨k, hk, rfl, hcu, hb⟩ := hrel
      by_cases hlt : k < q
      · have HM := Lib.hid (fun W => mark_any 2 k W (by omega) (by omega))
        obtain ⟨X, hX⟩ : ∃ X, bs (mkB 2 k) = X := ⟨_, rfl⟩
        simp only [hX] at HM
        obtain ⟨cu, hcu1, hcu2⟩ := hcu.out
        have hgl : g < wr.heap.size := (Array.getElem?_eq_some_iff.1 hcu1).1
        clear hX hcu
        have Hcu1 := Lib.hid hcu1
        clear hcu1
        go_wp2_with fail
        refine (HM.out _).mono ?_
        rintro e w1 ⟨rfl, hb1⟩
        have hcu3 : w1.heap[g]? = some (.cells cu 9 (0, 0)) := (hb1.block g hgl).trans Hcu1.out
        have hbb := grown_below hb hb1
        obtain ⟨u, hu⟩ : ∃ u, cu[k]? = some u := ⟨_, Array.getElem?_eq_getElem (by omega)⟩
        have c1 : w1.cell? ⟨g, k, none⟩ = some u := by rw [cell_of_heap hcu3]; exact hu
        have c2 : w1.frozen? ⟨g, k, none⟩ = false := frozen_of_heap hcu3
        have hnx : Hid (∃ cu' : Array Value, (w1.setCell ⟨g, k, none⟩ (.string X)).heap[g]? = some (.cells cu' 9 (0, 0)) ∧ cu'.size = cap) :=
          ⟨cu.setIfInBounds k (.string X), by simp [World.setCell, Array.getElem?_modify, hcu3], by simpa using hcu2⟩
        have hbs' := grown_set (k := k) hbb (.string X)
        have Hcu3 := Lib.hid hcu3
        clear hcu3 hu
        go_wp2
        refine ⟨?_, by simp [intOf]; omega⟩
        first
          | exact ⟨k + 1, by omega, by go_num, hnx, hbs'⟩
          | ((repeat apply Exists.intro); refine ⟨?_, rfl⟩; exact ⟨k + 1, by omega, by go_num, hnx, hbs'⟩)
      · have hkq : k = q := by omega
        subst hkq
        clear hcu
        go_wp2
        go_end0
        exact ⟨rfl, hb⟩
end Go.Proofs.Ytnanleopoedgfaa
