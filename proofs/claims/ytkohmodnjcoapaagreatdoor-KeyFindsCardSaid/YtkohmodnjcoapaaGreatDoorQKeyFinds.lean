/- KeyFinds: the statement, and its tied card: for any arguments the law returns true, and the arguments read as before. -/
import Derived.Test.YtkohmodnjcoapaaGreatDoorJb2
import Derived.Test.YtkohmodnjcoapaaGreatDoorJb3
import Derived.Test.YtkohmodnjcoapaaGreatDoorCards
import Derived.Test.YtkohmodnjcoapaaGreatDoorTie
set_option linter.unusedSimpArgs false
set_option linter.unusedVariables false

/-
  KeyFinds.
-/
namespace Go.Proofs.YtkohmodnjcoapaaGreatDoor
open Go Go.RowKit
attribute [local go_sem ↓] Go.wp_at_zero Go.wp_at_succ
attribute [local go_sem] Oper.semAt_some wide_fn wide_depth wide_fnR wide_depthR
attribute [local go_sem high] run_neq_k run_eql_k

/-- Sort of an own row. -/
theorem Sort_own {w : World} {base n : Nat} {v : Value} (L : List Key3) (h : w.ownsRow base 28 3 v n (flatKy L)) (hl : L.length = n) (hn : n ≤ 1000) :
    Calls Tryz.prog 23 #[v] w fun e w' => ∃ v', e = .returned v' ∧ w'.ownsRow w.heap.size 28 3 v' (ss L).length (flatKy (ss L)) ∧ Fr0 none' w w' := by
  obtain ⟨a, cap, rfl, hk⟩ := KsAt.of_own h hl
  rcases h.2 with ⟨h0, hz⟩ | ⟨g, cap', cur, h1, _⟩
  · have : L = [] := List.eq_nil_of_length_eq_zero (by rw [hl]; exact hz)
    subst this
    rw [h0]
    refine (Sort_nil w).mono ?_
    rintro e w' ⟨rfl, hf⟩
    rw [show ss [] = [] from by unfold ss sortK; rw [List.mergeSort_nil]; rfl]
    exact ⟨_, rfl, World.ownsRow_nil _ _ _ _, hf⟩
  · cases h1
    exact Sort_some L hk rfl (by omega)
/-- Clone of an own row. -/
theorem Clone_own {w : World} {base n : Nat} {v : Value} (L : List Key3) (h : w.ownsRow base 28 3 v n (flatKy L)) (hl : L.length = n) (hn : n ≤ 1000) :
    Calls Tryz.prog 28 #[v] w fun e w' => ∃ v', e = .returned v' ∧ w'.ownsRow w.heap.size 28 3 v' n (flatKy L) ∧ Fr0 none' w w' := by
  obtain ⟨a, cap, rfl, hk⟩ := KsAt.of_own h hl
  rcases h.2 with ⟨h0, hz⟩ | ⟨g, cap', cur, h1, _⟩
  · have : L = [] := List.eq_nil_of_length_eq_zero (by rw [hl]; exact hz)
    subst this
    subst hz
    rw [h0]
    refine (clone_nil w).mono ?_
    rintro e w' ⟨rfl, rfl⟩
    exact ⟨_, rfl, World.ownsRow_nil _ _ _ _, Fr0.refl _ _⟩
  · cases h1
    refine (Clone_keys L hk hl hn).mono ?_
    rintro e w' ⟨v', rfl, hr, _, hf⟩
    exact ⟨v', rfl, hr, hf⟩
/-- Reverse of an own row. -/
theorem Rev_own {w : World} {base n cap : Nat} {a : Option Addr} (L : List Key3) (h : w.ownsRow base 28 3 (.slice a n cap) n (flatKy L)) (hl : L.length = n) (hn : n ≤ 1000) :
    Calls Tryz.prog 29 #[.slice a n cap] w fun e w' => e = .returned (.tuple #[]) ∧ w'.ownsRow base 28 3 (.slice a n cap) n (flatKy L.reverse) ∧ Fr0 (fun k => (.slice a n cap : Value).ownBlock = some k) w w' := by
  rcases h.2 with ⟨h0, hz⟩ | ⟨g, cap', cur, h1, _⟩
  · have : L = [] := List.eq_nil_of_length_eq_zero (by rw [hl]; exact hz)
    subst this
    subst hz
    refine (reverse_nil a cap w).mono ?_
    rintro e w' ⟨rfl, rfl⟩
    exact ⟨rfl, h, Fr0.refl _ _⟩
  · cases h1
    refine (reverse_keys h hl (by omega)).mono ?_
    rintro e w' ⟨rfl, hr, hf⟩
    exact ⟨rfl, hr, hf.mono (fun k _ hk => by rw [hk]; rfl)⟩
theorem ss_len (l : List Key3) : (ss l).length ≤ l.length := by
  have h1 : (sortK l).length = l.length := List.length_mergeSort _
  rw [← h1]
  exact dd_le (sortK l)
theorem cut_split {L : List Key3} (hL : Inc L) (k : Key3) : ∃ i, i ≤ L.length ∧ (∀ t, t < i → cmpK (kat L t) k < 0) ∧ (∀ t, i ≤ t → t < L.length → 0 ≤ cmpK (kat L t) k) := by
  induction L with
  | nil => exact ⟨0, Nat.le_refl _, fun t h => absurd h (Nat.not_lt_zero _), fun t _ h => absurd h (Nat.not_lt_zero _)⟩
  | cons x r ih =>
    obtain ⟨i, h1, h2, h3⟩ := ih (List.pairwise_cons.1 hL).2
    by_cases hx : cmpK x k < 0
    · refine ⟨i + 1, by simp; omega, fun t ht => ?_, fun t ht1 ht2 => ?_⟩
      · cases t with
        | zero => simpa [kat] using hx
        | succ t => have := h2 t (by omega); simpa [kat] using this
      · cases t with
        | zero => omega
        | succ t => have := h3 t (by omega) (by simp at ht2; omega); simpa [kat] using this
    · refine ⟨0, Nat.zero_le _, fun t h => absurd h (Nat.not_lt_zero _), fun t _ ht2 => ?_⟩
      cases t with
      | zero => simp [kat]; omega
      | succ t =>
        have h4 := inc_step hL (show 0 < t + 1 by omega) ht2
        have e0 : kat (x :: r) 0 = x := by simp [kat]
        rw [e0] at h4
        have a1 := cmpK_anti x (kat (x :: r) (t + 1))
        have a2 := cmpK_anti (kat (x :: r) (t + 1)) k
        have a3 := cmpK_anti x k
        exact Int.not_lt.1 (fun h5 => hx (cmpK_trans _ _ _ h4 h5))
/-- Where a key stands, or would stand. -/
theorem cnt_split {L : List Key3} (hL : Inc L) (k : Key3) : cntK L k ≤ L.length ∧ (∀ t, t < cntK L k → cmpK (kat L t) k < 0) ∧ (∀ t, cntK L k ≤ t → t < L.length → 0 ≤ cmpK (kat L t) k) := by
  obtain ⟨i, h1, h2, h3⟩ := cut_split hL k
  rw [cnt_at h1 h2 h3]
  exact ⟨h1, h2, h3⟩
theorem cnt_self {L : List Key3} (hL : Inc L) {i : Nat} (hi : i < L.length) : cntK L (kat L i) = i :=
  cnt_at (by omega) (fun t ht => inc_step hL ht hi) (fun t h1 h2 => by
    by_cases e : t = i
    · subst e; rw [cmpK_refl]; exact Int.le_refl _
    · have h3 := inc_step hL (show i < t by omega) h2
      have := cmpK_anti (kat L i) (kat L t)
      omega)
theorem twice_not_inc (L : List Key3) (x : Key3) : ¬ Inc (L ++ [x, x]) := fun h => by
  have h1 := (List.pairwise_append.1 h).2.1
  have h2 := (List.pairwise_cons.1 h1).1 x (by simp)
  rw [cmpK_refl] at h2
  omega
theorem rev_inc {L : List Key3} (hL : Inc L) : Inc L.reverse ↔ L.length ≤ 1 := by
  constructor
  · intro h
    match L, hL, h with
    | [], _, _ => simp
    | [x], _, _ => simp
    | x :: y :: r, hL, h =>
      exfalso
      have h1 := (List.pairwise_cons.1 hL).1 y (by simp)
      unfold Inc at h
      rw [List.pairwise_reverse] at h
      have h2 := (List.pairwise_cons.1 h).1 y (by simp)
      have := cmpK_anti x y
      omega
  · intro h
    match L, h with
    | [], _ => exact List.Pairwise.nil
    | [x], _ => exact List.pairwise_singleton _ _
theorem viaT {T : Type} {P : Program} {c : Code} {K : Act → World → Prop} {Q : Exit → Act → World → Prop} {a : Act} {w : World} (F : T → World → Prop) (vs : T → List (Nat × Value))
    (t : ∀ q W, F q W → K ((vs q).foldl (fun a p => a.put (some p.1) p.2) a) W)
    (h : (∀ q W, F q W → K ((vs q).foldl (fun a p => a.put (some p.1) p.2) a) W) → c.wp P (Exit.then K Q) a w) : c.wp P (Exit.then K Q) a w := h t
theorem searchV_inc {L : List Key3} (h : Inc L) (k : Key3) : searchV L k = .tuple #[.int .i64 (cntK L k), .bool (decide (k ∈ L)), .int .i64 0] := by unfold searchV; rw [if_pos h]
theorem searchV_not {L : List Key3} (h : ¬ Inc L) (k : Key3) : searchV L k = .tuple #[.int .i64 0, .bool false, .int .i64 73] := by unfold searchV; rw [if_neg h]
set_option maxRecDepth 100000 in
set_option maxHeartbeats 8000000 in
theorem KeyFinds_any (a : Option Addr) (n cap : Nat) (X : List Num3) (x : Num3) (w : World) (hLd : Laid7 w) (hl : X.length = n) (hc : n ≤ cap) (hcm : cap ≤ maxLen) (hX : NsIn w a X) :
    Calls Tryz.prog 6 #[.slice a n cap, smallV x] w fun e w' => e = .returned (.bool true) ∧ Fr0 none' w w' := by
  obtain ⟨i0, hi, hz0, hz1, hz2⟩ := info_parts info_key
  simp only [smallV]
  go_enter Tryz.func6, Tryz.ntmps6
  go_wp2_with fail
  obtain ⟨p, hp⟩ : ∃ p, w.heap.size = p := ⟨_, rfl⟩
  obtain ⟨W0, hW0⟩ : ∃ W, w.alloc (.cells #[.int .u64 x.t, .int .u32 x.s, .int .u32 x.q] 25) = W := ⟨_, rfl⟩
  have XB := Lib.hid (show W0.heap[p]? = some (.cells #[.int .u64 x.t, .int .u32 x.s, .int .u32 x.q] 25 (0, 0)) by rw [← hW0, ← hp]; exact World.alloc_heap_new w _)
  have F0 := Lib.hid (show Fr0 none' w W0 by rw [← hW0]; exact (Fr0.refl _ _).alloc _)
  have HL := Lib.hid hLd
  have HX := Lib.hid hX
  rw [hW0, hp]
  clear hW0 hp hLd hX
  refine (awake_any _ (HL.out.later F0.out)).mono ?_
  rintro e w1 ⟨rfl, hf⟩
  have F1 := Lib.hid (F0.out.trans hf)
  have XB := Lib.hid ((hf.block p (Array.getElem?_eq_some_iff.1 XB.out).1 id).trans XB.out)
  clear hf F0
  go_wp2_with fail
  refine (Keys_any a n cap X 40 w1 hl hc hcm (HX.out.later F1.out) (by omega)).mono ?_
  rintro e w2 ⟨v1, rfl, hr, hf⟩
  have hKl : ((X.take 40).map Num3.key).length = min n 40 := by rw [List.length_map, List.length_take, hl, Nat.min_comm]
  obtain ⟨K, hK⟩ : ∃ K, (X.take 40).map Num3.key = K := ⟨_, rfl⟩
  rw [hK] at hr hKl
  have F2 := Lib.hid (F1.out.trans hf)
  have XB := Lib.hid ((hf.block p (Array.getElem?_eq_some_iff.1 XB.out).1 id).trans XB.out)
  have HS := Lib.hid (Sort_own K hr hKl (by omega))
  have hm40 : (ss K).length ≤ 40 := by have := ss_len K; omega
  have hInc := ss_inc K
  obtain ⟨L, hL⟩ : ∃ L, ss K = L := ⟨_, rfl⟩
  rw [hL] at HS hm40 hInc
  have HI := Lib.hid hInc
  clear hf hr hK hKl hL F1 hInc
  go_wp2_with fail
  refine HS.out.mono ?_
  rintro e w3 ⟨v2, rfl, hr, hf⟩
  obtain ⟨m, hm⟩ : ∃ m, L.length = m := ⟨_, rfl⟩
  rw [hm] at hr hm40
  obtain ⟨a2, cap2, rfl, hk⟩ := KsAt.of_own hr hm
  rw [hm] at hr ⊢
  have Hm := Lib.hid hm
  have R := Lib.hid (ownsRow_k_mono hr F2.out.size)
  have F3 := Lib.hid (F2.out.trans hf)
  have XB := Lib.hid ((hf.block p (Array.getElem?_eq_some_iff.1 XB.out).1 id).trans XB.out)
  have HP := Lib.hid hk
  have Hlt := Lib.hid (show m ≤ 40 from hm40)
  clear hf hr hk hm HS F2 hm40
  go_wp2_with fail
  go_loopw [6, 7, 8, 9, 10, 25] (fun _ _ _ _ _ c wr => ∃ (j : Nat), c = .int .i64 j ∧ j ≤ m ∧ Hid (Fr0 none' w3 wr)) (fun _ _ _ _ _ c _ => m - (Go.RowKit.intOf c).toNat)
  case atStart => exact ⟨0, rfl, Nat.zero_le _, Fr0.refl _ _⟩
  case round =>
    obtain ⟨j, rfl, hj, hf⟩ := hrel
    by_cases hlt : j < m
    · have d0 : decide ((j : Int) < (m : Int)) = true := decide_eq_true (by omega)
      have e5 : IntKind.i64.wrap ((j : Int) + 1) = (j : Int) + 1 := IntWalk.i64_in _ (by have := Hlt.out; omega)
      have b1 : (0 : Int) ≤ (j : Int) := by omega
      have b2 : (j : Int) < (m : Int) := by omega
      have hjl : j < L.length := by rw [Hm.out]; exact hlt
      obtain ⟨g, o, rfl, hx⟩ := HP.out.at hjl
      have HSe := Lib.hid (fun (W : World) (hf : Fr0 none' w3 W) => by
        have := Search_any (cap := cap2) L (kat L j) (HP.out.later hf) Hm.out (by have := Hlt.out; omega)
        rw [searchV_inc HI.out, cnt_self HI.out hjl, decide_eq_true (List.mem_of_getElem? (kat_get hjl))] at this
        exact this)
      obtain ⟨k, hkk⟩ : ∃ k, kat L j = k := ⟨_, rfl⟩
      rw [hkk] at hx HSe
      obtain ⟨x0, x1, x2⟩ := hx.later hf.out
      clear hkk hx hjl
      obtain ⟨B, hB⟩ : ∃ B, wr.heap.size = B := ⟨_, rfl⟩
      obtain ⟨W1, hW1⟩ : ∃ W, wr.alloc (.cells #[.int .i64 k.time, .int .i64 k.source, .int .i64 k.seq] 28) = W := ⟨_, rfl⟩
      have hB1 : W1.heap[B]? = some (.cells #[.int .i64 k.time, .int .i64 k.source, .int .i64 k.seq] 28 (0, 0)) := by rw [← hW1, ← hB]; exact World.alloc_heap_new wr _
      have fW := Lib.hid (show Fr0 none' w3 W1 by rw [← hW1]; exact hf.out.alloc _)
      have y0 := cellsK_at hB1 0
      have y1 := cellsK_at hB1 1
      have y2 := cellsK_at hB1 2
      simp at y0 y1 y2
      simp only [keyV] at HSe
      go_wp2_with fail
      clear hW1 hB
      refine (HSe.out _ fW.out).mono ?_
      rintro e w4 ⟨rfl, hf4⟩
      have F4 := Lib.hid (fW.out.trans hf4)
      clear hf4 y0 y1 y2 hB1 hf
      go_wp2_with fail
      exact ⟨⟨j + 1, by simp, by omega, F4⟩, by simp [Go.RowKit.intOf]; omega⟩
    · obtain rfl : j = m := by omega
      have d0 : decide ((j : Int) < (j : Int)) = false := decide_eq_false (by omega)
      have F4 := Lib.hid (F3.out.trans hf.out)
      have XB := Lib.hid ((hf.out.block p (Array.getElem?_eq_some_iff.1 XB.out).1 id).trans XB.out)
      have R := Lib.hid (ownsRow_q_fr R.out hf.out (fun _ _ h => h))
      have HP := Lib.hid (HP.out.later hf.out)
      have hxb := XB.out
      have z0 := cellsK_at hxb 0
      have z1 := cellsK_at hxb 1
      have z2 := cellsK_at hxb 2
      simp at z0 z1 z2
      clear hf hxb hlt F3
      go_wp2_with fail
      refine (Made_any x wr).mono ?_
      rintro e w4 ⟨rfl, hf4⟩
      obtain ⟨k, hkk⟩ : ∃ k, x.key = k := ⟨_, rfl⟩
      rw [hkk]
      obtain ⟨hc1, hc2, hc3⟩ := cnt_split HI.out k
      have HSe := Lib.hid (fun (W : World) (hf : Fr0 none' wr W) => by
        have := Search_any (cap := cap2) L k (HP.out.later hf) Hm.out (by have := Hlt.out; omega)
        rw [searchV_inc HI.out] at this
        exact this)
      have HCo := Lib.hid (fun (W : World) (hf : Fr0 none' wr W) => Contains_keys a2 j cap2 L k W (HP.out.later hf) Hm.out (by have := Hlt.out; omega))
      obtain ⟨c, hcc⟩ : ∃ c, cntK L k = c := ⟨_, rfl⟩
      obtain ⟨bm, hbm⟩ : ∃ b, decide (k ∈ L) = b := ⟨_, rfl⟩
      rw [hcc] at HSe hc1 hc2 hc3
      rw [hbm] at HSe HCo
      rw [Hm.out] at hc1
      have Hc := Lib.hid (show c ≤ j ∧ (∀ t, t < c → cmpK (kat L t) k < 0) ∧ (∀ t, c ≤ t → t < j → 0 ≤ cmpK (kat L t) k) from ⟨hc1, hc2, fun t h1 h2 => hc3 t h1 (by rw [Hm.out]; exact h2)⟩)
      obtain ⟨q, hq⟩ : ∃ q, w4.heap.size = q := ⟨_, rfl⟩
      obtain ⟨w5, hw5⟩ : ∃ W, w4.alloc (.cells #[.int .i64 k.time, .int .i64 k.source, .int .i64 k.seq] 28) = W := ⟨_, rfl⟩
      have f5 : Fr0 none' w4 w5 := by rw [← hw5]; exact (Fr0.refl _ _).alloc _
      have KB := Lib.hid (show KeyAt w5 q k by rw [← hw5, ← hq]; exact World.alloc_heap_new w4 _)
      have F5 := Lib.hid (hf4.trans f5)
      have Hq := Lib.hid (show wr.heap.size ≤ q by rw [← hq]; exact hf4.size)
      have y0 := KB.out.cell (i := 0) (by omega)
      have y1 := KB.out.cell (i := 1) (by omega)
      have y2 := KB.out.cell (i := 2) (by omega)
      simp [nth3] at y0 y1 y2
      clear hc1 hc2 hc3 hkk hcc hbm hf4 f5
      simp only [keyV] at HSe HCo ⊢
      go_wp2_with fail
      clear hq hw5
      refine (HSe.out _ F5.out).mono ?_
      rintro e w6 ⟨rfl, hf⟩
      have F6 := Lib.hid (F5.out.trans hf)
      have KB := Lib.hid (KB.out.fr0 (S := none') hf (fun h => h))
      clear hf y0 y1 y2
      have y0 := KB.out.cell (i := 0) (by omega)
      have y1 := KB.out.cell (i := 1) (by omega)
      have y2 := KB.out.cell (i := 2) (by omega)
      simp [nth3] at y0 y1 y2
      have d1 : decide ((c : Int) < 0) = false := decide_eq_false (by omega)
      have d2 : decide ((j : Int) < (c : Int)) = false := decide_eq_false (by have := Hc.out.1; omega)
      have hcj : c ≤ j := Hc.out.1
      have d2n : decide (j < c) = false := decide_eq_false (by omega)
      go_wp2_with fail
      refine (HCo.out _ F6.out).mono ?_
      rintro e w7 ⟨rfl, hf⟩
      have F7 := Lib.hid (F6.out.trans hf)
      have KB := Lib.hid (KB.out.fr0 (S := none') hf (fun h => h))
      clear hf y0 y1 y2
      have y0 := KB.out.cell (i := 0) (by omega)
      have y1 := KB.out.cell (i := 1) (by omega)
      have y2 := KB.out.cell (i := 2) (by omega)
      simp [nth3] at y0 y1 y2
      have HO := Lib.hid (fun a => order_any a k)
      simp only [keyV] at HO
      have XK := Lib.hid (show KAt w7 q 0 k from ⟨y0, y1, y2⟩)
      clear y0 y1 y2
      go_wp2_with fail
      refine viaT (T := Nat → Value) (fun _ W => Fr0 none' w7 W) (fun q => [(77, q 0), (78, q 1), (79, q 2), (80, q 3), (81, q 4), (82, q 5), (83, q 6), (84, q 7), (85, q 8), (86, q 9), (87, q 10), (88, q 11), (89, q 12), (90, q 13), (91, q 14), (92, q 15), (93, q 16), (94, q 17), (95, q 18), (96, q 19), (97, q 20), (98, q 21), (99, q 22), (100, q 23), (101, q 24), (102, q 25), (103, .bool false)]) (fun us W hF => ?_) (fun hT => ?_)
      · simp only [List.foldl, Act.put, List.setIfInBounds_toArray, List.set_cons_zero, List.set_cons_succ]
        clear HO HCo HSe Hc
        obtain ⟨w8, hw8⟩ : ∃ V, W = V := ⟨_, rfl⟩
        rw [hw8] at hF ⊢
        have F8 := Lib.hid (F7.out.trans hF)
        have KB := Lib.hid (KB.out.fr0 (S := none') hF (fun h => h))
        clear hF hw8
        have HCl := Lib.hid (fun (W : World) (hf : Fr0 none' w8 W) => Clone_own (w := W) L (ownsRow_q_fr R.out (F8.out.trans hf) (fun _ _ h => h)) Hm.out (by have := Hlt.out; omega))
        have XK := Lib.hid (show KAt w8 q 0 k from ⟨KB.out.cell (i := 0) (by omega), KB.out.cell (i := 1) (by omega), KB.out.cell (i := 2) (by omega)⟩)
        clear d1 d2
        go_wp2_with fail
        refine wp_region_held_drew (S := fun W' => Fr0 none' w8 W') (by kernel_rfl) ((Fr0.refl none' w8).drew) (fun hHeld => ?_)
        refine take_on (i := 0) (v := .slice a2 j cap2) rfl (by kernel_rfl) (by kernel_rfl) (by kernel_rfl) (fun _ _ _ h => h) (by kernel_rfl) (fun W' hSW => ?_) (by assumption) ?_
        · clear hSW
          first | (go_simp; done) | exact rfl | (go_simp; rfl) | (go_simp; omega)
        try simp only [Act.put, List.setIfInBounds_toArray, List.set_cons_zero, List.set_cons_succ]
        refine take_on (i := 2) (v := .agg #[.int .i64 (k : Key3).time, .int .i64 (k : Key3).source, .int .i64 (k : Key3).seq]) rfl (by kernel_rfl) (by kernel_rfl) (by kernel_rfl) (fun _ _ _ h => h) (by kernel_rfl) (fun W' hSW => ?_) (by assumption) ?_
        · obtain ⟨x0, x1, x2⟩ := XK.out.later hSW
          clear hSW
          first | (go_simp; done) | exact rfl | (go_simp; rfl) | (go_simp; omega)
        try simp only [Act.put, List.setIfInBounds_toArray, List.set_cons_zero, List.set_cons_succ]
        refine take_on (i := 3) (v := .agg #[.int .i64 (k : Key3).time, .int .i64 (k : Key3).source, .int .i64 (k : Key3).seq]) rfl (by kernel_rfl) (by kernel_rfl) (by kernel_rfl) (fun _ _ _ h => h) (by kernel_rfl) (fun W' hSW => ?_) (by assumption) ?_
        · obtain ⟨x0, x1, x2⟩ := XK.out.later hSW
          clear hSW
          first | (go_simp; done) | exact rfl | (go_simp; rfl) | (go_simp; omega)
        try simp only [Act.put, List.setIfInBounds_toArray, List.set_cons_zero, List.set_cons_succ]
        refine take_on (i := 6) (v := .agg #[.int .i64 (k : Key3).time, .int .i64 (k : Key3).source, .int .i64 (k : Key3).seq]) rfl (by kernel_rfl) (by kernel_rfl) (by kernel_rfl) (fun _ _ _ h => h) (by kernel_rfl) (fun W' hSW => ?_) (by assumption) ?_
        · obtain ⟨x0, x1, x2⟩ := XK.out.later hSW
          clear hSW
          first | (go_simp; done) | exact rfl | (go_simp; rfl) | (go_simp; omega)
        try simp only [Act.put, List.setIfInBounds_toArray, List.set_cons_zero, List.set_cons_succ]
        refine wpAnyH_ready (rs := [1, 4]) (by kernel_rfl) (by simp) (AllReadyH.cons (op_at rfl) (fun K hK => ?_) (AllReadyH.cons (op_at rfl) (fun K hK => ?_) AllReadyH.nil))
        · rw [if_pos (by kernel_rfl)]
          go_simp
          refine (HCl.out _ hHeld).mono ?_
          rintro e w9 ⟨vC, rfl, hr, hf⟩
          have RC := Lib.hid (ownsRow_k_mono hr hHeld.size)
          have G := Lib.hid (hHeld.trans hf)
          try have LI := Lib.hid (LI.out.later hf)
          clear hr hf hHeld
          go_wp2_with fail
          refine hK.out _ _ G.out (fun hHeld => ?_)
          clear hK K
          try simp only [Act.put, List.setIfInBounds_toArray, List.set_cons_zero, List.set_cons_succ]
          refine take_call (i := 4) rfl (by kernel_rfl) (by kernel_rfl) (fun K hK => ?_)
          go_simp
          obtain ⟨lb, hlb⟩ : ∃ q, w9.heap.size = q := ⟨_, rfl⟩
          obtain ⟨wA, hW⟩ : ∃ W, (w9.alloc (.cells #[.int .i64 k.time, .int .i64 k.source, .int .i64 k.seq, .int .i64 k.time, .int .i64 k.source, .int .i64 k.seq] 28)) = W := ⟨_, rfl⟩
          have fL : Fr0 none' w9 wA := by rw [← hW]; exact ((Fr0.refl _ _).alloc _)
          have LI := Lib.hid (show KsIn wA (some ⟨lb, 0, none⟩) [k, k] by rw [← hW, ← hlb]; exact KsIn.of_cells (n := 2) (World.alloc_heap_new w9 _) rfl rfl)
          have G := Lib.hid (hHeld.trans fL)
          try have RC := Lib.hid (ownsRow_q_fr RC.out fL (fun _ _ h => h))
          rw [hW]
          try rw [hlb]
          clear hW hlb fL hHeld
          refine hK.out _ _ G.out (fun hHeld => ?_)
          clear hK K
          try simp only [Act.put, List.setIfInBounds_toArray, List.set_cons_zero, List.set_cons_succ]
          refine take_call (i := 5) rfl (by kernel_rfl) (by kernel_rfl) (fun K hK => ?_)
          have hsrc := Lib.hid (show Src Tryz.prog 3 52 (.slice (some ⟨lb, 0, none⟩) 2 2) 2 (flatKy [k, k]) wA from Src.ofSlice _ Tryz.underlying52 ⟨lb, 0, none⟩ 2 2 (flatKy [k, k]) (by rw [flatKy_length]; rfl) (fun t u hu => by
            have := LI.out.flat t u hu
            unfold Addr.add
            split
            · next h0 => subst h0; exact this
            · exact this) (flatKy_one _))
          refine wp_app_q _ _ 52 52 rfl w8.heap.size 28 i0 (.agg #[.int .i64 0, .int .i64 0, .int .i64 0]) 3 24 Tryz.underlying52 hi hz0 hz1 hz2 rfl (by decide) vC j _ rfl RC.out (.slice (some ⟨lb, 0, none⟩) 2 2) 2 _ rfl hsrc.out (by have := Hlt.out; unfold maxLen; omega) (by have := Hlt.out; omega) G.out.size ?_
          intro v9 V9 hown hgr _ _
          have hRC := RC.out.lt
          have G := Lib.hid (G.out.grown hgr (fun k hk hlt => by have := (hRC k hk).1; omega))
          obtain ⟨a3, c3, rfl, hk3⟩ := KsAt.of_own (L := L ++ [k, k]) (n := j + 2) (by rw [flatKy_append]; exact hown) (by rw [List.length_append, Hm.out]; rfl)
          obtain ⟨m3, hm3⟩ : ∃ q, (L ++ [k, k]).length = q := ⟨_, rfl⟩
          rw [hm3]
          have HSe3 := Lib.hid (fun (W : World) (hf : Fr0 none' V9 W) => by
            have := Search_any (cap := c3) (L ++ [k, k]) k (hk3.later hf) hm3 (by rw [← hm3, List.length_append, Hm.out]; have := Hlt.out; simp; omega)
            rw [searchV_not (twice_not_inc L k)] at this
            exact this)
          simp only [keyV] at HSe3
          clear hown hgr hRC hk3 hm3 hsrc
          refine hK.out _ _ G.out (fun hHeld => ?_)
          clear hK K
          try simp only [Act.put, List.setIfInBounds_toArray, List.set_cons_zero, List.set_cons_succ]
          refine take_call (i := 7) rfl (by kernel_rfl) (by kernel_rfl) (fun K hK => ?_)
          go_simp
          refine (HSe3.out _ (Fr0.refl _ _)).mono ?_
          rintro e V10 ⟨rfl, hf⟩
          have G := Lib.hid (G.out.trans hf)
          clear hf hHeld
          go_wp2_with fail
          refine hK.out _ _ G.out (fun hHeld => ?_)
          clear hK K
          try simp only [Act.put, List.setIfInBounds_toArray, List.set_cons_zero, List.set_cons_succ]
          refine take_on (i := 8) (v := .tuple #[.int .i64 0, .bool false, .int .i64 73]) rfl (by kernel_rfl) (by kernel_rfl) (by kernel_rfl) (fun _ _ _ h => h) (by kernel_rfl) (fun W' hSW => ?_) (by assumption) ?_
          · clear hSW
            first | (go_simp; done) | exact rfl | (go_simp; rfl) | (go_simp; omega)
          try simp only [Act.put, List.setIfInBounds_toArray, List.set_cons_zero, List.set_cons_succ]
          refine take_on (i := 9) (v := .int .i64 0) rfl (by kernel_rfl) (by kernel_rfl) (by kernel_rfl) (fun _ _ _ h => h) (by kernel_rfl) (fun W' hSW => ?_) (by assumption) ?_
          · clear hSW
            first | (go_simp; done) | exact rfl | (go_simp; rfl) | (go_simp; omega)
          try simp only [Act.put, List.setIfInBounds_toArray, List.set_cons_zero, List.set_cons_succ]
          refine take_on (i := 10) (v := .bool false) rfl (by kernel_rfl) (by kernel_rfl) (by kernel_rfl) (fun _ _ _ h => h) (by kernel_rfl) (fun W' hSW => ?_) (by assumption) ?_
          · clear hSW
            first | (go_simp; done) | exact rfl | (go_simp; rfl) | (go_simp; omega)
          try simp only [Act.put, List.setIfInBounds_toArray, List.set_cons_zero, List.set_cons_succ]
          refine take_on (i := 11) (v := .int .i64 73) rfl (by kernel_rfl) (by kernel_rfl) (by kernel_rfl) (fun _ _ _ h => h) (by kernel_rfl) (fun W' hSW => ?_) (by assumption) ?_
          · clear hSW
            first | (go_simp; done) | exact rfl | (go_simp; rfl) | (go_simp; omega)
          try simp only [Act.put, List.setIfInBounds_toArray, List.set_cons_zero, List.set_cons_succ]
          refine take_on (i := 12) (v := .int .i64 0) rfl (by kernel_rfl) (by kernel_rfl) (by kernel_rfl) (fun _ _ _ h => h) (by kernel_rfl) (fun W' hSW => ?_) (by assumption) ?_
          · clear hSW
            first | (go_simp; done) | exact rfl | (go_simp; rfl) | (go_simp; omega)
          try simp only [Act.put, List.setIfInBounds_toArray, List.set_cons_zero, List.set_cons_succ]
          refine take_on (i := 13) (v := .bool false) rfl (by kernel_rfl) (by kernel_rfl) (by kernel_rfl) (fun _ _ _ h => h) (by kernel_rfl) (fun W' hSW => ?_) (by assumption) ?_
          · clear hSW
            first | (go_simp; done) | exact rfl | (go_simp; rfl) | (go_simp; omega)
          try simp only [Act.put, List.setIfInBounds_toArray, List.set_cons_zero, List.set_cons_succ]
          refine take_on (i := 14) (v := .int .i64 73) rfl (by kernel_rfl) (by kernel_rfl) (by kernel_rfl) (fun _ _ _ h => h) (by kernel_rfl) (fun W' hSW => ?_) (by assumption) ?_
          · clear hSW
            first | (go_simp; done) | exact rfl | (go_simp; rfl) | (go_simp; omega)
          try simp only [Act.put, List.setIfInBounds_toArray, List.set_cons_zero, List.set_cons_succ]
          refine wpAnyH_done (by kernel_rfl) ?_ _
          clear hHeld
          have F10 := Lib.hid (F8.out.trans G.out)
          go_wp2_with fail
          have RV := Lib.hid (Rev_own L (ownsRow_q_fr R.out F10.out (fun _ _ h => h)) Hm.out (by have := Hlt.out; omega))
          refine RV.out.mono ?_
          rintro e V11 ⟨rfl, hr, hf⟩
          have hKg : ¬ ((.slice a2 j cap2 : Value).ownBlock = some q) := fun h => by have := (R.out.lt q h).2; have := Hq.out; omega
          have KB := Lib.hid ((KB.out.fr0 (S := none') G.out (fun h => h)).fr0 hf hKg)
          have hk4 := KsAt.of_own hr (by rw [List.length_reverse, Hm.out])
          obtain ⟨a4, c4, e4, hk4⟩ := hk4
          have FE := Lib.hid ((F4.out.trans F10.out).trans' hf (fun k hk h => by have := (R.out.lt k h).1; omega))
          have y0 := KB.out.cell (i := 0) (by omega)
          have y1 := KB.out.cell (i := 1) (by omega)
          have y2 := KB.out.cell (i := 2) (by omega)
          simp [nth3] at y0 y1 y2
          rw [List.length_reverse, Hm.out] at e4
          injection e4 with e1 e2 e3
          subst e1
          have HSe4 := Lib.hid (Search_any (cap := cap2) L.reverse k hk4 (by rw [List.length_reverse, Hm.out]) (by have := Hlt.out; omega))
          simp only [keyV] at HSe4
          clear hr hf hKg hk4 e2 e3
          go_wp2_with fail
          by_cases hj1 : j ≤ 1
          · have d5 : decide ((1 : Int) < (j : Int)) = false := decide_eq_false (by omega)
            rw [searchV_inc ((rev_inc HI.out).2 (by rw [Hm.out]; exact hj1))] at HSe4
            refine HSe4.out.mono ?_
            rintro e V12 ⟨rfl, hf⟩
            have FE := Lib.hid (FE.out.trans hf)
            clear hf y0 y1 y2
            go_wp2_with fail
            go_ret
            exact ⟨rfl, FE.out⟩
          · have d5 : decide ((1 : Int) < (j : Int)) = true := decide_eq_true (by omega)
            rw [searchV_not (fun h => hj1 (by have := (rev_inc HI.out).1 h; rw [Hm.out] at this; exact this))] at HSe4
            refine HSe4.out.mono ?_
            rintro e V12 ⟨rfl, hf⟩
            have FE := Lib.hid (FE.out.trans hf)
            clear hf y0 y1 y2
            go_wp2_with fail
            go_ret
            exact ⟨rfl, FE.out⟩
        · rw [if_pos (by kernel_rfl)]
          go_simp
          clear hHeld
          have hHeld : Fr0 none' w8 w8 := Fr0.refl _ _
          obtain ⟨lb, hlb⟩ : ∃ q, w8.heap.size = q := ⟨_, rfl⟩
          obtain ⟨w9, hW⟩ : ∃ W, (w8.alloc (.cells #[.int .i64 k.time, .int .i64 k.source, .int .i64 k.seq, .int .i64 k.time, .int .i64 k.source, .int .i64 k.seq] 28)).drew = W := ⟨_, rfl⟩
          have fL : Fr0 none' w8 w9 := by rw [← hW]; exact ((Fr0.refl _ _).alloc _).drew
          have LI := Lib.hid (show KsIn w9 (some ⟨lb, 0, none⟩) [k, k] by rw [← hW, ← hlb]; exact KsIn.of_cells (n := 2) (World.alloc_heap_new w8 _) rfl rfl)
          have G := Lib.hid (hHeld.trans fL)
          try have RC := Lib.hid (ownsRow_q_fr RC.out fL (fun _ _ h => h))
          rw [hW]
          try rw [hlb]
          clear hW hlb fL hHeld
          refine hK.out _ _ G.out (fun hHeld => ?_)
          clear hK K
          try simp only [Act.put, List.setIfInBounds_toArray, List.set_cons_zero, List.set_cons_succ]
          refine take_call (i := 1) rfl (by kernel_rfl) (by kernel_rfl) (fun K hK => ?_)
          go_simp
          refine (HCl.out _ hHeld).mono ?_
          rintro e wA ⟨vC, rfl, hr, hf⟩
          have RC := Lib.hid (ownsRow_k_mono hr hHeld.size)
          have G := Lib.hid (hHeld.trans hf)
          try have LI := Lib.hid (LI.out.later hf)
          clear hr hf hHeld
          go_wp2_with fail
          refine hK.out _ _ G.out (fun hHeld => ?_)
          clear hK K
          try simp only [Act.put, List.setIfInBounds_toArray, List.set_cons_zero, List.set_cons_succ]
          refine take_call (i := 5) rfl (by kernel_rfl) (by kernel_rfl) (fun K hK => ?_)
          have hsrc := Lib.hid (show Src Tryz.prog 3 52 (.slice (some ⟨lb, 0, none⟩) 2 2) 2 (flatKy [k, k]) wA from Src.ofSlice _ Tryz.underlying52 ⟨lb, 0, none⟩ 2 2 (flatKy [k, k]) (by rw [flatKy_length]; rfl) (fun t u hu => by
            have := LI.out.flat t u hu
            unfold Addr.add
            split
            · next h0 => subst h0; exact this
            · exact this) (flatKy_one _))
          refine wp_app_q _ _ 52 52 rfl w8.heap.size 28 i0 (.agg #[.int .i64 0, .int .i64 0, .int .i64 0]) 3 24 Tryz.underlying52 hi hz0 hz1 hz2 rfl (by decide) vC j _ rfl RC.out (.slice (some ⟨lb, 0, none⟩) 2 2) 2 _ rfl hsrc.out (by have := Hlt.out; unfold maxLen; omega) (by have := Hlt.out; omega) G.out.size ?_
          intro v9 V9 hown hgr _ _
          have hRC := RC.out.lt
          have G := Lib.hid (G.out.grown hgr (fun k hk hlt => by have := (hRC k hk).1; omega))
          obtain ⟨a3, c3, rfl, hk3⟩ := KsAt.of_own (L := L ++ [k, k]) (n := j + 2) (by rw [flatKy_append]; exact hown) (by rw [List.length_append, Hm.out]; rfl)
          obtain ⟨m3, hm3⟩ : ∃ q, (L ++ [k, k]).length = q := ⟨_, rfl⟩
          rw [hm3]
          have HSe3 := Lib.hid (fun (W : World) (hf : Fr0 none' V9 W) => by
            have := Search_any (cap := c3) (L ++ [k, k]) k (hk3.later hf) hm3 (by rw [← hm3, List.length_append, Hm.out]; have := Hlt.out; simp; omega)
            rw [searchV_not (twice_not_inc L k)] at this
            exact this)
          simp only [keyV] at HSe3
          clear hown hgr hRC hk3 hm3 hsrc
          refine hK.out _ _ G.out (fun hHeld => ?_)
          clear hK K
          try simp only [Act.put, List.setIfInBounds_toArray, List.set_cons_zero, List.set_cons_succ]
          refine take_call (i := 7) rfl (by kernel_rfl) (by kernel_rfl) (fun K hK => ?_)
          go_simp
          refine (HSe3.out _ (Fr0.refl _ _)).mono ?_
          rintro e V10 ⟨rfl, hf⟩
          have G := Lib.hid (G.out.trans hf)
          clear hf hHeld
          go_wp2_with fail
          refine hK.out _ _ G.out (fun hHeld => ?_)
          clear hK K
          try simp only [Act.put, List.setIfInBounds_toArray, List.set_cons_zero, List.set_cons_succ]
          refine take_on (i := 8) (v := .tuple #[.int .i64 0, .bool false, .int .i64 73]) rfl (by kernel_rfl) (by kernel_rfl) (by kernel_rfl) (fun _ _ _ h => h) (by kernel_rfl) (fun W' hSW => ?_) (by assumption) ?_
          · clear hSW
            first | (go_simp; done) | exact rfl | (go_simp; rfl) | (go_simp; omega)
          try simp only [Act.put, List.setIfInBounds_toArray, List.set_cons_zero, List.set_cons_succ]
          refine take_on (i := 9) (v := .int .i64 0) rfl (by kernel_rfl) (by kernel_rfl) (by kernel_rfl) (fun _ _ _ h => h) (by kernel_rfl) (fun W' hSW => ?_) (by assumption) ?_
          · clear hSW
            first | (go_simp; done) | exact rfl | (go_simp; rfl) | (go_simp; omega)
          try simp only [Act.put, List.setIfInBounds_toArray, List.set_cons_zero, List.set_cons_succ]
          refine take_on (i := 10) (v := .bool false) rfl (by kernel_rfl) (by kernel_rfl) (by kernel_rfl) (fun _ _ _ h => h) (by kernel_rfl) (fun W' hSW => ?_) (by assumption) ?_
          · clear hSW
            first | (go_simp; done) | exact rfl | (go_simp; rfl) | (go_simp; omega)
          try simp only [Act.put, List.setIfInBounds_toArray, List.set_cons_zero, List.set_cons_succ]
          refine take_on (i := 11) (v := .int .i64 73) rfl (by kernel_rfl) (by kernel_rfl) (by kernel_rfl) (fun _ _ _ h => h) (by kernel_rfl) (fun W' hSW => ?_) (by assumption) ?_
          · clear hSW
            first | (go_simp; done) | exact rfl | (go_simp; rfl) | (go_simp; omega)
          try simp only [Act.put, List.setIfInBounds_toArray, List.set_cons_zero, List.set_cons_succ]
          refine take_on (i := 12) (v := .int .i64 0) rfl (by kernel_rfl) (by kernel_rfl) (by kernel_rfl) (fun _ _ _ h => h) (by kernel_rfl) (fun W' hSW => ?_) (by assumption) ?_
          · clear hSW
            first | (go_simp; done) | exact rfl | (go_simp; rfl) | (go_simp; omega)
          try simp only [Act.put, List.setIfInBounds_toArray, List.set_cons_zero, List.set_cons_succ]
          refine take_on (i := 13) (v := .bool false) rfl (by kernel_rfl) (by kernel_rfl) (by kernel_rfl) (fun _ _ _ h => h) (by kernel_rfl) (fun W' hSW => ?_) (by assumption) ?_
          · clear hSW
            first | (go_simp; done) | exact rfl | (go_simp; rfl) | (go_simp; omega)
          try simp only [Act.put, List.setIfInBounds_toArray, List.set_cons_zero, List.set_cons_succ]
          refine take_on (i := 14) (v := .int .i64 73) rfl (by kernel_rfl) (by kernel_rfl) (by kernel_rfl) (fun _ _ _ h => h) (by kernel_rfl) (fun W' hSW => ?_) (by assumption) ?_
          · clear hSW
            first | (go_simp; done) | exact rfl | (go_simp; rfl) | (go_simp; omega)
          try simp only [Act.put, List.setIfInBounds_toArray, List.set_cons_zero, List.set_cons_succ]
          refine wpAnyH_done (by kernel_rfl) ?_ _
          clear hHeld
          have F10 := Lib.hid (F8.out.trans G.out)
          go_wp2_with fail
          have RV := Lib.hid (Rev_own L (ownsRow_q_fr R.out F10.out (fun _ _ h => h)) Hm.out (by have := Hlt.out; omega))
          refine RV.out.mono ?_
          rintro e V11 ⟨rfl, hr, hf⟩
          have hKg : ¬ ((.slice a2 j cap2 : Value).ownBlock = some q) := fun h => by have := (R.out.lt q h).2; have := Hq.out; omega
          have KB := Lib.hid ((KB.out.fr0 (S := none') G.out (fun h => h)).fr0 hf hKg)
          have hk4 := KsAt.of_own hr (by rw [List.length_reverse, Hm.out])
          obtain ⟨a4, c4, e4, hk4⟩ := hk4
          have FE := Lib.hid ((F4.out.trans F10.out).trans' hf (fun k hk h => by have := (R.out.lt k h).1; omega))
          have y0 := KB.out.cell (i := 0) (by omega)
          have y1 := KB.out.cell (i := 1) (by omega)
          have y2 := KB.out.cell (i := 2) (by omega)
          simp [nth3] at y0 y1 y2
          rw [List.length_reverse, Hm.out] at e4
          injection e4 with e1 e2 e3
          subst e1
          have HSe4 := Lib.hid (Search_any (cap := cap2) L.reverse k hk4 (by rw [List.length_reverse, Hm.out]) (by have := Hlt.out; omega))
          simp only [keyV] at HSe4
          clear hr hf hKg hk4 e2 e3
          go_wp2_with fail
          by_cases hj1 : j ≤ 1
          · have d5 : decide ((1 : Int) < (j : Int)) = false := decide_eq_false (by omega)
            rw [searchV_inc ((rev_inc HI.out).2 (by rw [Hm.out]; exact hj1))] at HSe4
            refine HSe4.out.mono ?_
            rintro e V12 ⟨rfl, hf⟩
            have FE := Lib.hid (FE.out.trans hf)
            clear hf y0 y1 y2
            go_wp2_with fail
            go_ret
            exact ⟨rfl, FE.out⟩
          · have d5 : decide ((1 : Int) < (j : Int)) = true := decide_eq_true (by omega)
            rw [searchV_not (fun h => hj1 (by have := (rev_inc HI.out).1 h; rw [Hm.out] at this; exact this))] at HSe4
            refine HSe4.out.mono ?_
            rintro e V12 ⟨rfl, hf⟩
            have FE := Lib.hid (FE.out.trans hf)
            clear hf y0 y1 y2
            go_wp2_with fail
            go_ret
            exact ⟨rfl, FE.out⟩
      · simp only [List.foldl, Act.put, List.setIfInBounds_toArray, List.set_cons_zero, List.set_cons_succ] at hT
        have HT := Lib.hid hT
        clear hT
        by_cases hc0 : 0 < c
        · have d3 : decide ((0 : Int) < (c : Int)) = true := decide_eq_true (by omega)
          obtain ⟨c', hc'⟩ : ∃ c', c - 1 = c' := ⟨_, rfl⟩
          have z5 : IntKind.i64.wrap ((c : Int) - 1) = (c' : Int) := by rw [IntWalk.i64_in _ (by have := Hlt.out; omega)]; omega
          have b3 : (0 : Int) ≤ (c' : Int) := by omega
          have b4 : (c' : Int) < (j : Int) := by omega
          obtain ⟨g, o, rfl, hx⟩ := HP.out.at (i := c') (by rw [Hm.out]; omega)
          have hlo := Hc.out.2.1 c' (by omega)
          obtain ⟨l, hll⟩ : ∃ l, kat L c' = l := ⟨_, rfl⟩
          rw [hll] at hx hlo
          have XL := Lib.hid (hx.later F7.out)
          have HLO := Lib.hid hlo
          clear hx hll hc' hlo
          by_cases hcm' : c < j
          · have d4 : decide ((c : Int) < (j : Int)) = true := decide_eq_true (by omega)
            have b5 : (0 : Int) ≤ (c : Int) := by omega
            have b6 : (c : Int) < (j : Int) := by omega
            obtain ⟨g', o', e, hx⟩ := HP.out.at (i := c) (by rw [Hm.out]; omega)
            injection e with e
            injection e with e e'
            subst e; subst e'
            have hhi := Hc.out.2.2 c (Nat.le_refl _) hcm'
            obtain ⟨h, hhh⟩ : ∃ l, kat L c = l := ⟨_, rfl⟩
            rw [hhh] at hx hhi
            have XH := Lib.hid (hx.later F7.out)
            have HHI := Lib.hid hhi
            clear hx hhh hhi
            refine wp_region_held_drew (S := fun W' => Fr0 none' w7 W') (by kernel_rfl) ((Fr0.refl none' w7).drew) (fun hHeld => ?_)
            refine take_on (i := 0) (v := .int .i64 c) rfl (by kernel_rfl) (by kernel_rfl) (by kernel_rfl) (fun _ _ _ h => h) (by kernel_rfl) (fun W' hSW => ?_) (by assumption) ?_
            · clear hSW
              first | (go_simp; done) | exact rfl | (go_simp; rfl) | (go_simp; omega)
            try simp only [Act.put, List.setIfInBounds_toArray, List.set_cons_zero, List.set_cons_succ]
            refine take_on (i := 1) (v := .bool true) rfl (by kernel_rfl) (by kernel_rfl) (by kernel_rfl) (fun _ _ _ h => h) (by kernel_rfl) (fun W' hSW => ?_) (by assumption) ?_
            · clear hSW
              first | (go_simp; done) | exact rfl | (go_simp; rfl) | (go_simp; omega)
            try simp only [Act.put, List.setIfInBounds_toArray, List.set_cons_zero, List.set_cons_succ]
            refine take_on (i := 2) (v := .bool true) rfl (by kernel_rfl) (by kernel_rfl) (by kernel_rfl) (fun _ _ _ h => h) (by kernel_rfl) (fun W' hSW => ?_) (by assumption) ?_
            · clear hSW
              first | (go_simp; done) | exact rfl | (go_simp; rfl) | (go_simp; omega)
            try simp only [Act.put, List.setIfInBounds_toArray, List.set_cons_zero, List.set_cons_succ]
            refine take_on (i := 3) (v := .slice (some ⟨g, o, none⟩) j cap2) rfl (by kernel_rfl) (by kernel_rfl) (by kernel_rfl) (fun _ _ _ h => h) (by kernel_rfl) (fun W' hSW => ?_) (by assumption) ?_
            · clear hSW
              first | (go_simp; done) | exact rfl | (go_simp; rfl) | (go_simp; omega)
            try simp only [Act.put, List.setIfInBounds_toArray, List.set_cons_zero, List.set_cons_succ]
            refine take_on (i := 4) (v := .int .i64 c) rfl (by kernel_rfl) (by kernel_rfl) (by kernel_rfl) (fun _ _ _ h => h) (by kernel_rfl) (fun W' hSW => ?_) (by assumption) ?_
            · clear hSW
              first | (go_simp; done) | exact rfl | (go_simp; rfl) | (go_simp; omega)
            try simp only [Act.put, List.setIfInBounds_toArray, List.set_cons_zero, List.set_cons_succ]
            refine take_on (i := 5) (v := .int .i64 c') rfl (by kernel_rfl) (by kernel_rfl) (by kernel_rfl) (fun _ _ _ h => h) (by kernel_rfl) (fun W' hSW => ?_) (by assumption) ?_
            · clear hSW
              first | (go_simp; done) | exact rfl | (go_simp; rfl) | (go_simp; omega)
            try simp only [Act.put, List.setIfInBounds_toArray, List.set_cons_zero, List.set_cons_succ]
            refine take_on (i := 6) (v := .pointer (some ⟨g, o + c' * 3, none⟩)) rfl (by kernel_rfl) (by kernel_rfl) (by kernel_rfl) (fun _ _ _ h => h) (by kernel_rfl) (fun W' hSW => ?_) (by assumption) ?_
            · clear hSW
              first | (go_simp; done) | exact rfl | (go_simp; rfl) | (go_simp; omega)
            try simp only [Act.put, List.setIfInBounds_toArray, List.set_cons_zero, List.set_cons_succ]
            refine take_on (i := 7) (v := .agg #[.int .i64 (l : Key3).time, .int .i64 (l : Key3).source, .int .i64 (l : Key3).seq]) rfl (by kernel_rfl) (by kernel_rfl) (by kernel_rfl) (fun _ _ _ h => h) (by kernel_rfl) (fun W' hSW => ?_) (by assumption) ?_
            · obtain ⟨x0, x1, x2⟩ := XL.out.later hSW
              clear hSW
              first | (go_simp; done) | exact rfl | (go_simp; rfl) | (go_simp; omega)
            try simp only [Act.put, List.setIfInBounds_toArray, List.set_cons_zero, List.set_cons_succ]
            refine take_on (i := 8) (v := .agg #[.int .i64 (k : Key3).time, .int .i64 (k : Key3).source, .int .i64 (k : Key3).seq]) rfl (by kernel_rfl) (by kernel_rfl) (by kernel_rfl) (fun _ _ _ h => h) (by kernel_rfl) (fun W' hSW => ?_) (by assumption) ?_
            · obtain ⟨x0, x1, x2⟩ := XK.out.later hSW
              clear hSW
              first | (go_simp; done) | exact rfl | (go_simp; rfl) | (go_simp; omega)
            try simp only [Act.put, List.setIfInBounds_toArray, List.set_cons_zero, List.set_cons_succ]
            clear z5
            refine take_call (i := 9) rfl (by kernel_rfl) (by kernel_rfl) (fun K hK => ?_)
            go_simp
            refine (HO.out _ _).mono ?_
            rintro e V9 ⟨rfl, hf⟩
            have hS := hHeld.trans hf
            clear hf hHeld
            go_wp2_with fail
            refine hK.out _ _ hS (fun hHeld => ?_)
            clear hK K hS
            try simp only [Act.put, List.setIfInBounds_toArray, List.set_cons_zero, List.set_cons_succ]
            have e1 : decide (0 ≤ cmpK l k) = false := decide_eq_false (by have := HLO.out; omega)
            refine take_on (i := 10) (v := .bool false) rfl (by kernel_rfl) (by kernel_rfl) (by kernel_rfl) (fun _ _ _ h => h) (by kernel_rfl) (fun W' hSW => ?_) (by assumption) ?_
            · clear hSW
              first | (go_simp; done) | exact rfl | (go_simp; rfl) | (go_simp; omega)
            try simp only [Act.put, List.setIfInBounds_toArray, List.set_cons_zero, List.set_cons_succ]
            clear e1
            refine take_on (i := 11) (v := .bool false) rfl (by kernel_rfl) (by kernel_rfl) (by kernel_rfl) (fun _ _ _ h => h) (by kernel_rfl) (fun W' hSW => ?_) (by assumption) ?_
            · clear hSW
              first | (go_simp; done) | exact rfl | (go_simp; rfl) | (go_simp; omega)
            try simp only [Act.put, List.setIfInBounds_toArray, List.set_cons_zero, List.set_cons_succ]
            refine take_on (i := 12) (v := .bool false) rfl (by kernel_rfl) (by kernel_rfl) (by kernel_rfl) (fun _ _ _ h => h) (by kernel_rfl) (fun W' hSW => ?_) (by assumption) ?_
            · clear hSW
              first | (go_simp; done) | exact rfl | (go_simp; rfl) | (go_simp; omega)
            try simp only [Act.put, List.setIfInBounds_toArray, List.set_cons_zero, List.set_cons_succ]
            refine take_on (i := 13) (v := .int .i64 c) rfl (by kernel_rfl) (by kernel_rfl) (by kernel_rfl) (fun _ _ _ h => h) (by kernel_rfl) (fun W' hSW => ?_) (by assumption) ?_
            · clear hSW
              first | (go_simp; done) | exact rfl | (go_simp; rfl) | (go_simp; omega)
            try simp only [Act.put, List.setIfInBounds_toArray, List.set_cons_zero, List.set_cons_succ]
            refine take_on (i := 14) (v := .slice (some ⟨g, o, none⟩) j cap2) rfl (by kernel_rfl) (by kernel_rfl) (by kernel_rfl) (fun _ _ _ h => h) (by kernel_rfl) (fun W' hSW => ?_) (by assumption) ?_
            · clear hSW
              first | (go_simp; done) | exact rfl | (go_simp; rfl) | (go_simp; omega)
            try simp only [Act.put, List.setIfInBounds_toArray, List.set_cons_zero, List.set_cons_succ]
            refine take_on (i := 15) (v := .int .i64 j) rfl (by kernel_rfl) (by kernel_rfl) (by kernel_rfl) (fun _ _ _ h => h) (by kernel_rfl) (fun W' hSW => ?_) (by assumption) ?_
            · clear hSW
              first | (go_simp; done) | exact rfl | (go_simp; rfl) | (go_simp; omega)
            try simp only [Act.put, List.setIfInBounds_toArray, List.set_cons_zero, List.set_cons_succ]
            refine take_on (i := 16) (v := .bool true) rfl (by kernel_rfl) (by kernel_rfl) (by kernel_rfl) (fun _ _ _ h => h) (by kernel_rfl) (fun W' hSW => ?_) (by assumption) ?_
            · clear hSW
              first | (go_simp; done) | exact rfl | (go_simp; rfl) | (go_simp; omega)
            try simp only [Act.put, List.setIfInBounds_toArray, List.set_cons_zero, List.set_cons_succ]
            refine take_on (i := 17) (v := .bool true) rfl (by kernel_rfl) (by kernel_rfl) (by kernel_rfl) (fun _ _ _ h => h) (by kernel_rfl) (fun W' hSW => ?_) (by assumption) ?_
            · clear hSW
              first | (go_simp; done) | exact rfl | (go_simp; rfl) | (go_simp; omega)
            try simp only [Act.put, List.setIfInBounds_toArray, List.set_cons_zero, List.set_cons_succ]
            refine take_on (i := 18) (v := .slice (some ⟨g, o, none⟩) j cap2) rfl (by kernel_rfl) (by kernel_rfl) (by kernel_rfl) (fun _ _ _ h => h) (by kernel_rfl) (fun W' hSW => ?_) (by assumption) ?_
            · clear hSW
              first | (go_simp; done) | exact rfl | (go_simp; rfl) | (go_simp; omega)
            try simp only [Act.put, List.setIfInBounds_toArray, List.set_cons_zero, List.set_cons_succ]
            refine take_on (i := 19) (v := .int .i64 c) rfl (by kernel_rfl) (by kernel_rfl) (by kernel_rfl) (fun _ _ _ h => h) (by kernel_rfl) (fun W' hSW => ?_) (by assumption) ?_
            · clear hSW
              first | (go_simp; done) | exact rfl | (go_simp; rfl) | (go_simp; omega)
            try simp only [Act.put, List.setIfInBounds_toArray, List.set_cons_zero, List.set_cons_succ]
            refine take_on (i := 20) (v := .pointer (some ⟨g, o + c * 3, none⟩)) rfl (by kernel_rfl) (by kernel_rfl) (by kernel_rfl) (fun _ _ _ h => h) (by kernel_rfl) (fun W' hSW => ?_) (by assumption) ?_
            · clear hSW
              first | (go_simp; done) | exact rfl | (go_simp; rfl) | (go_simp; omega)
            try simp only [Act.put, List.setIfInBounds_toArray, List.set_cons_zero, List.set_cons_succ]
            refine take_on (i := 21) (v := .agg #[.int .i64 (h : Key3).time, .int .i64 (h : Key3).source, .int .i64 (h : Key3).seq]) rfl (by kernel_rfl) (by kernel_rfl) (by kernel_rfl) (fun _ _ _ h => h) (by kernel_rfl) (fun W' hSW => ?_) (by assumption) ?_
            · obtain ⟨x0, x1, x2⟩ := XH.out.later hSW
              clear hSW
              first | (go_simp; done) | exact rfl | (go_simp; rfl) | (go_simp; omega)
            try simp only [Act.put, List.setIfInBounds_toArray, List.set_cons_zero, List.set_cons_succ]
            refine take_on (i := 22) (v := .agg #[.int .i64 (k : Key3).time, .int .i64 (k : Key3).source, .int .i64 (k : Key3).seq]) rfl (by kernel_rfl) (by kernel_rfl) (by kernel_rfl) (fun _ _ _ h => h) (by kernel_rfl) (fun W' hSW => ?_) (by assumption) ?_
            · obtain ⟨x0, x1, x2⟩ := XK.out.later hSW
              clear hSW
              first | (go_simp; done) | exact rfl | (go_simp; rfl) | (go_simp; omega)
            try simp only [Act.put, List.setIfInBounds_toArray, List.set_cons_zero, List.set_cons_succ]
            refine take_call (i := 23) rfl (by kernel_rfl) (by kernel_rfl) (fun K hK => ?_)
            go_simp
            refine (HO.out _ _).mono ?_
            rintro e V23 ⟨rfl, hf⟩
            have hS := hHeld.trans hf
            clear hf hHeld
            go_wp2_with fail
            refine hK.out _ _ hS (fun hHeld => ?_)
            clear hK K hS
            try simp only [Act.put, List.setIfInBounds_toArray, List.set_cons_zero, List.set_cons_succ]
            have e2 : decide (cmpK h k < 0) = false := decide_eq_false (by have := HHI.out; omega)
            refine take_on (i := 24) (v := .bool false) rfl (by kernel_rfl) (by kernel_rfl) (by kernel_rfl) (fun _ _ _ h => h) (by kernel_rfl) (fun W' hSW => ?_) (by assumption) ?_
            · clear hSW
              first | (go_simp; done) | exact rfl | (go_simp; rfl) | (go_simp; omega)
            try simp only [Act.put, List.setIfInBounds_toArray, List.set_cons_zero, List.set_cons_succ]
            clear e2
            refine take_on (i := 25) (v := .bool false) rfl (by kernel_rfl) (by kernel_rfl) (by kernel_rfl) (fun _ _ _ h => h) (by kernel_rfl) (fun W' hSW => ?_) (by assumption) ?_
            · clear hSW
              first | (go_simp; done) | exact rfl | (go_simp; rfl) | (go_simp; omega)
            try simp only [Act.put, List.setIfInBounds_toArray, List.set_cons_zero, List.set_cons_succ]
            refine take_on (i := 26) (v := .bool false) rfl (by kernel_rfl) (by kernel_rfl) (by kernel_rfl) (fun _ _ _ h => h) (by kernel_rfl) (fun W' hSW => ?_) (by assumption) ?_
            · clear hSW
              first | (go_simp; done) | exact rfl | (go_simp; rfl) | (go_simp; omega)
            try simp only [Act.put, List.setIfInBounds_toArray, List.set_cons_zero, List.set_cons_succ]
            refine wpAnyH_done (by kernel_rfl) ?_ _
            exact HT.out (fun n => ([.int .i64 c, .bool true, .bool true, .slice (some ⟨g, o, none⟩) j cap2, .int .i64 c, .int .i64 c', .pointer (some ⟨g, o + c' * 3, none⟩), keyV l, keyV k, .int .i64 (cmpK l k), .bool false, .bool false, .bool false, .int .i64 c, .slice (some ⟨g, o, none⟩) j cap2, .int .i64 j, .bool true, .bool true, .slice (some ⟨g, o, none⟩) j cap2, .int .i64 c, .pointer (some ⟨g, o + c * 3, none⟩), keyV h, keyV k, .int .i64 (cmpK h k), .bool false, .bool false] : List Value).getD n undef) _ hHeld
          · have d4 : decide ((c : Int) < (j : Int)) = false := decide_eq_false (by omega)
            refine wp_region_held_drew (S := fun W' => Fr0 none' w7 W') (by kernel_rfl) ((Fr0.refl none' w7).drew) (fun hHeld => ?_)
            refine take_on (i := 0) (v := .int .i64 c) rfl (by kernel_rfl) (by kernel_rfl) (by kernel_rfl) (fun _ _ _ h => h) (by kernel_rfl) (fun W' hSW => ?_) (by assumption) ?_
            · clear hSW
              first | (go_simp; done) | exact rfl | (go_simp; rfl) | (go_simp; omega)
            try simp only [Act.put, List.setIfInBounds_toArray, List.set_cons_zero, List.set_cons_succ]
            refine take_on (i := 1) (v := .bool true) rfl (by kernel_rfl) (by kernel_rfl) (by kernel_rfl) (fun _ _ _ h => h) (by kernel_rfl) (fun W' hSW => ?_) (by assumption) ?_
            · clear hSW
              first | (go_simp; done) | exact rfl | (go_simp; rfl) | (go_simp; omega)
            try simp only [Act.put, List.setIfInBounds_toArray, List.set_cons_zero, List.set_cons_succ]
            refine take_on (i := 2) (v := .bool true) rfl (by kernel_rfl) (by kernel_rfl) (by kernel_rfl) (fun _ _ _ h => h) (by kernel_rfl) (fun W' hSW => ?_) (by assumption) ?_
            · clear hSW
              first | (go_simp; done) | exact rfl | (go_simp; rfl) | (go_simp; omega)
            try simp only [Act.put, List.setIfInBounds_toArray, List.set_cons_zero, List.set_cons_succ]
            refine take_on (i := 3) (v := .slice (some ⟨g, o, none⟩) j cap2) rfl (by kernel_rfl) (by kernel_rfl) (by kernel_rfl) (fun _ _ _ h => h) (by kernel_rfl) (fun W' hSW => ?_) (by assumption) ?_
            · clear hSW
              first | (go_simp; done) | exact rfl | (go_simp; rfl) | (go_simp; omega)
            try simp only [Act.put, List.setIfInBounds_toArray, List.set_cons_zero, List.set_cons_succ]
            refine take_on (i := 4) (v := .int .i64 c) rfl (by kernel_rfl) (by kernel_rfl) (by kernel_rfl) (fun _ _ _ h => h) (by kernel_rfl) (fun W' hSW => ?_) (by assumption) ?_
            · clear hSW
              first | (go_simp; done) | exact rfl | (go_simp; rfl) | (go_simp; omega)
            try simp only [Act.put, List.setIfInBounds_toArray, List.set_cons_zero, List.set_cons_succ]
            refine take_on (i := 5) (v := .int .i64 c') rfl (by kernel_rfl) (by kernel_rfl) (by kernel_rfl) (fun _ _ _ h => h) (by kernel_rfl) (fun W' hSW => ?_) (by assumption) ?_
            · clear hSW
              first | (go_simp; done) | exact rfl | (go_simp; rfl) | (go_simp; omega)
            try simp only [Act.put, List.setIfInBounds_toArray, List.set_cons_zero, List.set_cons_succ]
            refine take_on (i := 6) (v := .pointer (some ⟨g, o + c' * 3, none⟩)) rfl (by kernel_rfl) (by kernel_rfl) (by kernel_rfl) (fun _ _ _ h => h) (by kernel_rfl) (fun W' hSW => ?_) (by assumption) ?_
            · clear hSW
              first | (go_simp; done) | exact rfl | (go_simp; rfl) | (go_simp; omega)
            try simp only [Act.put, List.setIfInBounds_toArray, List.set_cons_zero, List.set_cons_succ]
            refine take_on (i := 7) (v := .agg #[.int .i64 (l : Key3).time, .int .i64 (l : Key3).source, .int .i64 (l : Key3).seq]) rfl (by kernel_rfl) (by kernel_rfl) (by kernel_rfl) (fun _ _ _ h => h) (by kernel_rfl) (fun W' hSW => ?_) (by assumption) ?_
            · obtain ⟨x0, x1, x2⟩ := XL.out.later hSW
              clear hSW
              first | (go_simp; done) | exact rfl | (go_simp; rfl) | (go_simp; omega)
            try simp only [Act.put, List.setIfInBounds_toArray, List.set_cons_zero, List.set_cons_succ]
            refine take_on (i := 8) (v := .agg #[.int .i64 (k : Key3).time, .int .i64 (k : Key3).source, .int .i64 (k : Key3).seq]) rfl (by kernel_rfl) (by kernel_rfl) (by kernel_rfl) (fun _ _ _ h => h) (by kernel_rfl) (fun W' hSW => ?_) (by assumption) ?_
            · obtain ⟨x0, x1, x2⟩ := XK.out.later hSW
              clear hSW
              first | (go_simp; done) | exact rfl | (go_simp; rfl) | (go_simp; omega)
            try simp only [Act.put, List.setIfInBounds_toArray, List.set_cons_zero, List.set_cons_succ]
            clear z5
            refine take_call (i := 9) rfl (by kernel_rfl) (by kernel_rfl) (fun K hK => ?_)
            go_simp
            refine (HO.out _ _).mono ?_
            rintro e V9 ⟨rfl, hf⟩
            have hS := hHeld.trans hf
            clear hf hHeld
            go_wp2_with fail
            refine hK.out _ _ hS (fun hHeld => ?_)
            clear hK K hS
            try simp only [Act.put, List.setIfInBounds_toArray, List.set_cons_zero, List.set_cons_succ]
            have e1 : decide (0 ≤ cmpK l k) = false := decide_eq_false (by have := HLO.out; omega)
            refine take_on (i := 10) (v := .bool false) rfl (by kernel_rfl) (by kernel_rfl) (by kernel_rfl) (fun _ _ _ h => h) (by kernel_rfl) (fun W' hSW => ?_) (by assumption) ?_
            · clear hSW
              first | (go_simp; done) | exact rfl | (go_simp; rfl) | (go_simp; omega)
            try simp only [Act.put, List.setIfInBounds_toArray, List.set_cons_zero, List.set_cons_succ]
            clear e1
            refine take_on (i := 11) (v := .bool false) rfl (by kernel_rfl) (by kernel_rfl) (by kernel_rfl) (fun _ _ _ h => h) (by kernel_rfl) (fun W' hSW => ?_) (by assumption) ?_
            · clear hSW
              first | (go_simp; done) | exact rfl | (go_simp; rfl) | (go_simp; omega)
            try simp only [Act.put, List.setIfInBounds_toArray, List.set_cons_zero, List.set_cons_succ]
            refine take_on (i := 12) (v := .bool false) rfl (by kernel_rfl) (by kernel_rfl) (by kernel_rfl) (fun _ _ _ h => h) (by kernel_rfl) (fun W' hSW => ?_) (by assumption) ?_
            · clear hSW
              first | (go_simp; done) | exact rfl | (go_simp; rfl) | (go_simp; omega)
            try simp only [Act.put, List.setIfInBounds_toArray, List.set_cons_zero, List.set_cons_succ]
            refine take_on (i := 13) (v := .int .i64 c) rfl (by kernel_rfl) (by kernel_rfl) (by kernel_rfl) (fun _ _ _ h => h) (by kernel_rfl) (fun W' hSW => ?_) (by assumption) ?_
            · clear hSW
              first | (go_simp; done) | exact rfl | (go_simp; rfl) | (go_simp; omega)
            try simp only [Act.put, List.setIfInBounds_toArray, List.set_cons_zero, List.set_cons_succ]
            refine take_on (i := 14) (v := .slice (some ⟨g, o, none⟩) j cap2) rfl (by kernel_rfl) (by kernel_rfl) (by kernel_rfl) (fun _ _ _ h => h) (by kernel_rfl) (fun W' hSW => ?_) (by assumption) ?_
            · clear hSW
              first | (go_simp; done) | exact rfl | (go_simp; rfl) | (go_simp; omega)
            try simp only [Act.put, List.setIfInBounds_toArray, List.set_cons_zero, List.set_cons_succ]
            refine take_on (i := 15) (v := .int .i64 j) rfl (by kernel_rfl) (by kernel_rfl) (by kernel_rfl) (fun _ _ _ h => h) (by kernel_rfl) (fun W' hSW => ?_) (by assumption) ?_
            · clear hSW
              first | (go_simp; done) | exact rfl | (go_simp; rfl) | (go_simp; omega)
            try simp only [Act.put, List.setIfInBounds_toArray, List.set_cons_zero, List.set_cons_succ]
            refine take_on (i := 16) (v := .bool false) rfl (by kernel_rfl) (by kernel_rfl) (by kernel_rfl) (fun _ _ _ h => h) (by kernel_rfl) (fun W' hSW => ?_) (by assumption) ?_
            · clear hSW
              first | (go_simp; done) | exact rfl | (go_simp; rfl) | (go_simp; omega)
            try simp only [Act.put, List.setIfInBounds_toArray, List.set_cons_zero, List.set_cons_succ]
            refine take_on (i := 17) (v := .bool false) rfl (by kernel_rfl) (by kernel_rfl) (by kernel_rfl) (fun _ _ _ h => h) (by kernel_rfl) (fun W' hSW => ?_) (by assumption) ?_
            · clear hSW
              first | (go_simp; done) | exact rfl | (go_simp; rfl) | (go_simp; omega)
            try simp only [Act.put, List.setIfInBounds_toArray, List.set_cons_zero, List.set_cons_succ]
            refine take_off (i := 18) rfl (by kernel_rfl) (by kernel_rfl) (by kernel_rfl) (fun _ _ _ h => h) (by kernel_rfl) (by assumption) ?_
            try simp only [Act.put, List.setIfInBounds_toArray, List.set_cons_zero, List.set_cons_succ]
            refine take_off (i := 19) rfl (by kernel_rfl) (by kernel_rfl) (by kernel_rfl) (fun _ _ _ h => h) (by kernel_rfl) (by assumption) ?_
            try simp only [Act.put, List.setIfInBounds_toArray, List.set_cons_zero, List.set_cons_succ]
            refine take_off (i := 20) rfl (by kernel_rfl) (by kernel_rfl) (by kernel_rfl) (fun _ _ _ h => h) (by kernel_rfl) (by assumption) ?_
            try simp only [Act.put, List.setIfInBounds_toArray, List.set_cons_zero, List.set_cons_succ]
            refine take_off (i := 21) rfl (by kernel_rfl) (by kernel_rfl) (by kernel_rfl) (fun _ _ _ h => h) (by kernel_rfl) (by assumption) ?_
            try simp only [Act.put, List.setIfInBounds_toArray, List.set_cons_zero, List.set_cons_succ]
            refine take_off (i := 22) rfl (by kernel_rfl) (by kernel_rfl) (by kernel_rfl) (fun _ _ _ h => h) (by kernel_rfl) (by assumption) ?_
            try simp only [Act.put, List.setIfInBounds_toArray, List.set_cons_zero, List.set_cons_succ]
            refine take_off (i := 23) rfl (by kernel_rfl) (by kernel_rfl) (by kernel_rfl) (fun _ _ _ h => h) (by kernel_rfl) (by assumption) ?_
            try simp only [Act.put, List.setIfInBounds_toArray, List.set_cons_zero, List.set_cons_succ]
            refine take_off (i := 24) rfl (by kernel_rfl) (by kernel_rfl) (by kernel_rfl) (fun _ _ _ h => h) (by kernel_rfl) (by assumption) ?_
            try simp only [Act.put, List.setIfInBounds_toArray, List.set_cons_zero, List.set_cons_succ]
            refine take_on (i := 25) (v := .bool false) rfl (by kernel_rfl) (by kernel_rfl) (by kernel_rfl) (fun _ _ _ h => h) (by kernel_rfl) (fun W' hSW => ?_) (by assumption) ?_
            · clear hSW
              first | (go_simp; done) | exact rfl | (go_simp; rfl) | (go_simp; omega)
            try simp only [Act.put, List.setIfInBounds_toArray, List.set_cons_zero, List.set_cons_succ]
            refine take_on (i := 26) (v := .bool false) rfl (by kernel_rfl) (by kernel_rfl) (by kernel_rfl) (fun _ _ _ h => h) (by kernel_rfl) (fun W' hSW => ?_) (by assumption) ?_
            · clear hSW
              first | (go_simp; done) | exact rfl | (go_simp; rfl) | (go_simp; omega)
            try simp only [Act.put, List.setIfInBounds_toArray, List.set_cons_zero, List.set_cons_succ]
            refine wpAnyH_done (by kernel_rfl) ?_ _
            exact HT.out (fun n => ([.int .i64 c, .bool true, .bool true, .slice (some ⟨g, o, none⟩) j cap2, .int .i64 c, .int .i64 c', .pointer (some ⟨g, o + c' * 3, none⟩), keyV l, keyV k, .int .i64 (cmpK l k), .bool false, .bool false, .bool false, .int .i64 c, .slice (some ⟨g, o, none⟩) j cap2, .int .i64 j, .bool false, .bool false, undef, undef, undef, undef, undef, undef, undef, .bool false] : List Value).getD n undef) _ hHeld
        · have d3 : decide ((0 : Int) < (c : Int)) = false := decide_eq_false (by omega)
          by_cases hcm' : c < j
          · have d4 : decide ((c : Int) < (j : Int)) = true := decide_eq_true (by omega)
            have b5 : (0 : Int) ≤ (c : Int) := by omega
            have b6 : (c : Int) < (j : Int) := by omega
            obtain ⟨g, o, rfl, hx⟩ := HP.out.at (i := c) (by rw [Hm.out]; omega)
            have hhi := Hc.out.2.2 c (Nat.le_refl _) hcm'
            obtain ⟨h, hhh⟩ : ∃ l, kat L c = l := ⟨_, rfl⟩
            rw [hhh] at hx hhi
            have XH := Lib.hid (hx.later F7.out)
            have HHI := Lib.hid hhi
            clear hx hhh hhi
            refine wp_region_held_drew (S := fun W' => Fr0 none' w7 W') (by kernel_rfl) ((Fr0.refl none' w7).drew) (fun hHeld => ?_)
            refine take_on (i := 0) (v := .int .i64 c) rfl (by kernel_rfl) (by kernel_rfl) (by kernel_rfl) (fun _ _ _ h => h) (by kernel_rfl) (fun W' hSW => ?_) (by assumption) ?_
            · clear hSW
              first | (go_simp; done) | exact rfl | (go_simp; rfl) | (go_simp; omega)
            try simp only [Act.put, List.setIfInBounds_toArray, List.set_cons_zero, List.set_cons_succ]
            refine take_on (i := 1) (v := .bool false) rfl (by kernel_rfl) (by kernel_rfl) (by kernel_rfl) (fun _ _ _ h => h) (by kernel_rfl) (fun W' hSW => ?_) (by assumption) ?_
            · clear hSW
              first | (go_simp; done) | exact rfl | (go_simp; rfl) | (go_simp; omega)
            try simp only [Act.put, List.setIfInBounds_toArray, List.set_cons_zero, List.set_cons_succ]
            refine take_on (i := 2) (v := .bool false) rfl (by kernel_rfl) (by kernel_rfl) (by kernel_rfl) (fun _ _ _ h => h) (by kernel_rfl) (fun W' hSW => ?_) (by assumption) ?_
            · clear hSW
              first | (go_simp; done) | exact rfl | (go_simp; rfl) | (go_simp; omega)
            try simp only [Act.put, List.setIfInBounds_toArray, List.set_cons_zero, List.set_cons_succ]
            refine take_off (i := 3) rfl (by kernel_rfl) (by kernel_rfl) (by kernel_rfl) (fun _ _ _ h => h) (by kernel_rfl) (by assumption) ?_
            try simp only [Act.put, List.setIfInBounds_toArray, List.set_cons_zero, List.set_cons_succ]
            refine take_off (i := 4) rfl (by kernel_rfl) (by kernel_rfl) (by kernel_rfl) (fun _ _ _ h => h) (by kernel_rfl) (by assumption) ?_
            try simp only [Act.put, List.setIfInBounds_toArray, List.set_cons_zero, List.set_cons_succ]
            refine take_off (i := 5) rfl (by kernel_rfl) (by kernel_rfl) (by kernel_rfl) (fun _ _ _ h => h) (by kernel_rfl) (by assumption) ?_
            try simp only [Act.put, List.setIfInBounds_toArray, List.set_cons_zero, List.set_cons_succ]
            refine take_off (i := 6) rfl (by kernel_rfl) (by kernel_rfl) (by kernel_rfl) (fun _ _ _ h => h) (by kernel_rfl) (by assumption) ?_
            try simp only [Act.put, List.setIfInBounds_toArray, List.set_cons_zero, List.set_cons_succ]
            refine take_off (i := 7) rfl (by kernel_rfl) (by kernel_rfl) (by kernel_rfl) (fun _ _ _ h => h) (by kernel_rfl) (by assumption) ?_
            try simp only [Act.put, List.setIfInBounds_toArray, List.set_cons_zero, List.set_cons_succ]
            refine take_off (i := 8) rfl (by kernel_rfl) (by kernel_rfl) (by kernel_rfl) (fun _ _ _ h => h) (by kernel_rfl) (by assumption) ?_
            try simp only [Act.put, List.setIfInBounds_toArray, List.set_cons_zero, List.set_cons_succ]
            refine take_off (i := 9) rfl (by kernel_rfl) (by kernel_rfl) (by kernel_rfl) (fun _ _ _ h => h) (by kernel_rfl) (by assumption) ?_
            try simp only [Act.put, List.setIfInBounds_toArray, List.set_cons_zero, List.set_cons_succ]
            refine take_off (i := 10) rfl (by kernel_rfl) (by kernel_rfl) (by kernel_rfl) (fun _ _ _ h => h) (by kernel_rfl) (by assumption) ?_
            try simp only [Act.put, List.setIfInBounds_toArray, List.set_cons_zero, List.set_cons_succ]
            refine take_on (i := 11) (v := .bool false) rfl (by kernel_rfl) (by kernel_rfl) (by kernel_rfl) (fun _ _ _ h => h) (by kernel_rfl) (fun W' hSW => ?_) (by assumption) ?_
            · clear hSW
              first | (go_simp; done) | exact rfl | (go_simp; rfl) | (go_simp; omega)
            try simp only [Act.put, List.setIfInBounds_toArray, List.set_cons_zero, List.set_cons_succ]
            refine take_on (i := 12) (v := .bool false) rfl (by kernel_rfl) (by kernel_rfl) (by kernel_rfl) (fun _ _ _ h => h) (by kernel_rfl) (fun W' hSW => ?_) (by assumption) ?_
            · clear hSW
              first | (go_simp; done) | exact rfl | (go_simp; rfl) | (go_simp; omega)
            try simp only [Act.put, List.setIfInBounds_toArray, List.set_cons_zero, List.set_cons_succ]
            refine take_on (i := 13) (v := .int .i64 c) rfl (by kernel_rfl) (by kernel_rfl) (by kernel_rfl) (fun _ _ _ h => h) (by kernel_rfl) (fun W' hSW => ?_) (by assumption) ?_
            · clear hSW
              first | (go_simp; done) | exact rfl | (go_simp; rfl) | (go_simp; omega)
            try simp only [Act.put, List.setIfInBounds_toArray, List.set_cons_zero, List.set_cons_succ]
            refine take_on (i := 14) (v := .slice (some ⟨g, o, none⟩) j cap2) rfl (by kernel_rfl) (by kernel_rfl) (by kernel_rfl) (fun _ _ _ h => h) (by kernel_rfl) (fun W' hSW => ?_) (by assumption) ?_
            · clear hSW
              first | (go_simp; done) | exact rfl | (go_simp; rfl) | (go_simp; omega)
            try simp only [Act.put, List.setIfInBounds_toArray, List.set_cons_zero, List.set_cons_succ]
            refine take_on (i := 15) (v := .int .i64 j) rfl (by kernel_rfl) (by kernel_rfl) (by kernel_rfl) (fun _ _ _ h => h) (by kernel_rfl) (fun W' hSW => ?_) (by assumption) ?_
            · clear hSW
              first | (go_simp; done) | exact rfl | (go_simp; rfl) | (go_simp; omega)
            try simp only [Act.put, List.setIfInBounds_toArray, List.set_cons_zero, List.set_cons_succ]
            refine take_on (i := 16) (v := .bool true) rfl (by kernel_rfl) (by kernel_rfl) (by kernel_rfl) (fun _ _ _ h => h) (by kernel_rfl) (fun W' hSW => ?_) (by assumption) ?_
            · clear hSW
              first | (go_simp; done) | exact rfl | (go_simp; rfl) | (go_simp; omega)
            try simp only [Act.put, List.setIfInBounds_toArray, List.set_cons_zero, List.set_cons_succ]
            refine take_on (i := 17) (v := .bool true) rfl (by kernel_rfl) (by kernel_rfl) (by kernel_rfl) (fun _ _ _ h => h) (by kernel_rfl) (fun W' hSW => ?_) (by assumption) ?_
            · clear hSW
              first | (go_simp; done) | exact rfl | (go_simp; rfl) | (go_simp; omega)
            try simp only [Act.put, List.setIfInBounds_toArray, List.set_cons_zero, List.set_cons_succ]
            refine take_on (i := 18) (v := .slice (some ⟨g, o, none⟩) j cap2) rfl (by kernel_rfl) (by kernel_rfl) (by kernel_rfl) (fun _ _ _ h => h) (by kernel_rfl) (fun W' hSW => ?_) (by assumption) ?_
            · clear hSW
              first | (go_simp; done) | exact rfl | (go_simp; rfl) | (go_simp; omega)
            try simp only [Act.put, List.setIfInBounds_toArray, List.set_cons_zero, List.set_cons_succ]
            refine take_on (i := 19) (v := .int .i64 c) rfl (by kernel_rfl) (by kernel_rfl) (by kernel_rfl) (fun _ _ _ h => h) (by kernel_rfl) (fun W' hSW => ?_) (by assumption) ?_
            · clear hSW
              first | (go_simp; done) | exact rfl | (go_simp; rfl) | (go_simp; omega)
            try simp only [Act.put, List.setIfInBounds_toArray, List.set_cons_zero, List.set_cons_succ]
            refine take_on (i := 20) (v := .pointer (some ⟨g, o + c * 3, none⟩)) rfl (by kernel_rfl) (by kernel_rfl) (by kernel_rfl) (fun _ _ _ h => h) (by kernel_rfl) (fun W' hSW => ?_) (by assumption) ?_
            · clear hSW
              first | (go_simp; done) | exact rfl | (go_simp; rfl) | (go_simp; omega)
            try simp only [Act.put, List.setIfInBounds_toArray, List.set_cons_zero, List.set_cons_succ]
            refine take_on (i := 21) (v := .agg #[.int .i64 (h : Key3).time, .int .i64 (h : Key3).source, .int .i64 (h : Key3).seq]) rfl (by kernel_rfl) (by kernel_rfl) (by kernel_rfl) (fun _ _ _ h => h) (by kernel_rfl) (fun W' hSW => ?_) (by assumption) ?_
            · obtain ⟨x0, x1, x2⟩ := XH.out.later hSW
              clear hSW
              first | (go_simp; done) | exact rfl | (go_simp; rfl) | (go_simp; omega)
            try simp only [Act.put, List.setIfInBounds_toArray, List.set_cons_zero, List.set_cons_succ]
            refine take_on (i := 22) (v := .agg #[.int .i64 (k : Key3).time, .int .i64 (k : Key3).source, .int .i64 (k : Key3).seq]) rfl (by kernel_rfl) (by kernel_rfl) (by kernel_rfl) (fun _ _ _ h => h) (by kernel_rfl) (fun W' hSW => ?_) (by assumption) ?_
            · obtain ⟨x0, x1, x2⟩ := XK.out.later hSW
              clear hSW
              first | (go_simp; done) | exact rfl | (go_simp; rfl) | (go_simp; omega)
            try simp only [Act.put, List.setIfInBounds_toArray, List.set_cons_zero, List.set_cons_succ]
            refine take_call (i := 23) rfl (by kernel_rfl) (by kernel_rfl) (fun K hK => ?_)
            go_simp
            refine (HO.out _ _).mono ?_
            rintro e V23 ⟨rfl, hf⟩
            have hS := hHeld.trans hf
            clear hf hHeld
            go_wp2_with fail
            refine hK.out _ _ hS (fun hHeld => ?_)
            clear hK K hS
            try simp only [Act.put, List.setIfInBounds_toArray, List.set_cons_zero, List.set_cons_succ]
            have e2 : decide (cmpK h k < 0) = false := decide_eq_false (by have := HHI.out; omega)
            refine take_on (i := 24) (v := .bool false) rfl (by kernel_rfl) (by kernel_rfl) (by kernel_rfl) (fun _ _ _ h => h) (by kernel_rfl) (fun W' hSW => ?_) (by assumption) ?_
            · clear hSW
              first | (go_simp; done) | exact rfl | (go_simp; rfl) | (go_simp; omega)
            try simp only [Act.put, List.setIfInBounds_toArray, List.set_cons_zero, List.set_cons_succ]
            clear e2
            refine take_on (i := 25) (v := .bool false) rfl (by kernel_rfl) (by kernel_rfl) (by kernel_rfl) (fun _ _ _ h => h) (by kernel_rfl) (fun W' hSW => ?_) (by assumption) ?_
            · clear hSW
              first | (go_simp; done) | exact rfl | (go_simp; rfl) | (go_simp; omega)
            try simp only [Act.put, List.setIfInBounds_toArray, List.set_cons_zero, List.set_cons_succ]
            refine take_on (i := 26) (v := .bool false) rfl (by kernel_rfl) (by kernel_rfl) (by kernel_rfl) (fun _ _ _ h => h) (by kernel_rfl) (fun W' hSW => ?_) (by assumption) ?_
            · clear hSW
              first | (go_simp; done) | exact rfl | (go_simp; rfl) | (go_simp; omega)
            try simp only [Act.put, List.setIfInBounds_toArray, List.set_cons_zero, List.set_cons_succ]
            refine wpAnyH_done (by kernel_rfl) ?_ _
            exact HT.out (fun n => ([.int .i64 c, .bool false, .bool false, undef, undef, undef, undef, undef, undef, undef, undef, .bool false, .bool false, .int .i64 c, .slice (some ⟨g, o, none⟩) j cap2, .int .i64 j, .bool true, .bool true, .slice (some ⟨g, o, none⟩) j cap2, .int .i64 c, .pointer (some ⟨g, o + c * 3, none⟩), keyV h, keyV k, .int .i64 (cmpK h k), .bool false, .bool false] : List Value).getD n undef) _ hHeld
          · have d4 : decide ((c : Int) < (j : Int)) = false := decide_eq_false (by omega)
            refine wp_region_held_drew (S := fun W' => Fr0 none' w7 W') (by kernel_rfl) ((Fr0.refl none' w7).drew) (fun hHeld => ?_)
            refine take_on (i := 0) (v := .int .i64 c) rfl (by kernel_rfl) (by kernel_rfl) (by kernel_rfl) (fun _ _ _ h => h) (by kernel_rfl) (fun W' hSW => ?_) (by assumption) ?_
            · clear hSW
              first | (go_simp; done) | exact rfl | (go_simp; rfl) | (go_simp; omega)
            try simp only [Act.put, List.setIfInBounds_toArray, List.set_cons_zero, List.set_cons_succ]
            refine take_on (i := 1) (v := .bool false) rfl (by kernel_rfl) (by kernel_rfl) (by kernel_rfl) (fun _ _ _ h => h) (by kernel_rfl) (fun W' hSW => ?_) (by assumption) ?_
            · clear hSW
              first | (go_simp; done) | exact rfl | (go_simp; rfl) | (go_simp; omega)
            try simp only [Act.put, List.setIfInBounds_toArray, List.set_cons_zero, List.set_cons_succ]
            refine take_on (i := 2) (v := .bool false) rfl (by kernel_rfl) (by kernel_rfl) (by kernel_rfl) (fun _ _ _ h => h) (by kernel_rfl) (fun W' hSW => ?_) (by assumption) ?_
            · clear hSW
              first | (go_simp; done) | exact rfl | (go_simp; rfl) | (go_simp; omega)
            try simp only [Act.put, List.setIfInBounds_toArray, List.set_cons_zero, List.set_cons_succ]
            refine take_off (i := 3) rfl (by kernel_rfl) (by kernel_rfl) (by kernel_rfl) (fun _ _ _ h => h) (by kernel_rfl) (by assumption) ?_
            try simp only [Act.put, List.setIfInBounds_toArray, List.set_cons_zero, List.set_cons_succ]
            refine take_off (i := 4) rfl (by kernel_rfl) (by kernel_rfl) (by kernel_rfl) (fun _ _ _ h => h) (by kernel_rfl) (by assumption) ?_
            try simp only [Act.put, List.setIfInBounds_toArray, List.set_cons_zero, List.set_cons_succ]
            refine take_off (i := 5) rfl (by kernel_rfl) (by kernel_rfl) (by kernel_rfl) (fun _ _ _ h => h) (by kernel_rfl) (by assumption) ?_
            try simp only [Act.put, List.setIfInBounds_toArray, List.set_cons_zero, List.set_cons_succ]
            refine take_off (i := 6) rfl (by kernel_rfl) (by kernel_rfl) (by kernel_rfl) (fun _ _ _ h => h) (by kernel_rfl) (by assumption) ?_
            try simp only [Act.put, List.setIfInBounds_toArray, List.set_cons_zero, List.set_cons_succ]
            refine take_off (i := 7) rfl (by kernel_rfl) (by kernel_rfl) (by kernel_rfl) (fun _ _ _ h => h) (by kernel_rfl) (by assumption) ?_
            try simp only [Act.put, List.setIfInBounds_toArray, List.set_cons_zero, List.set_cons_succ]
            refine take_off (i := 8) rfl (by kernel_rfl) (by kernel_rfl) (by kernel_rfl) (fun _ _ _ h => h) (by kernel_rfl) (by assumption) ?_
            try simp only [Act.put, List.setIfInBounds_toArray, List.set_cons_zero, List.set_cons_succ]
            refine take_off (i := 9) rfl (by kernel_rfl) (by kernel_rfl) (by kernel_rfl) (fun _ _ _ h => h) (by kernel_rfl) (by assumption) ?_
            try simp only [Act.put, List.setIfInBounds_toArray, List.set_cons_zero, List.set_cons_succ]
            refine take_off (i := 10) rfl (by kernel_rfl) (by kernel_rfl) (by kernel_rfl) (fun _ _ _ h => h) (by kernel_rfl) (by assumption) ?_
            try simp only [Act.put, List.setIfInBounds_toArray, List.set_cons_zero, List.set_cons_succ]
            refine take_on (i := 11) (v := .bool false) rfl (by kernel_rfl) (by kernel_rfl) (by kernel_rfl) (fun _ _ _ h => h) (by kernel_rfl) (fun W' hSW => ?_) (by assumption) ?_
            · clear hSW
              first | (go_simp; done) | exact rfl | (go_simp; rfl) | (go_simp; omega)
            try simp only [Act.put, List.setIfInBounds_toArray, List.set_cons_zero, List.set_cons_succ]
            refine take_on (i := 12) (v := .bool false) rfl (by kernel_rfl) (by kernel_rfl) (by kernel_rfl) (fun _ _ _ h => h) (by kernel_rfl) (fun W' hSW => ?_) (by assumption) ?_
            · clear hSW
              first | (go_simp; done) | exact rfl | (go_simp; rfl) | (go_simp; omega)
            try simp only [Act.put, List.setIfInBounds_toArray, List.set_cons_zero, List.set_cons_succ]
            refine take_on (i := 13) (v := .int .i64 c) rfl (by kernel_rfl) (by kernel_rfl) (by kernel_rfl) (fun _ _ _ h => h) (by kernel_rfl) (fun W' hSW => ?_) (by assumption) ?_
            · clear hSW
              first | (go_simp; done) | exact rfl | (go_simp; rfl) | (go_simp; omega)
            try simp only [Act.put, List.setIfInBounds_toArray, List.set_cons_zero, List.set_cons_succ]
            refine take_on (i := 14) (v := .slice a2 j cap2) rfl (by kernel_rfl) (by kernel_rfl) (by kernel_rfl) (fun _ _ _ h => h) (by kernel_rfl) (fun W' hSW => ?_) (by assumption) ?_
            · clear hSW
              first | (go_simp; done) | exact rfl | (go_simp; rfl) | (go_simp; omega)
            try simp only [Act.put, List.setIfInBounds_toArray, List.set_cons_zero, List.set_cons_succ]
            refine take_on (i := 15) (v := .int .i64 j) rfl (by kernel_rfl) (by kernel_rfl) (by kernel_rfl) (fun _ _ _ h => h) (by kernel_rfl) (fun W' hSW => ?_) (by assumption) ?_
            · clear hSW
              first | (go_simp; done) | exact rfl | (go_simp; rfl) | (go_simp; omega)
            try simp only [Act.put, List.setIfInBounds_toArray, List.set_cons_zero, List.set_cons_succ]
            refine take_on (i := 16) (v := .bool false) rfl (by kernel_rfl) (by kernel_rfl) (by kernel_rfl) (fun _ _ _ h => h) (by kernel_rfl) (fun W' hSW => ?_) (by assumption) ?_
            · clear hSW
              first | (go_simp; done) | exact rfl | (go_simp; rfl) | (go_simp; omega)
            try simp only [Act.put, List.setIfInBounds_toArray, List.set_cons_zero, List.set_cons_succ]
            refine take_on (i := 17) (v := .bool false) rfl (by kernel_rfl) (by kernel_rfl) (by kernel_rfl) (fun _ _ _ h => h) (by kernel_rfl) (fun W' hSW => ?_) (by assumption) ?_
            · clear hSW
              first | (go_simp; done) | exact rfl | (go_simp; rfl) | (go_simp; omega)
            try simp only [Act.put, List.setIfInBounds_toArray, List.set_cons_zero, List.set_cons_succ]
            refine take_off (i := 18) rfl (by kernel_rfl) (by kernel_rfl) (by kernel_rfl) (fun _ _ _ h => h) (by kernel_rfl) (by assumption) ?_
            try simp only [Act.put, List.setIfInBounds_toArray, List.set_cons_zero, List.set_cons_succ]
            refine take_off (i := 19) rfl (by kernel_rfl) (by kernel_rfl) (by kernel_rfl) (fun _ _ _ h => h) (by kernel_rfl) (by assumption) ?_
            try simp only [Act.put, List.setIfInBounds_toArray, List.set_cons_zero, List.set_cons_succ]
            refine take_off (i := 20) rfl (by kernel_rfl) (by kernel_rfl) (by kernel_rfl) (fun _ _ _ h => h) (by kernel_rfl) (by assumption) ?_
            try simp only [Act.put, List.setIfInBounds_toArray, List.set_cons_zero, List.set_cons_succ]
            refine take_off (i := 21) rfl (by kernel_rfl) (by kernel_rfl) (by kernel_rfl) (fun _ _ _ h => h) (by kernel_rfl) (by assumption) ?_
            try simp only [Act.put, List.setIfInBounds_toArray, List.set_cons_zero, List.set_cons_succ]
            refine take_off (i := 22) rfl (by kernel_rfl) (by kernel_rfl) (by kernel_rfl) (fun _ _ _ h => h) (by kernel_rfl) (by assumption) ?_
            try simp only [Act.put, List.setIfInBounds_toArray, List.set_cons_zero, List.set_cons_succ]
            refine take_off (i := 23) rfl (by kernel_rfl) (by kernel_rfl) (by kernel_rfl) (fun _ _ _ h => h) (by kernel_rfl) (by assumption) ?_
            try simp only [Act.put, List.setIfInBounds_toArray, List.set_cons_zero, List.set_cons_succ]
            refine take_off (i := 24) rfl (by kernel_rfl) (by kernel_rfl) (by kernel_rfl) (fun _ _ _ h => h) (by kernel_rfl) (by assumption) ?_
            try simp only [Act.put, List.setIfInBounds_toArray, List.set_cons_zero, List.set_cons_succ]
            refine take_on (i := 25) (v := .bool false) rfl (by kernel_rfl) (by kernel_rfl) (by kernel_rfl) (fun _ _ _ h => h) (by kernel_rfl) (fun W' hSW => ?_) (by assumption) ?_
            · clear hSW
              first | (go_simp; done) | exact rfl | (go_simp; rfl) | (go_simp; omega)
            try simp only [Act.put, List.setIfInBounds_toArray, List.set_cons_zero, List.set_cons_succ]
            refine take_on (i := 26) (v := .bool false) rfl (by kernel_rfl) (by kernel_rfl) (by kernel_rfl) (fun _ _ _ h => h) (by kernel_rfl) (fun W' hSW => ?_) (by assumption) ?_
            · clear hSW
              first | (go_simp; done) | exact rfl | (go_simp; rfl) | (go_simp; omega)
            try simp only [Act.put, List.setIfInBounds_toArray, List.set_cons_zero, List.set_cons_succ]
            refine wpAnyH_done (by kernel_rfl) ?_ _
            exact HT.out (fun n => ([.int .i64 c, .bool false, .bool false, undef, undef, undef, undef, undef, undef, undef, undef, .bool false, .bool false, .int .i64 c, .slice a2 j cap2, .int .i64 j, .bool false, .bool false, undef, undef, undef, undef, undef, undef, undef, .bool false] : List Value).getD n undef) _ hHeld
end Go.Proofs.YtkohmodnjcoapaaGreatDoor

namespace Go.Proofs.YtkohmodnjcoapaaGreatDoor.keyFinds
open Go Go.ChangeShapes Go.WideShapes Go.ChangeAt Go.RowKit Go.Proofs.YtkohmodnjcoapaaGreatDoor

set_option maxRecDepth 100000 in
theorem lifted (os : Os) (started : os.Started) (H : Type) (enc : TypeId × Value → H) :
    ReturnsInHanded {} Tryz.checked os 6 .any (fun w args => (Rows.keyFindsSpec.pre enc Tryz.prog Tryz.f6 Rows.keyFindsRow.domain false w args ∧ laidMet Tryz.prog laidK w) ∧ sizedMet enc Tryz.prog Tryz.f6 (OpenSpec.ofChange Rows.keyFindsSpec) false w args)
      (Rows.keyFindsSpec.post enc Tryz.prog Tryz.f6 false true false false) := by
  refine returnsInHanded_of_change_and (C := Tryz.checked) (X := fun w _ => laidMet Tryz.prog laidK w) (fun _ _ _ hh h => h.of_heap hh) own_knob started (by kernel_rfl) Tryz.func6
    (ChangeSpec.witness_at (enc := enc) (C := Tryz.checked) (os := os) (X := fun w _ => laidMet Tryz.prog laidK w) false (laidWorld os) #[.slice none 0 0, .agg #[.int .u64 0, .int .u32 0, .int .u32 0]] 8 rfl (by kernel_rfl) (by kernel_rfl) (by kernel_rfl) (by kernel_rfl) (by kernel_rfl) (laidWorld_met os _)) ?_
  intro W base args ds gs before hval0 hW _ hsz0 hL _
  have hval : ∀ (j : Nat) t v, Tryz.f6.params[j]? = some t → args[j]? = some v → Value.okWide Tryz.prog W .any base t v := hval0
  have hW' := hW
  obtain ⟨p, q, hA0, hV, rfl, hfz, hnd⟩ := hW
  have hA : DataW.TrodAll enc Tryz.prog W 0 (fun _ => true) true Tryz.f6.params.toList args.toList ds p := hA0
  rw [Tryz.params6] at hA hval
  obtain ⟨v0, vs0, d0, ds0, p0, q0, hargs, rfl, rfl, h0, r0⟩ := trodAll_cons hA
  obtain ⟨v1, vs1, d1, ds1, p1, q1, rfl, rfl, rfl, h1, r1⟩ := trodAll_cons r0
  obtain ⟨rfl, rfl, rfl⟩ := trodAll_nil r1
  obtain rfl : args = #[v0, v1] := by cases args; simp_all
  obtain ⟨rfl, rfl⟩ := trodVars_none hV
  clear hA0 hval0
  simp only [List.append_nil] at hW'
  have l0 : ∀ x ∈ p0, x.block < W.heap.size := fun x hx => hW'.lt x (by simp [hx])
  have t0 := fun W' (hb : Below W.heap.size W W') => Below.trod laid_own (by kernel_rfl) (of_decide_eq_true (by kernel_rfl)) h0 hb l0
  have l1 : ∀ x ∈ p1, x.block < W.heap.size := fun x hx => hW'.lt x (by simp [hx])
  have t1 := fun W' (hb : Below W.heap.size W W') => Below.trod laid_own (by kernel_rfl) (of_decide_eq_true (by kernel_rfl)) h1 hb l1
  obtain ⟨a0, n0, cap0, X0, rfl, hn0, hc0, hm0, hb0⟩ := nums_arg (hval 0 51 v0 rfl rfl) h0
  obtain ⟨x1, rfl⟩ := num3_arg (hval 1 25 v1 rfl rfl) h1
  refine (KeyFinds_any a0 n0 cap0 X0 x1 W (laid7_of hL) hn0 hc0 hm0 hb0).mono fun e W' ⟨he, hg0⟩ => ?_
  have hg := hg0.below (Nat.le_refl _) (fun _ _ h => h)
  subst he
  exact ⟨_, rfl, post_belowK (pa := (p0 ++ (p1 ++ []))) (pv := []) hW' (fun _ _ _ => (trodAll_cons_mk (shut_bool Tryz.underlying4 _) trodAll_mk0)) (trodAll_cons_mk (t0 _ hg) (trodAll_cons_mk (t1 _ hg) trodAll_mk0)) (fun _ _ => rfl) hg⟩

theorem over : Rows.keyFindsRow.holds Tryz.pinned (OpenSpec.ofChange Rows.keyFindsSpec) :=
  OpenClaim.holds_of_wide 6 Tryz.f6 rfl rfl rfl rfl rfl rfl rfl ⟨rfl, rfl, rfl, rfl, rfl⟩ rfl rfl rfl rfl rfl (by kernel_rfl) Tryz.func6 (by kernel_rfl)
    (of_decide_eq_true (by kernel_rfl)) (by unfold Func.isWrapper; first | (rw [if_pos (by decide +kernel)]; kernel_rfl) | (rw [if_neg (by decide +kernel)]; exact ⟨rfl, rfl⟩))
    (fun os started H enc _ => lifted os started H enc)

theorem proved : Rows.KeyFindsCardSaid :=
  Claim7.holds_tied_plain_at .later [] [.data, .data, .data, .sentinel, .sentinel] true _ true
    over (fun _ h => by cases h) (by kernel_rfl) (fun _ h => by cases h) keyFinds_row_tie rfl ⟨rfl, rfl⟩ (by kernel_rfl) rfl
    (fun f fn hf hfn => by
      obtain rfl : f = 6 := Option.some.inj ((show Tryz.prog.funcNamed "fermata/fermatalaw07.KeyFinds" = some 6 by kernel_rfl).symm.trans hf) |>.symm
      obtain rfl : fn = Tryz.f6 := (Option.some.inj (Tryz.func6.symm.trans hfn)).symm
      exact ⟨by kernel_rfl, fun j t ht => by
        rw [Tryz.params6] at ht
        have sN : Tryz.prog.wantsStandIn 51 = false := by kernel_rfl
        have sS : Tryz.prog.wantsStandIn 25 = false := by kernel_rfl
        have hm : t ∈ [51, 25] := by
          have := Array.mem_of_getElem? ht
          simpa using this
        simp only [List.mem_cons, List.not_mem_nil, or_false, or_self] at hm
        rcases hm with rfl | rfl
        · exact sN
        · exact sS⟩)
    (by kernel_rfl)
#print axioms proved
end Go.Proofs.YtkohmodnjcoapaaGreatDoor.keyFinds
