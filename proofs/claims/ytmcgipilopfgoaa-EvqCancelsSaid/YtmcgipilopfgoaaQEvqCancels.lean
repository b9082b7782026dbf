/- EvqCancels: the statement: for any input the law returns true, and the arguments read as before; no condition. -/
import Derived.Test.YtmcgipilopfgoaaJb3
import Derived.Test.YtmcgipilopfgoaaJb1
import Derived.Test.YtmcgipilopfgoaaJb2
set_option linter.unusedSimpArgs false
set_option linter.unusedVariables false

/-
  EvqCancels.
-/
namespace Go.Proofs.Ytmcgipilopfgoaa
open Go Go.RowKit Go.ChangeMaps
attribute [local go_sem ↓] Go.wp_at_zero Go.wp_at_succ
attribute [local go_sem] Oper.semAt_some wide_fn wide_depth wide_fnR wide_depthR

/-- A slice of bytes. -/
def BytesAt (w : World) (v : Value) (n : Nat) : Prop := ∃ a cap, v = .slice a n cap ∧ n ≤ cap ∧ ∀ j, j < n → ∃ b : Int, (0 ≤ b ∧ b < 256) ∧ ∃ g o, a = some ⟨g, o, none⟩ ∧ w.cell? ⟨g, o + j, none⟩ = some (.int .u8 b)
theorem once_split {E : List Ev} (h : OnceE E) {i : Nat} {x : Ev} (hx : E[i]? = some x) : E = E.take i ++ x :: E.drop (i + 1) ∧ (∀ y ∈ E.take i, y.name ≠ x.name) ∧ (∀ y ∈ E.drop (i + 1), y.name ≠ x.name) := by
  obtain ⟨hi, he⟩ := List.getElem?_eq_some_iff.1 hx
  have hl : E = E.take i ++ x :: E.drop (i + 1) := by
    rw [← he, ← List.drop_eq_getElem_cons hi, List.take_append_drop]
  have hp : OnceE (x :: (E.take i ++ E.drop (i + 1))) := by
    refine h.perm ?_
    conv => lhs; rw [hl]
    exact List.perm_middle
  have h1 := (once_cons.1 hp).1
  exact ⟨hl, fun y hy => h1 y (List.mem_append_left _ hy), fun y hy => h1 y (List.mem_append_right _ hy)⟩
theorem del_at {E : List Ev} (h : OnceE E) {i : Nat} {x : Ev} (hx : E[i]? = some x) : delE x.name E = E.eraseIdx i := by
  obtain ⟨h1, h2, h3⟩ := once_split h hx
  rw [List.eraseIdx_eq_take_drop_succ]
  conv => lhs; rw [h1]
  unfold delE
  rw [List.filter_append, List.filter_cons_of_neg (by simp), List.filter_eq_self.2 (fun y hy => by simpa using h2 y hy), List.filter_eq_self.2 (fun y hy => by simpa using h3 y hy)]
theorem find_at {E : List Ev} (h : OnceE E) {i : Nat} {x : Ev} (hx : E[i]? = some x) : findE x.name E = some x := by
  obtain ⟨h1, h2, h3⟩ := once_split h hx
  unfold findE
  rw [h1, List.find?_append, List.find?_eq_none.2 (fun y hy => by simpa using h2 y hy)]
  simp
theorem find_gone (E : List Ev) (p : Int × Int) : findE p (delE p E) = none := by
  unfold findE
  rw [List.find?_eq_none]
  intro y hy
  simpa using (delE_mem.1 hy).2
theorem KeptB.fr0 {S : Nat → Prop} {W W' : World} {b : Nat} {xs : List Value} {t : TypeId} {ft : Nat → Prop} (h : KeptB W b xs t ft) (hf : Fr0 S W W') (hs : ¬ S b) : KeptB W' b xs t ft := ⟨(hf.block b h.lt hs).trans h.1, h.2⟩
theorem KeptR.fr0 {S : Nat → Prop} {W W' : World} {base : Nat} {v : Value} {L : List Ev} {ft : Nat → Prop} (h : KeptR W base v L ft) (hf : Fr0 S W W') (hs : ∀ g, v.ownBlock = some g → ¬ S g) : KeptR W' base v L ft := ⟨ownsRow_fr0 h.1 hf hs, h.2⟩
set_option maxRecDepth 100000 in
set_option maxHeartbeats 4000000 in
theorem EvqCancels_any {w : World} {u v : Value} {xs : List Sme} {bn : Nat} (hu : SmesAt w u xs) (hv : BytesAt w v bn) :
    Calls Try.prog 6 #[u, v] w fun e w' => e = .returned (.bool true) ∧ Fr0 none' w w' := by
  obtain ⟨i0, hi, hz0, hz1, hz2⟩ := info_parts info_event0
  have HU := Lib.hid (fun (W : World) (hf : Fr0 none' w W) => events_any xs 60 (by omega) W (hu.later hf))
  obtain ⟨S, hS⟩ : ∃ S, evsE xs 60 = S := ⟨_, rfl⟩
  have R0 := Lib.hid (evsE_right (xs := xs) (most := 60))
  have O0 := Lib.hid (evsE_once xs 60)
  have L0 := Lib.hid (evsE_le xs 60)
  rw [hS] at HU R0 O0 L0
  obtain ⟨ba, bc, rfl, hbc, hbs⟩ := hv
  have Hbs := Lib.hid hbs
  clear hu hS hbs
  go_enter Try.func6, Try.ntmps6
  go_wp2_with fail
  refine (awake_any w).mono ?_
  rintro e w1 ⟨rfl, f1⟩
  have F1 := Lib.hid f1
  clear f1
  go_wp2_with fail
  refine (HU.out w1 F1.out).mono ?_
  rintro e w2 ⟨r, rfl, hr, f2⟩
  obtain ⟨va, vc, rfl, _, hva⟩ := EsIn.of_own hr
  have F2 := Lib.hid (F1.out.trans f2)
  have Hva := Lib.hid hva
  clear f2 hr hva HU
  obtain ⟨L, hL⟩ : ∃ n, S.length = n := ⟨_, rfl⟩
  rw [hL] at L0 ⊢
  have N0 := Lib.hid hL
  clear hL
  have hL60 : L ≤ 60 := L0.out
  go_wp2_with fail
  refine (filled_any (c := 60) (cap := vc) S Hva.out N0.out hL60 (by omega) R0.out O0.out).mono ?_
  rintro e w3 ⟨qb, ft, r, rfl, hq, hr, hge, hno, hf⟩
  obtain ⟨Z, hZ⟩ : ∃ Z, putsE S [] = Z := ⟨_, rfl⟩
  rw [hZ] at hq hr
  have HQ := Lib.hid (show St w w3 qb 60 L Z ft from ⟨hq, F2.out.trans hf, fun k hk => Nat.le_trans F2.out.size (hge k hk)⟩)
  have HR := Lib.hid (show KeptR w3 w2.heap.size r Z ft from ⟨hr, hno⟩)
  clear hq hr hge hno hf hZ
  have HZ := Lib.hid (show Z.length ≤ 60 from HQ.out.1.le.1)
  have HOz := Lib.hid (show OnceE Z ∧ ∀ x ∈ Z, RightE x from ⟨HQ.out.1.good.2.1, HQ.out.1.good.2.2⟩)
  have F3 := Lib.hid (show Fr0 none' w w3 from HQ.out.2.1)
  obtain ⟨m, hmn⟩ : ∃ m, min bn 40 = m := ⟨_, rfl⟩
  have e1 : (min (bn : Int) 40) = (m : Int) := by omega
  have e2 : (m : Int).toNat = m := by omega
  have e3 : max (m : Int) 0 = (m : Int) := by omega
  have hmb : m ≤ bn := by omega
  have hm40 : m ≤ 40 := by omega
  have Hmb := Lib.hid hmb
  go_wp2_with fail
  clear e1 e2 e3
  go_loopw [6, 7, 9, 10, 11, 12, 13, 14, 15, 16, 17, 36] (fun v6 v7 _ _ _ _ _ _ _ _ _ i wr => ∃ (k : Nat) (E G : List Ev) (fk : Nat → Prop), k ≤ m ∧ i = .int .i64 k ∧ Hid (St w wr qb 60 L E fk) ∧ Hid (KeptR wr w2.heap.size v6 E fk) ∧ Hid (KeptR wr w3.heap.size v7 G fk) ∧ Hid (∀ g, v6.ownBlock = some g → g < w3.heap.size) ∧ Hid ((G ++ E).Perm Z) ∧ Hid (w3.heap.size ≤ wr.heap.size)) (fun _ _ _ _ _ _ _ _ _ _ _ i _ => m - (Go.RowKit.intOf i).toNat)
  case atStart => exact ⟨0, Z, [], ft, Nat.zero_le _, rfl, HQ, HR, ⟨World.ownsRow_nil _ _ _ _, fun g hg => by cases hg⟩, fun g hg => (HR.out.1.lt g hg).2, List.Perm.refl _, Nat.le_refl _⟩
  case round =>
    obtain ⟨k, E, G, fk, hk, rfl, HQ, HR, HG, HB, HPm, HW3⟩ := hrel
    obtain ⟨la, lc, rfl, hla⟩ := HR.out.slice
    obtain ⟨ga, gc, rfl, hga⟩ := HG.out.slice
    have Hla := Lib.hid hla
    clear hla hga
    have HEl := Lib.hid HQ.out.1.le.1
    have hel : E.length ≤ 60 := HEl.out
    have hgl : G.length ≤ 60 := by
      have h1 := HPm.out.length_eq
      rw [List.length_append] at h1
      have h2 := HZ.out
      omega
    by_cases hlt : k < m
    · obtain ⟨b, ⟨hb0, hb1⟩, bg, bo, rfl, hbc⟩ := Hbs.out k (by have := Hmb.out; omega)
      have x0 := (HQ.out.2.1).later hbc
      have k1 : (0 : Int) ≤ (k : Int) := by omega
      have k2 : (k : Int) < (m : Int) := by omega
      rcases Nat.eq_zero_or_pos E.length with h0 | h0
      · have d1 : ((E.length : Int) == 0) = true := by rw [h0]; rfl
        clear h0
        go_wp2_with fail
        clear d1
        have hKs := HG.out.slice
        have hperm := Lib.hid (HPm.out)
        go_loopw [19, 120] (fun _ i w' => ∃ (j : Nat) (fj : Nat → Prop), j ≤ G.length ∧ i = .int .i64 j ∧ Hid (St w w' qb 60 (L + j) (putsE (G.take j) E) fj) ∧ Hid (KeptR w' w3.heap.size (.slice ga G.length gc) G fj)) (fun _ i _ => G.length - (Go.RowKit.intOf i).toNat)
        case atStart => exact ⟨0, fk, Nat.zero_le _, rfl, HQ, HG⟩
        case round =>
          obtain ⟨j, fj, hj, rfl, HQ, HG⟩ := hrel
          by_cases hjl : j < G.length
          · obtain ⟨x, hx⟩ : ∃ x, G[j]? = some x := ⟨_, List.getElem?_eq_getElem hjl⟩
            obtain ⟨_, _, hEe, hEi⟩ := HG.out.slice
            injection hEe with hE1 hE2 hE3
            subst hE1
            obtain ⟨g2, o2, rfl, hxc⟩ := hEi j x hx
            obtain ⟨y0, y1, y2, y3, y4⟩ := hxc
            have j1 : (0 : Int) ≤ (j : Int) := by omega
            have j2 : (j : Int) < (G.length : Int) := by omega
            have hOG : OnceE (G ++ E) := HOz.out.1.perm hperm.out.symm
            have hsn : G.take (j + 1) = G.take j ++ [x] := by rw [List.take_add_one, hx]; rfl
            have ho : OnceE ([x] ++ putsE (G.take j) E) := by
              have h1 : OnceE (G.take (j + 1) ++ E) := once_sub hOG (List.Sublist.append (List.take_sublist _ _) (List.Sublist.refl _))
              rw [hsn] at h1
              refine h1.perm ?_
              rw [List.append_assoc]
              refine List.perm_append_comm_assoc .. |>.trans ?_
              exact List.Perm.append_left _ (putsE_perm _ _).symm
            obtain ⟨e1, e2⟩ := all_ok (n := 60) (E := putsE (G.take j) E) (l := [x]) (fun y hy => by
              rw [List.mem_singleton.1 hy]
              exact HOz.out.2 x (hperm.out.mem_iff.1 (List.mem_append_left _ (List.mem_of_getElem? hx)))) ho (by
                have h1 := hperm.out.length_eq
                rw [List.length_append] at h1
                have h2 := HZ.out
                rw [putsE_length, List.length_take, List.length_singleton]
                omega)
            rw [← putsE_append, ← hsn] at e2
            have E1 := Lib.hid e1
            have E2 := Lib.hid e2
            clear hx hOG hsn ho e1 e2 hE2 hE3 hEi
            go_wp2_with fail
            obtain ⟨W3, hW3⟩ : ∃ W, wr.alloc (.cells #[.int .i64 x.key.time, .int .i64 x.key.source, .int .i64 x.key.seq, .int .i64 x.to, .int .i64 x.value] 34) = W := ⟨_, rfl⟩
            have hf : Fr0 none' wr W3 := by rw [← hW3]; exact (Fr0.refl _ _).alloc _
            rw [hW3]
            have HQ := Lib.hid (HQ.out.later hf)
            have HG := Lib.hid (HG.out.later hf)
            have HP := HQ.out.1.put1 x (by omega)
            rw [E1.out, E2.out] at HP
            simp only [evV] at HP
            clear y0 y1 y2 y3 y4 hW3 hf
            refine HP.mono ?_
            rintro e w4 ⟨rfl, hq, hf⟩
            have hs := @qgrow_or fj W3 w4
            have HG := Lib.hid (HG.out.step2 hs hf)
            have HQ := Lib.hid (HQ.out.step2 hq hs hf)
            clear hq hf hs HP
            go_wp2_with fail
            go_roundw
            case rel => exact ⟨j + 1, _, by omega, by go_num, HQ, HG⟩
            case measure => simp [Go.RowKit.intOf]; omega
          · have hjn : j = G.length := by omega
            subst hjn
            rw [List.take_of_length_le (Nat.le_refl _)] at HQ
            have hln := HQ.out.1.len
            rw [putsE_length] at hln
            have w9' : IntKind.i64.wrap ((E.length : Int) + (G.length : Int)) = ((G.length + E.length : Nat) : Int) := by rw [IntWalk.i64_in _ (by omega)]; omega
            go_wp2_with fail
            refine hln.mono ?_
            rintro e w5 ⟨rfl, rfl⟩
            go_wp2_with fail
            go_ret
            exact ⟨rfl, HQ.out.2.1⟩
      · have d1 : ((E.length : Int) == 0) = false := beq_eq_false_iff_ne.2 (by omega)
        obtain ⟨i, hi', hiL⟩ : ∃ i : Nat, (b % (E.length : Int)) = i ∧ i < E.length := by
          have h1 := Int.emod_nonneg b (show (E.length : Int) ≠ 0 by omega)
          have h2 := Int.emod_lt_of_pos b (show (0 : Int) < (E.length : Int) by omega)
          exact ⟨(b % (E.length : Int)).toNat, by omega, by omega⟩
        have w2' : Int.tmod b (E.length : Int) = (i : Int) := by rw [Int.tmod_eq_emod_of_nonneg hb0]; exact hi'
        have w3' : IntKind.i64.wrap b = b := IntWalk.i64_in _ (by omega)
        have w4' : IntKind.i64.wrap (i : Int) = (i : Int) := IntWalk.i64_in _ (by omega)
        obtain ⟨x, hx⟩ : ∃ x, E[i]? = some x := ⟨_, List.getElem?_eq_getElem hiL⟩
        obtain ⟨lg, lo, rfl, hxc⟩ := Hla.out i x hx
        obtain ⟨y0, y1, y2, y3, y4⟩ := hxc
        have i1 : (0 : Int) ≤ (i : Int) := by omega
        have i2 : (i : Int) < (E.length : Int) := by omega
        have Hx := Lib.hid hx
        clear hx
        go_wp2_with fail
        have hlo : lo = 0 := by
          rcases HR.out.1.2 with ⟨h1, _⟩ | ⟨g', cap, cur, hv, _⟩
          · cases h1
          · injection hv with h1
            injection h1 with h1
            injection h1 with _ h1
        subst hlo
        have Hi64 := Lib.hid (rightE_i64 (HQ.out.1.good.2.2 x (List.mem_of_getElem? Hx.out)))
        have hlg : w2.heap.size ≤ lg ∧ lg < w3.heap.size ∧ ¬ fk lg := ⟨(HR.out.1.lt lg rfl).1, HB.out lg rfl, HR.out.2 lg rfl⟩
        have Hlg := Lib.hid hlg
        clear hlg
        have Ho := Lib.hid HQ.out.1.good.2.1
        have hdel := del_at Ho.out Hx.out
        have Hdel := Lib.hid hdel
        clear hdel
        obtain ⟨xb, hxb⟩ : ∃ xb, wr.heap.size = xb := ⟨_, rfl⟩
        have Hxb := Lib.hid hxb
        obtain ⟨W1, hW⟩ : ∃ W, wr.alloc (.cells #[.int .i64 x.key.time, .int .i64 x.key.source, .int .i64 x.key.seq, .int .i64 x.to, .int .i64 x.value] 34) = W := ⟨_, rfl⟩
        have hf : Fr0 none' wr W1 := by rw [← hW]; exact (Fr0.refl _ _).alloc _
        have HX := Lib.hid (show KeptB W1 xb (cev x) 34 fk from ⟨by rw [← hW, ← hxb]; exact World.alloc_heap_new _ _, fun hk => by have := HQ.out.1.lt _ hk; omega⟩)
        have Hxl := Lib.hid (show lg < xb ∧ ∀ g, (Value.slice ga G.length gc).ownBlock = some g → g < xb from ⟨by have := (HR.out.1.lt lg rfl).2; omega, fun g hg => by have := (HG.out.1.lt g hg).2; omega⟩)
        have HQ := Lib.hid (HQ.out.later hf)
        have HR := Lib.hid (HR.out.later hf)
        have HG := Lib.hid (HG.out.later hf)
        clear hf
        rw [hW]
        try rw [hxb]
        clear hW hxb y0 y1 y2 y3 y4
        have hfnd := HQ.out.1.find (nm := x.name) Hi64.out.1 Hi64.out.2
        rw [find_at Ho.out Hx.out] at hfnd
        refine hfnd.mono ?_
        rintro e w4 ⟨rfl, hf⟩
        have HQ := Lib.hid (HQ.out.later hf)
        have HR := Lib.hid (HR.out.later hf)
        have HG := Lib.hid (HG.out.later hf)
        have HX := Lib.hid (HX.out.later hf)
        clear hf hfnd
        simp only [Option.getD_some, Option.isSome_some, evV]
        obtain ⟨W5, hW⟩ : ∃ W, (w4).alloc (.cells #[.int .i64 x.key.time, .int .i64 x.key.source, .int .i64 x.key.seq, .int .i64 x.to, .int .i64 x.value] 34) = W := ⟨_, rfl⟩
        have hf : Fr0 none' (w4) W5 := by rw [← hW]; exact (Fr0.refl _ _).alloc _
        have HY := Lib.hid (show KeptB W5 (w4).heap.size (cev x) 34 _ from ⟨by rw [← hW]; exact World.alloc_heap_new _ _, fun hk => by have := HQ.out.1.lt _ hk; omega⟩)
        have HQ := Lib.hid (HQ.out.later hf)
        have HR := Lib.hid (HR.out.later hf)
        have HG := Lib.hid (HG.out.later hf)
        have HX := Lib.hid (HX.out.later hf)
        clear hf
        have a0 := cells_in HX.out.1 0
        have a1 := cells_in HX.out.1 1
        have a2 := cells_in HX.out.1 2
        have a3 := cells_in HX.out.1 3
        have a4 := cells_in HX.out.1 4
        simp [cev] at a0 a1 a2 a3 a4
        subst hW
        go_wp2_with fail
        clear a0 a1 a2 a3 a4
        have hcan := HQ.out.1.cancel (nm := x.name) Hi64.out.1 Hi64.out.2 (by omega)
        rw [find_at Ho.out Hx.out, Hdel.out] at hcan
        refine hcan.mono ?_
        rintro e w6 ⟨rfl, hq, hf⟩
        have HX := Lib.hid (HX.out.step hf)
        have HY := Lib.hid (HY.out.step hf)
        have HR := Lib.hid (HR.out.step hf)
        have HG := Lib.hid (HG.out.step hf)
        have HQ := Lib.hid (HQ.out.step hq hf)
        clear hq hf hcan
        simp only [Option.getD_some, Option.isSome_some, if_true, evV]
        obtain ⟨W7, hW⟩ : ∃ W, (w6).alloc (.cells #[.int .i64 x.key.time, .int .i64 x.key.source, .int .i64 x.key.seq, .int .i64 x.to, .int .i64 x.value] 34) = W := ⟨_, rfl⟩
        have hf : Fr0 none' (w6) W7 := by rw [← hW]; exact (Fr0.refl _ _).alloc _
        have HZb := Lib.hid (show KeptB W7 (w6).heap.size (cev x) 34 _ from ⟨by rw [← hW]; exact World.alloc_heap_new _ _, fun hk => by have := HQ.out.1.lt _ hk; omega⟩)
        have HQ := Lib.hid (HQ.out.later hf)
        have HR := Lib.hid (HR.out.later hf)
        have HG := Lib.hid (HG.out.later hf)
        have HX := Lib.hid (HX.out.later hf)
        have HY := Lib.hid (HY.out.later hf)
        clear hf
        have a0 := cells_in HX.out.1 0
        have a1 := cells_in HX.out.1 1
        have a2 := cells_in HX.out.1 2
        have a3 := cells_in HX.out.1 3
        have a4 := cells_in HX.out.1 4
        simp [cev] at a0 a1 a2 a3 a4
        have b0 := cells_in HY.out.1 0
        have b1 := cells_in HY.out.1 1
        have b2 := cells_in HY.out.1 2
        have b3 := cells_in HY.out.1 3
        have b4 := cells_in HY.out.1 4
        simp [cev] at b0 b1 b2 b3 b4
        have c0 := cells_in HZb.out.1 0
        have c1 := cells_in HZb.out.1 1
        have c2 := cells_in HZb.out.1 2
        have c3 := cells_in HZb.out.1 3
        have c4 := cells_in HZb.out.1 4
        simp [cev] at c0 c1 c2 c3 c4
        subst hW
        go_wp2_with fail
        clear a0 a1 a2 a3 a4 b0 b1 b2 b3 b4 c0 c1 c2 c3 c4 HY HZb
        have hcan := HQ.out.1.cancel (nm := x.name) Hi64.out.1 Hi64.out.2 (by omega)
        rw [← Hdel.out, find_gone, delE_none (fun y hy => (delE_mem.1 hy).2), Hdel.out] at hcan
        refine hcan.mono ?_
        rintro e w8 ⟨rfl, hq, hf⟩
        have HX := Lib.hid (HX.out.step hf)
        have HR := Lib.hid (HR.out.step hf)
        have HG := Lib.hid (HG.out.step hf)
        have HQ := Lib.hid (HQ.out.step hq hf)
        clear hq hf hcan
        simp only [Option.getD_none, Option.isSome_none, zeroEv, evV]
        obtain ⟨j, hj⟩ : ∃ j, i + 1 = j := ⟨_, rfl⟩
        have w5' : IntKind.i64.wrap ((i : Int) + 1) = (j : Int) := by rw [IntWalk.i64_in _ (by omega)]; omega
        have Hj := Lib.hid hj
        clear hj
        go_wp2_with fail
        obtain ⟨W9, hW⟩ : ∃ W, w8.alloc (.cells #[.int .i64 0, .int .i64 0, .int .i64 0, .int .i64 0, .int .i64 0] 34) = W := ⟨_, rfl⟩
        have hf : Fr0 none' w8 W9 := by rw [← hW]; exact (Fr0.refl _ _).alloc _
        have HQ := Lib.hid (HQ.out.later hf)
        have HR := Lib.hid (HR.out.later hf)
        have HG := Lib.hid (HG.out.later hf)
        have HX := Lib.hid (HX.out.later hf)
        clear hf
        rw [hW]
        clear hW
        refine (DeleteE (i := i) (j := j) E HR.out.1 hiL Hj.out.symm (by omega)).mono ?_
        rintro e w10 ⟨rfl, hr10, hf⟩
        obtain ⟨E', hE'⟩ : ∃ E', E.eraseIdx i = E' := ⟨_, rfl⟩
        have hpe : E.Perm (x :: E') := by
          have h1 := delE_perm Ho.out (List.mem_of_getElem? Hx.out)
          rw [Hdel.out, hE'] at h1
          exact h1
        have hle : E.length - 1 = E'.length := by
          have h1 := hpe.length_eq
          rw [List.length_cons] at h1
          omega
        rw [hE'] at HQ hr10
        rw [hle] at hr10 ⊢
        have hng : ∀ g, (Value.slice ga G.length gc).ownBlock = some g → ¬ g = lg := fun g hg e => by
          have := (HG.out.1.lt g hg).1
          have := Hlg.out.2.1
          omega
        have HX := Lib.hid (HX.out.fr0 hf (fun e => by have := Hxl.out.1; omega))
        have HG := Lib.hid (HG.out.fr0 hf hng)
        have HQ := Lib.hid (HQ.out.other (gt := fun k => k = lg) (fun k hk => by subst hk; have := Hlg.out.1; have := F2.out.size; omega) (fun k hk e => by subst e; exact HR.out.2 _ rfl hk) hf)
        have HR := Lib.hid (show KeptR w10 w2.heap.size (.slice (some ⟨lg, 0, none⟩) E'.length lc) E' _ from ⟨hr10, HR.out.2⟩)
        have hwr : wr.heap.size ≤ w10.heap.size := by have := HX.out.lt; have := Hxb.out; omega
        have HPe := Lib.hid hpe
        clear hr10 hf hpe hng hE'
        have a0 := cells_in HX.out.1 0
        have a1 := cells_in HX.out.1 1
        have a2 := cells_in HX.out.1 2
        have a3 := cells_in HX.out.1 3
        have a4 := cells_in HX.out.1 4
        simp [cev] at a0 a1 a2 a3 a4
        have hsrc := Src.newRow (P := Try.prog) (size := 5) (tx := 28) (ty := 34) w10 Try.underlying28 1 1 (cev x) rfl (by simp [Value.oneCell', cev])
        simp only [cev] at hsrc
        have hbase : w3.heap.size ≤ w10.heap.size := by have := HW3.out; omega
        go_wp2_with (at_builtin; refine wpList_append_k rfl _ _ 28 28 rfl w3.heap.size 34 i0 (.agg #[.int .i64 0, .int .i64 0, .int .i64 0, .int .i64 0, .int .i64 0]) 5 40 Try.underlying28 hi hz0 hz1 hz2 rfl (by decide) (.slice ga G.length gc) G.length _ rfl (ownsRow_fr0 HG.out.1 ((Fr0.refl none' w10).alloc _) (fun _ _ h => h)) (.slice (some ⟨w10.heap.size, 0, none⟩) 1 1) 1 _ rfl hsrc (by unfold maxLen; omega) (by omega) (by simp; omega) ?_; intro v11 w11 hown hgrow hdr hob; have Hown := Lib.hid hown; have hfg : Fr0 (fun i => (Value.slice ga G.length gc).ownBlock = some i) w10 w11 := ((Fr0.refl _ w10).alloc _).grown hgrow (fun i hi _ => hi); have F11 := Lib.hid hfg; have Hob := Lib.hid hob; clear hown hgrow hdr hob a0 a1 a2 a3 a4 hfg hsrc)
        have hng : ∀ g, (Value.slice ga G.length gc).ownBlock = some g → w3.heap.size ≤ g := fun g hg => (HG.out.1.lt g hg).1
        have HR := Lib.hid (HR.out.fr0 F11.out (fun g hg h2 => by
          have h1 := hng g h2
          have h3 : lg = g := by injection hg
          have := Hlg.out.2.1
          omega))
        have hg11 := HG.out.2
        have hq10 := HQ.out.1.lt
        have HQ := Lib.hid (HQ.out.other (gt := fun k => (Value.slice ga G.length gc).ownBlock = some k) (fun k hk => by have := hng k hk; have := HW3.out; have h5 := F3.out.size; omega) (fun k hk e => hg11 k e hk) F11.out)
        have HGn := Lib.hid (show KeptR w11 w3.heap.size v11 (G ++ [x]) _ from ⟨by
          have h1 := Hown.out
          have h2 : flatEv (G ++ [x]) = flatEv G ++ [.int .i64 x.key.time, .int .i64 x.key.source, .int .i64 x.key.seq, .int .i64 x.to, .int .i64 x.value] := by rw [flatEv_append, flatEv_single]; rfl
          rw [h2, List.length_append, List.length_singleton]
          exact h1, fun g hg hk => by
          rcases Hob.out with h | h
          · rw [h] at hg
            exact hg11 g hg hk
          · rw [h] at hg
            injection hg with hg
            have h3 := hq10 g hk
            rw [World.size_alloc] at hg
            omega⟩)
        clear hng hg11 hq10
        obtain ⟨wa, hwa⟩ : ∃ wa, w11.heap.size = wa := ⟨_, rfl⟩
        have Hwa := Lib.hid hwa
        clear hwa
        refine HQ.out.1.all.mono ?_
        rintro e w12 ⟨v12, rfl, hr1, hf⟩
        have S12 := Lib.hid hf.size
        have HQ := Lib.hid (HQ.out.later hf)
        have HR := Lib.hid (HR.out.later hf)
        have HGn := Lib.hid (HGn.out.later hf)
        clear hf
        obtain ⟨_, _, hRe, hrz⟩ := HR.out.slice
        injection hRe with hE1 hE2 hE3
        subst hE1
        obtain ⟨sa, sc, rfl, _, hsa⟩ := EsIn.of_own hr1
        have HE := Lib.hid (sameEs_any sa (some ⟨lg, 0, none⟩) _ _ sc lc E' E' w12 rfl rfl (by omega) (by omega) hsa hrz)
        clear hr1 hsa hrz hE2 hE3
        rw [decide_eq_true rfl] at HE
        go_wp2_with fail
        refine HE.out.mono ?_
        rintro e w13 ⟨rfl, hf⟩
        have S13 := Lib.hid hf.size
        have HQ := Lib.hid (HQ.out.later hf)
        have HR := Lib.hid (HR.out.later hf)
        have HGn := Lib.hid (HGn.out.later hf)
        clear hf HE
        go_wp2_with fail
        go_roundw
        case rel =>
          refine ⟨k + 1, E', G ++ [x], _, by omega, by go_num, HQ, HR, HGn, fun g hg => ?_, ?_, ?_⟩
          · have h3 : lg = g := by injection hg
            have := Hlg.out.2.1
            omega
          · refine List.Perm.trans ?_ HPm.out
            rw [List.append_assoc]
            exact List.Perm.append_left _ HPe.out.symm
          · have := S12.out
            have := S13.out
            have := F11.out.size
            have := HW3.out
            have : w3.heap.size ≤ w13.heap.size := by omega
            exact this
        case measure => simp [Go.RowKit.intOf]; omega
    · go_wp2_with fail
      have hKs := HG.out.slice
      have hperm := Lib.hid (HPm.out)
      go_loopw [19, 120] (fun _ i w' => ∃ (j : Nat) (fj : Nat → Prop), j ≤ G.length ∧ i = .int .i64 j ∧ Hid (St w w' qb 60 (L + j) (putsE (G.take j) E) fj) ∧ Hid (KeptR w' w3.heap.size (.slice ga G.length gc) G fj)) (fun _ i _ => G.length - (Go.RowKit.intOf i).toNat)
      case atStart => exact ⟨0, fk, Nat.zero_le _, rfl, HQ, HG⟩
      case round =>
        obtain ⟨j, fj, hj, rfl, HQ, HG⟩ := hrel
        by_cases hjl : j < G.length
        · obtain ⟨x, hx⟩ : ∃ x, G[j]? = some x := ⟨_, List.getElem?_eq_getElem hjl⟩
          obtain ⟨_, _, hEe, hEi⟩ := HG.out.slice
          injection hEe with hE1 hE2 hE3
          subst hE1
          obtain ⟨g2, o2, rfl, hxc⟩ := hEi j x hx
          obtain ⟨y0, y1, y2, y3, y4⟩ := hxc
          have j1 : (0 : Int) ≤ (j : Int) := by omega
          have j2 : (j : Int) < (G.length : Int) := by omega
          have hOG : OnceE (G ++ E) := HOz.out.1.perm hperm.out.symm
          have hsn : G.take (j + 1) = G.take j ++ [x] := by rw [List.take_add_one, hx]; rfl
          have ho : OnceE ([x] ++ putsE (G.take j) E) := by
            have h1 : OnceE (G.take (j + 1) ++ E) := once_sub hOG (List.Sublist.append (List.take_sublist _ _) (List.Sublist.refl _))
            rw [hsn] at h1
            refine h1.perm ?_
            rw [List.append_assoc]
            refine List.perm_append_comm_assoc .. |>.trans ?_
            exact List.Perm.append_left _ (putsE_perm _ _).symm
          obtain ⟨e1, e2⟩ := all_ok (n := 60) (E := putsE (G.take j) E) (l := [x]) (fun y hy => by
            rw [List.mem_singleton.1 hy]
            exact HOz.out.2 x (hperm.out.mem_iff.1 (List.mem_append_left _ (List.mem_of_getElem? hx)))) ho (by
              have h1 := hperm.out.length_eq
              rw [List.length_append] at h1
              have h2 := HZ.out
              rw [putsE_length, List.length_take, List.length_singleton]
              omega)
          rw [← putsE_append, ← hsn] at e2
          have E1 := Lib.hid e1
          have E2 := Lib.hid e2
          clear hx hOG hsn ho e1 e2 hE2 hE3 hEi
          go_wp2_with fail
          obtain ⟨W3, hW3⟩ : ∃ W, wr.alloc (.cells #[.int .i64 x.key.time, .int .i64 x.key.source, .int .i64 x.key.seq, .int .i64 x.to, .int .i64 x.value] 34) = W := ⟨_, rfl⟩
          have hf : Fr0 none' wr W3 := by rw [← hW3]; exact (Fr0.refl _ _).alloc _
          rw [hW3]
          have HQ := Lib.hid (HQ.out.later hf)
          have HG := Lib.hid (HG.out.later hf)
          have HP := HQ.out.1.put1 x (by omega)
          rw [E1.out, E2.out] at HP
          simp only [evV] at HP
          clear y0 y1 y2 y3 y4 hW3 hf
          refine HP.mono ?_
          rintro e w4 ⟨rfl, hq, hf⟩
          have hs := @qgrow_or fj W3 w4
          have HG := Lib.hid (HG.out.step2 hs hf)
          have HQ := Lib.hid (HQ.out.step2 hq hs hf)
          clear hq hf hs HP
          go_wp2_with fail
          go_roundw
          case rel => exact ⟨j + 1, _, by omega, by go_num, HQ, HG⟩
          case measure => simp [Go.RowKit.intOf]; omega
        · have hjn : j = G.length := by omega
          subst hjn
          rw [List.take_of_length_le (Nat.le_refl _)] at HQ
          have hln := HQ.out.1.len
          rw [putsE_length] at hln
          have w9' : IntKind.i64.wrap ((E.length : Int) + (G.length : Int)) = ((G.length + E.length : Nat) : Int) := by rw [IntWalk.i64_in _ (by omega)]; omega
          go_wp2_with fail
          refine hln.mono ?_
          rintro e w5 ⟨rfl, rfl⟩
          go_wp2_with fail
          go_ret
          exact ⟨rfl, HQ.out.2.1⟩
end Go.Proofs.Ytmcgipilopfgoaa

/-
  A slice of bytes among the arguments.
-/
namespace Go.Proofs.Ytmcgipilopfgoaa
open Go.ChangeShapes Go.WideShapes Go.ChangeAt Go.RowKit Go.Deep Go.Joins

set_option maxRecDepth 100000 in
/-- A slice of bytes, opened. -/
theorem bytes_arg {base : Nat} {H : Type} {enc : TypeId × Value → H} {W : World} {v : Value} {d : DataW H} {ps : List MemPlace}
    (hval : Value.okWide Try.prog W .any base 57 v) (h : DataW.Trod enc Try.prog W 0 (fun _ => true) true 57 v d ps) : ∃ n, BytesAt W v n := by
  obtain ⟨A, n, cap, rfl⟩ := okWide_slice Try.underlying57 hval
  obtain ⟨fuel, hf⟩ := h
  rcases open_slice Try.underlying57 hf with ⟨hcs, _⟩ | ⟨a, len, cap', m, _, D, Pl, hcs, _, hl, hm, hz, _, hi⟩
  · simp [Value.cells] at hcs
    obtain ⟨rfl, rfl, rfl⟩ := hcs
    exact ⟨0, none, 0, rfl, Nat.le_refl _, fun j hj => absurd hj (Nat.not_lt_zero j)⟩
  · simp [Value.cells] at hcs
    obtain ⟨rfl, rfl, rfl⟩ := hcs
    have hmn : n ≤ m := by rw [hz]; split <;> omega
    refine ⟨n, some a, cap, rfl, by simpa using hl, fun i hin => ?_⟩
    obtain ⟨cs, hc, ht⟩ := hi i (by omega)
    rw [show Try.prog.cellsOf 5 = 1 by kernel_rfl] at hc
    obtain ⟨_, hcl, hat⟩ := World.cells?_some hc
    match cs, hcl with
    | [v0], _ =>
    have c0 := hat 0 (by omega)
    obtain ⟨a0, rfl, l0, m0⟩ := small_fields ht
    obtain ⟨cs', hc', _⟩ := hi 0 (by omega)
    rw [show Try.prog.cellsOf 5 = 1 by kernel_rfl] at hc'
    obtain ⟨_, hcl', hat'⟩ := World.cells?_some hc'
    have z0 := hat' 0 (by omega)
    rw [List.getElem?_eq_getElem (by omega)] at z0
    obtain ⟨b, off, spot⟩ := a
    have hspot : spot = none := by simpa [Addr.add] using World.cell?_spot z0
    subst hspot
    rw [Addr.add_mid, Addr.add_mid] at c0
    refine ⟨a0, ⟨l0, m0⟩, b, off, rfl, ?_⟩
    simpa using c0
end Go.Proofs.Ytmcgipilopfgoaa

namespace Go.Proofs.Ytmcgipilopfgoaa.evqCancels
open Go.ChangeShapes Go.WideShapes Go.ChangeAt Go.RowKit Go.Proofs.Ytmcgipilopfgoaa

set_option maxRecDepth 100000 in
theorem lifted (os : Os) (started : os.Started) (H : Type) (enc : TypeId × Value → H) :
    ReturnsInHanded {} Try.checked os 6 .any (Rows.evqCancelsSpec.pre6 enc Try.prog Try.f6 Rows.evqCancelsRow.domain false) (Rows.evqCancelsSpec.post enc Try.prog Try.f6 false true false false) := by
  refine returnsInHanded_of_change (C := Try.checked) own_knob started (by kernel_rfl) Try.func6
    (ChangeSpec.witness6 (enc := enc) (C := Try.checked) false ⟨#[], #[.slice none 0 0, .slice none 0 0], []⟩ 8 (by kernel_rfl) (by kernel_rfl) (by kernel_rfl) (by kernel_rfl)) ?_
  intro W base args ds gs before hval0 hW hcnd _
  have hval : ∀ (j : Nat) t v, Try.f6.params[j]? = some t → args[j]? = some v → Value.okWide Try.prog W .any base t v := hval0
  have hW' := hW
  obtain ⟨p, q, hA0, hV, rfl, hfz, hnd⟩ := hW
  have hA : DataW.TrodAll enc Try.prog W 0 (fun _ => true) true Try.f6.params.toList args.toList ds p := hA0
  rw [Try.params6] at hA hval
  obtain ⟨v0, vs0, d0, ds0, p0, q0, hargs, rfl, rfl, h0, r0⟩ := trodAll_cons hA
  obtain ⟨v1, vs1, d1, ds1, p1, q1, rfl, rfl, rfl, h1, r1⟩ := trodAll_cons r0
  obtain ⟨rfl, rfl, rfl⟩ := trodAll_nil r1
  obtain rfl : args = #[v0, v1] := by cases args; simp_all
  obtain ⟨rfl, rfl⟩ := trodVars_none hV
  clear hA0 hval0
  simp only [List.append_nil] at hW'
  have l0 : ∀ x ∈ p0, x.block < W.heap.size := fun x hx => hW'.lt x (by simp [hx])
  have t0 := fun W' (hb : Below W.heap.size W W') => Below.trod laid_own (by kernel_rfl) (of_decide_eq_true (by kernel_rfl)) h0 hb l0
  have l1 : ∀ x ∈ p1, x.block < W.heap.size := fun x hx => hW'.lt x (by simp [hx])
  have t1 := fun W' (hb : Below W.heap.size W W') => Below.trod laid_own (by kernel_rfl) (of_decide_eq_true (by kernel_rfl)) h1 hb l1
  obtain ⟨xs0, hx0⟩ := smalls_arg (hval 0 22 v0 rfl rfl) h0
  obtain ⟨xs1, hx1⟩ := bytes_arg (hval 1 57 v1 rfl rfl) h1
  refine (EvqCancels_any hx0 hx1).mono fun e W' ⟨he, hf⟩ => ?_
  have hg : Below W.heap.size W W' := hf.below (Nat.le_refl _) (fun _ _ h => h)
  subst he
  exact ⟨_, rfl, post_below2 (pa := p0 ++ (p1 ++ ([]))) (pv := []) hW' (fun _ _ _ => (trodAll_cons_mk (shut_bool Try.underlying4 _) trodAll_mk0)) (trodAll_cons_mk (t0 _ hg) (trodAll_cons_mk (t1 _ hg) trodAll_mk0)) (fun _ _ => rfl) hg⟩

theorem over : Rows.evqCancelsRow.holds Try.pinned (OpenSpec.ofChange Rows.evqCancelsSpec) :=
  OpenClaim.holds_of_wide 6 Try.f6 rfl rfl rfl rfl rfl rfl rfl ⟨rfl, rfl, rfl, rfl, rfl⟩ rfl rfl rfl rfl rfl (by kernel_rfl) Try.func6 (by kernel_rfl)
    (of_decide_eq_true (by kernel_rfl)) (by unfold Func.isWrapper; first | (rw [if_pos (by decide +kernel)]; kernel_rfl) | (rw [if_neg (by decide +kernel)]; exact ⟨rfl, rfl⟩))
    (fun os started H enc _ => lifted os started H enc)

theorem proved : Rows.EvqCancelsSaid := over
#print axioms proved
end Go.Proofs.Ytmcgipilopfgoaa.evqCancels
