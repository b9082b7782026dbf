/- EvqWrong: the statement: for any input the law returns true, and the arguments read as before; no condition. -/
import Derived.Test.YtmcgipilopfgoaaJb3
import Derived.Test.YtmcgipilopfgoaaJb1
import Derived.Test.YtmcgipilopfgoaaJa2
import Derived.Test.YtmcgipilopfgoaaJb2
set_option linter.unusedSimpArgs false
set_option linter.unusedVariables false

/-
  EvqWrong: its parts.
-/
namespace Go.Proofs.Ytmcgipilopfgoaa
open Go Go.RowKit Go.ChangeMaps
attribute [local go_sem ↓] Go.wp_at_zero Go.wp_at_succ
attribute [local go_sem] Oper.semAt_some wide_fn wide_depth wide_fnR wide_depthR

set_option maxRecDepth 100000 in
theorem QNew_bad (n : Int) (hn : n < 0 ∨ 256 < n) (w : World) : Calls Try.prog 10 #[.int .i64 n] w fun e w' => e = .returned (.tuple #[.pointer none, .int .i64 2]) ∧ w = w' := by
  by_cases h : n < 0
  · have d1 : decide (n < 0) = true := decide_eq_true h
    clear hn h
    go_enter Try.func10, Try.ntmps10
    go_wp2_with fail
    go_ret2
    exact ⟨rfl, rfl⟩
  · have d1 : decide (n < 0) = false := decide_eq_false h
    have d2 : decide (256 < n) = true := decide_eq_true (by omega)
    have d3 : decide (n > 256) = true := decide_eq_true (by omega)
    clear hn h
    go_enter Try.func10, Try.ntmps10
    go_wp2_with fail
    go_ret2
    exact ⟨rfl, rfl⟩
/-- The seven defects. -/
def badE (way n : Int) : Ev :=
  if way % 7 = 0 then ⟨⟨3, 16, 9⟩, min n 0, 0⟩ else if way % 7 = 1 then ⟨⟨3, 16, 9⟩, max n 17, 0⟩ else if way % 7 = 2 then ⟨⟨min n (-1), 16, 9⟩, 1, 0⟩
  else if way % 7 = 3 then ⟨⟨max n 281474976710657, 16, 9⟩, 1, 0⟩ else if way % 7 = 4 then ⟨⟨3, max n 17, 9⟩, 1, 0⟩ else ⟨⟨3, 16, min n (-1)⟩, 1, 0⟩
theorem badE_wrong {way n : Int} (h : 0 ≤ way % 7 ∧ way % 7 < 6) : ¬ RightE (badE way n) := by
  unfold badE RightE RightK
  split
  · simp only; omega
  · split
    · simp only; omega
    · split
      · simp only; omega
      · split
        · simp only; omega
        · split
          · simp only; omega
          · simp only; omega
theorem mid_at {M : List Ev} {k : Nat} {b : Ev} (hk : k ≤ M.length) : ((M.take k ++ b :: M.drop k) ++ [b])[k]? = some b := by
  have h1 : (M.take k).length = k := by rw [List.length_take]; omega
  rw [List.append_assoc, List.getElem?_append_right (by omega), h1]
  simp
theorem mid_lt {M : List Ev} {k i : Nat} {b : Ev} (hk : k ≤ M.length) (hi : i < k) : ((M.take k ++ b :: M.drop k) ++ [b])[i]? = M[i]? := by
  have h1 : (M.take k).length = k := by rw [List.length_take]; omega
  rw [List.append_assoc, List.getElem?_append_left (by omega), List.getElem?_take, if_pos hi]
theorem mid_take {M : List Ev} {k i : Nat} {b : Ev} (hk : k ≤ M.length) (hi : i ≤ k) : ((M.take k ++ b :: M.drop k) ++ [b]).take i = M.take i := by
  have h1 : (M.take k).length = k := by rw [List.length_take]; omega
  rw [List.append_assoc, List.take_append_of_le_length (by omega), List.take_take, Nat.min_eq_left hi]
/-- The first of the events that are not right is told. -/
theorem chk_bad {E M : List Ev} {k : Nat} {b : Ev} (hr : ∀ x ∈ M, RightE x) (hb : ¬ RightE b) (hk : k ≤ M.length) : chkE E ((M.take k ++ b :: M.drop k) ++ [b]) = ((k : Int), 100) := by
  have hi : idxI (fun x => !decide (RightE x)) ((M.take k ++ b :: M.drop k) ++ [b]) = k := by
    rcases idxI_cases (fun x => !decide (RightE x)) ((M.take k ++ b :: M.drop k) ++ [b]) with ⟨hi, hall⟩ | ⟨j, hi, hj, x, hx, hf, hpre⟩
    · have := hall b (List.mem_append_right _ (List.mem_singleton.2 rfl))
      simp [hb] at this
    · rcases Nat.lt_trichotomy j k with h | h | h
      · rw [mid_lt hk h] at hx
        have := hr x (List.mem_of_getElem? hx)
        simp [this] at hf
      · rw [hi, h]
      · have h1 : (((M.take k ++ b :: M.drop k) ++ [b]).take j)[k]? = some b := by
          rw [List.getElem?_take, if_pos h]
          exact mid_at hk
        have := hpre b (List.mem_of_getElem? h1)
        simp [hb] at this
  unfold chkE
  rw [hi, if_pos (by omega)]
/-- The first of the events whose name is there is told. -/
theorem chk_twice {E M : List Ev} {k : Nat} {b : Ev} (hr : ∀ x ∈ M, RightE x) (hb : RightE b) (ho : OnceE (M ++ E)) (hn : ∃ y ∈ E, y.name = b.name) (hk : k ≤ M.length) : chkE E ((M.take k ++ b :: M.drop k) ++ [b]) = ((k : Int), 101) := by
  have hi : idxI (fun x => !decide (RightE x)) ((M.take k ++ b :: M.drop k) ++ [b]) = -1 := by
    rcases idxI_cases (fun x => !decide (RightE x)) ((M.take k ++ b :: M.drop k) ++ [b]) with ⟨hi, hall⟩ | ⟨j, hi, hj, x, hx, hf, hpre⟩
    · exact hi
    · have hx' := List.mem_of_getElem? hx
      have : RightE x := by
        rcases List.mem_append.1 hx' with h | h
        · rcases List.mem_append.1 h with h | h
          · exact hr x (List.mem_of_mem_take h)
          · rcases List.mem_cons.1 h with h | h
            · rw [h]; exact hb
            · exact hr x (List.mem_of_mem_drop h)
        · rw [List.mem_singleton.1 h]; exact hb
      simp [this] at hf
  have hd : dupI E ((M.take k ++ b :: M.drop k) ++ [b]) = k := by
    refine dupI_at (by simp; omega) (fun i hik => ?_) ?_
    · have h1 := dup_of_once ho i
      unfold dupB at h1 ⊢
      rw [mid_lt hk hik, mid_take hk (Nat.le_of_lt hik)]
      exact h1
    · unfold dupB
      rw [mid_at hk]
      obtain ⟨y, hy, hyn⟩ := hn
      rw [List.any_eq_true]
      exact ⟨y, List.mem_append_left _ hy, by simpa using hyn⟩
  unfold chkE
  rw [hi, hd, if_neg (by omega), if_pos (by omega)]
theorem all_no {n : Nat} {E l : List Ev} {i e : Int} (h : chkE E l = (i, e)) (he : e ≠ 0) : allV n E l = (i, e) ∧ allE n E l = E := by
  have h1 : allV n E l = (i, e) := by
    unfold allV
    rw [h, if_pos he]
  refine ⟨h1, ?_⟩
  unfold allE
  rw [h1, if_neg he]
theorem chk_one {E : List Ev} {b : Ev} (hb : ¬ RightE b) : chkE E [b] = (0, 100) := by
  have hi : idxI (fun x => !decide (RightE x)) [b] = 0 := by
    unfold idxI
    simp [List.findIdx?_cons, hb]
  unfold chkE
  rw [hi, if_pos (by omega)]
end Go.Proofs.Ytmcgipilopfgoaa

/-
  EvqCancels.
-/
namespace Go.Proofs.Ytmcgipilopfgoaa
open Go Go.RowKit Go.ChangeMaps
attribute [local go_sem ↓] Go.wp_at_zero Go.wp_at_succ
attribute [local go_sem] Oper.semAt_some wide_fn wide_depth wide_fnR wide_depthR

/-- A slice of bytes. -/
def BytesAt (w : World) (v : Value) (n : Nat) : Prop := ∃ a cap, v = .slice a n cap ∧ n ≤ cap ∧ ∀ j, j < n → ∃ b : Int, (0 ≤ b ∧ b < 256) ∧ ∃ g o, a = some ⟨g, o, none⟩ ∧ w.cell? ⟨g, o + j, none⟩ = some (.int .u8 b)
theorem once_split {E : List Ev} (h : OnceE E) {i : Nat} {x : Ev} (hx : E[i]? = some x) : E = E.take i ++ x :: E.drop (i + 1) ∧ (∀ y ∈ E.take i, y.name ≠ x.name) ∧ (∀ y ∈ E.drop (i + 1), y.name ≠ x.name) := by
  obtain ⟨hi, he⟩ := List.getElem?_eq_some_iff.1 hx
  have hl : E = E.take i ++ x :: E.drop (i + 1) := by
    rw [← he, ← List.drop_eq_getElem_cons hi, List.take_append_drop]
  have hp : OnceE (x :: (E.take i ++ E.drop (i + 1))) := by
    refine h.perm ?_
    conv => lhs; rw [hl]
    exact List.perm_middle
  have h1 := (once_cons.1 hp).1
  exact ⟨hl, fun y hy => h1 y (List.mem_append_left _ hy), fun y hy => h1 y (List.mem_append_right _ hy)⟩
theorem del_at {E : List Ev} (h : OnceE E) {i : Nat} {x : Ev} (hx : E[i]? = some x) : delE x.name E = E.eraseIdx i := by
  obtain ⟨h1, h2, h3⟩ := once_split h hx
  rw [List.eraseIdx_eq_take_drop_succ]
  conv => lhs; rw [h1]
  unfold delE
  rw [List.filter_append, List.filter_cons_of_neg (by simp), List.filter_eq_self.2 (fun y hy => by simpa using h2 y hy), List.filter_eq_self.2 (fun y hy => by simpa using h3 y hy)]
theorem find_at {E : List Ev} (h : OnceE E) {i : Nat} {x : Ev} (hx : E[i]? = some x) : findE x.name E = some x := by
  obtain ⟨h1, h2, h3⟩ := once_split h hx
  unfold findE
  rw [h1, List.find?_append, List.find?_eq_none.2 (fun y hy => by simpa using h2 y hy)]
  simp
theorem find_gone (E : List Ev) (p : Int × Int) : findE p (delE p E) = none := by
  unfold findE
  rw [List.find?_eq_none]
  intro y hy
  simpa using (delE_mem.1 hy).2
theorem KeptB.fr0 {S : Nat → Prop} {W W' : World} {b : Nat} {xs : List Value} {t : TypeId} {ft : Nat → Prop} (h : KeptB W b xs t ft) (hf : Fr0 S W W') (hs : ¬ S b) : KeptB W' b xs t ft := ⟨(hf.block b h.lt hs).trans h.1, h.2⟩
theorem KeptR.fr0 {S : Nat → Prop} {W W' : World} {base : Nat} {v : Value} {L : List Ev} {ft : Nat → Prop} (h : KeptR W base v L ft) (hf : Fr0 S W W') (hs : ∀ g, v.ownBlock = some g → ¬ S g) : KeptR W' base v L ft := ⟨ownsRow_fr0 h.1 hf hs, h.2⟩
set_option maxRecDepth 100000 in
set_option maxHeartbeats 4000000 in
theorem EvqCancels_any {w : World} {u v : Value} {xs : List Sme} {bn : Nat} (hu : SmesAt w u xs) (hv : BytesAt w v bn) :
    Calls Try.prog 6 #[u, v] w fun e w' => e = .returned (.bool true) ∧ Fr0 none' w w' := by
  obtain ⟨i0, hi, hz0, hz1, hz2⟩ := info_parts info_event0
  have HU := Lib.hid (fun (W : World) (hf : Fr0 none' w W) => events_any xs 60 (by omega) W (hu.later hf))
  obtain ⟨S, hS⟩ : ∃ S, evsE xs 60 = S := ⟨_, rfl⟩
  have R0 := Lib.hid (evsE_right (xs := xs) (most := 60))
  have O0 := Lib.hid (evsE_once xs 60)
  have L0 := Lib.hid (evsE_le xs 60)
  rw [hS] at HU R0 O0 L0
  obtain ⟨ba, bc, rfl, hbc, hbs⟩ := hv
  have Hbs := Lib.hid hbs
  clear hu hS hbs
  go_enter Try.func6, Try.ntmps6
  go_wp2_with fail
  refine (awake_any w).mono ?_
  rintro e w1 ⟨rfl, f1⟩
  have F1 := Lib.hid f1
  clear f1
  go_wp2_with fail
  refine (HU.out w1 F1.out).mono ?_
  rintro e w2 ⟨r, rfl, hr, f2⟩
  obtain ⟨va, vc, rfl, _, hva⟩ := EsIn.of_own hr
  have F2 := Lib.hid (F1.out.trans f2)
  have Hva := Lib.hid hva
  clear f2 hr hva HU
  obtain ⟨L, hL⟩ : ∃ n, S.length = n := ⟨_, rfl⟩
  rw [hL] at L0 ⊢
  have N0 := Lib.hid hL
  clear hL
  have hL60 : L ≤ 60 := L0.out
  go_wp2_with fail
  refine (filled_any (c := 60) (cap := vc) S Hva.out N0.out hL60 (by omega) R0.out O0.out).mono ?_
  rintro e w3 ⟨qb, ft, r, rfl, hq, hr, hge, hno, hf⟩
  obtain ⟨Z, hZ⟩ : ∃ Z, putsE S [] = Z := ⟨_, rfl⟩
  rw [hZ] at hq hr
  have HQ := Lib.hid (show St w w3 qb 60 L Z ft from ⟨hq, F2.out.trans hf, fun k hk => Nat.le_trans F2.out.size (hge k hk)⟩)
  have HR := Lib.hid (show KeptR w3 w2.heap.size r Z ft from ⟨hr, hno⟩)
  clear hq hr hge hno hf hZ
  have HZ := Lib.hid (show Z.length ≤ 60 from HQ.out.1.le.1)
  have HOz := Lib.hid (show OnceE Z ∧ ∀ x ∈ Z, RightE x from ⟨HQ.out.1.good.2.1, HQ.out.1.good.2.2⟩)
  have F3 := Lib.hid (show Fr0 none' w w3 from HQ.out.2.1)
  obtain ⟨m, hmn⟩ : ∃ m, min bn 40 = m := ⟨_, rfl⟩
  have e1 : (min (bn : Int) 40) = (m : Int) := by omega
  have e2 : (m : Int).toNat = m := by omega
  have e3 : max (m : Int) 0 = (m : Int) := by omega
  have hmb : m ≤ bn := by omega
  have hm40 : m ≤ 40 := by omega
  have Hmb := Lib.hid hmb
  go_wp2_with fail
  clear e1 e2 e3
  go_loopw [6, 7, 9, 10, 11, 12, 13, 14, 15, 16, 17, 36] (fun v6 v7 _ _ _ _ _ _ _ _ _ i wr => ∃ (k : Nat) (E G : List Ev) (fk : Nat → Prop), k ≤ m ∧ i = .int .i64 k ∧ Hid (St w wr qb 60 L E fk) ∧ Hid (KeptR wr w2.heap.size v6 E fk) ∧ Hid (KeptR wr w3.heap.size v7 G fk) ∧ Hid (∀ g, v6.ownBlock = some g → g < w3.heap.size) ∧ Hid ((G ++ E).Perm Z) ∧ Hid (w3.heap.size ≤ wr.heap.size)) (fun _ _ _ _ _ _ _ _ _ _ _ i _ => m - (Go.RowKit.intOf i).toNat)
  case atStart => exact ⟨0, Z, [], ft, Nat.zero_le _, rfl, HQ, HR, ⟨World.ownsRow_nil _ _ _ _, fun g hg => by cases hg⟩, fun g hg => (HR.out.1.lt g hg).2, List.Perm.refl _, Nat.le_refl _⟩
  case round =>
    obtain ⟨k, E, G, fk, hk, rfl, HQ, HR, HG, HB, HPm, HW3⟩ := hrel
    obtain ⟨la, lc, rfl, hla⟩ := HR.out.slice
    obtain ⟨ga, gc, rfl, hga⟩ := HG.out.slice
    have Hla := Lib.hid hla
    clear hla hga
    have HEl := Lib.hid HQ.out.1.le.1
    have hel : E.length ≤ 60 := HEl.out
    have hgl : G.length ≤ 60 := by
      have h1 := HPm.out.length_eq
      rw [List.length_append] at h1
      have h2 := HZ.out
      omega
    by_cases hlt : k < m
    · obtain ⟨b, ⟨hb0, hb1⟩, bg, bo, rfl, hbc⟩ := Hbs.out k (by have := Hmb.out; omega)
      have x0 := (HQ.out.2.1).later hbc
      have k1 : (0 : Int) ≤ (k : Int) := by omega
      have k2 : (k : Int) < (m : Int) := by omega
      rcases Nat.eq_zero_or_pos E.length with h0 | h0
      · have d1 : ((E.length : Int) == 0) = true := by rw [h0]; rfl
        clear h0
        go_wp2_with fail
        clear d1
        have hKs := HG.out.slice
        have hperm := Lib.hid (HPm.out)
        go_loopw [19, 120] (fun _ i w' => ∃ (j : Nat) (fj : Nat → Prop), j ≤ G.length ∧ i = .int .i64 j ∧ Hid (St w w' qb 60 (L + j) (putsE (G.take j) E) fj) ∧ Hid (KeptR w' w3.heap.size (.slice ga G.length gc) G fj)) (fun _ i _ => G.length - (Go.RowKit.intOf i).toNat)
        case atStart => exact ⟨0, fk, Nat.zero_le _, rfl, HQ, HG⟩
        case round =>
          obtain ⟨j, fj, hj, rfl, HQ, HG⟩ := hrel
          by_cases hjl : j < G.length
          · obtain ⟨x, hx⟩ : ∃ x, G[j]? = some x := ⟨_, List.getElem?_eq_getElem hjl⟩
            obtain ⟨_, _, hEe, hEi⟩ := HG.out.slice
            injection hEe with hE1 hE2 hE3
            subst hE1
            obtain ⟨g2, o2, rfl, hxc⟩ := hEi j x hx
            obtain ⟨y0, y1, y2, y3, y4⟩ := hxc
            have j1 : (0 : Int) ≤ (j : Int) := by omega
            have j2 : (j : Int) < (G.length : Int) := by omega
            have hOG : OnceE (G ++ E) := HOz.out.1.perm hperm.out.symm
            have hsn : G.take (j + 1) = G.take j ++ [x] := by rw [List.take_add_one, hx]; rfl
            have ho : OnceE ([x] ++ putsE (G.take j) E) := by
              have h1 : OnceE (G.take (j + 1) ++ E) := once_sub hOG (List.Sublist.append (List.take_sublist _ _) (List.Sublist.refl _))
              rw [hsn] at h1
              refine h1.perm ?_
              rw [List.append_assoc]
              refine List.perm_append_comm_assoc .. |>.trans ?_
              exact List.Perm.append_left _ (putsE_perm _ _).symm
            obtain ⟨e1, e2⟩ := all_ok (n := 60) (E := putsE (G.take j) E) (l := [x]) (fun y hy => by
              rw [List.mem_singleton.1 hy]
              exact HOz.out.2 x (hperm.out.mem_iff.1 (List.mem_append_left _ (List.mem_of_getElem? hx)))) ho (by
                have h1 := hperm.out.length_eq
                rw [List.length_append] at h1
                have h2 := HZ.out
                rw [putsE_length, List.length_take, List.length_singleton]
                omega)
            rw [← putsE_append, ← hsn] at e2
            have E1 := Lib.hid e1
            have E2 := Lib.hid e2
            clear hx hOG hsn ho e1 e2 hE2 hE3 hEi
            go_wp2_with fail
            obtain ⟨W3, hW3⟩ : ∃ W, wr.alloc (.cells #[.int .i64 x.key.time, .int .i64 x.key.source, .int .i64 x.key.seq, .int .i64 x.to, .int .i64 x.value] 34) = W := ⟨_, rfl⟩
            have hf : Fr0 none' wr W3 := by rw [← hW3]; exact (Fr0.refl _ _).alloc _
            rw [hW3]
            have HQ := Lib.hid (HQ.out.later hf)
            have HG := Lib.hid (HG.out.later hf)
            have HP := HQ.out.1.put1 x (by omega)
            rw [E1.out, E2.out] at HP
            simp only [evV] at HP
            clear y0 y1 y2 y3 y4 hW3 hf
            refine HP.mono ?_
            rintro e w4 ⟨rfl, hq, hf⟩
            have hs := @qgrow_or fj W3 w4
            have HG := Lib.hid (HG.out.step2 hs hf)
            have HQ := Lib.hid (HQ.out.step2 hq hs hf)
            clear hq hf hs HP
            go_wp2_with fail
            go_roundw
            case rel => exact ⟨j + 1, _, by omega, by go_num, HQ, HG⟩
            case measure => simp [Go.RowKit.intOf]; omega
          · have hjn : j = G.length := by omega
            subst hjn
            rw [List.take_of_length_le (Nat.le_refl _)] at HQ
            have hln := HQ.out.1.len
            rw [putsE_length] at hln
            have w9' : IntKind.i64.wrap ((E.length : Int) + (G.length : Int)) = ((G.length + E.length : Nat) : Int) := by rw [IntWalk.i64_in _ (by omega)]; omega
            go_wp2_with fail
            refine hln.mono ?_
            rintro e w5 ⟨rfl, rfl⟩
            go_wp2_with fail
            go_ret
            exact ⟨rfl, HQ.out.2.1⟩
      · have d1 : ((E.length : Int) == 0) = false := beq_eq_false_iff_ne.2 (by omega)
        obtain ⟨i, hi', hiL⟩ : ∃ i : Nat, (b % (E.length : Int)) = i ∧ i < E.length := by
          have h1 := Int.emod_nonneg b (show (E.length : Int) ≠ 0 by omega)
          have h2 := Int.emod_lt_of_pos b (show (0 : Int) < (E.length : Int) by omega)
          exact ⟨(b % (E.length : Int)).toNat, by omega, by omega⟩
        have w2' : Int.tmod b (E.length : Int) = (i : Int) := by rw [Int.tmod_eq_emod_of_nonneg hb0]; exact hi'
        have w3' : IntKind.i64.wrap b = b := IntWalk.i64_in _ (by omega)
        have w4' : IntKind.i64.wrap (i : Int) = (i : Int) := IntWalk.i64_in _ (by omega)
        obtain ⟨x, hx⟩ : ∃ x, E[i]? = some x := ⟨_, List.getElem?_eq_getElem hiL⟩
        obtain ⟨lg, lo, rfl, hxc⟩ := Hla.out i x hx
        obtain ⟨y0, y1, y2, y3, y4⟩ := hxc
        have i1 : (0 : Int) ≤ (i : Int) := by omega
        have i2 : (i : Int) < (E.length : Int) := by omega
        have Hx := Lib.hid hx
        clear hx
        go_wp2_with fail
        have hlo : lo = 0 := by
          rcases HR.out.1.2 with ⟨h1, _⟩ | ⟨g', cap, cur, hv, _⟩
          · cases h1
          · injection hv with h1
            injection h1 with h1
            injection h1 with _ h1
        subst hlo
        have Hi64 := Lib.hid (rightE_i64 (HQ.out.1.good.2.2 x (List.mem_of_getElem? Hx.out)))
        have hlg : w2.heap.size ≤ lg ∧ lg < w3.heap.size ∧ ¬ fk lg := ⟨(HR.out.1.lt lg rfl).1, HB.out lg rfl, HR.out.2 lg rfl⟩
        have Hlg := Lib.hid hlg
        clear hlg
        have Ho := Lib.hid HQ.out.1.good.2.1
        have hdel := del_at Ho.out Hx.out
        have Hdel := Lib.hid hdel
        clear hdel
        obtain ⟨xb, hxb⟩ : ∃ xb, wr.heap.size = xb := ⟨_, rfl⟩
        have Hxb := Lib.hid hxb
        obtain ⟨W1, hW⟩ : ∃ W, wr.alloc (.cells #[.int .i64 x.key.time, .int .i64 x.key.source, .int .i64 x.key.seq, .int .i64 x.to, .int .i64 x.value] 34) = W := ⟨_, rfl⟩
        have hf : Fr0 none' wr W1 := by rw [← hW]; exact (Fr0.refl _ _).alloc _
        have HX := Lib.hid (show KeptB W1 xb (cev x) 34 fk from ⟨by rw [← hW, ← hxb]; exact World.alloc_heap_new _ _, fun hk => by have := HQ.out.1.lt _ hk; omega⟩)
        have Hxl := Lib.hid (show lg < xb ∧ ∀ g, (Value.slice ga G.length gc).ownBlock = some g → g < xb from ⟨by have := (HR.out.1.lt lg rfl).2; omega, fun g hg => by have := (HG.out.1.lt g hg).2; omega⟩)
        have HQ := Lib.hid (HQ.out.later hf)
        have HR := Lib.hid (HR.out.later hf)
        have HG := Lib.hid (HG.out.later hf)
        clear hf
        rw [hW]
        try rw [hxb]
        clear hW hxb y0 y1 y2 y3 y4
        have hfnd := HQ.out.1.find (nm := x.name) Hi64.out.1 Hi64.out.2
        rw [find_at Ho.out Hx.out] at hfnd
        refine hfnd.mono ?_
        rintro e w4 ⟨rfl, hf⟩
        have HQ := Lib.hid (HQ.out.later hf)
        have HR := Lib.hid (HR.out.later hf)
        have HG := Lib.hid (HG.out.later hf)
        have HX := Lib.hid (HX.out.later hf)
        clear hf hfnd
        simp only [Option.getD_some, Option.isSome_some, evV]
        obtain ⟨W5, hW⟩ : ∃ W, (w4).alloc (.cells #[.int .i64 x.key.time, .int .i64 x.key.source, .int .i64 x.key.seq, .int .i64 x.to, .int .i64 x.value] 34) = W := ⟨_, rfl⟩
        have hf : Fr0 none' (w4) W5 := by rw [← hW]; exact (Fr0.refl _ _).alloc _
        have HY := Lib.hid (show KeptB W5 (w4).heap.size (cev x) 34 _ from ⟨by rw [← hW]; exact World.alloc_heap_new _ _, fun hk => by have := HQ.out.1.lt _ hk; omega⟩)
        have HQ := Lib.hid (HQ.out.later hf)
        have HR := Lib.hid (HR.out.later hf)
        have HG := Lib.hid (HG.out.later hf)
        have HX := Lib.hid (HX.out.later hf)
        clear hf
        have a0 := cells_in HX.out.1 0
        have a1 := cells_in HX.out.1 1
        have a2 := cells_in HX.out.1 2
        have a3 := cells_in HX.out.1 3
        have a4 := cells_in HX.out.1 4
        simp [cev] at a0 a1 a2 a3 a4
        subst hW
        go_wp2_with fail
        clear a0 a1 a2 a3 a4
        have hcan := HQ.out.1.cancel (nm := x.name) Hi64.out.1 Hi64.out.2 (by omega)
        rw [find_at Ho.out Hx.out, Hdel.out] at hcan
        refine hcan.mono ?_
        rintro e w6 ⟨rfl, hq, hf⟩
        have HX := Lib.hid (HX.out.step hf)
        have HY := Lib.hid (HY.out.step hf)
        have HR := Lib.hid (HR.out.step hf)
        have HG := Lib.hid (HG.out.step hf)
        have HQ := Lib.hid (HQ.out.step hq hf)
        clear hq hf hcan
        simp only [Option.getD_some, Option.isSome_some, if_true, evV]
        obtain ⟨W7, hW⟩ : ∃ W, (w6).alloc (.cells #[.int .i64 x.key.time, .int .i64 x.key.source, .int .i64 x.key.seq, .int .i64 x.to, .int .i64 x.value] 34) = W := ⟨_, rfl⟩
        have hf : Fr0 none' (w6) W7 := by rw [← hW]; exact (Fr0.refl _ _).alloc _
        have HZb := Lib.hid (show KeptB W7 (w6).heap.size (cev x) 34 _ from ⟨by rw [← hW]; exact World.alloc_heap_new _ _, fun hk => by have := HQ.out.1.lt _ hk; omega⟩)
        have HQ := Lib.hid (HQ.out.later hf)
        have HR := Lib.hid (HR.out.later hf)
        have HG := Lib.hid (HG.out.later hf)
        have HX := Lib.hid (HX.out.later hf)
        have HY := Lib.hid (HY.out.later hf)
        clear hf
        have a0 := cells_in HX.out.1 0
        have a1 := cells_in HX.out.1 1
        have a2 := cells_in HX.out.1 2
        have a3 := cells_in HX.out.1 3
        have a4 := cells_in HX.out.1 4
        simp [cev] at a0 a1 a2 a3 a4
        have b0 := cells_in HY.out.1 0
        have b1 := cells_in HY.out.1 1
        have b2 := cells_in HY.out.1 2
        have b3 := cells_in HY.out.1 3
        have b4 := cells_in HY.out.1 4
        simp [cev] at b0 b1 b2 b3 b4
        have c0 := cells_in HZb.out.1 0
        have c1 := cells_in HZb.out.1 1
        have c2 := cells_in HZb.out.1 2
        have c3 := cells_in HZb.out.1 3
        have c4 := cells_in HZb.out.1 4
        simp [cev] at c0 c1 c2 c3 c4
        subst hW
        go_wp2_with fail
        clear a0 a1 a2 a3 a4 b0 b1 b2 b3 b4 c0 c1 c2 c3 c4 HY HZb
        have hcan := HQ.out.1.cancel (nm := x.name) Hi64.out.1 Hi64.out.2 (by omega)
        rw [← Hdel.out, find_gone, delE_none (fun y hy => (delE_mem.1 hy).2), Hdel.out] at hcan
        refine hcan.mono ?_
        rintro e w8 ⟨rfl, hq, hf⟩
        have HX := Lib.hid (HX.out.step hf)
        have HR := Lib.hid (HR.out.step hf)
        have HG := Lib.hid (HG.out.step hf)
        have HQ := Lib.hid (HQ.out.step hq hf)
        clear hq hf hcan
        simp only [Option.getD_none, Option.isSome_none, zeroEv, evV]
        obtain ⟨j, hj⟩ : ∃ j, i + 1 = j := ⟨_, rfl⟩
        have w5' : IntKind.i64.wrap ((i : Int) + 1) = (j : Int) := by rw [IntWalk.i64_in _ (by omega)]; omega
        have Hj := Lib.hid hj
        clear hj
        go_wp2_with fail
        obtain ⟨W9, hW⟩ : ∃ W, w8.alloc (.cells #[.int .i64 0, .int .i64 0, .int .i64 0, .int .i64 0, .int .i64 0] 34) = W := ⟨_, rfl⟩
        have hf : Fr0 none' w8 W9 := by rw [← hW]; exact (Fr0.refl _ _).alloc _
        have HQ := Lib.hid (HQ.out.later hf)
        have HR := Lib.hid (HR.out.later hf)
        have HG := Lib.hid (HG.out.later hf)
        have HX := Lib.hid (HX.out.later hf)
        clear hf
        rw [hW]
        clear hW
        refine (DeleteE (i := i) (j := j) E HR.out.1 hiL Hj.out.symm (by omega)).mono ?_
        rintro e w10 ⟨rfl, hr10, hf⟩
        obtain ⟨E', hE'⟩ : ∃ E', E.eraseIdx i = E' := ⟨_, rfl⟩
        have hpe : E.Perm (x :: E') := by
          have h1 := delE_perm Ho.out (List.mem_of_getElem? Hx.out)
          rw [Hdel.out, hE'] at h1
          exact h1
        have hle : E.length - 1 = E'.length := by
          have h1 := hpe.length_eq
          rw [List.length_cons] at h1
          omega
        rw [hE'] at HQ hr10
        rw [hle] at hr10 ⊢
        have hng : ∀ g, (Value.slice ga G.length gc).ownBlock = some g → ¬ g = lg := fun g hg e => by
          have := (HG.out.1.lt g hg).1
          have := Hlg.out.2.1
          omega
        have HX := Lib.hid (HX.out.fr0 hf (fun e => by have := Hxl.out.1; omega))
        have HG := Lib.hid (HG.out.fr0 hf hng)
        have HQ := Lib.hid (HQ.out.other (gt := fun k => k = lg) (fun k hk => by subst hk; have := Hlg.out.1; have := F2.out.size; omega) (fun k hk e => by subst e; exact HR.out.2 _ rfl hk) hf)
        have HR := Lib.hid (show KeptR w10 w2.heap.size (.slice (some ⟨lg, 0, none⟩) E'.length lc) E' _ from ⟨hr10, HR.out.2⟩)
        have hwr : wr.heap.size ≤ w10.heap.size := by have := HX.out.lt; have := Hxb.out; omega
        have HPe := Lib.hid hpe
        clear hr10 hf hpe hng hE'
        have a0 := cells_in HX.out.1 0
        have a1 := cells_in HX.out.1 1
        have a2 := cells_in HX.out.1 2
        have a3 := cells_in HX.out.1 3
        have a4 := cells_in HX.out.1 4
        simp [cev] at a0 a1 a2 a3 a4
        have hsrc := Src.newRow (P := Try.prog) (size := 5) (tx := 28) (ty := 34) w10 Try.underlying28 1 1 (cev x) rfl (by simp [Value.oneCell', cev])
        simp only [cev] at hsrc
        have hbase : w3.heap.size ≤ w10.heap.size := by have := HW3.out; omega
        go_wp2_with (at_builtin; refine wpList_append_k rfl _ _ 28 28 rfl w3.heap.size 34 i0 (.agg #[.int .i64 0, .int .i64 0, .int .i64 0, .int .i64 0, .int .i64 0]) 5 40 Try.underlying28 hi hz0 hz1 hz2 rfl (by decide) (.slice ga G.length gc) G.length _ rfl (ownsRow_fr0 HG.out.1 ((Fr0.refl none' w10).alloc _) (fun _ _ h => h)) (.slice (some ⟨w10.heap.size, 0, none⟩) 1 1) 1 _ rfl hsrc (by unfold maxLen; omega) (by omega) (by simp; omega) ?_; intro v11 w11 hown hgrow hdr hob; have Hown := Lib.hid hown; have hfg : Fr0 (fun i => (Value.slice ga G.length gc).ownBlock = some i) w10 w11 := ((Fr0.refl _ w10).alloc _).grown hgrow (fun i hi _ => hi); have F11 := Lib.hid hfg; have Hob := Lib.hid hob; clear hown hgrow hdr hob a0 a1 a2 a3 a4 hfg hsrc)
        have hng : ∀ g, (Value.slice ga G.length gc).ownBlock = some g → w3.heap.size ≤ g := fun g hg => (HG.out.1.lt g hg).1
        have HR := Lib.hid (HR.out.fr0 F11.out (fun g hg h2 => by
          have h1 := hng g h2
          have h3 : lg = g := by injection hg
          have := Hlg.out.2.1
          omega))
        have hg11 := HG.out.2
        have hq10 := HQ.out.1.lt
        have HQ := Lib.hid (HQ.out.other (gt := fun k => (Value.slice ga G.length gc).ownBlock = some k) (fun k hk => by have := hng k hk; have := HW3.out; have h5 := F3.out.size; omega) (fun k hk e => hg11 k e hk) F11.out)
        have HGn := Lib.hid (show KeptR w11 w3.heap.size v11 (G ++ [x]) _ from ⟨by
          have h1 := Hown.out
          have h2 : flatEv (G ++ [x]) = flatEv G ++ [.int .i64 x.key.time, .int .i64 x.key.source, .int .i64 x.key.seq, .int .i64 x.to, .int .i64 x.value] := by rw [flatEv_append, flatEv_single]; rfl
          rw [h2, List.length_append, List.length_singleton]
          exact h1, fun g hg hk => by
          rcases Hob.out with h | h
          · rw [h] at hg
            exact hg11 g hg hk
          · rw [h] at hg
            injection hg with hg
            have h3 := hq10 g hk
            rw [World.size_alloc] at hg
            omega⟩)
        clear hng hg11 hq10
        obtain ⟨wa, hwa⟩ : ∃ wa, w11.heap.size = wa := ⟨_, rfl⟩
        have Hwa := Lib.hid hwa
        clear hwa
        refine HQ.out.1.all.mono ?_
        rintro e w12 ⟨v12, rfl, hr1, hf⟩
        have S12 := Lib.hid hf.size
        have HQ := Lib.hid (HQ.out.later hf)
        have HR := Lib.hid (HR.out.later hf)
        have HGn := Lib.hid (HGn.out.later hf)
        clear hf
        obtain ⟨_, _, hRe, hrz⟩ := HR.out.slice
        injection hRe with hE1 hE2 hE3
        subst hE1
        obtain ⟨sa, sc, rfl, _, hsa⟩ := EsIn.of_own hr1
        have HE := Lib.hid (sameEs_any sa (some ⟨lg, 0, none⟩) _ _ sc lc E' E' w12 rfl rfl (by omega) (by omega) hsa hrz)
        clear hr1 hsa hrz hE2 hE3
        rw [decide_eq_true rfl] at HE
        go_wp2_with fail
        refine HE.out.mono ?_
        rintro e w13 ⟨rfl, hf⟩
        have S13 := Lib.hid hf.size
        have HQ := Lib.hid (HQ.out.later hf)
        have HR := Lib.hid (HR.out.later hf)
        have HGn := Lib.hid (HGn.out.later hf)
        clear hf HE
        go_wp2_with fail
        go_roundw
        case rel =>
          refine ⟨k + 1, E', G ++ [x], _, by omega, by go_num, HQ, HR, HGn, fun g hg => ?_, ?_, ?_⟩
          · have h3 : lg = g := by injection hg
            have := Hlg.out.2.1
            omega
          · refine List.Perm.trans ?_ HPm.out
            rw [List.append_assoc]
            exact List.Perm.append_left _ HPe.out.symm
          · have := S12.out
            have := S13.out
            have := F11.out.size
            have := HW3.out
            have : w3.heap.size ≤ w13.heap.size := by omega
            exact this
        case measure => simp [Go.RowKit.intOf]; omega
    · go_wp2_with fail
      have hKs := HG.out.slice
      have hperm := Lib.hid (HPm.out)
      go_loopw [19, 120] (fun _ i w' => ∃ (j : Nat) (fj : Nat → Prop), j ≤ G.length ∧ i = .int .i64 j ∧ Hid (St w w' qb 60 (L + j) (putsE (G.take j) E) fj) ∧ Hid (KeptR w' w3.heap.size (.slice ga G.length gc) G fj)) (fun _ i _ => G.length - (Go.RowKit.intOf i).toNat)
      case atStart => exact ⟨0, fk, Nat.zero_le _, rfl, HQ, HG⟩
      case round =>
        obtain ⟨j, fj, hj, rfl, HQ, HG⟩ := hrel
        by_cases hjl : j < G.length
        · obtain ⟨x, hx⟩ : ∃ x, G[j]? = some x := ⟨_, List.getElem?_eq_getElem hjl⟩
          obtain ⟨_, _, hEe, hEi⟩ := HG.out.slice
          injection hEe with hE1 hE2 hE3
          subst hE1
          obtain ⟨g2, o2, rfl, hxc⟩ := hEi j x hx
          obtain ⟨y0, y1, y2, y3, y4⟩ := hxc
          have j1 : (0 : Int) ≤ (j : Int) := by omega
          have j2 : (j : Int) < (G.length : Int) := by omega
          have hOG : OnceE (G ++ E) := HOz.out.1.perm hperm.out.symm
          have hsn : G.take (j + 1) = G.take j ++ [x] := by rw [List.take_add_one, hx]; rfl
          have ho : OnceE ([x] ++ putsE (G.take j) E) := by
            have h1 : OnceE (G.take (j + 1) ++ E) := once_sub hOG (List.Sublist.append (List.take_sublist _ _) (List.Sublist.refl _))
            rw [hsn] at h1
            refine h1.perm ?_
            rw [List.append_assoc]
            refine List.perm_append_comm_assoc .. |>.trans ?_
            exact List.Perm.append_left _ (putsE_perm _ _).symm
          obtain ⟨e1, e2⟩ := all_ok (n := 60) (E := putsE (G.take j) E) (l := [x]) (fun y hy => by
            rw [List.mem_singleton.1 hy]
            exact HOz.out.2 x (hperm.out.mem_iff.1 (List.mem_append_left _ (List.mem_of_getElem? hx)))) ho (by
              have h1 := hperm.out.length_eq
              rw [List.length_append] at h1
              have h2 := HZ.out
              rw [putsE_length, List.length_take, List.length_singleton]
              omega)
          rw [← putsE_append, ← hsn] at e2
          have E1 := Lib.hid e1
          have E2 := Lib.hid e2
          clear hx hOG hsn ho e1 e2 hE2 hE3 hEi
          go_wp2_with fail
          obtain ⟨W3, hW3⟩ : ∃ W, wr.alloc (.cells #[.int .i64 x.key.time, .int .i64 x.key.source, .int .i64 x.key.seq, .int .i64 x.to, .int .i64 x.value] 34) = W := ⟨_, rfl⟩
          have hf : Fr0 none' wr W3 := by rw [← hW3]; exact (Fr0.refl _ _).alloc _
          rw [hW3]
          have HQ := Lib.hid (HQ.out.later hf)
          have HG := Lib.hid (HG.out.later hf)
          have HP := HQ.out.1.put1 x (by omega)
          rw [E1.out, E2.out] at HP
          simp only [evV] at HP
          clear y0 y1 y2 y3 y4 hW3 hf
          refine HP.mono ?_
          rintro e w4 ⟨rfl, hq, hf⟩
          have hs := @qgrow_or fj W3 w4
          have HG := Lib.hid (HG.out.step2 hs hf)
          have HQ := Lib.hid (HQ.out.step2 hq hs hf)
          clear hq hf hs HP
          go_wp2_with fail
          go_roundw
          case rel => exact ⟨j + 1, _, by omega, by go_num, HQ, HG⟩
          case measure => simp [Go.RowKit.intOf]; omega
        · have hjn : j = G.length := by omega
          subst hjn
          rw [List.take_of_length_le (Nat.le_refl _)] at HQ
          have hln := HQ.out.1.len
          rw [putsE_length] at hln
          have w9' : IntKind.i64.wrap ((E.length : Int) + (G.length : Int)) = ((G.length + E.length : Nat) : Int) := by rw [IntWalk.i64_in _ (by omega)]; omega
          go_wp2_with fail
          refine hln.mono ?_
          rintro e w5 ⟨rfl, rfl⟩
          go_wp2_with fail
          go_ret
          exact ⟨rfl, HQ.out.2.1⟩
end Go.Proofs.Ytmcgipilopfgoaa

/-
  EvqWrong: the plain law of its second half.
-/
namespace Go.Proofs.Ytmcgipilopfgoaa
open Go Go.RowKit Go.ChangeMaps
attribute [local go_sem ↓] Go.wp_at_zero Go.wp_at_succ
attribute [local go_sem] Oper.semAt_some wide_fn wide_depth wide_fnR wide_depthR

theorem evsE_src {xs : List Sme} {most : Nat} : ∀ x ∈ evsE xs most, x.key.source < 5 := fun x hx => by
  have := dedE_sub _ x hx
  obtain ⟨y, _, rfl⟩ := List.mem_map.1 this
  unfold madeE
  simp only
  omega
/-- The events that fill the queue. -/
def longE (i : Nat) : Ev := ⟨⟨1, 16, (i : Int)⟩, 1, 0⟩
def longN (n : Nat) : List Ev := (List.range n).map longE
theorem longN_len (n : Nat) : (longN n).length = n := by unfold longN; rw [List.length_map, List.length_range]
theorem longN_at {n i : Nat} (h : i < n) : (longN n)[i]? = some (longE i) := by
  unfold longN
  rw [List.getElem?_map, List.getElem?_range h]
  rfl
theorem longN_mem {n : Nat} {x : Ev} (h : x ∈ longN n) : ∃ i, i < n ∧ x = longE i := by
  unfold longN at h
  obtain ⟨i, hi, rfl⟩ := List.mem_map.1 h
  exact ⟨i, List.mem_range.1 hi, rfl⟩
theorem longN_right : ∀ x ∈ longN 61, RightE x := fun x hx => by
  obtain ⟨i, hi, rfl⟩ := longN_mem hx
  unfold RightE RightK longE
  simp only
  omega
theorem longN_once (n : Nat) : OnceE (longN n) := by
  unfold OnceE longN
  rw [List.map_map]
  refine List.Pairwise.map _ (fun a b h => ?_) List.nodup_range
  intro e
  apply h
  have : ((a : Nat) : Int) = (b : Nat) := by
    have := congrArg Prod.snd e
    simpa [longE, Ev.name] using this
  omega
theorem long_once {Z l : List Ev} (hz : OnceE Z) (hs : ∀ y ∈ Z, y.key.source < 5) (hl : l.Sublist (longN 61)) : OnceE (l ++ Z) := by
  unfold OnceE
  rw [List.map_append]
  refine List.nodup_append.2 ⟨once_sub (longN_once 61) hl, hz, fun a ha b hb e => ?_⟩
  obtain ⟨x, hx, rfl⟩ := List.mem_map.1 ha
  obtain ⟨y, hy, rfl⟩ := List.mem_map.1 hb
  obtain ⟨i, _, rfl⟩ := longN_mem (hl.subset hx)
  have h1 := hs y hy
  have h2 := congrArg Prod.fst e
  simp only [longE, Ev.name] at h2
  omega
theorem all_full {n : Nat} {E l : List Ev} (hr : ∀ x ∈ l, RightE x) (ho : OnceE (l ++ E)) (hroom : n - E.length < l.length) : allV n E l = (-1, 4) ∧ allE n E l = E := by
  have h : allV n E l = (-1, 4) := by
    unfold allV
    rw [chk_of_ok hr ho, if_neg (by simp), if_pos hroom]
  refine ⟨h, ?_⟩
  unfold allE
  rw [h, if_neg (by simp)]
/-- One of the events is cancelled. -/
theorem cancel_step {x : Ev} {l Z E : List Ev} (hp : E.Perm (x :: (l ++ Z))) (ho : OnceE E) : findE x.name E = some x ∧ (delE x.name E).Perm (l ++ Z) := by
  have hx : x ∈ E := hp.mem_iff.2 (List.mem_cons_self ..)
  refine ⟨(findE_some ho).2 ⟨hx, rfl⟩, ?_⟩
  exact List.Perm.cons_inv ((delE_perm ho hx).symm.trans hp)
/-- What is wrong with an event, and told. -/
def WrongB (Z M : List Ev) (k : Nat) (b : Ev) (wd : Int) : Prop := chkE Z ((M.take k ++ b :: M.drop k) ++ [b]) = ((k : Int), wd) ∧ chkE Z [b] = (0, wd) ∧ decide (RightE b) = (wd == 101) ∧ (wd = 100 ∨ wd = 101)
theorem wrongB_bad {Z M : List Ev} {k : Nat} {b : Ev} (hr : ∀ x ∈ M, RightE x) (hb : ¬ RightE b) (hk : k ≤ M.length) : WrongB Z M k b 100 :=
  ⟨chk_bad hr hb hk, chk_one hb, decide_eq_false hb, .inl rfl⟩
theorem wrongB_twice {Z M : List Ev} {k : Nat} {b : Ev} (hr : ∀ x ∈ M, RightE x) (hb : RightE b) (ho : OnceE (M ++ Z)) (hn : ∃ y ∈ Z, y.name = b.name) (hk : k ≤ M.length) : WrongB Z M k b 101 := by
  refine ⟨chk_twice hr hb ho hn hk, ?_, decide_eq_true hb, .inr rfl⟩
  have := chk_twice (M := []) (k := 0) (E := Z) (fun x hx => by cases hx) hb (once_sub ho (List.sublist_append_right _ _)) hn (Nat.le_refl _)
  have e : ∀ x : Ev, chkE Z [x] = (0, 101) ↔ chkE Z [x] = (0, 101) := fun _ => Iff.rfl
  have h0 : chkE Z [b, b] = (0, 101) := this
  have hi : idxI (fun x => !decide (RightE x)) [b] = -1 := by
    unfold idxI
    simp [List.findIdx?_cons, hb]
  obtain ⟨y, hy, hyn⟩ := hn
  have hd : dupI Z [b] = (0 : Nat) := dupI_at (by simp) (fun i hi => by omega) (by
    unfold dupB
    simp only [List.getElem?_cons_zero, List.take_zero, List.any_append]
    rw [Bool.or_eq_true]
    left
    rw [List.any_eq_true]
    exact ⟨y, hy, by simpa using hyn⟩)
  unfold chkE
  rw [hi, hd, if_neg (by omega), if_pos (by omega)]
  rfl
/-- An event with the name of one that is there. -/
theorem wrongB_first {S Z : List Ev} {h k : Nat} {b x : Ev} (hr : ∀ x ∈ S, RightE x) (ho : OnceE S) (hp : Z.Perm (S.take h)) (hx : S[0]? = some x) (h0 : 0 < h) (hb : RightE b) (hn : x.name = b.name) (hk : k ≤ (S.drop h).length) : WrongB Z (S.drop h) k b 101 := by
  refine wrongB_twice (fun y hy => hr y (List.mem_of_mem_drop hy)) hb ?_ ⟨x, hp.mem_iff.2 ?_, hn⟩ hk
  · have h1 : OnceE (S.take h ++ S.drop h) := by rw [List.take_append_drop]; exact ho
    exact (h1.perm List.perm_append_comm).perm (List.Perm.append_left _ hp.symm)
  · have h2 : (S.take h)[0]? = some x := by rw [List.getElem?_take, if_pos h0]; exact hx
    exact List.mem_of_getElem? h2
theorem longN_succ (k : Nat) : longN (k + 1) = longN k ++ [longE k] := by
  unfold longN
  rw [List.range_succ, List.map_append]
  rfl
/-- One more of them is stored. -/
theorem long_set {k : Nat} (hk : k < 61) : (longN k ++ (List.replicate 61 noEv).drop k).set k (longE k) = longN (k + 1) ++ (List.replicate 61 noEv).drop (k + 1) := by
  have h1 : (List.replicate 61 noEv).drop k = noEv :: (List.replicate 61 noEv).drop (k + 1) := by
    rw [List.drop_eq_getElem_cons (by rw [List.length_replicate]; exact hk), List.getElem_replicate]
  rw [List.set_append_right _ _ (by rw [longN_len]; exact Nat.le_refl _), longN_len, Nat.sub_self, h1, longN_succ]
  simp
theorem long_get {k : Nat} (hk : k < 61) : (longN k ++ (List.replicate 61 noEv).drop k)[k]? = some noEv := by
  rw [List.getElem?_append_right (by rw [longN_len]; exact Nat.le_refl _), longN_len, Nat.sub_self, List.getElem?_drop, Nat.add_zero, List.getElem?_replicate, if_pos hk]
theorem long_end : longN 61 ++ (List.replicate 61 noEv).drop 61 = longN 61 := by
  rw [List.drop_of_length_le (by simp), List.append_nil]
theorem long_start : longN 0 ++ (List.replicate 61 noEv).drop 0 = List.replicate 61 noEv := rfl
theorem long_len {k : Nat} (hk : k ≤ 61) : (longN k ++ (List.replicate 61 noEv).drop k).length = 61 := by
  rw [List.length_append, longN_len, List.length_drop, List.length_replicate]
  omega
theorem long_take {m n : Nat} (h : m ≤ n) : (longN n).take m = longN m := by
  unfold longN
  rw [← List.map_take, List.take_range, Nat.min_eq_left h]
theorem long_last {m : Nat} (h : m ≤ 60) : (longN m ++ [longE 60]).Sublist (longN 61) := by
  rw [longN_succ 60]
  refine List.Sublist.append ?_ (List.Sublist.refl _)
  rw [← long_take h]
  exact List.take_sublist _ _
theorem long_drop {m k : Nat} (h : k < m) : (longN m).drop k = longE k :: (longN m).drop (k + 1) := by
  have := longN_at h
  obtain ⟨hi, he⟩ := List.getElem?_eq_some_iff.1 this
  rw [List.drop_eq_getElem_cons hi, he]
/-- What stands behind a switch, handed on once for its branches. -/
theorem viaU {T : Type} {P : Program} {o : Oper} {K K1 K2 : Act → World → Prop} {Q : Exit → Act → World → Prop} {a : Act} {r : Result Next} (F : T → World → Prop) (vs : T → List (Nat × Value))
    (t : ∀ q W, F q W → K2 ((vs q).foldl (fun a p => a.put (some p.1) p.2) a) W)
    (h : (∀ q W, F q W → K2 ((vs q).foldl (fun a p => a.put (some p.1) p.2) a) W) → o.upon P a K (Exit.then K1 (Exit.then K2 Q)) r) : o.upon P a K (Exit.then K1 (Exit.then K2 Q)) r := h t
/-- Its use at a frame. -/
theorem useU {K : Act → World → Prop} {F : (Nat → Value) → World → Prop} {A : Array Value} {W : World} {p : (Nat → Value) → Act} (hT : ∀ q W, F q W → K (p q) W) (hA : p (fun n => A.getD n undef) = ⟨A, []⟩) (hF : F (fun n => A.getD n undef) W) : K ⟨A, []⟩ W := hA ▸ hT _ _ hF
end Go.Proofs.Ytmcgipilopfgoaa

/-
  EvqOrder.
-/
namespace Go.Proofs.Ytmcgipilopfgoaa
open Go Go.RowKit Go.ChangeMaps
attribute [local go_sem ↓] Go.wp_at_zero Go.wp_at_succ
attribute [local go_sem] Oper.semAt_some wide_fn wide_depth wide_fnR wide_depthR

theorem KeptB.right {W W' : World} {b : Nat} {xs : List Value} {t : TypeId} {ft gt gt' : Nat → Prop} (h : KeptB W b xs t (fun k => ft k ∨ gt k)) (hs : ∀ k, gt' k → gt k ∨ W.heap.size ≤ k) (hf : Fr0 gt W W') : KeptB W' b xs t (fun k => ft k ∨ gt' k) :=
  h.step2 (fun k hk => hk.elim (fun h => .inl (.inl h)) (fun h => (hs k h).elim (fun g => .inl (.inr g)) .inr)) (hf.mono (fun _ _ h => .inr h))
theorem KeptB.left {W W' : World} {b : Nat} {xs : List Value} {t : TypeId} {ft ft' gt : Nat → Prop} (h : KeptB W b xs t (fun k => ft k ∨ gt k)) (hs : ∀ k, ft' k → ft k ∨ W.heap.size ≤ k) (hf : Fr0 ft W W') : KeptB W' b xs t (fun k => ft' k ∨ gt k) :=
  h.step2 (fun k hk => hk.elim (fun h => (hs k h).elim (fun g => .inl (.inl g)) .inr) (fun h => .inl (.inr h))) (hf.mono (fun _ _ h => .inl h))
/-- Where a slice's rest starts. -/
def dA (cap n : Nat) (a : Option Addr) : Option Addr := if cap = n then a else a.map (fun x => x.add (n * 5))
theorem EsIn.rest {W : World} {a : Option Addr} {S : List Ev} (h : EsIn W a S) {cap : Nat} (hc : S.length ≤ cap) (n : Nat) : EsIn W (dA cap n a) (S.drop n) := by
  unfold dA
  split
  · next e =>
    rw [List.drop_of_length_le (by omega)]
    exact esIn_nil W a
  · cases a with
    | none =>
      intro i x hx
      rw [List.getElem?_drop] at hx
      obtain ⟨g, o, e, _⟩ := h _ x hx
      cases e
    | some A =>
      intro i x hx
      have hx' := hx
      rw [List.getElem?_drop] at hx'
      obtain ⟨g, o, e, _⟩ := h _ x hx'
      injection e with e
      subst e
      have h1 := h.drop n i x hx
      rw [Option.map_some, Addr.add_mid]
      exact h1
theorem dA_block {cap n : Nat} {a : Option Addr} {g o : Nat} {s : Option Nat} (h : dA cap n a = some ⟨g, o, s⟩) : ∃ o' s', a = some ⟨g, o', s'⟩ := by
  unfold dA at h
  split at h
  · exact ⟨o, s, h⟩
  · cases a with
    | none => cases h
    | some A =>
      rw [Option.map_some] at h
      injection h with h
      have hb : (A.add (n * 5)).block = A.block := by unfold Addr.add; split <;> rfl
      rw [h] at hb
      obtain ⟨g', o', s'⟩ := A
      exact ⟨o', s', by rw [show g = g' from hb]⟩
set_option maxRecDepth 100000 in
set_option maxHeartbeats 4000000 in
theorem EvqOrder_any {w : World} {u : Value} {xs : List Sme} {t : Int} (hu : SmesAt w u xs) (ht : 0 ≤ t ∧ t < 256) :
    Calls Try.prog 8 #[u, .int .u8 t] w fun e w' => e = .returned (.bool true) ∧ Fr0 none' w w' := by
  have HU := Lib.hid (fun (W : World) (hf : Fr0 none' w W) => events_any xs 60 (by omega) W (hu.later hf))
  obtain ⟨S, hS⟩ : ∃ S, evsE xs 60 = S := ⟨_, rfl⟩
  have R0 := Lib.hid (evsE_right (xs := xs) (most := 60))
  have O0 := Lib.hid (evsE_once xs 60)
  have L0 := Lib.hid (evsE_le xs 60)
  rw [hS] at HU R0 O0 L0
  clear hu hS
  go_enter Try.func8, Try.ntmps8
  go_wp2_with fail
  refine (awake_any w).mono ?_
  rintro e w1 ⟨rfl, f1⟩
  have F1 := Lib.hid f1
  clear f1
  go_wp2_with fail
  refine (HU.out w1 F1.out).mono ?_
  rintro e w2 ⟨r, rfl, hr, f2⟩
  have hr0 := hr
  obtain ⟨va, vc, rfl, _, hva⟩ := EsIn.of_own hr
  have hcap : S.length ≤ vc := by
    rcases hr0.2 with ⟨h0, h1⟩ | ⟨g, cap, cur, hv, _, _, hn, _⟩
    · omega
    · injection hv with _ _ h; omega
  have hvb : ∀ g o s, va = some ⟨g, o, s⟩ → g < w2.heap.size := fun g o s e => by
    subst e
    rcases hr0.2 with ⟨h0, h1⟩ | ⟨g', cap, cur, hv, _, hg, hn, _⟩
    · cases h0
    · injection hv with hv
      injection hv with hv
      injection hv with hv
      subst hv
      exact (Array.getElem?_eq_some_iff.1 hg).1
  have HVb := Lib.hid hvb
  clear hvb
  have F2 := Lib.hid (F1.out.trans f2)
  have Hva := Lib.hid hva
  clear f2 hr hr0 hva HU
  obtain ⟨L, hL⟩ : ∃ n, S.length = n := ⟨_, rfl⟩
  rw [hL] at L0 hcap ⊢
  have N0 := Lib.hid hL
  clear hL
  have hL60 : L ≤ 60 := L0.out
  obtain ⟨n, hn, hnL⟩ : ∃ n : Nat, (t % ((L : Int) + 1)) = n ∧ n ≤ L := by
    have h1 := Int.emod_nonneg t (show ((L : Int) + 1) ≠ 0 by omega)
    have h2 := Int.emod_lt_of_pos t (show (0 : Int) < (L : Int) + 1 by omega)
    exact ⟨(t % ((L : Int) + 1)).toNat, by omega, by omega⟩
  have w1' : IntKind.i64.wrap ((L : Int) + 1) = (L : Int) + 1 := IntWalk.i64_in _ (by omega)
  have w2' : Int.tmod t ((L : Int) + 1) = (n : Int) := by rw [Int.tmod_eq_emod_of_nonneg ht.1]; exact hn
  have w3' : IntKind.i64.wrap t = t := IntWalk.i64_in _ (by omega)
  have w4' : IntKind.i64.wrap (n : Int) = (n : Int) := IntWalk.i64_in _ (by omega)
  have b1 : ((L : Int) + 1 == 0) = false := by simp; omega
  go_wp2_with fail
  refine (filled_any (c := 60) (cap := vc) S Hva.out N0.out hL60 (by omega) R0.out O0.out).mono ?_
  rintro e w3 ⟨qb, ft, r, rfl, hq, hr, hge, hno, hf⟩
  obtain ⟨Z, hZ⟩ : ∃ Z, putsE S [] = Z := ⟨_, rfl⟩
  rw [hZ] at hq hr
  have HZ := Lib.hid hZ
  have HQ := Lib.hid (show St w w3 qb 60 L Z ft from ⟨hq, F2.out.trans hf, fun k hk => Nat.le_trans F2.out.size (hge k hk)⟩)
  have HR := Lib.hid (show KeptR w3 w2.heap.size r Z ft from ⟨hr, hno⟩)
  have Hva := Lib.hid (Hva.out.later hf)
  have F23 := Lib.hid hf
  clear hq hr hge hno hf hZ
  have n1 : (0 : Int) ≤ (n : Int) := by omega
  have n2 : (n : Int) ≤ (L : Int) := by omega
  have n3 : (n : Int) ≤ (vc : Int) := by omega
  have n4 : (L : Int) ≤ (vc : Int) := by omega
  go_wp2_with fail
  refine wp_region_held_drew (S := fun W' => Fr0 none' w3 W') (by kernel_rfl) ((Fr0.refl none' w3).drew) (fun hHeld => ?_)
  refine take_on (i := 0) (v := .slice va L vc) rfl (by kernel_rfl) (by kernel_rfl) (by kernel_rfl) (fun _ _ _ h => h) (by kernel_rfl) (fun W' hSW => ?_) (by assumption) ?_
  · first | (go_simp; done) | exact rfl | (go_simp; rfl) | (go_simp; omega)
  try simp only [Act.put, List.setIfInBounds_toArray, List.set_cons_zero, List.set_cons_succ]
  refine take_on (i := 1) (v := .int .i64 n) rfl (by kernel_rfl) (by kernel_rfl) (by kernel_rfl) (fun _ _ _ h => h) (by kernel_rfl) (fun W' hSW => ?_) (by assumption) ?_
  · first | (go_simp; done) | exact rfl | (go_simp; rfl) | (go_simp; omega)
  try simp only [Act.put, List.setIfInBounds_toArray, List.set_cons_zero, List.set_cons_succ]
  refine take_on (i := 2) (v := .slice (dA vc n va) (L - n) (vc - n)) rfl (by kernel_rfl) (by kernel_rfl) (by kernel_rfl) (fun _ _ _ h => h) (by kernel_rfl) (fun W' hSW => ?_) (by assumption) ?_
  · go_simp
    unfold dA
    first | done | rfl | simp
  try simp only [Act.put, List.setIfInBounds_toArray, List.set_cons_zero, List.set_cons_succ]
  refine take_on (i := 3) (v := .slice va L vc) rfl (by kernel_rfl) (by kernel_rfl) (by kernel_rfl) (fun _ _ _ h => h) (by kernel_rfl) (fun W' hSW => ?_) (by assumption) ?_
  · first | (go_simp; done) | exact rfl | (go_simp; rfl) | (go_simp; omega)
  try simp only [Act.put, List.setIfInBounds_toArray, List.set_cons_zero, List.set_cons_succ]
  refine take_on (i := 4) (v := .int .i64 n) rfl (by kernel_rfl) (by kernel_rfl) (by kernel_rfl) (fun _ _ _ h => h) (by kernel_rfl) (fun W' hSW => ?_) (by assumption) ?_
  · first | (go_simp; done) | exact rfl | (go_simp; rfl) | (go_simp; omega)
  try simp only [Act.put, List.setIfInBounds_toArray, List.set_cons_zero, List.set_cons_succ]
  refine take_on (i := 5) (v := .slice va n vc) rfl (by kernel_rfl) (by kernel_rfl) (by kernel_rfl) (fun _ _ _ h => h) (by kernel_rfl) (fun W' hSW => ?_) (by assumption) ?_
  · first | (go_simp; done) | exact rfl | (go_simp; rfl) | (go_simp; omega)
  try simp only [Act.put, List.setIfInBounds_toArray, List.set_cons_zero, List.set_cons_succ]
  refine take_call (i := 6) rfl (by kernel_rfl) (by kernel_rfl) (fun K hK => ?_)
  go_simp
  obtain ⟨lb, hlb⟩ : ∃ lb, w3.heap.size = lb := ⟨_, rfl⟩
  obtain ⟨W4, hW4⟩ : ∃ W, (w3.alloc (.cells #[.slice (dA vc n va) (L - n) (vc - n), .slice va n vc] 28)).drew = W := ⟨_, rfl⟩
  have hf : Fr0 none' w3 W4 := by rw [← hW4]; exact ((Fr0.refl none' w3).alloc _).drew
  have HT := Lib.hid (show TwoRowsE W4 lb (dA vc n va) va (L - n) n (vc - n) vc (S.drop n) (S.take n) from ⟨by rw [← hW4, ← hlb]; exact World.alloc_heap_new w3 _, (Hva.out.rest (by rw [N0.out]; exact hcap) n).later hf, (Hva.out.take n).later hf, by rw [List.length_drop, N0.out], by rw [List.length_take, N0.out]; omega, by omega, by omega⟩)
  rw [hW4]
  try rw [hlb]
  have F34 := Lib.hid hf
  clear hW4 hlb hf
  refine hK.out _ _ F34.out (fun hHeld => ?_)
  clear hK K
  try simp only [Act.put, List.setIfInBounds_toArray, List.set_cons_zero, List.set_cons_succ]
  refine take_call (i := 7) rfl (by kernel_rfl) (by kernel_rfl) (fun K hK => ?_)
  go_simp
  refine (Concat2E lb _ _ _ _ _ _ _ _ W4 HT.out).mono ?_
  rintro e w5 ⟨v5, rfl, hr5, hf5⟩
  obtain ⟨ca, cc, rfl, hcl, hca⟩ := EsIn.of_own hr5
  have F35 := Lib.hid (F34.out.trans hf5)
  have Hca := Lib.hid hca
  have Hcl := Lib.hid hcl
  clear hr5 hf5 hca hcl HT
  go_wp2_with fail
  refine hK.out _ _ F35.out (fun hHeld => ?_)
  clear hK K
  try simp only [Act.put, List.setIfInBounds_toArray, List.set_cons_zero, List.set_cons_succ]
  refine take_call (i := 8) rfl (by kernel_rfl) (by kernel_rfl) (fun K hK => ?_)
  go_simp
  refine (filled_any (c := 60) (cap := cc) (n := L) (S.drop n ++ S.take n) Hca.out (by rw [List.length_append, List.length_drop, List.length_take, N0.out]; omega) (by omega) (by omega) (fun x hx => R0.out x (by
    rcases List.mem_append.1 hx with h | h
    · exact List.mem_of_mem_drop h
    · exact List.mem_of_mem_take h)) (OnceE.perm O0.out (by
      have := List.perm_append_comm (l₁ := S.take n) (l₂ := S.drop n)
      rwa [List.take_append_drop] at this))).mono ?_
  rintro e w6 ⟨pb, gt, r6, rfl, hq, hr, hge, hno, hf⟩
  clear hr hno
  have hzp : putsE (S.drop n ++ S.take n) [] = Z := by
    rw [← HZ.out]
    refine (putsE_ext ?_ O0.out).symm
    have := List.perm_append_comm (l₁ := S.take n) (l₂ := S.drop n)
    rwa [List.take_append_drop] at this
  rw [hzp] at hq
  have F36 := Lib.hid (F35.out.trans hf)
  have HP := Lib.hid (show St w w6 pb 60 L Z gt from ⟨hq, (HQ.out.2.1.trans F35.out).trans hf, fun k hk => Nat.le_trans (HQ.out.2.1.trans F35.out).size (hge k hk)⟩)
  have HD := Lib.hid (show ∀ k, ft k → ¬ gt k from fun k hk hg => by have := HQ.out.1.lt k hk; have := hge k hg; have := F35.out.size; omega)
  have HR := Lib.hid (show KeptR w6 w2.heap.size r Z (fun k => ft k ∨ gt k) from ⟨(HR.out.later F36.out).1, fun g hg hk => hk.elim (HR.out.2 g hg) (fun h => by have := hge g h; have := (HR.out.1.lt g hg).2; have := F35.out.size; omega)⟩)
  have HQ := Lib.hid (HQ.out.later F36.out)
  have Hva := Lib.hid (Hva.out.later F36.out)
  clear hq hge hf hzp Hca Hcl
  go_wp2_with fail
  refine hK.out _ _ F36.out (fun hHeld => ?_)
  clear hK K
  try simp only [Act.put, List.setIfInBounds_toArray, List.set_cons_zero, List.set_cons_succ]
  refine take_on (i := 9) (v := .tuple #[.pointer (some ⟨pb, 0, none⟩), r6]) rfl (by kernel_rfl) (by kernel_rfl) (by kernel_rfl) (fun _ _ _ h => h) (by kernel_rfl) (fun W' hSW => ?_) (by assumption) ?_
  · first | (go_simp; done) | exact rfl | (go_simp; rfl) | (go_simp; omega)
  try simp only [Act.put, List.setIfInBounds_toArray, List.set_cons_zero, List.set_cons_succ]
  refine take_on (i := 10) (v := .pointer (some ⟨pb, 0, none⟩)) rfl (by kernel_rfl) (by kernel_rfl) (by kernel_rfl) (fun _ _ _ h => h) (by kernel_rfl) (fun W' hSW => ?_) (by assumption) ?_
  · first | (go_simp; done) | exact rfl | (go_simp; rfl) | (go_simp; omega)
  try simp only [Act.put, List.setIfInBounds_toArray, List.set_cons_zero, List.set_cons_succ]
  refine take_on (i := 11) (v := r6) rfl (by kernel_rfl) (by kernel_rfl) (by kernel_rfl) (fun _ _ _ h => h) (by kernel_rfl) (fun W' hSW => ?_) (by assumption) ?_
  · first | (go_simp; done) | exact rfl | (go_simp; rfl) | (go_simp; omega)
  try simp only [Act.put, List.setIfInBounds_toArray, List.set_cons_zero, List.set_cons_succ]
  refine take_on (i := 12) (v := .pointer (some ⟨pb, 0, none⟩)) rfl (by kernel_rfl) (by kernel_rfl) (by kernel_rfl) (fun _ _ _ h => h) (by kernel_rfl) (fun W' hSW => ?_) (by assumption) ?_
  · first | (go_simp; done) | exact rfl | (go_simp; rfl) | (go_simp; omega)
  try simp only [Act.put, List.setIfInBounds_toArray, List.set_cons_zero, List.set_cons_succ]
  refine take_on (i := 13) (v := r6) rfl (by kernel_rfl) (by kernel_rfl) (by kernel_rfl) (fun _ _ _ h => h) (by kernel_rfl) (fun W' hSW => ?_) (by assumption) ?_
  · first | (go_simp; done) | exact rfl | (go_simp; rfl) | (go_simp; omega)
  try simp only [Act.put, List.setIfInBounds_toArray, List.set_cons_zero, List.set_cons_succ]
  refine wpAnyH_done (by kernel_rfl) ?_ _
  clear hHeld F34 F35
  go_wp2_with fail
  refine (filled_any (c := 60) (cap := vc) (n := n) (S.take n) (Hva.out.take n) (by rw [List.length_take, N0.out]; omega) (by omega) (by omega) (fun x hx => R0.out x (List.mem_of_mem_take hx)) (once_sub O0.out (List.take_sublist _ _))).mono ?_
  rintro e w7 ⟨sb, st, r7, rfl, hq, hr, hge, hno, hf⟩
  clear hr hno
  have HS := Lib.hid (show St w w7 sb 60 n (putsE (S.take n) []) st from ⟨hq, HP.out.2.1.trans hf, fun k hk => Nat.le_trans HP.out.2.1.size (hge k hk)⟩)
  have HG := Lib.hid hge
  have HSd := Lib.hid (show ∀ k, (ft k ∨ gt k) → ¬ st k from fun k hk hs => by
    have := hge k hs
    rcases hk with hk | hk
    · have := HQ.out.1.lt k hk; omega
    · have := HP.out.1.lt k hk; omega)
  have HG0 := Lib.hid (show Fr0 none' w2 w6 from F23.out.trans F36.out)
  have hdA : (if vc = n then va else Option.map (fun x => x.add (n * 5)) va) = dA vc n va := rfl
  have hva7 : ∀ g o s, dA vc n va = some ⟨g, o, s⟩ → ¬ st g := fun g o s e hk => by
    obtain ⟨o', s', e2⟩ := dA_block e
    have h1 := hge g hk
    have h2 := HVb.out g o' s' e2
    have h3 := (F2.out.trans (Fr0.refl none' w2)).size
    have h4 := HG0.out.size
    omega
  have Hva7 := Lib.hid hva7
  have HQ := Lib.hid (HQ.out.later hf)
  have HP := Lib.hid (HP.out.later hf)
  have HR := Lib.hid (show KeptR w7 w2.heap.size r Z (fun k => (ft k ∨ gt k) ∨ st k) from ⟨(HR.out.later hf).1, fun g hg hk => hk.elim (HR.out.2 g hg) (fun h => by have := hge g h; have := (HR.out.1.lt g hg).2; omega)⟩)
  have Hva := Lib.hid (Hva.out.later hf)
  clear hq hge hf hva7
  go_wp2_with fail
  have hpz : OnceE (S.drop n ++ putsE (S.take n) []) := OnceE.perm O0.out (by
    have h1 := List.perm_append_comm (l₁ := S.take n) (l₂ := S.drop n)
    rw [List.take_append_drop] at h1
    have h2 := putsE_perm (S.take n) []
    rw [List.append_nil] at h2
    exact h1.trans (List.Perm.append_left _ h2.symm))
  obtain ⟨e1, e2⟩ := all_ok (n := 60) (E := putsE (S.take n) []) (l := S.drop n) (fun x hx => R0.out x (List.mem_of_mem_drop hx)) hpz (by rw [putsE_length, List.length_take, List.length_drop, List.length_nil, N0.out]; omega)
  rw [← putsE_append, List.take_append_drop, HZ.out] at e2
  have HA := HS.out.1.putAll (m := L - n) (cap := vc - n) (S.drop n) (Hva.out.rest (by rw [N0.out]; exact hcap) n) (by rw [List.length_drop, N0.out]) (by omega) (by omega) Hva7.out
  rw [e1, e2] at HA
  clear hpz e1 e2
  refine HA.mono ?_
  rintro e w8 ⟨rfl, hq, hf⟩
  clear HA
  have hs := @qgrow_or st w7 w8
  have HR := Lib.hid (HR.out.right hs hf)
  have HR := Lib.hid (show KeptR w8 w2.heap.size r Z (fun k => ft k ∨ gt k) from ⟨HR.out.1, fun g hg hk => HR.out.2 g hg (.inl hk)⟩)
  have HQ := Lib.hid (HQ.out.other HS.out.2.2 (fun k hk => HSd.out k (.inl hk)) hf)
  have HP := Lib.hid (HP.out.other HS.out.2.2 (fun k hk => HSd.out k (.inr hk)) hf)
  have HS := Lib.hid (HS.out.step2 hq hs hf)
  clear hq hs hf hdA
  have HZl := Lib.hid (show Z.length ≤ 60 from HQ.out.1.le.1)
  obtain ⟨ra, rc, hra, -⟩ := HR.out.slice
  subst hra
  go_wp2_with fail
  refine HQ.out.1.all.mono ?_
  rintro e wA ⟨vA, rfl, hr1, hf⟩
  have HQ := Lib.hid (HQ.out.later hf)
  have HP := Lib.hid (HP.out.later hf)
  have HS := Lib.hid (HS.out.later hf)
  have HR := Lib.hid (HR.out.later hf)
  clear hf
  obtain ⟨_, _, hRe, hrz⟩ := HR.out.slice
  injection hRe with hE1 hE2 hE3
  subst hE1
  obtain ⟨sa, sc, rfl, _, hsa⟩ := EsIn.of_own hr1
  have HE := Lib.hid (sameEs_any sa ra _ _ sc rc Z Z wA rfl rfl (by have := HZl.out; omega) (by have := HZl.out; omega) hsa hrz)
  clear hr1 hsa hrz hE2 hE3
  rw [decide_eq_true rfl] at HE
  go_wp2_with fail
  refine HE.out.mono ?_
  rintro e wB ⟨rfl, hf⟩
  clear HE
  have HQ := Lib.hid (HQ.out.later hf)
  have HP := Lib.hid (HP.out.later hf)
  have HS := Lib.hid (HS.out.later hf)
  have HR := Lib.hid (HR.out.later hf)
  clear hf
  go_wp2_with fail
  refine HP.out.1.all.mono ?_
  rintro e wA ⟨vA, rfl, hr1, hf⟩
  have HQ := Lib.hid (HQ.out.later hf)
  have HP := Lib.hid (HP.out.later hf)
  have HS := Lib.hid (HS.out.later hf)
  have HR := Lib.hid (HR.out.later hf)
  clear hf
  obtain ⟨_, _, hRe, hrz⟩ := HR.out.slice
  injection hRe with hE1 hE2 hE3
  subst hE1
  obtain ⟨sa, sc, rfl, _, hsa⟩ := EsIn.of_own hr1
  have HE := Lib.hid (sameEs_any sa ra _ _ sc rc Z Z wA rfl rfl (by have := HZl.out; omega) (by have := HZl.out; omega) hsa hrz)
  clear hr1 hsa hrz hE2 hE3
  rw [decide_eq_true rfl] at HE
  go_wp2_with fail
  refine HE.out.mono ?_
  rintro e wB ⟨rfl, hf⟩
  clear HE
  have HQ := Lib.hid (HQ.out.later hf)
  have HP := Lib.hid (HP.out.later hf)
  have HS := Lib.hid (HS.out.later hf)
  have HR := Lib.hid (HR.out.later hf)
  clear hf
  go_wp2_with fail
  refine HS.out.1.all.mono ?_
  rintro e wA ⟨vA, rfl, hr1, hf⟩
  have HQ := Lib.hid (HQ.out.later hf)
  have HP := Lib.hid (HP.out.later hf)
  have HS := Lib.hid (HS.out.later hf)
  have HR := Lib.hid (HR.out.later hf)
  clear hf
  obtain ⟨_, _, hRe, hrz⟩ := HR.out.slice
  injection hRe with hE1 hE2 hE3
  subst hE1
  obtain ⟨sa, sc, rfl, _, hsa⟩ := EsIn.of_own hr1
  have HE := Lib.hid (sameEs_any sa ra _ _ sc rc Z Z wA rfl rfl (by have := HZl.out; omega) (by have := HZl.out; omega) hsa hrz)
  clear hr1 hsa hrz hE2 hE3
  rw [decide_eq_true rfl] at HE
  go_wp2_with fail
  refine HE.out.mono ?_
  rintro e wB ⟨rfl, hf⟩
  clear HE
  have HQ := Lib.hid (HQ.out.later hf)
  have HP := Lib.hid (HP.out.later hf)
  have HS := Lib.hid (HS.out.later hf)
  have HR := Lib.hid (HR.out.later hf)
  clear hf
  go_wp2_with fail
  clear HS
  go_loopw [15, 16, 17, 18, 19, 20, 21, 22, 106] (fun _ _ _ _ _ _ _ _ i wr => ∃ (k : Nat) (fk gk : Nat → Prop), k ≤ Z.length ∧ i = .int .i64 k ∧ Hid (St w wr qb 60 L (Z.drop k) fk) ∧ Hid (St w wr pb 60 L (Z.drop k) gk) ∧ Hid (∀ k, fk k → ¬ gk k) ∧ Hid (KeptR wr w2.heap.size (.slice ra Z.length rc) Z (fun k => fk k ∨ gk k))) (fun _ _ _ _ _ _ _ _ i _ => Z.length - (Go.RowKit.intOf i).toNat)
  case atStart => exact ⟨0, ft, gt, Nat.zero_le _, rfl, HQ, HP, HD, HR⟩
  case round =>
    obtain ⟨k, fk, gk, hk, rfl, HQ, HP, HD, HR⟩ := hrel
    have hz60 := HZl.out
    by_cases hlt : k < Z.length
    · obtain ⟨x, hx⟩ : ∃ x, Z[k]? = some x := ⟨_, List.getElem?_eq_getElem hlt⟩
      have hdr : Z.drop k = x :: Z.drop (k + 1) := by
        rw [List.drop_eq_getElem_cons hlt]
        congr 1
        rw [List.getElem?_eq_getElem hlt] at hx
        exact Option.some.inj hx
      obtain ⟨_, _, hEe, hEi⟩ := HR.out.slice
      injection hEe with hE1 hE2 hE3
      subst hE1
      obtain ⟨g2, o, rfl, hxc⟩ := hEi k x hx
      obtain ⟨x0, x1, x2, x3, x4⟩ := hxc
      have k1 : (0 : Int) ≤ (k : Int) := by omega
      have k2 : (k : Int) < (Z.length : Int) := by omega
      have w5' : IntKind.i64.wrap ((Z.length : Int) - (k : Int)) = ((Z.length - k : Nat) : Int) := by rw [IntWalk.i64_in _ (by omega)]; omega
      have w6' : IntKind.i64.wrap (((Z.length - k : Nat) : Int) - 1) = ((Z.length - (k + 1) : Nat) : Int) := by rw [IntWalk.i64_in _ (by omega)]; omega
      clear hx hE2 hE3 hEi
      go_wp2_with fail
      obtain ⟨ob, hob⟩ : ∃ ob, (wr).heap.size = ob := ⟨_, rfl⟩
      obtain ⟨W3, hW⟩ : ∃ W, (wr).alloc (.cells #[.int .i64 x.key.time, .int .i64 x.key.source, .int .i64 x.key.seq, .int .i64 x.to, .int .i64 x.value] 34) = W := ⟨_, rfl⟩
      have hf : Fr0 none' (wr) W3 := by rw [← hW]; exact (Fr0.refl _ _).alloc _
      have HB0 := Lib.hid (show KeptB W3 ob (cev x) 34 (fun k => fk k ∨ gk k) from ⟨by rw [← hW, ← hob]; exact World.alloc_heap_new _ _, fun hk => by
        rcases hk with hk | hk
        · have := HQ.out.1.lt _ hk; omega
        · have := HP.out.1.lt _ hk; omega⟩)
      have HQ := Lib.hid (HQ.out.later hf)
      have HP := Lib.hid (HP.out.later hf)
      have HR := Lib.hid (HR.out.later hf)
      rw [hW]
      try rw [hob]
      clear hW hob
      clear x0 x1 x2 x3 x4
      refine HQ.out.1.least.mono ?_
      rintro e w4 ⟨rfl, hf⟩
      have HQ := Lib.hid (HQ.out.later hf)
      have HP := Lib.hid (HP.out.later hf)
      have HR := Lib.hid (HR.out.later hf)
      have HB0 := Lib.hid (HB0.out.later hf)
      clear hf
      rw [hdr] at HQ HP ⊢
      simp only [lstE, evV, List.isEmpty_cons, Bool.not_false]
      go_wp2_with fail
      obtain ⟨ob, hob⟩ : ∃ ob, (w4).heap.size = ob := ⟨_, rfl⟩
      obtain ⟨W5, hW⟩ : ∃ W, (w4).alloc (.cells #[.int .i64 x.key.time, .int .i64 x.key.source, .int .i64 x.key.seq, .int .i64 x.to, .int .i64 x.value] 34) = W := ⟨_, rfl⟩
      have hf : Fr0 none' (w4) W5 := by rw [← hW]; exact (Fr0.refl _ _).alloc _
      have HB1 := Lib.hid (show KeptB W5 ob (cev x) 34 (fun k => fk k ∨ gk k) from ⟨by rw [← hW, ← hob]; exact World.alloc_heap_new _ _, fun hk => by
        rcases hk with hk | hk
        · have := HQ.out.1.lt _ hk; omega
        · have := HP.out.1.lt _ hk; omega⟩)
      have HQ := Lib.hid (HQ.out.later hf)
      have HP := Lib.hid (HP.out.later hf)
      have HR := Lib.hid (HR.out.later hf)
      rw [hW]
      try rw [hob]
      clear hW hob
      have HB0 := Lib.hid (HB0.out.later hf)
      clear hf
      refine (HQ.out.1.take (by omega)).mono ?_
      rintro e w6 ⟨rfl, hq, hf⟩
      have hs := @qgrow_or fk W5 w6
      have HB0 := Lib.hid (HB0.out.left hs hf)
      have HB1 := Lib.hid (HB1.out.left hs hf)
      have HR := Lib.hid (HR.out.left hs hf)
      have HDn := Lib.hid (HP.out.apart (fun k h1 h2 => HD.out k h2 h1) hs)
      have HP := Lib.hid (HP.out.other HQ.out.2.2 (fun k h1 h2 => HD.out k h2 h1) hf)
      have HQ := Lib.hid (HQ.out.step2 hq hs hf)
      have HD := Lib.hid (fun k h1 h2 => HDn.out k h2 h1)
      clear hq hs hf
      rw [if_neg (by simp)]
      simp only [lstE, evV, List.tail_cons] at HQ ⊢
      go_wp2_with fail
      obtain ⟨ob, hob⟩ : ∃ ob, (w6).heap.size = ob := ⟨_, rfl⟩
      obtain ⟨W7, hW⟩ : ∃ W, (w6).alloc (.cells #[.int .i64 x.key.time, .int .i64 x.key.source, .int .i64 x.key.seq, .int .i64 x.to, .int .i64 x.value] 34) = W := ⟨_, rfl⟩
      have hf : Fr0 none' (w6) W7 := by rw [← hW]; exact (Fr0.refl _ _).alloc _
      have HB2 := Lib.hid (show KeptB W7 ob (cev x) 34 (fun k => qgrow fk W5 w6 k ∨ gk k) from ⟨by rw [← hW, ← hob]; exact World.alloc_heap_new _ _, fun hk => by
        rcases hk with hk | hk
        · have := HQ.out.1.lt _ hk; omega
        · have := HP.out.1.lt _ hk; omega⟩)
      have HQ := Lib.hid (HQ.out.later hf)
      have HP := Lib.hid (HP.out.later hf)
      have HR := Lib.hid (HR.out.later hf)
      rw [hW]
      try rw [hob]
      clear hW hob
      have HB0 := Lib.hid (HB0.out.later hf)
      have HB1 := Lib.hid (HB1.out.later hf)
      clear hf
      refine (HP.out.1.take (by omega)).mono ?_
      rintro e w8 ⟨rfl, hq, hf⟩
      have hs := @qgrow_or gk W7 w8
      have HB0 := Lib.hid (HB0.out.right hs hf)
      have HB1 := Lib.hid (HB1.out.right hs hf)
      have HB2 := Lib.hid (HB2.out.right hs hf)
      have HR := Lib.hid (HR.out.right hs hf)
      have HDn := Lib.hid (HQ.out.apart HD.out hs)
      have HQ := Lib.hid (HQ.out.other HP.out.2.2 HD.out hf)
      have HP := Lib.hid (HP.out.step2 hq hs hf)
      have HD := HDn
      clear hq hs hf
      rw [if_neg (by simp)]
      simp only [lstE, evV, List.tail_cons] at HP ⊢
      obtain ⟨W9, hW⟩ : ∃ W, w8.alloc (.cells #[.int .i64 x.key.time, .int .i64 x.key.source, .int .i64 x.key.seq, .int .i64 x.to, .int .i64 x.value] 34) = W := ⟨_, rfl⟩
      have hf : Fr0 none' w8 W9 := by rw [← hW]; exact (Fr0.refl _ _).alloc _
      have HB3 := Lib.hid (show W9.heap[w8.heap.size]? = some (.cells (cev x).toArray 34 (0, 0)) by rw [← hW]; exact World.alloc_heap_new _ _)
      have HQ := Lib.hid (HQ.out.later hf)
      have HP := Lib.hid (HP.out.later hf)
      have HR := Lib.hid (HR.out.later hf)
      have HB0 := Lib.hid (HB0.out.later hf)
      have HB1 := Lib.hid (HB1.out.later hf)
      have HB2 := Lib.hid (HB2.out.later hf)
      clear hf
      have a0 := cells_in HB0.out.1 0
      have a1 := cells_in HB0.out.1 1
      have a2 := cells_in HB0.out.1 2
      have a3 := cells_in HB0.out.1 3
      have a4 := cells_in HB0.out.1 4
      simp [cev] at a0 a1 a2 a3 a4
      have b0 := cells_in HB1.out.1 0
      have b1 := cells_in HB1.out.1 1
      have b2 := cells_in HB1.out.1 2
      have b3 := cells_in HB1.out.1 3
      have b4 := cells_in HB1.out.1 4
      simp [cev] at b0 b1 b2 b3 b4
      have c0 := cells_in HB2.out.1 0
      have c1 := cells_in HB2.out.1 1
      have c2 := cells_in HB2.out.1 2
      have c3 := cells_in HB2.out.1 3
      have c4 := cells_in HB2.out.1 4
      simp [cev] at c0 c1 c2 c3 c4
      have d0 := cells_in HB3.out 0
      have d1 := cells_in HB3.out 1
      have d2 := cells_in HB3.out 2
      have d3 := cells_in HB3.out 3
      have d4 := cells_in HB3.out 4
      simp [cev] at d0 d1 d2 d3 d4
      have hlen := HQ.out.1.len
      rw [List.length_drop] at hlen
      have HL := Lib.hid hlen
      clear hlen
      subst hW
      go_wp2_with fail
      refine HL.out.mono ?_
      rintro e w10 ⟨rfl, rfl⟩
      clear a0 a1 a2 a3 a4 b0 b1 b2 b3 b4 c0 c1 c2 c3 c4 d0 d1 d2 d3 d4 HL
      go_wp2_with fail
      go_roundw
      case rel => exact ⟨k + 1, _, _, by omega, by go_num, HQ, HP, HD, HR⟩
      case measure => simp [Go.RowKit.intOf]; omega
    · have hkn : k = Z.length := by omega
      subst hkn
      rw [List.drop_of_length_le (Nat.le_refl _)] at HQ HP
      go_wp2_with fail
      refine (HQ.out.1.take (by omega)).mono ?_
      rintro e w4 ⟨rfl, hq, hf⟩
      have hs := @qgrow_or fk wr w4
      have HP := Lib.hid (HP.out.other HQ.out.2.2 (fun k h1 h2 => HD.out k h2 h1) hf)
      clear hq hf hs
      rw [if_pos rfl]
      simp only [lstE, zeroEv, evV]
      go_wp2_with fail
      obtain ⟨W5, hW⟩ : ∃ W, w4.alloc (.cells #[.int .i64 0, .int .i64 0, .int .i64 0, .int .i64 0, .int .i64 0] 34) = W := ⟨_, rfl⟩
      have hf : Fr0 none' w4 W5 := by rw [← hW]; exact (Fr0.refl _ _).alloc _
      have HP := Lib.hid (HP.out.later hf)
      rw [hW]
      clear hW hf
      refine (HP.out.1.take (by omega)).mono ?_
      rintro e w6 ⟨rfl, hq, hf⟩
      have HF := Lib.hid (HP.out.2.1.trans' hf (fun i hi hs => by have := HP.out.2.2 i hs; omega))
      clear hq hf
      rw [if_pos rfl]
      simp only [lstE, zeroEv, evV]
      go_wp2_with fail
      go_ret
      exact ⟨rfl, HF.out.alloc _⟩
end Go.Proofs.Ytmcgipilopfgoaa

/-
  EvqWrong.
-/
namespace Go.Proofs.Ytmcgipilopfgoaa
open Go Go.RowKit Go.ChangeMaps
attribute [local go_sem ↓] Go.wp_at_zero Go.wp_at_succ
attribute [local go_sem] Oper.semAt_some wide_fn wide_depth wide_fnR wide_depthR

set_option maxRecDepth 100000 in
set_option maxHeartbeats 4000000 in
theorem EvqWrong_any {w : World} {u : Value} {xs : List Sme} {way wh n : Int} (hu : SmesAt w u xs) (hway : 0 ≤ way ∧ way < 256) (hwh : 0 ≤ wh ∧ wh < 256) (hn : -9223372036854775808 ≤ n ∧ n ≤ 9223372036854775807) :
    Calls Try.prog 4 #[u, .int .u8 way, .int .u8 wh, .int .i64 n] w fun e w' => e = .returned (.bool true) ∧ Fr0 none' w w' := by
  obtain ⟨i0, hi, hz0, hz1, hz2⟩ := info_parts info_event0
  have HU := Lib.hid (fun (W : World) (hf : Fr0 none' w W) => events_any xs 40 (by omega) W (hu.later hf))
  obtain ⟨S, hS⟩ : ∃ S, evsE xs 40 = S := ⟨_, rfl⟩
  have R0 := Lib.hid (evsE_right (xs := xs) (most := 40))
  have O0 := Lib.hid (evsE_once xs 40)
  have L0 := Lib.hid (evsE_le xs 40)
  have HSr := Lib.hid (evsE_src (xs := xs) (most := 40))
  rw [hS] at HU R0 O0 L0 HSr
  clear hu hS
  obtain ⟨na, hna⟩ : ∃ na, min n (-1) = na := ⟨_, rfl⟩
  obtain ⟨nb, hnb⟩ : ∃ nb, max n 257 = nb := ⟨_, rfl⟩
  have Hna := Lib.hid (show na < 0 by omega)
  have Hnb := Lib.hid (show 256 < nb by omega)
  obtain ⟨wv, hwv⟩ : ∃ v : Value, Value.int .u8 way = v := ⟨_, rfl⟩
  rw [hwv]
  have HWV := Lib.hid hwv
  clear hwv
  go_enter Try.func4, Try.ntmps4
  go_wp2_with fail
  refine (awake_any w).mono ?_
  rintro e w1 ⟨rfl, f1⟩
  have F1 := Lib.hid f1
  clear f1
  go_wp2_with fail
  obtain ⟨rb, hrb⟩ : ∃ rb, w1.heap.size = rb := ⟨_, rfl⟩
  obtain ⟨W2, hW⟩ : ∃ W, w1.alloc (.cells #[.int .i64 na, .int .i64 nb] 3) = W := ⟨_, rfl⟩
  have HRb := Lib.hid (show W2.heap[rb]? = some (.cells #[.int .i64 na, .int .i64 nb] 3 (0, 0)) by rw [← hW, ← hrb]; exact World.alloc_heap_new _ _)
  have F2 := Lib.hid (show Fr0 none' w W2 by rw [← hW]; exact F1.out.alloc _)
  rw [hW]
  try rw [hrb]
  clear hW hrb hna hnb
  go_loopw [10, 11, 12, 39] (fun _ _ _ i wr => ∃ k : Nat, k ≤ 2 ∧ i = .int .i64 k ∧ Hid (Fr0 none' W2 wr)) (fun _ _ _ i _ => 2 - (Go.RowKit.intOf i).toNat)
  case atStart => exact ⟨0, by omega, rfl, Fr0.refl _ _⟩
  case round =>
    obtain ⟨k, hk, rfl, hfr⟩ := hrel
    have hb := (hfr.out.block rb (Array.getElem?_eq_some_iff.1 HRb.out).1 id).trans HRb.out
    have x0 := cells_in hb 0
    have x1 := cells_in hb 1
    simp at x0 x1
    clear hb
    by_cases hlt : k < 2
    · have k1 : (0 : Int) ≤ (k : Int) := by omega
      have k2 : (k : Int) < 2 := by omega
      obtain ⟨c, hc, hcc⟩ : ∃ c, wr.cell? ⟨rb, k, none⟩ = some (.int .i64 c) ∧ (c < 0 ∨ 256 < c) := by
        rcases (show k = 0 ∨ k = 1 by omega) with rfl | rfl
        · exact ⟨na, x0, .inl Hna.out⟩
        · exact ⟨nb, x1, .inr Hnb.out⟩
      have Hcc := Lib.hid hcc
      clear x0 x1 hcc
      go_wp2_with fail
      refine (QNew_bad c Hcc.out wr).mono ?_
      rintro e w5 ⟨rfl, rfl⟩
      clear hc
      go_wp2_with fail
      go_roundw
      case rel => exact ⟨k + 1, by omega, by go_num, hfr⟩
      case measure => simp [Go.RowKit.intOf]; omega
    · have hk2 : k = 2 := by omega
      subst hk2
      clear x0 x1
      have F3 := Lib.hid (F2.out.trans hfr.out)
      go_wp2_with fail
      refine (HU.out wr F3.out).mono ?_
      rintro e w2 ⟨r, rfl, hr, f2⟩
      obtain ⟨va, vc, rfl, _, hva⟩ := EsIn.of_own hr
      have hcap : S.length ≤ vc := by
        rcases hr.2 with ⟨h0, h1⟩ | ⟨g, cap, cur, hv, _, _, hn, _⟩
        · omega
        · injection hv with _ _ h; omega
      have F4 := Lib.hid (F3.out.trans f2)
      have Hva := Lib.hid hva
      clear f2 hr hva HU
      obtain ⟨L, hL⟩ : ∃ n, S.length = n := ⟨_, rfl⟩
      rw [hL] at L0 hcap ⊢
      have N0 := Lib.hid hL
      clear hL
      have hL40 : L ≤ 40 := L0.out
      obtain ⟨h, hh⟩ : ∃ h, L / 2 = h := ⟨_, rfl⟩
      have hh1 : Int.tdiv (L : Int) 2 = (h : Int) := by rw [Int.tdiv_eq_ediv_of_nonneg (by omega), ← hh]; rfl
      have whh : IntKind.i64.wrap (h : Int) = (h : Int) := IntWalk.i64_in _ (by omega)
      have h1 : (0 : Int) ≤ (h : Int) := by omega
      have h2 : (h : Int) ≤ (L : Int) := by omega
      have h3 : (h : Int) ≤ (vc : Int) := by omega
      have h4 : (L : Int) ≤ (vc : Int) := by omega
      go_wp2_with fail
      refine (filled_any (c := 60) (cap := vc) (n := h) (S.take h) (Hva.out.take h) (by rw [List.length_take, N0.out]; omega) (by omega) (by omega) (fun x hx => R0.out x (List.mem_of_mem_take hx)) (once_sub O0.out (List.take_sublist _ _))).mono ?_
      rintro e w3 ⟨qb, ft, r, rfl, hq, hr, hge, hno, hf⟩
      obtain ⟨Z, hZ⟩ : ∃ Z, putsE (S.take h) [] = Z := ⟨_, rfl⟩
      rw [hZ] at hq hr
      have HZ := Lib.hid hZ
      have HQ := Lib.hid (show St w w3 qb 60 h Z ft from ⟨hq, F4.out.trans hf, fun k hk => Nat.le_trans F4.out.size (hge k hk)⟩)
      have HR := Lib.hid (show KeptR w3 w2.heap.size r Z ft from ⟨hr, hno⟩)
      have Hva := Lib.hid (Hva.out.later hf)
      clear hq hr hge hno hf hZ
      obtain ⟨kk, hkk, hkL⟩ : ∃ kk : Nat, (wh % (((L - h : Nat) : Int) + 1)) = kk ∧ kk ≤ L - h := by
        have g1 := Int.emod_nonneg wh (show (((L - h : Nat) : Int) + 1) ≠ 0 by omega)
        have g2 := Int.emod_lt_of_pos wh (show (0 : Int) < ((L - h : Nat) : Int) + 1 by omega)
        exact ⟨(wh % (((L - h : Nat) : Int) + 1)).toNat, by omega, by omega⟩
      have Hkk := Lib.hid hkk
      clear hkk
      have HMl := Lib.hid (show (S.drop h).length = L - h by rw [List.length_drop, N0.out])
      go_wp2_with fail
      obtain ⟨bb, hbb⟩ : ∃ bb, w3.heap.size = bb := ⟨_, rfl⟩
      obtain ⟨W4, hW4⟩ : ∃ W, w3.alloc (.cells #[.int .i64 3, .int .i64 16, .int .i64 9, .int .i64 1, .int .i64 0] 34) = W := ⟨_, rfl⟩
      have F34 := Lib.hid (show Fr0 none' w3 W4 by rw [← hW4]; exact (Fr0.refl _ _).alloc _)
      have HX := Lib.hid (show W4.heap[bb]? = some (.cells (cev ⟨⟨3, 16, 9⟩, 1, 0⟩).toArray 34 (0, 0)) by rw [← hW4, ← hbb]; exact World.alloc_heap_new _ _)
      have Hbb := Lib.hid hbb
      rw [hW4]
      try rw [hbb]
      clear hW4 hbb
      have HQ3 := HQ
      refine viaU (T := Nat → Value) (fun us W => ∃ (b : Ev) (wd : Int), us 18 = .int .i64 wd ∧ WrongB Z (S.drop h) kk b wd ∧ Fr0 none' w3 W ∧ W.heap[bb]? = some (.cells (cev b).toArray 34 (0, 0))) (fun us => [(71, us 71), (72, us 72), (73, us 73), (74, us 74), (75, us 75), (76, us 76), (77, us 77), (78, us 78), (79, us 79), (80, us 80), (81, us 81), (82, us 82), (83, us 83), (84, us 84), (85, us 85), (86, us 86), (87, us 87), (88, us 88), (89, us 89), (90, us 90), (91, us 91), (92, us 92), (93, us 93), (94, us 94), (95, us 95), (96, us 96), (97, us 97), (98, us 98), (99, us 99), (100, us 100), (101, us 101), (102, us 102), (103, us 103), (104, us 104), (105, us 105), (106, us 106), (107, us 107), (108, us 108), (109, us 109), (110, us 110), (111, us 111), (112, us 112), (113, us 113), (114, us 114), (115, us 115), (116, us 116), (117, us 117), (118, us 118), (119, us 119), (120, us 120), (121, us 121), (122, us 122), (123, us 123), (124, us 124), (125, us 125), (18, us 18)]) (fun us W4 hF => ?_) (fun hT => ?_)
      · simp only [List.foldl, Act.put, List.setIfInBounds_toArray, List.set_cons_zero, List.set_cons_succ]
        obtain ⟨b, wd, h18, hWB, hf, hb⟩ := hF
        have HWB := Lib.hid hWB
        have HQ := Lib.hid (HQ.out.later hf)
        have HR := Lib.hid (HR.out.later hf)
        have Hva := Lib.hid (Hva.out.later hf)
        have HX := Lib.hid (show KeptB W4 bb (cev b) 34 ft from ⟨hb, fun hk => by have := (St.later HQ3.out (Fr0.refl _ _)).1.lt _ hk; have := Hbb.out; omega⟩)
        rw [h18]
        clear h18 hWB hf hb
        have hdA : (if vc = h then va else Option.map (fun x => x.add (h * 5)) va) = dA vc h va := rfl
        have hkk := Hkk.out
        go_wp2_with fail
        clear hdA
        try rw [hkk]
        clear hkk
        have Hm := Lib.hid (Hva.out.rest (by rw [N0.out]; exact hcap) h)
        have HCl := Lib.hid (fun (W : World) (hf : Fr0 none' W4 W) => CloneE (n := L - h) (cap := vc - h) (S.drop h) (Hm.out.later hf) HMl.out (by omega))
        have hX := Lib.hid (fun (W' : World) (hf : Fr0 ft W4 W') => (hf.block bb HX.out.lt HX.out.2).trans HX.out.1)
        simp only [cev] at hX
        refine viaT' (T := Nat → Value) (fun us W => ∃ (Tn : Nat) (gt : Nat → Prop), Tn ≤ 200 ∧ St w W qb 60 Tn Z gt ∧ KeptR W w2.heap.size r Z gt ∧ KeptB W bb (cev b) 34 gt) (fun us => [(136, us 0), (137, us 1), (138, us 2), (139, us 3), (140, us 4), (141, us 5), (142, us 6), (143, us 7), (144, us 8), (145, us 9), (146, us 10), (135, us 11), (147, us 12), (148, us 13), (21, .int .i64 kk), (22, .int .i64 wd)]) (fun us W hF => ?_) (fun hT => ?_)
        · simp only [List.foldl, Act.put, List.setIfInBounds_toArray, List.set_cons_zero, List.set_cons_succ]
          obtain ⟨Tn, gt, hTn, hQ, hR, hX⟩ := hF
          have HQ := Lib.hid hQ
          have HR := Lib.hid hR
          have HX := Lib.hid hX
          clear hQ hR hX
          have y0 := cells_in HX.out.1 0
          have y1 := cells_in HX.out.1 1
          have y2 := cells_in HX.out.1 2
          have y3 := cells_in HX.out.1 3
          have y4 := cells_in HX.out.1 4
          simp [cev] at y0 y1 y2 y3 y4
          go_wp2_with fail
          have HP := HQ.out.1.put1 b (by omega)
          obtain ⟨ea, eb⟩ := all_no (n := 60) HWB.out.2.1 (by have := HWB.out.2.2.2; omega)
          rw [ea, eb] at HP
          clear ea eb y0 y1 y2 y3 y4
          refine HP.mono ?_
          rintro e W5 ⟨rfl, hq, hf⟩
          have HR := Lib.hid (HR.out.step hf)
          have HX := Lib.hid (HX.out.step hf)
          have HQ := Lib.hid (HQ.out.step hq hf)
          clear hq hf HP
          have y0 := cells_in HX.out.1 0
          have y1 := cells_in HX.out.1 1
          have y2 := cells_in HX.out.1 2
          have y3 := cells_in HX.out.1 3
          have y4 := cells_in HX.out.1 4
          simp [cev] at y0 y1 y2 y3 y4
          go_wp2_with fail
          have HRt := QRight_is b W5
          rw [HWB.out.2.2.1] at HRt
          refine (show Calls Try.prog 21 #[.agg #[.int .i64 b.key.time, .int .i64 b.key.source, .int .i64 b.key.seq, .int .i64 b.to, .int .i64 b.value]] W5 _ from HRt).mono ?_
          rintro e W6 ⟨rfl, hf⟩
          have HR := Lib.hid (HR.out.later hf)
          have HQ := Lib.hid (HQ.out.later hf)
          clear y0 y1 y2 y3 y4 hf HRt HX
          have hmk : ∀ W, (Go.Instr.makeSlice 28 (.int .i64 61) (.int .i64 61)).run Try.prog W = .ok (.slice (some ⟨W.heap.size, 0, none⟩) 61 61) (W.alloc (.cells (flatEv (List.replicate 61 noEv)).toArray 34)) := fun W => make_events 61 (by omega) W
          obtain ⟨NE, hNE⟩ : ∃ l, List.replicate 61 noEv = l := ⟨_, rfl⟩
          rw [hNE] at hmk
          have HNE := Lib.hid hNE
          clear hNE
          go_wp2_with fail
          obtain ⟨gl, hgl⟩ : ∃ g, W6.heap.size = g := ⟨_, rfl⟩
          obtain ⟨W7, hW7⟩ : ∃ W, W6.alloc (.cells (flatEv NE).toArray 34) = W := ⟨_, rfl⟩
          have F67 := Lib.hid (show Fr0 none' W6 W7 by rw [← hW7]; exact (Fr0.refl _ _).alloc _)
          have HL7 := Lib.hid (show W7.heap[gl]? = some (.cells (flatEv NE).toArray 34 (0, 0)) by rw [← hW7, ← hgl]; exact World.alloc_heap_new _ _)
          have Hgl := Lib.hid hgl
          rw [hW7]
          try rw [hgl]
          clear hW7 hgl hmk
          go_loopw [24, 174] (fun _ i wr => ∃ k : Nat, k ≤ 61 ∧ i = .int .i64 k ∧ Hid (wr.heap[gl]? = some (.cells (flatEv (longN k ++ (List.replicate 61 noEv).drop k)).toArray 34 (0, 0))) ∧ Hid (Fr0 none' W6 wr)) (fun _ i _ => 61 - (Go.RowKit.intOf i).toNat)
          case atStart => exact ⟨0, by omega, rfl, by rw [long_start, HNE.out]; exact HL7, F67⟩
          case round =>
            obtain ⟨k, hk, rfl, hb, hfr⟩ := hrel
            by_cases hlt : k < 61
            · have k1 : (0 : Int) ≤ (k : Int) := by omega
              have k2 : (k : Int) < 61 := by omega
              have hin := EsIn.of_cells (n := 61) hb.out (by rw [List.take_of_length_le (by rw [List.toList_toArray, flatEv_length, long_len hk]; omega)])
              obtain ⟨_, _, ee, x0, x1, x2, x3, x4⟩ := hin k _ (long_get hlt)
              injection ee with ee
              injection ee with e1 e2 e3
              subst e1
              subst e2
              rw [Nat.zero_add] at x0 x1 x2 x3 x4
              have y0 := thaw_in hb.out (k * 5)
              have y1 := thaw_in hb.out (k * 5 + 1)
              have y2 := thaw_in hb.out (k * 5 + 2)
              have y3 := thaw_in hb.out (k * 5 + 3)
              have y4 := thaw_in hb.out (k * 5 + 4)
              clear hin
              go_wp2_with fail
              refine ⟨⟨k + 1, by omega, by go_num, ?_, ?_⟩, by simp [Go.RowKit.intOf]; omega⟩
              · have h7 := ev_row5 hb.out (long_get hlt) 1 16 k 1 0
                rw [← long_set hlt]
                exact h7
              · have hg : gl < W6.heap.size → none' gl := fun e => absurd e (by have := Hgl.out; omega)
                exact ((((hfr.out.setCell hg _).setCell hg _).setCell hg _).setCell hg _).setCell hg _
            · have hk2 : k = 61 := by omega
              subst hk2
              rw [long_end] at hb
              obtain ⟨f5, hf5⟩ : ∃ f5, qgrow gt W W5 = f5 := ⟨_, rfl⟩
              rw [hf5] at HQ HR
              clear hf5
              have HL := Lib.hid (show KeptB wr gl (flatEv (longN 61)) 34 f5 from ⟨hb.out, fun hk => by have := HQ.out.1.lt _ hk; have := Hgl.out; omega⟩)
              have HRg := Lib.hid (show ∀ g, r.ownBlock = some g → g < gl from fun g hg => by have := (HR.out.1.lt g hg).2; have := Hgl.out; omega)
              have HQ := Lib.hid (HQ.out.later hfr.out)
              have HR := Lib.hid (HR.out.later hfr.out)
              have hzs : ∀ y ∈ Z, y.key.source < 5 := fun y hy => by
                rw [← HZ.out] at hy
                rcases putsE_mem.1 hy with h | h
                · exact HSr.out y (List.mem_of_mem_take h)
                · cases h
              have hzl : Z.length = h := by rw [← HZ.out, putsE_length, List.length_take, N0.out]; simp; omega
              have HOz := Lib.hid (show OnceE Z ∧ (∀ y ∈ Z, y.key.source < 5) ∧ Z.length = h from ⟨HQ.out.1.good.2.1, hzs, hzl⟩)
              have HAz := Lib.hid HQ.out.1.good.1
              clear hzs hzl
              obtain ⟨m1, hm1⟩ : ∃ m1, 60 - h = m1 := ⟨_, rfl⟩
              have wm1 : IntKind.i64.wrap (60 - (h : Int)) = (m1 : Int) := by rw [IntWalk.i64_in _ (by omega)]; omega
              obtain ⟨la, hla⟩ : ∃ la : Option Addr, some ⟨gl, 0, none⟩ = la := ⟨_, rfl⟩
              have HLa := Lib.hid hla
              have hls : EsIn wr la (longN 61) := by rw [← hla]; exact EsIn.of_cells (n := 61) HL.out.1 (by rw [List.take_of_length_le (by rw [List.toList_toArray, flatEv_length, longN_len]; omega)])
              have hlb : ∀ g o s, la = some ⟨g, o, s⟩ → ¬ f5 g := fun g o s e hk => by
                rw [← hla] at e
                injection e with e
                injection e with e
                subst e
                exact HL.out.2 hk
              have HLS := Lib.hid hls
              have HLB := Lib.hid hlb
              rw [hla]
              clear hla hls hlb
              have q1 : (h : Int) ≤ 61 := by omega
              have q2 : (0 : Int) ≤ (m1 : Int) := by omega
              have q3 : (m1 : Int) ≤ 61 := by omega
              go_wp2_with fail
              rw [show Option.map (fun x => x.add (h * 5)) la = dA 61 h la by unfold dA; rw [if_neg (by omega)]]
              have hP := HQ.out.1.putAll (m := 61 - h) (cap := 61 - h) ((longN 61).drop h) (HLS.out.rest (by rw [longN_len]; exact Nat.le_refl _) h) (by rw [List.length_drop, longN_len]) (by omega) (by omega) (fun g o s e => by
                obtain ⟨o', s', e'⟩ := dA_block e
                exact HLB.out g o' s' e')
              obtain ⟨ea, eb⟩ := all_full (n := 60) (E := Z) (l := (longN 61).drop h) (fun x hx => longN_right x (List.mem_of_mem_drop hx)) (long_once HOz.out.1 HOz.out.2.1 (List.drop_sublist _ _)) (by rw [HOz.out.2.2, List.length_drop, longN_len]; omega)
              rw [ea, eb] at hP
              clear ea eb
              refine hP.mono ?_
              rintro e w8 ⟨rfl, hq, hf⟩
              have HLB := Lib.hid (show ∀ g o s, la = some ⟨g, o, s⟩ → ¬ qgrow f5 wr w8 g from fun g o s e hk => by
                rw [← HLa.out] at e
                injection e with e
                injection e with e
                subst e
                exact (HL.out.step hf).2 hk)
              have HLS := Lib.hid (HLS.out.fr0 hf (fun g o s e => by
                rw [← HLa.out] at e
                injection e with e
                injection e with e
                subst e
                exact HL.out.2))
              have HL := Lib.hid (HL.out.step hf)
              have HR := Lib.hid (HR.out.step hf)
              have HQ := Lib.hid (HQ.out.step hq hf)
              clear hP hq hf
              go_wp2_with fail
              have hP := HQ.out.1.putAll (m := m1) (cap := 61) (longN m1) (by have h7 := HLS.out.take m1; rwa [long_take (by omega)] at h7) (longN_len m1) (by omega) (by omega) HLB.out
              obtain ⟨ea, eb⟩ := all_ok (n := 60) (E := Z) (l := longN m1) (fun x hx => longN_right x (by rw [← long_take (show m1 ≤ 61 by omega)] at hx; exact List.mem_of_mem_take hx)) (long_once HOz.out.1 HOz.out.2.1 (by rw [← long_take (show m1 ≤ 61 by omega)]; exact List.take_sublist _ _)) (by rw [HOz.out.2.2, longN_len]; omega)
              rw [ea, eb] at hP
              clear ea eb
              refine hP.mono ?_
              rintro e w9 ⟨rfl, hq, hf⟩
              have HLS := Lib.hid (HLS.out.fr0 hf HLB.out)
              have HL := Lib.hid (HL.out.step hf)
              have HR := Lib.hid (HR.out.step hf)
              have HQ := Lib.hid (HQ.out.step hq hf)
              clear hP hq hf HLB
              have hla := HLa.out
              subst hla
              obtain ⟨f9, hf9⟩ : ∃ f, qgrow (qgrow f5 wr w8) w8 w9 = f := ⟨_, rfl⟩
              rw [hf9] at HQ HR HL
              clear hf9
              go_wp2_with fail
              have hrm := HQ.out.1.room
              rw [putsE_length, longN_len, HOz.out.2.2, show 60 - (m1 + h) = 0 by omega] at hrm
              refine hrm.mono ?_
              rintro e w10 ⟨rfl, hf⟩
              have HLS := Lib.hid (HLS.out.later hf)
              have HL := Lib.hid (HL.out.later hf)
              have HR := Lib.hid (HR.out.later hf)
              have HQ := Lib.hid (HQ.out.later hf)
              clear hrm hf
              obtain ⟨_, _, ee, x0, x1, x2, x3, x4⟩ := HLS.out 60 _ (longN_at (by omega))
              injection ee with ee
              injection ee with e1 e2 e3
              subst e1
              subst e2
              simp only [Nat.zero_add, Nat.reduceMul, Nat.reduceAdd, longE] at x0 x1 x2 x3 x4
              go_wp2_with fail
              have hP := HQ.out.1.put1 (longE 60) (by omega)
              obtain ⟨ea, eb⟩ := all_full (n := 60) (E := putsE (longN m1) Z) (l := [longE 60]) (fun x hx => longN_right x (by rw [List.mem_singleton.1 hx]; exact List.mem_of_getElem? (longN_at (show 60 < 61 by omega)))) (by
                have h7 := long_once HOz.out.1 HOz.out.2.1 (long_last (show m1 ≤ 60 by omega))
                refine h7.perm ?_
                refine (List.Perm.append_right Z List.perm_append_comm).trans ?_
                rw [List.append_assoc]
                exact List.Perm.append_left _ (putsE_perm _ _).symm) (by rw [putsE_length, longN_len, HOz.out.2.2, List.length_singleton]; omega)
              rw [ea, eb] at hP
              clear ea eb x0 x1 x2 x3 x4
              refine (show Calls Try.prog 13 #[.pointer (some ⟨qb, 0, none⟩), .agg #[.int .i64 1, .int .i64 16, .int .i64 60, .int .i64 1, .int .i64 0]] w10 _ from hP).mono ?_
              rintro e w11 ⟨rfl, hq, hf⟩
              have HLS := Lib.hid (HLS.out.fr0 hf (fun g o s e => by
                injection e with e
                injection e with e
                subst e
                exact HL.out.2))
              have HL := Lib.hid (HL.out.step hf)
              have HR := Lib.hid (HR.out.step hf)
              have HQ := Lib.hid (HQ.out.step hq hf)
              clear hP hq hf HLS
              obtain ⟨f11, hf11⟩ : ∃ f, qgrow f9 w10 w11 = f := ⟨_, rfl⟩
              rw [hf11] at HQ HR HL
              clear hf11
              go_wp2_with fail
              have Hwl := Lib.hid (show gl < w11.heap.size from HL.out.lt)
              obtain ⟨T1, hT1, hT1'⟩ : ∃ T1, Tn + 1 + (61 - h) + m1 + 1 = T1 ∧ T1 ≤ 1000 := ⟨_, rfl, by omega⟩
              rw [hT1] at HQ
              clear hT1
              go_loopw [28, 30, 233] (fun _ _ i wr => ∃ (k : Nat) (E : List Ev) (fk : Nat → Prop), k ≤ m1 ∧ i = .int .i64 k ∧ Hid (St w wr qb 60 T1 E fk) ∧ Hid (KeptR wr w2.heap.size r Z fk) ∧ Hid (KeptB wr gl (flatEv (longN 61)) 34 fk) ∧ Hid (E.Perm ((longN m1).drop k ++ Z))) (fun _ _ i _ => m1 - (Go.RowKit.intOf i).toNat)
              case atStart => exact ⟨0, _, f11, Nat.zero_le _, rfl, HQ, HR, HL, by rw [List.drop_zero]; exact putsE_perm _ _⟩
              case round =>
                obtain ⟨k, E, fk, hk, rfl, HQ, HR, HL, HPm⟩ := hrel
                by_cases hlt : k < m1
                · have k1 : (0 : Int) ≤ (k : Int) := by omega
                  have k2 : (k : Int) < (m1 : Int) := by omega
                  have hls := EsIn.of_cells (n := 61) HL.out.1 (by rw [List.take_of_length_le (by rw [List.toList_toArray, flatEv_length, longN_len]; omega)])
                  obtain ⟨_, _, ee, x0, x1, x2, x3, x4⟩ := hls k _ (longN_at (by omega))
                  injection ee with ee
                  injection ee with e1 e2 e3
                  subst e1
                  subst e2
                  rw [Nat.zero_add] at x0 x1 x2 x3 x4
                  simp only [longE] at x0 x1 x2 x3 x4
                  clear hls
                  go_wp2_with fail
                  obtain ⟨V1, hV1⟩ : ∃ W, wr.alloc (.cells #[.int .i64 1, .int .i64 16, .int .i64 k, .int .i64 1, .int .i64 0] 34) = W := ⟨_, rfl⟩
                  have hf : Fr0 none' wr V1 := by rw [← hV1]; exact (Fr0.refl _ _).alloc _
                  rw [hV1]
                  have HQ := Lib.hid (HQ.out.later hf)
                  have HR := Lib.hid (HR.out.later hf)
                  have HL := Lib.hid (HL.out.later hf)
                  clear hV1 hf x0 x1 x2 x3 x4
                  have hst := cancel_step (x := longE k) (l := (longN m1).drop (k + 1)) (Z := Z) (E := E) (by rw [← List.cons_append, ← long_drop hlt]; exact HPm.out) HQ.out.1.good.2.1
                  have hc := HQ.out.1.cancel (nm := (longE k).name) (show I64 (16 : Int) from ⟨by omega, by omega⟩) (show I64 (k : Int) from ⟨by omega, by omega⟩) (by omega)
                  rw [hst.1] at hc
                  have Hst := Lib.hid hst.2
                  clear hst
                  refine (show Calls Try.prog 22 #[.pointer (some ⟨qb, 0, none⟩), .int .i64 16, .int .i64 k] V1 _ from hc).mono ?_
                  rintro e V2 ⟨rfl, hq, hf⟩
                  simp only [Option.getD_some, Option.isSome_some, if_true, evV, longE]
                  have HR := Lib.hid (HR.out.step hf)
                  have HL := Lib.hid (HL.out.step hf)
                  have HQ := Lib.hid (HQ.out.step hq hf)
                  clear hq hf hc
                  go_wp2_with fail
                  go_roundw
                  case rel => exact ⟨k + 1, _, _, by omega, by go_num, HQ.out.later ((Fr0.refl _ _).alloc _), HR.out.later ((Fr0.refl _ _).alloc _), HL.out.later ((Fr0.refl _ _).alloc _), Hst⟩
                  case measure => simp [Go.RowKit.intOf]; omega
                · have hk2 : k = m1 := by omega
                  have hpm := HPm.out
                  rw [List.drop_of_length_le (by rw [longN_len, hk2]; exact Nat.le_refl _), List.nil_append] at hpm
                  have hEZ : E = Z := asc_ext HQ.out.1.good.1 HAz.out hpm
                  rw [hEZ] at HQ
                  clear hEZ hk2
                  obtain ⟨ra, rc, rfl, hrz⟩ := HR.out.slice
                  have Hrz := Lib.hid hrz
                  clear hpm hrz
                  go_wp2_with fail
                  refine HQ.out.1.all.mono ?_
                  rintro e w12 ⟨v12, rfl, hr1, hf⟩
                  have HF := Lib.hid (HQ.out.2.1.trans hf)
                  have hrz := Hrz.out.later hf
                  have hel := HQ.out.1.le
                  obtain ⟨sa, sc, rfl, _, hsa⟩ := EsIn.of_own hr1
                  have HE := Lib.hid (sameEs_any sa ra _ _ sc rc Z Z w12 rfl rfl (by omega) (by omega) hsa hrz)
                  rw [decide_eq_true rfl] at HE
                  clear hr1 hsa hrz hf hel
                  go_wp2_with fail
                  refine HE.out.mono ?_
                  rintro e w13 ⟨rfl, hf⟩
                  have HF := Lib.hid (HF.out.trans hf)
                  clear hf HE
                  go_wp2_with fail
                  go_ret
                  exact ⟨rfl, HF.out⟩
        simp only [List.foldl, Act.put, List.setIfInBounds_toArray, List.set_cons_zero, List.set_cons_succ] at hT
        have HT := Lib.hid hT
        clear hT
        refine wp_region_held_drew (S := fun W' => Fr0 ft W4 W') (by kernel_rfl) ((Fr0.refl ft W4).drew) (fun hS => ?_)
        have hHeld : Fr0 none' W4 W4.drew := (Fr0.refl none' W4).drew
        refine take_on (i := 0) (v := .pointer (some ⟨qb, 0, none⟩)) rfl (by kernel_rfl) (by kernel_rfl) (by kernel_rfl) (fun _ _ _ h => h) (by kernel_rfl) (fun W' hSW => ?_) (by assumption) ?_
        · first | (go_simp; done) | exact rfl | (go_simp; rfl) | (go_simp; omega)
        try simp only [Act.put, List.setIfInBounds_toArray, List.set_cons_zero, List.set_cons_succ]
        refine take_on (i := 1) (v := .slice (dA vc h va) (L - h) (vc - h)) rfl (by kernel_rfl) (by kernel_rfl) (by kernel_rfl) (fun _ _ _ h => h) (by kernel_rfl) (fun W' hSW => ?_) (by assumption) ?_
        · first | (go_simp; done) | exact rfl | (go_simp; rfl) | (go_simp; omega)
        try simp only [Act.put, List.setIfInBounds_toArray, List.set_cons_zero, List.set_cons_succ]
        refine take_on (i := 3) (v := .int .i64 kk) rfl (by kernel_rfl) (by kernel_rfl) (by kernel_rfl) (fun _ _ _ h => h) (by kernel_rfl) (fun W' hSW => ?_) (by assumption) ?_
        · first | (go_simp; done) | exact rfl | (go_simp; rfl) | (go_simp; omega)
        try simp only [Act.put, List.setIfInBounds_toArray, List.set_cons_zero, List.set_cons_succ]
        refine take_on (i := 4) (v := .agg #[.int .i64 b.key.time, .int .i64 b.key.source, .int .i64 b.key.seq, .int .i64 b.to, .int .i64 b.value]) rfl (by kernel_rfl) (by kernel_rfl) (by kernel_rfl) (fun _ _ _ h => h) (by kernel_rfl) (fun W' hSW => ?_) (by assumption) ?_
        · have hb := hX.out W' hSW
          have x0 := cells_in hb 0
          have x1 := cells_in hb 1
          have x2 := cells_in hb 2
          have x3 := cells_in hb 3
          have x4 := cells_in hb 4
          simp at x0 x1 x2 x3 x4
          clear hb
          first | (go_simp; done) | exact rfl | (go_simp; rfl) | (go_simp; omega)
        try simp only [Act.put, List.setIfInBounds_toArray, List.set_cons_zero, List.set_cons_succ]
        refine take_on (i := 7) (v := .agg #[.int .i64 b.key.time, .int .i64 b.key.source, .int .i64 b.key.seq, .int .i64 b.to, .int .i64 b.value]) rfl (by kernel_rfl) (by kernel_rfl) (by kernel_rfl) (fun _ _ _ h => h) (by kernel_rfl) (fun W' hSW => ?_) (by assumption) ?_
        · have hb := hX.out W' hSW
          have x0 := cells_in hb 0
          have x1 := cells_in hb 1
          have x2 := cells_in hb 2
          have x3 := cells_in hb 3
          have x4 := cells_in hb 4
          simp at x0 x1 x2 x3 x4
          clear hb
          first | (go_simp; done) | exact rfl | (go_simp; rfl) | (go_simp; omega)
        try simp only [Act.put, List.setIfInBounds_toArray, List.set_cons_zero, List.set_cons_succ]
        refine wpAnyH_ready (rs := [2, 5, 8]) (by kernel_rfl) (by simp) (AllReadyH.cons (op_at rfl) (fun K hK => ?_) (AllReadyH.cons (op_at rfl) (fun K hK => ?_) (AllReadyH.cons (op_at rfl) (fun K hK => ?_) AllReadyH.nil)))
        · rw [if_pos (by kernel_rfl)]
          go_simp
          refine (HCl.out _ hHeld).mono ?_
          rintro e V1 ⟨v1, rfl, hr1, hf1⟩
          try have HCA := Lib.hid (show ∀ g, v1.ownBlock = some g → g ≠ qa from fun g hg e => by have h7 := (hr1.lt g hg).1; have h8 := (Array.getElem?_eq_some_iff.1 HA.out).1; omega)
          try have HCB := Lib.hid (show ∀ g, v1.ownBlock = some g → g ≠ qc from fun g hg e => by have h7 := (hr1.lt g hg).1; have h8 := (Array.getElem?_eq_some_iff.1 HBB.out).1; omega)
          try have HA := Lib.hid ((hf1.block qa (Array.getElem?_eq_some_iff.1 HA.out).1 id).trans HA.out)
          try have HBB := Lib.hid ((hf1.block qc (Array.getElem?_eq_some_iff.1 HBB.out).1 id).trans HBB.out)
          have HC := Lib.hid (own_up hr1 hHeld.size)
          have hHeld := hHeld.trans hf1
          clear hr1 hf1
          go_wp2_with fail
          refine hK.out _ _ (hHeld.mono (fun _ _ h => h.elim)) (fun hS => ?_)
          clear hK K
          try simp only [Act.put, List.setIfInBounds_toArray, List.set_cons_zero, List.set_cons_succ]
          refine wpAnyH_ready (rs := [5, 8]) (by kernel_rfl) (by simp) (AllReadyH.cons (op_at rfl) (fun K hK => ?_) (AllReadyH.cons (op_at rfl) (fun K hK => ?_) AllReadyH.nil))
          · rw [if_pos (by kernel_rfl)]
            go_simp
            obtain ⟨qa, hqa⟩ : ∃ q, (V1).heap.size = q := ⟨_, rfl⟩
            obtain ⟨Vqa, hVA⟩ : ∃ W, (V1).alloc (.cells #[.int .i64 b.key.time, .int .i64 b.key.source, .int .i64 b.key.seq, .int .i64 b.to, .int .i64 b.value] 34) = W := ⟨_, rfl⟩
            have hfA : Fr0 none' (V1) Vqa := by rw [← hVA]; exact (Fr0.refl none' _).alloc _
            have HA := Lib.hid (show Vqa.heap[qa]? = some (.cells (cev b).toArray 34 (0, 0)) by rw [← hVA, ← hqa]; exact World.alloc_heap_new _ _)
            have hHeld := hHeld.trans hfA
            try have HCA := Lib.hid (show ∀ g, v1.ownBlock = some g → g ≠ qa from fun g hg e => by have h7 := (HC.out.lt g hg).2; omega)
            try have HC := Lib.hid (ownsRow_fr0 HC.out hfA (fun _ _ h => h))
            try have HI := Lib.hid (ownsRow_fr0 HI.out hfA (fun _ _ h => h))
            skip
            rw [hVA]
            try rw [hqa]
            clear hVA hqa
            refine hK.out _ _ (hHeld.mono (fun _ _ h => h.elim)) (fun hS => ?_)
            clear hK K
            try simp only [Act.put, List.setIfInBounds_toArray, List.set_cons_zero, List.set_cons_succ]
            refine wpAnyH_ready (rs := [6, 8]) (by kernel_rfl) (by simp) (AllReadyH.cons (op_at rfl) (fun K hK => ?_) (AllReadyH.cons (op_at rfl) (fun K hK => ?_) AllReadyH.nil))
            · rw [if_pos (by kernel_rfl)]
              go_simp
              refine (InsertE (i := kk) (S.drop h) HC.out hkL (by omega) b HA.out (fun e => HCA.out _ e rfl) hHeld.size).mono ?_
              rintro e V6 ⟨v6, rfl, hr6, hf6, hob6⟩
              have hHeld := hHeld.trans' hf6 (fun i hi hs => by have := (HC.out.lt i hs).1; omega)
              try have HBB := Lib.hid ((hf6.block qc (Array.getElem?_eq_some_iff.1 HBB.out).1 (fun hs => HCB.out qc hs rfl)).trans HBB.out)
              have HI := Lib.hid hr6
              clear hr6 hf6 hob6
              go_wp2_with fail
              refine hK.out _ _ (hHeld.mono (fun _ _ h => h.elim)) (fun hS => ?_)
              clear hK K
              try simp only [Act.put, List.setIfInBounds_toArray, List.set_cons_zero, List.set_cons_succ]
              refine take_call (i := 8) rfl (by kernel_rfl) (by kernel_rfl) (fun K hK => ?_)
              go_simp
              obtain ⟨qc, hqa⟩ : ∃ q, (V6).heap.size = q := ⟨_, rfl⟩
              obtain ⟨Vqc, hVA⟩ : ∃ W, (V6).alloc (.cells #[.int .i64 b.key.time, .int .i64 b.key.source, .int .i64 b.key.seq, .int .i64 b.to, .int .i64 b.value] 34) = W := ⟨_, rfl⟩
              have hfA : Fr0 none' (V6) Vqc := by rw [← hVA]; exact (Fr0.refl none' _).alloc _
              have HBB := Lib.hid (show Vqc.heap[qc]? = some (.cells (cev b).toArray 34 (0, 0)) by rw [← hVA, ← hqa]; exact World.alloc_heap_new _ _)
              have hHeld := hHeld.trans hfA
              try have HCB := Lib.hid (show ∀ g, v1.ownBlock = some g → g ≠ qc from fun g hg e => by have h7 := (HC.out.lt g hg).2; omega)
              try have HC := Lib.hid (ownsRow_fr0 HC.out hfA (fun _ _ h => h))
              try have HI := Lib.hid (ownsRow_fr0 HI.out hfA (fun _ _ h => h))
              skip
              rw [hVA]
              try rw [hqa]
              clear hVA hqa
              refine hK.out _ _ (hHeld.mono (fun _ _ h => h.elim)) (fun hS => ?_)
              clear hK K
              try simp only [Act.put, List.setIfInBounds_toArray, List.set_cons_zero, List.set_cons_succ]
              refine take_call (i := 9) rfl (by kernel_rfl) (by kernel_rfl) (fun K hK => ?_)
              have hsrc := (show EsIn _ (some ⟨qc, 0, none⟩) [b] from EsIn.of_cells (n := 1) HBB.out (by simp [flatEv, cev])).src (n := 1) rfl 1 Try.underlying28
              refine wp_append_k _ _ 28 28 rfl W4.heap.size 34 i0 (.agg #[.int .i64 0, .int .i64 0, .int .i64 0, .int .i64 0, .int .i64 0]) 5 40 Try.underlying28 hi hz0 hz1 hz2 rfl (by decide) v6 (L - h + 1) _ rfl HI.out (.slice (some ⟨qc, 0, none⟩) 1 1) 1 _ rfl hsrc (by unfold maxLen; omega) (by omega) hHeld.size ?_
              intro v9 V9 hown hgr hdr hob
              obtain ⟨g9, c9, rfl⟩ := ownsRow_k_succ hown
              have hHeld := hHeld.trans' ((Fr0.refl (fun k => v6.ownBlock = some k) _).grown hgr (fun k hk _ => hk)) (fun i hi hs => by have := (HI.out.lt i hs).1; omega)
              have h9 : flatEv (((S.drop h).take kk ++ b :: (S.drop h).drop kk) ++ [b]) = flatEv ((S.drop h).take kk ++ b :: (S.drop h).drop kk) ++ flatEv [b] := flatEv_append _ _
              rw [← h9] at hown
              have H9 := Lib.hid hown
              clear hown hgr hdr hob hsrc h9
              refine hK.out _ _ (hHeld.mono (fun _ _ h => h.elim)) (fun hS => ?_)
              clear hK K
              try simp only [Act.put, List.setIfInBounds_toArray, List.set_cons_zero, List.set_cons_succ]
              refine take_call (i := 10) rfl (by kernel_rfl) (by kernel_rfl) (fun K hK => ?_)
              go_simp
              obtain ⟨_, _, hve, hvl, hvi⟩ := EsIn.of_own H9.out
              injection hve with hE1 hE2 hE3
              subst hE1
              have HQh := HQ.out.later hHeld
              have hput := HQh.1.putAll (m := L - h + 1 + 1) (cap := c9) (((S.drop h).take kk ++ b :: (S.drop h).drop kk) ++ [b]) hvi hvl (by omega) (by omega) (fun g o s e hk => by
                have h7 := (H9.out.lt g9 rfl).1
                have h8 := HQ.out.1.lt g hk
                have h9 : g9 = g := by injection e with e; injection e
                omega)
              obtain ⟨ea, eb⟩ := all_no (n := 60) HWB.out.1 (by have := HWB.out.2.2.2; omega)
              rw [ea, eb] at hput
              clear ea eb hvi hvl hE2 hE3
              refine hput.mono ?_
              rintro e VP ⟨rfl, hq, hfp⟩
              have hfin := Lib.hid (show ∃ (Tn : Nat) (gt : Nat → Prop), Tn ≤ 200 ∧ St w VP qb 60 Tn Z gt ∧ KeptR VP w2.heap.size r Z gt ∧ KeptB VP bb (cev b) 34 gt from ⟨_, _, by omega, HQh.step hq hfp, (HR.out.later hHeld).step hfp, (HX.out.later hHeld).step hfp⟩)
              have hS2 : Fr0 ft W4 VP := (hHeld.mono (fun _ _ h => h.elim)).trans hfp
              clear hq hfp HQh
              go_wp2_with fail
              refine hK.out _ _ hS2 (fun hS => ?_)
              clear hK K
              try simp only [Act.put, List.setIfInBounds_toArray, List.set_cons_zero, List.set_cons_succ]
              refine take_on (i := 11) (v := .tuple #[.int .i64 kk, .int .i64 wd]) rfl (by kernel_rfl) (by kernel_rfl) (by kernel_rfl) (fun _ _ _ h => h) (by kernel_rfl) (fun W' hSW => ?_) (by assumption) ?_
              · first | (go_simp; done) | exact rfl | (go_simp; rfl) | (go_simp; omega)
              try simp only [Act.put, List.setIfInBounds_toArray, List.set_cons_zero, List.set_cons_succ]
              refine take_on (i := 12) (v := .int .i64 kk) rfl (by kernel_rfl) (by kernel_rfl) (by kernel_rfl) (fun _ _ _ h => h) (by kernel_rfl) (fun W' hSW => ?_) (by assumption) ?_
              · first | (go_simp; done) | exact rfl | (go_simp; rfl) | (go_simp; omega)
              try simp only [Act.put, List.setIfInBounds_toArray, List.set_cons_zero, List.set_cons_succ]
              refine take_on (i := 13) (v := .int .i64 wd) rfl (by kernel_rfl) (by kernel_rfl) (by kernel_rfl) (fun _ _ _ h => h) (by kernel_rfl) (fun W' hSW => ?_) (by assumption) ?_
              · first | (go_simp; done) | exact rfl | (go_simp; rfl) | (go_simp; omega)
              try simp only [Act.put, List.setIfInBounds_toArray, List.set_cons_zero, List.set_cons_succ]
              refine take_on (i := 14) (v := .int .i64 kk) rfl (by kernel_rfl) (by kernel_rfl) (by kernel_rfl) (fun _ _ _ h => h) (by kernel_rfl) (fun W' hSW => ?_) (by assumption) ?_
              · first | (go_simp; done) | exact rfl | (go_simp; rfl) | (go_simp; omega)
              try simp only [Act.put, List.setIfInBounds_toArray, List.set_cons_zero, List.set_cons_succ]
              refine take_on (i := 15) (v := .int .i64 wd) rfl (by kernel_rfl) (by kernel_rfl) (by kernel_rfl) (fun _ _ _ h => h) (by kernel_rfl) (fun W' hSW => ?_) (by assumption) ?_
              · first | (go_simp; done) | exact rfl | (go_simp; rfl) | (go_simp; omega)
              try simp only [Act.put, List.setIfInBounds_toArray, List.set_cons_zero, List.set_cons_succ]
              refine wpAnyH_done (by kernel_rfl) ?_ _
              exact HT.out (fun n => ([.pointer (some ⟨qb, 0, none⟩), .slice (dA vc h va) (L - h) (vc - h), v1, .int .i64 kk, .agg #[.int .i64 b.key.time, .int .i64 b.key.source, .int .i64 b.key.seq, .int .i64 b.to, .int .i64 b.value], .slice (some ⟨qa, 0, none⟩) 1 1, v6, .agg #[.int .i64 b.key.time, .int .i64 b.key.source, .int .i64 b.key.seq, .int .i64 b.to, .int .i64 b.value], .slice (some ⟨qc, 0, none⟩) 1 1, .slice (some ⟨g9, 0, none⟩) (L - h + 1 + 1) c9, .tuple #[.int .i64 kk, .int .i64 wd], .tuple #[.int .i64 kk, .int .i64 wd], .int .i64 kk, .int .i64 wd] : List Value).getD n undef) _ hfin.out
            · rw [if_pos (by kernel_rfl)]
              go_simp
              obtain ⟨qc, hqa⟩ : ∃ q, (Vqa).heap.size = q := ⟨_, rfl⟩
              obtain ⟨Vqc, hVA⟩ : ∃ W, (Vqa).alloc (.cells #[.int .i64 b.key.time, .int .i64 b.key.source, .int .i64 b.key.seq, .int .i64 b.to, .int .i64 b.value] 34) = W := ⟨_, rfl⟩
              have hfA : Fr0 none' (Vqa) Vqc := by rw [← hVA]; exact (Fr0.refl none' _).alloc _
              have HBB := Lib.hid (show Vqc.heap[qc]? = some (.cells (cev b).toArray 34 (0, 0)) by rw [← hVA, ← hqa]; exact World.alloc_heap_new _ _)
              have hHeld := hHeld.trans hfA
              try have HCB := Lib.hid (show ∀ g, v1.ownBlock = some g → g ≠ qc from fun g hg e => by have h7 := (HC.out.lt g hg).2; omega)
              try have HC := Lib.hid (ownsRow_fr0 HC.out hfA (fun _ _ h => h))
              try have HI := Lib.hid (ownsRow_fr0 HI.out hfA (fun _ _ h => h))
              have HA := Lib.hid ((hfA.block qa (Array.getElem?_eq_some_iff.1 HA.out).1 id).trans HA.out)
              rw [hVA]
              try rw [hqa]
              clear hVA hqa
              refine hK.out _ _ (hHeld.mono (fun _ _ h => h.elim)) (fun hS => ?_)
              clear hK K
              try simp only [Act.put, List.setIfInBounds_toArray, List.set_cons_zero, List.set_cons_succ]
              refine take_call (i := 6) rfl (by kernel_rfl) (by kernel_rfl) (fun K hK => ?_)
              go_simp
              refine (InsertE (i := kk) (S.drop h) HC.out hkL (by omega) b HA.out (fun e => HCA.out _ e rfl) hHeld.size).mono ?_
              rintro e V6 ⟨v6, rfl, hr6, hf6, hob6⟩
              have hHeld := hHeld.trans' hf6 (fun i hi hs => by have := (HC.out.lt i hs).1; omega)
              try have HBB := Lib.hid ((hf6.block qc (Array.getElem?_eq_some_iff.1 HBB.out).1 (fun hs => HCB.out qc hs rfl)).trans HBB.out)
              have HI := Lib.hid hr6
              clear hr6 hf6 hob6
              go_wp2_with fail
              refine hK.out _ _ (hHeld.mono (fun _ _ h => h.elim)) (fun hS => ?_)
              clear hK K
              try simp only [Act.put, List.setIfInBounds_toArray, List.set_cons_zero, List.set_cons_succ]
              refine take_call (i := 9) rfl (by kernel_rfl) (by kernel_rfl) (fun K hK => ?_)
              have hsrc := (show EsIn _ (some ⟨qc, 0, none⟩) [b] from EsIn.of_cells (n := 1) HBB.out (by simp [flatEv, cev])).src (n := 1) rfl 1 Try.underlying28
              refine wp_append_k _ _ 28 28 rfl W4.heap.size 34 i0 (.agg #[.int .i64 0, .int .i64 0, .int .i64 0, .int .i64 0, .int .i64 0]) 5 40 Try.underlying28 hi hz0 hz1 hz2 rfl (by decide) v6 (L - h + 1) _ rfl HI.out (.slice (some ⟨qc, 0, none⟩) 1 1) 1 _ rfl hsrc (by unfold maxLen; omega) (by omega) hHeld.size ?_
              intro v9 V9 hown hgr hdr hob
              obtain ⟨g9, c9, rfl⟩ := ownsRow_k_succ hown
              have hHeld := hHeld.trans' ((Fr0.refl (fun k => v6.ownBlock = some k) _).grown hgr (fun k hk _ => hk)) (fun i hi hs => by have := (HI.out.lt i hs).1; omega)
              have h9 : flatEv (((S.drop h).take kk ++ b :: (S.drop h).drop kk) ++ [b]) = flatEv ((S.drop h).take kk ++ b :: (S.drop h).drop kk) ++ flatEv [b] := flatEv_append _ _
              rw [← h9] at hown
              have H9 := Lib.hid hown
              clear hown hgr hdr hob hsrc h9
              refine hK.out _ _ (hHeld.mono (fun _ _ h => h.elim)) (fun hS => ?_)
              clear hK K
              try simp only [Act.put, List.setIfInBounds_toArray, List.set_cons_zero, List.set_cons_succ]
              refine take_call (i := 10) rfl (by kernel_rfl) (by kernel_rfl) (fun K hK => ?_)
              go_simp
              obtain ⟨_, _, hve, hvl, hvi⟩ := EsIn.of_own H9.out
              injection hve with hE1 hE2 hE3
              subst hE1
              have HQh := HQ.out.later hHeld
              have hput := HQh.1.putAll (m := L - h + 1 + 1) (cap := c9) (((S.drop h).take kk ++ b :: (S.drop h).drop kk) ++ [b]) hvi hvl (by omega) (by omega) (fun g o s e hk => by
                have h7 := (H9.out.lt g9 rfl).1
                have h8 := HQ.out.1.lt g hk
                have h9 : g9 = g := by injection e with e; injection e
                omega)
              obtain ⟨ea, eb⟩ := all_no (n := 60) HWB.out.1 (by have := HWB.out.2.2.2; omega)
              rw [ea, eb] at hput
              clear ea eb hvi hvl hE2 hE3
              refine hput.mono ?_
              rintro e VP ⟨rfl, hq, hfp⟩
              have hfin := Lib.hid (show ∃ (Tn : Nat) (gt : Nat → Prop), Tn ≤ 200 ∧ St w VP qb 60 Tn Z gt ∧ KeptR VP w2.heap.size r Z gt ∧ KeptB VP bb (cev b) 34 gt from ⟨_, _, by omega, HQh.step hq hfp, (HR.out.later hHeld).step hfp, (HX.out.later hHeld).step hfp⟩)
              have hS2 : Fr0 ft W4 VP := (hHeld.mono (fun _ _ h => h.elim)).trans hfp
              clear hq hfp HQh
              go_wp2_with fail
              refine hK.out _ _ hS2 (fun hS => ?_)
              clear hK K
              try simp only [Act.put, List.setIfInBounds_toArray, List.set_cons_zero, List.set_cons_succ]
              refine take_on (i := 11) (v := .tuple #[.int .i64 kk, .int .i64 wd]) rfl (by kernel_rfl) (by kernel_rfl) (by kernel_rfl) (fun _ _ _ h => h) (by kernel_rfl) (fun W' hSW => ?_) (by assumption) ?_
              · first | (go_simp; done) | exact rfl | (go_simp; rfl) | (go_simp; omega)
              try simp only [Act.put, List.setIfInBounds_toArray, List.set_cons_zero, List.set_cons_succ]
              refine take_on (i := 12) (v := .int .i64 kk) rfl (by kernel_rfl) (by kernel_rfl) (by kernel_rfl) (fun _ _ _ h => h) (by kernel_rfl) (fun W' hSW => ?_) (by assumption) ?_
              · first | (go_simp; done) | exact rfl | (go_simp; rfl) | (go_simp; omega)
              try simp only [Act.put, List.setIfInBounds_toArray, List.set_cons_zero, List.set_cons_succ]
              refine take_on (i := 13) (v := .int .i64 wd) rfl (by kernel_rfl) (by kernel_rfl) (by kernel_rfl) (fun _ _ _ h => h) (by kernel_rfl) (fun W' hSW => ?_) (by assumption) ?_
              · first | (go_simp; done) | exact rfl | (go_simp; rfl) | (go_simp; omega)
              try simp only [Act.put, List.setIfInBounds_toArray, List.set_cons_zero, List.set_cons_succ]
              refine take_on (i := 14) (v := .int .i64 kk) rfl (by kernel_rfl) (by kernel_rfl) (by kernel_rfl) (fun _ _ _ h => h) (by kernel_rfl) (fun W' hSW => ?_) (by assumption) ?_
              · first | (go_simp; done) | exact rfl | (go_simp; rfl) | (go_simp; omega)
              try simp only [Act.put, List.setIfInBounds_toArray, List.set_cons_zero, List.set_cons_succ]
              refine take_on (i := 15) (v := .int .i64 wd) rfl (by kernel_rfl) (by kernel_rfl) (by kernel_rfl) (fun _ _ _ h => h) (by kernel_rfl) (fun W' hSW => ?_) (by assumption) ?_
              · first | (go_simp; done) | exact rfl | (go_simp; rfl) | (go_simp; omega)
              try simp only [Act.put, List.setIfInBounds_toArray, List.set_cons_zero, List.set_cons_succ]
              refine wpAnyH_done (by kernel_rfl) ?_ _
              exact HT.out (fun n => ([.pointer (some ⟨qb, 0, none⟩), .slice (dA vc h va) (L - h) (vc - h), v1, .int .i64 kk, .agg #[.int .i64 b.key.time, .int .i64 b.key.source, .int .i64 b.key.seq, .int .i64 b.to, .int .i64 b.value], .slice (some ⟨qa, 0, none⟩) 1 1, v6, .agg #[.int .i64 b.key.time, .int .i64 b.key.source, .int .i64 b.key.seq, .int .i64 b.to, .int .i64 b.value], .slice (some ⟨qc, 0, none⟩) 1 1, .slice (some ⟨g9, 0, none⟩) (L - h + 1 + 1) c9, .tuple #[.int .i64 kk, .int .i64 wd], .tuple #[.int .i64 kk, .int .i64 wd], .int .i64 kk, .int .i64 wd] : List Value).getD n undef) _ hfin.out
          · rw [if_pos (by kernel_rfl)]
            go_simp
            obtain ⟨qc, hqa⟩ : ∃ q, (V1).heap.size = q := ⟨_, rfl⟩
            obtain ⟨Vqc, hVA⟩ : ∃ W, (V1).alloc (.cells #[.int .i64 b.key.time, .int .i64 b.key.source, .int .i64 b.key.seq, .int .i64 b.to, .int .i64 b.value] 34) = W := ⟨_, rfl⟩
            have hfA : Fr0 none' (V1) Vqc := by rw [← hVA]; exact (Fr0.refl none' _).alloc _
            have HBB := Lib.hid (show Vqc.heap[qc]? = some (.cells (cev b).toArray 34 (0, 0)) by rw [← hVA, ← hqa]; exact World.alloc_heap_new _ _)
            have hHeld := hHeld.trans hfA
            try have HCB := Lib.hid (show ∀ g, v1.ownBlock = some g → g ≠ qc from fun g hg e => by have h7 := (HC.out.lt g hg).2; omega)
            try have HC := Lib.hid (ownsRow_fr0 HC.out hfA (fun _ _ h => h))
            try have HI := Lib.hid (ownsRow_fr0 HI.out hfA (fun _ _ h => h))
            skip
            rw [hVA]
            try rw [hqa]
            clear hVA hqa
            refine hK.out _ _ (hHeld.mono (fun _ _ h => h.elim)) (fun hS => ?_)
            clear hK K
            try simp only [Act.put, List.setIfInBounds_toArray, List.set_cons_zero, List.set_cons_succ]
            refine take_call (i := 5) rfl (by kernel_rfl) (by kernel_rfl) (fun K hK => ?_)
            go_simp
            obtain ⟨qa, hqa⟩ : ∃ q, (Vqc).heap.size = q := ⟨_, rfl⟩
            obtain ⟨Vqa, hVA⟩ : ∃ W, (Vqc).alloc (.cells #[.int .i64 b.key.time, .int .i64 b.key.source, .int .i64 b.key.seq, .int .i64 b.to, .int .i64 b.value] 34) = W := ⟨_, rfl⟩
            have hfA : Fr0 none' (Vqc) Vqa := by rw [← hVA]; exact (Fr0.refl none' _).alloc _
            have HA := Lib.hid (show Vqa.heap[qa]? = some (.cells (cev b).toArray 34 (0, 0)) by rw [← hVA, ← hqa]; exact World.alloc_heap_new _ _)
            have hHeld := hHeld.trans hfA
            try have HCA := Lib.hid (show ∀ g, v1.ownBlock = some g → g ≠ qa from fun g hg e => by have h7 := (HC.out.lt g hg).2; omega)
            try have HC := Lib.hid (ownsRow_fr0 HC.out hfA (fun _ _ h => h))
            try have HI := Lib.hid (ownsRow_fr0 HI.out hfA (fun _ _ h => h))
            have HBB := Lib.hid ((hfA.block qc (Array.getElem?_eq_some_iff.1 HBB.out).1 id).trans HBB.out)
            rw [hVA]
            try rw [hqa]
            clear hVA hqa
            refine hK.out _ _ (hHeld.mono (fun _ _ h => h.elim)) (fun hS => ?_)
            clear hK K
            try simp only [Act.put, List.setIfInBounds_toArray, List.set_cons_zero, List.set_cons_succ]
            refine take_call (i := 6) rfl (by kernel_rfl) (by kernel_rfl) (fun K hK => ?_)
            go_simp
            refine (InsertE (i := kk) (S.drop h) HC.out hkL (by omega) b HA.out (fun e => HCA.out _ e rfl) hHeld.size).mono ?_
            rintro e V6 ⟨v6, rfl, hr6, hf6, hob6⟩
            have hHeld := hHeld.trans' hf6 (fun i hi hs => by have := (HC.out.lt i hs).1; omega)
            try have HBB := Lib.hid ((hf6.block qc (Array.getElem?_eq_some_iff.1 HBB.out).1 (fun hs => HCB.out qc hs rfl)).trans HBB.out)
            have HI := Lib.hid hr6
            clear hr6 hf6 hob6
            go_wp2_with fail
            refine hK.out _ _ (hHeld.mono (fun _ _ h => h.elim)) (fun hS => ?_)
            clear hK K
            try simp only [Act.put, List.setIfInBounds_toArray, List.set_cons_zero, List.set_cons_succ]
            refine take_call (i := 9) rfl (by kernel_rfl) (by kernel_rfl) (fun K hK => ?_)
            have hsrc := (show EsIn _ (some ⟨qc, 0, none⟩) [b] from EsIn.of_cells (n := 1) HBB.out (by simp [flatEv, cev])).src (n := 1) rfl 1 Try.underlying28
            refine wp_append_k _ _ 28 28 rfl W4.heap.size 34 i0 (.agg #[.int .i64 0, .int .i64 0, .int .i64 0, .int .i64 0, .int .i64 0]) 5 40 Try.underlying28 hi hz0 hz1 hz2 rfl (by decide) v6 (L - h + 1) _ rfl HI.out (.slice (some ⟨qc, 0, none⟩) 1 1) 1 _ rfl hsrc (by unfold maxLen; omega) (by omega) hHeld.size ?_
            intro v9 V9 hown hgr hdr hob
            obtain ⟨g9, c9, rfl⟩ := ownsRow_k_succ hown
            have hHeld := hHeld.trans' ((Fr0.refl (fun k => v6.ownBlock = some k) _).grown hgr (fun k hk _ => hk)) (fun i hi hs => by have := (HI.out.lt i hs).1; omega)
            have h9 : flatEv (((S.drop h).take kk ++ b :: (S.drop h).drop kk) ++ [b]) = flatEv ((S.drop h).take kk ++ b :: (S.drop h).drop kk) ++ flatEv [b] := flatEv_append _ _
            rw [← h9] at hown
            have H9 := Lib.hid hown
            clear hown hgr hdr hob hsrc h9
            refine hK.out _ _ (hHeld.mono (fun _ _ h => h.elim)) (fun hS => ?_)
            clear hK K
            try simp only [Act.put, List.setIfInBounds_toArray, List.set_cons_zero, List.set_cons_succ]
            refine take_call (i := 10) rfl (by kernel_rfl) (by kernel_rfl) (fun K hK => ?_)
            go_simp
            obtain ⟨_, _, hve, hvl, hvi⟩ := EsIn.of_own H9.out
            injection hve with hE1 hE2 hE3
            subst hE1
            have HQh := HQ.out.later hHeld
            have hput := HQh.1.putAll (m := L - h + 1 + 1) (cap := c9) (((S.drop h).take kk ++ b :: (S.drop h).drop kk) ++ [b]) hvi hvl (by omega) (by omega) (fun g o s e hk => by
              have h7 := (H9.out.lt g9 rfl).1
              have h8 := HQ.out.1.lt g hk
              have h9 : g9 = g := by injection e with e; injection e
              omega)
            obtain ⟨ea, eb⟩ := all_no (n := 60) HWB.out.1 (by have := HWB.out.2.2.2; omega)
            rw [ea, eb] at hput
            clear ea eb hvi hvl hE2 hE3
            refine hput.mono ?_
            rintro e VP ⟨rfl, hq, hfp⟩
            have hfin := Lib.hid (show ∃ (Tn : Nat) (gt : Nat → Prop), Tn ≤ 200 ∧ St w VP qb 60 Tn Z gt ∧ KeptR VP w2.heap.size r Z gt ∧ KeptB VP bb (cev b) 34 gt from ⟨_, _, by omega, HQh.step hq hfp, (HR.out.later hHeld).step hfp, (HX.out.later hHeld).step hfp⟩)
            have hS2 : Fr0 ft W4 VP := (hHeld.mono (fun _ _ h => h.elim)).trans hfp
            clear hq hfp HQh
            go_wp2_with fail
            refine hK.out _ _ hS2 (fun hS => ?_)
            clear hK K
            try simp only [Act.put, List.setIfInBounds_toArray, List.set_cons_zero, List.set_cons_succ]
            refine take_on (i := 11) (v := .tuple #[.int .i64 kk, .int .i64 wd]) rfl (by kernel_rfl) (by kernel_rfl) (by kernel_rfl) (fun _ _ _ h => h) (by kernel_rfl) (fun W' hSW => ?_) (by assumption) ?_
            · first | (go_simp; done) | exact rfl | (go_simp; rfl) | (go_simp; omega)
            try simp only [Act.put, List.setIfInBounds_toArray, List.set_cons_zero, List.set_cons_succ]
            refine take_on (i := 12) (v := .int .i64 kk) rfl (by kernel_rfl) (by kernel_rfl) (by kernel_rfl) (fun _ _ _ h => h) (by kernel_rfl) (fun W' hSW => ?_) (by assumption) ?_
            · first | (go_simp; done) | exact rfl | (go_simp; rfl) | (go_simp; omega)
            try simp only [Act.put, List.setIfInBounds_toArray, List.set_cons_zero, List.set_cons_succ]
            refine take_on (i := 13) (v := .int .i64 wd) rfl (by kernel_rfl) (by kernel_rfl) (by kernel_rfl) (fun _ _ _ h => h) (by kernel_rfl) (fun W' hSW => ?_) (by assumption) ?_
            · first | (go_simp; done) | exact rfl | (go_simp; rfl) | (go_simp; omega)
            try simp only [Act.put, List.setIfInBounds_toArray, List.set_cons_zero, List.set_cons_succ]
            refine take_on (i := 14) (v := .int .i64 kk) rfl (by kernel_rfl) (by kernel_rfl) (by kernel_rfl) (fun _ _ _ h => h) (by kernel_rfl) (fun W' hSW => ?_) (by assumption) ?_
            · first | (go_simp; done) | exact rfl | (go_simp; rfl) | (go_simp; omega)
            try simp only [Act.put, List.setIfInBounds_toArray, List.set_cons_zero, List.set_cons_succ]
            refine take_on (i := 15) (v := .int .i64 wd) rfl (by kernel_rfl) (by kernel_rfl) (by kernel_rfl) (fun _ _ _ h => h) (by kernel_rfl) (fun W' hSW => ?_) (by assumption) ?_
            · first | (go_simp; done) | exact rfl | (go_simp; rfl) | (go_simp; omega)
            try simp only [Act.put, List.setIfInBounds_toArray, List.set_cons_zero, List.set_cons_succ]
            refine wpAnyH_done (by kernel_rfl) ?_ _
            exact HT.out (fun n => ([.pointer (some ⟨qb, 0, none⟩), .slice (dA vc h va) (L - h) (vc - h), v1, .int .i64 kk, .agg #[.int .i64 b.key.time, .int .i64 b.key.source, .int .i64 b.key.seq, .int .i64 b.to, .int .i64 b.value], .slice (some ⟨qa, 0, none⟩) 1 1, v6, .agg #[.int .i64 b.key.time, .int .i64 b.key.source, .int .i64 b.key.seq, .int .i64 b.to, .int .i64 b.value], .slice (some ⟨qc, 0, none⟩) 1 1, .slice (some ⟨g9, 0, none⟩) (L - h + 1 + 1) c9, .tuple #[.int .i64 kk, .int .i64 wd], .tuple #[.int .i64 kk, .int .i64 wd], .int .i64 kk, .int .i64 wd] : List Value).getD n undef) _ hfin.out
        · rw [if_pos (by kernel_rfl)]
          go_simp
          obtain ⟨qa, hqa⟩ : ∃ q, W4.heap.size = q := ⟨_, rfl⟩
          obtain ⟨Vqa, hVA⟩ : ∃ W, (W4.alloc (.cells #[.int .i64 b.key.time, .int .i64 b.key.source, .int .i64 b.key.seq, .int .i64 b.to, .int .i64 b.value] 34)).drew = W := ⟨_, rfl⟩
          have hHeld : Fr0 none' W4 Vqa := by rw [← hVA]; exact ((Fr0.refl none' W4).alloc _).drew
          have HA := Lib.hid (show Vqa.heap[qa]? = some (.cells (cev b).toArray 34 (0, 0)) by rw [← hVA, ← hqa]; exact World.alloc_heap_new W4 _)
          rw [hVA]
          try rw [hqa]
          clear hVA hqa
          refine hK.out _ _ (hHeld.mono (fun _ _ h => h.elim)) (fun hS => ?_)
          clear hK K
          try simp only [Act.put, List.setIfInBounds_toArray, List.set_cons_zero, List.set_cons_succ]
          refine wpAnyH_ready (rs := [2, 8]) (by kernel_rfl) (by simp) (AllReadyH.cons (op_at rfl) (fun K hK => ?_) (AllReadyH.cons (op_at rfl) (fun K hK => ?_) AllReadyH.nil))
          · rw [if_pos (by kernel_rfl)]
            go_simp
            refine (HCl.out _ hHeld).mono ?_
            rintro e V1 ⟨v1, rfl, hr1, hf1⟩
            try have HCA := Lib.hid (show ∀ g, v1.ownBlock = some g → g ≠ qa from fun g hg e => by have h7 := (hr1.lt g hg).1; have h8 := (Array.getElem?_eq_some_iff.1 HA.out).1; omega)
            try have HCB := Lib.hid (show ∀ g, v1.ownBlock = some g → g ≠ qc from fun g hg e => by have h7 := (hr1.lt g hg).1; have h8 := (Array.getElem?_eq_some_iff.1 HBB.out).1; omega)
            try have HA := Lib.hid ((hf1.block qa (Array.getElem?_eq_some_iff.1 HA.out).1 id).trans HA.out)
            try have HBB := Lib.hid ((hf1.block qc (Array.getElem?_eq_some_iff.1 HBB.out).1 id).trans HBB.out)
            have HC := Lib.hid (own_up hr1 hHeld.size)
            have hHeld := hHeld.trans hf1
            clear hr1 hf1
            go_wp2_with fail
            refine hK.out _ _ (hHeld.mono (fun _ _ h => h.elim)) (fun hS => ?_)
            clear hK K
            try simp only [Act.put, List.setIfInBounds_toArray, List.set_cons_zero, List.set_cons_succ]
            refine wpAnyH_ready (rs := [6, 8]) (by kernel_rfl) (by simp) (AllReadyH.cons (op_at rfl) (fun K hK => ?_) (AllReadyH.cons (op_at rfl) (fun K hK => ?_) AllReadyH.nil))
            · rw [if_pos (by kernel_rfl)]
              go_simp
              refine (InsertE (i := kk) (S.drop h) HC.out hkL (by omega) b HA.out (fun e => HCA.out _ e rfl) hHeld.size).mono ?_
              rintro e V6 ⟨v6, rfl, hr6, hf6, hob6⟩
              have hHeld := hHeld.trans' hf6 (fun i hi hs => by have := (HC.out.lt i hs).1; omega)
              try have HBB := Lib.hid ((hf6.block qc (Array.getElem?_eq_some_iff.1 HBB.out).1 (fun hs => HCB.out qc hs rfl)).trans HBB.out)
              have HI := Lib.hid hr6
              clear hr6 hf6 hob6
              go_wp2_with fail
              refine hK.out _ _ (hHeld.mono (fun _ _ h => h.elim)) (fun hS => ?_)
              clear hK K
              try simp only [Act.put, List.setIfInBounds_toArray, List.set_cons_zero, List.set_cons_succ]
              refine take_call (i := 8) rfl (by kernel_rfl) (by kernel_rfl) (fun K hK => ?_)
              go_simp
              obtain ⟨qc, hqa⟩ : ∃ q, (V6).heap.size = q := ⟨_, rfl⟩
              obtain ⟨Vqc, hVA⟩ : ∃ W, (V6).alloc (.cells #[.int .i64 b.key.time, .int .i64 b.key.source, .int .i64 b.key.seq, .int .i64 b.to, .int .i64 b.value] 34) = W := ⟨_, rfl⟩
              have hfA : Fr0 none' (V6) Vqc := by rw [← hVA]; exact (Fr0.refl none' _).alloc _
              have HBB := Lib.hid (show Vqc.heap[qc]? = some (.cells (cev b).toArray 34 (0, 0)) by rw [← hVA, ← hqa]; exact World.alloc_heap_new _ _)
              have hHeld := hHeld.trans hfA
              try have HCB := Lib.hid (show ∀ g, v1.ownBlock = some g → g ≠ qc from fun g hg e => by have h7 := (HC.out.lt g hg).2; omega)
              try have HC := Lib.hid (ownsRow_fr0 HC.out hfA (fun _ _ h => h))
              try have HI := Lib.hid (ownsRow_fr0 HI.out hfA (fun _ _ h => h))
              skip
              rw [hVA]
              try rw [hqa]
              clear hVA hqa
              refine hK.out _ _ (hHeld.mono (fun _ _ h => h.elim)) (fun hS => ?_)
              clear hK K
              try simp only [Act.put, List.setIfInBounds_toArray, List.set_cons_zero, List.set_cons_succ]
              refine take_call (i := 9) rfl (by kernel_rfl) (by kernel_rfl) (fun K hK => ?_)
              have hsrc := (show EsIn _ (some ⟨qc, 0, none⟩) [b] from EsIn.of_cells (n := 1) HBB.out (by simp [flatEv, cev])).src (n := 1) rfl 1 Try.underlying28
              refine wp_append_k _ _ 28 28 rfl W4.heap.size 34 i0 (.agg #[.int .i64 0, .int .i64 0, .int .i64 0, .int .i64 0, .int .i64 0]) 5 40 Try.underlying28 hi hz0 hz1 hz2 rfl (by decide) v6 (L - h + 1) _ rfl HI.out (.slice (some ⟨qc, 0, none⟩) 1 1) 1 _ rfl hsrc (by unfold maxLen; omega) (by omega) hHeld.size ?_
              intro v9 V9 hown hgr hdr hob
              obtain ⟨g9, c9, rfl⟩ := ownsRow_k_succ hown
              have hHeld := hHeld.trans' ((Fr0.refl (fun k => v6.ownBlock = some k) _).grown hgr (fun k hk _ => hk)) (fun i hi hs => by have := (HI.out.lt i hs).1; omega)
              have h9 : flatEv (((S.drop h).take kk ++ b :: (S.drop h).drop kk) ++ [b]) = flatEv ((S.drop h).take kk ++ b :: (S.drop h).drop kk) ++ flatEv [b] := flatEv_append _ _
              rw [← h9] at hown
              have H9 := Lib.hid hown
              clear hown hgr hdr hob hsrc h9
              refine hK.out _ _ (hHeld.mono (fun _ _ h => h.elim)) (fun hS => ?_)
              clear hK K
              try simp only [Act.put, List.setIfInBounds_toArray, List.set_cons_zero, List.set_cons_succ]
              refine take_call (i := 10) rfl (by kernel_rfl) (by kernel_rfl) (fun K hK => ?_)
              go_simp
              obtain ⟨_, _, hve, hvl, hvi⟩ := EsIn.of_own H9.out
              injection hve with hE1 hE2 hE3
              subst hE1
              have HQh := HQ.out.later hHeld
              have hput := HQh.1.putAll (m := L - h + 1 + 1) (cap := c9) (((S.drop h).take kk ++ b :: (S.drop h).drop kk) ++ [b]) hvi hvl (by omega) (by omega) (fun g o s e hk => by
                have h7 := (H9.out.lt g9 rfl).1
                have h8 := HQ.out.1.lt g hk
                have h9 : g9 = g := by injection e with e; injection e
                omega)
              obtain ⟨ea, eb⟩ := all_no (n := 60) HWB.out.1 (by have := HWB.out.2.2.2; omega)
              rw [ea, eb] at hput
              clear ea eb hvi hvl hE2 hE3
              refine hput.mono ?_
              rintro e VP ⟨rfl, hq, hfp⟩
              have hfin := Lib.hid (show ∃ (Tn : Nat) (gt : Nat → Prop), Tn ≤ 200 ∧ St w VP qb 60 Tn Z gt ∧ KeptR VP w2.heap.size r Z gt ∧ KeptB VP bb (cev b) 34 gt from ⟨_, _, by omega, HQh.step hq hfp, (HR.out.later hHeld).step hfp, (HX.out.later hHeld).step hfp⟩)
              have hS2 : Fr0 ft W4 VP := (hHeld.mono (fun _ _ h => h.elim)).trans hfp
              clear hq hfp HQh
              go_wp2_with fail
              refine hK.out _ _ hS2 (fun hS => ?_)
              clear hK K
              try simp only [Act.put, List.setIfInBounds_toArray, List.set_cons_zero, List.set_cons_succ]
              refine take_on (i := 11) (v := .tuple #[.int .i64 kk, .int .i64 wd]) rfl (by kernel_rfl) (by kernel_rfl) (by kernel_rfl) (fun _ _ _ h => h) (by kernel_rfl) (fun W' hSW => ?_) (by assumption) ?_
              · first | (go_simp; done) | exact rfl | (go_simp; rfl) | (go_simp; omega)
              try simp only [Act.put, List.setIfInBounds_toArray, List.set_cons_zero, List.set_cons_succ]
              refine take_on (i := 12) (v := .int .i64 kk) rfl (by kernel_rfl) (by kernel_rfl) (by kernel_rfl) (fun _ _ _ h => h) (by kernel_rfl) (fun W' hSW => ?_) (by assumption) ?_
              · first | (go_simp; done) | exact rfl | (go_simp; rfl) | (go_simp; omega)
              try simp only [Act.put, List.setIfInBounds_toArray, List.set_cons_zero, List.set_cons_succ]
              refine take_on (i := 13) (v := .int .i64 wd) rfl (by kernel_rfl) (by kernel_rfl) (by kernel_rfl) (fun _ _ _ h => h) (by kernel_rfl) (fun W' hSW => ?_) (by assumption) ?_
              · first | (go_simp; done) | exact rfl | (go_simp; rfl) | (go_simp; omega)
              try simp only [Act.put, List.setIfInBounds_toArray, List.set_cons_zero, List.set_cons_succ]
              refine take_on (i := 14) (v := .int .i64 kk) rfl (by kernel_rfl) (by kernel_rfl) (by kernel_rfl) (fun _ _ _ h => h) (by kernel_rfl) (fun W' hSW => ?_) (by assumption) ?_
              · first | (go_simp; done) | exact rfl | (go_simp; rfl) | (go_simp; omega)
              try simp only [Act.put, List.setIfInBounds_toArray, List.set_cons_zero, List.set_cons_succ]
              refine take_on (i := 15) (v := .int .i64 wd) rfl (by kernel_rfl) (by kernel_rfl) (by kernel_rfl) (fun _ _ _ h => h) (by kernel_rfl) (fun W' hSW => ?_) (by assumption) ?_
              · first | (go_simp; done) | exact rfl | (go_simp; rfl) | (go_simp; omega)
              try simp only [Act.put, List.setIfInBounds_toArray, List.set_cons_zero, List.set_cons_succ]
              refine wpAnyH_done (by kernel_rfl) ?_ _
              exact HT.out (fun n => ([.pointer (some ⟨qb, 0, none⟩), .slice (dA vc h va) (L - h) (vc - h), v1, .int .i64 kk, .agg #[.int .i64 b.key.time, .int .i64 b.key.source, .int .i64 b.key.seq, .int .i64 b.to, .int .i64 b.value], .slice (some ⟨qa, 0, none⟩) 1 1, v6, .agg #[.int .i64 b.key.time, .int .i64 b.key.source, .int .i64 b.key.seq, .int .i64 b.to, .int .i64 b.value], .slice (some ⟨qc, 0, none⟩) 1 1, .slice (some ⟨g9, 0, none⟩) (L - h + 1 + 1) c9, .tuple #[.int .i64 kk, .int .i64 wd], .tuple #[.int .i64 kk, .int .i64 wd], .int .i64 kk, .int .i64 wd] : List Value).getD n undef) _ hfin.out
            · rw [if_pos (by kernel_rfl)]
              go_simp
              obtain ⟨qc, hqa⟩ : ∃ q, (V1).heap.size = q := ⟨_, rfl⟩
              obtain ⟨Vqc, hVA⟩ : ∃ W, (V1).alloc (.cells #[.int .i64 b.key.time, .int .i64 b.key.source, .int .i64 b.key.seq, .int .i64 b.to, .int .i64 b.value] 34) = W := ⟨_, rfl⟩
              have hfA : Fr0 none' (V1) Vqc := by rw [← hVA]; exact (Fr0.refl none' _).alloc _
              have HBB := Lib.hid (show Vqc.heap[qc]? = some (.cells (cev b).toArray 34 (0, 0)) by rw [← hVA, ← hqa]; exact World.alloc_heap_new _ _)
              have hHeld := hHeld.trans hfA
              try have HCB := Lib.hid (show ∀ g, v1.ownBlock = some g → g ≠ qc from fun g hg e => by have h7 := (HC.out.lt g hg).2; omega)
              try have HC := Lib.hid (ownsRow_fr0 HC.out hfA (fun _ _ h => h))
              try have HI := Lib.hid (ownsRow_fr0 HI.out hfA (fun _ _ h => h))
              have HA := Lib.hid ((hfA.block qa (Array.getElem?_eq_some_iff.1 HA.out).1 id).trans HA.out)
              rw [hVA]
              try rw [hqa]
              clear hVA hqa
              refine hK.out _ _ (hHeld.mono (fun _ _ h => h.elim)) (fun hS => ?_)
              clear hK K
              try simp only [Act.put, List.setIfInBounds_toArray, List.set_cons_zero, List.set_cons_succ]
              refine take_call (i := 6) rfl (by kernel_rfl) (by kernel_rfl) (fun K hK => ?_)
              go_simp
              refine (InsertE (i := kk) (S.drop h) HC.out hkL (by omega) b HA.out (fun e => HCA.out _ e rfl) hHeld.size).mono ?_
              rintro e V6 ⟨v6, rfl, hr6, hf6, hob6⟩
              have hHeld := hHeld.trans' hf6 (fun i hi hs => by have := (HC.out.lt i hs).1; omega)
              try have HBB := Lib.hid ((hf6.block qc (Array.getElem?_eq_some_iff.1 HBB.out).1 (fun hs => HCB.out qc hs rfl)).trans HBB.out)
              have HI := Lib.hid hr6
              clear hr6 hf6 hob6
              go_wp2_with fail
              refine hK.out _ _ (hHeld.mono (fun _ _ h => h.elim)) (fun hS => ?_)
              clear hK K
              try simp only [Act.put, List.setIfInBounds_toArray, List.set_cons_zero, List.set_cons_succ]
              refine take_call (i := 9) rfl (by kernel_rfl) (by kernel_rfl) (fun K hK => ?_)
              have hsrc := (show EsIn _ (some ⟨qc, 0, none⟩) [b] from EsIn.of_cells (n := 1) HBB.out (by simp [flatEv, cev])).src (n := 1) rfl 1 Try.underlying28
              refine wp_append_k _ _ 28 28 rfl W4.heap.size 34 i0 (.agg #[.int .i64 0, .int .i64 0, .int .i64 0, .int .i64 0, .int .i64 0]) 5 40 Try.underlying28 hi hz0 hz1 hz2 rfl (by decide) v6 (L - h + 1) _ rfl HI.out (.slice (some ⟨qc, 0, none⟩) 1 1) 1 _ rfl hsrc (by unfold maxLen; omega) (by omega) hHeld.size ?_
              intro v9 V9 hown hgr hdr hob
              obtain ⟨g9, c9, rfl⟩ := ownsRow_k_succ hown
              have hHeld := hHeld.trans' ((Fr0.refl (fun k => v6.ownBlock = some k) _).grown hgr (fun k hk _ => hk)) (fun i hi hs => by have := (HI.out.lt i hs).1; omega)
              have h9 : flatEv (((S.drop h).take kk ++ b :: (S.drop h).drop kk) ++ [b]) = flatEv ((S.drop h).take kk ++ b :: (S.drop h).drop kk) ++ flatEv [b] := flatEv_append _ _
              rw [← h9] at hown
              have H9 := Lib.hid hown
              clear hown hgr hdr hob hsrc h9
              refine hK.out _ _ (hHeld.mono (fun _ _ h => h.elim)) (fun hS => ?_)
              clear hK K
              try simp only [Act.put, List.setIfInBounds_toArray, List.set_cons_zero, List.set_cons_succ]
              refine take_call (i := 10) rfl (by kernel_rfl) (by kernel_rfl) (fun K hK => ?_)
              go_simp
              obtain ⟨_, _, hve, hvl, hvi⟩ := EsIn.of_own H9.out
              injection hve with hE1 hE2 hE3
              subst hE1
              have HQh := HQ.out.later hHeld
              have hput := HQh.1.putAll (m := L - h + 1 + 1) (cap := c9) (((S.drop h).take kk ++ b :: (S.drop h).drop kk) ++ [b]) hvi hvl (by omega) (by omega) (fun g o s e hk => by
                have h7 := (H9.out.lt g9 rfl).1
                have h8 := HQ.out.1.lt g hk
                have h9 : g9 = g := by injection e with e; injection e
                omega)
              obtain ⟨ea, eb⟩ := all_no (n := 60) HWB.out.1 (by have := HWB.out.2.2.2; omega)
              rw [ea, eb] at hput
              clear ea eb hvi hvl hE2 hE3
              refine hput.mono ?_
              rintro e VP ⟨rfl, hq, hfp⟩
              have hfin := Lib.hid (show ∃ (Tn : Nat) (gt : Nat → Prop), Tn ≤ 200 ∧ St w VP qb 60 Tn Z gt ∧ KeptR VP w2.heap.size r Z gt ∧ KeptB VP bb (cev b) 34 gt from ⟨_, _, by omega, HQh.step hq hfp, (HR.out.later hHeld).step hfp, (HX.out.later hHeld).step hfp⟩)
              have hS2 : Fr0 ft W4 VP := (hHeld.mono (fun _ _ h => h.elim)).trans hfp
              clear hq hfp HQh
              go_wp2_with fail
              refine hK.out _ _ hS2 (fun hS => ?_)
              clear hK K
              try simp only [Act.put, List.setIfInBounds_toArray, List.set_cons_zero, List.set_cons_succ]
              refine take_on (i := 11) (v := .tuple #[.int .i64 kk, .int .i64 wd]) rfl (by kernel_rfl) (by kernel_rfl) (by kernel_rfl) (fun _ _ _ h => h) (by kernel_rfl) (fun W' hSW => ?_) (by assumption) ?_
              · first | (go_simp; done) | exact rfl | (go_simp; rfl) | (go_simp; omega)
              try simp only [Act.put, List.setIfInBounds_toArray, List.set_cons_zero, List.set_cons_succ]
              refine take_on (i := 12) (v := .int .i64 kk) rfl (by kernel_rfl) (by kernel_rfl) (by kernel_rfl) (fun _ _ _ h => h) (by kernel_rfl) (fun W' hSW => ?_) (by assumption) ?_
              · first | (go_simp; done) | exact rfl | (go_simp; rfl) | (go_simp; omega)
              try simp only [Act.put, List.setIfInBounds_toArray, List.set_cons_zero, List.set_cons_succ]
              refine take_on (i := 13) (v := .int .i64 wd) rfl (by kernel_rfl) (by kernel_rfl) (by kernel_rfl) (fun _ _ _ h => h) (by kernel_rfl) (fun W' hSW => ?_) (by assumption) ?_
              · first | (go_simp; done) | exact rfl | (go_simp; rfl) | (go_simp; omega)
              try simp only [Act.put, List.setIfInBounds_toArray, List.set_cons_zero, List.set_cons_succ]
              refine take_on (i := 14) (v := .int .i64 kk) rfl (by kernel_rfl) (by kernel_rfl) (by kernel_rfl) (fun _ _ _ h => h) (by kernel_rfl) (fun W' hSW => ?_) (by assumption) ?_
              · first | (go_simp; done) | exact rfl | (go_simp; rfl) | (go_simp; omega)
              try simp only [Act.put, List.setIfInBounds_toArray, List.set_cons_zero, List.set_cons_succ]
              refine take_on (i := 15) (v := .int .i64 wd) rfl (by kernel_rfl) (by kernel_rfl) (by kernel_rfl) (fun _ _ _ h => h) (by kernel_rfl) (fun W' hSW => ?_) (by assumption) ?_
              · first | (go_simp; done) | exact rfl | (go_simp; rfl) | (go_simp; omega)
              try simp only [Act.put, List.setIfInBounds_toArray, List.set_cons_zero, List.set_cons_succ]
              refine wpAnyH_done (by kernel_rfl) ?_ _
              exact HT.out (fun n => ([.pointer (some ⟨qb, 0, none⟩), .slice (dA vc h va) (L - h) (vc - h), v1, .int .i64 kk, .agg #[.int .i64 b.key.time, .int .i64 b.key.source, .int .i64 b.key.seq, .int .i64 b.to, .int .i64 b.value], .slice (some ⟨qa, 0, none⟩) 1 1, v6, .agg #[.int .i64 b.key.time, .int .i64 b.key.source, .int .i64 b.key.seq, .int .i64 b.to, .int .i64 b.value], .slice (some ⟨qc, 0, none⟩) 1 1, .slice (some ⟨g9, 0, none⟩) (L - h + 1 + 1) c9, .tuple #[.int .i64 kk, .int .i64 wd], .tuple #[.int .i64 kk, .int .i64 wd], .int .i64 kk, .int .i64 wd] : List Value).getD n undef) _ hfin.out
          · rw [if_pos (by kernel_rfl)]
            go_simp
            obtain ⟨qc, hqa⟩ : ∃ q, (Vqa).heap.size = q := ⟨_, rfl⟩
            obtain ⟨Vqc, hVA⟩ : ∃ W, (Vqa).alloc (.cells #[.int .i64 b.key.time, .int .i64 b.key.source, .int .i64 b.key.seq, .int .i64 b.to, .int .i64 b.value] 34) = W := ⟨_, rfl⟩
            have hfA : Fr0 none' (Vqa) Vqc := by rw [← hVA]; exact (Fr0.refl none' _).alloc _
            have HBB := Lib.hid (show Vqc.heap[qc]? = some (.cells (cev b).toArray 34 (0, 0)) by rw [← hVA, ← hqa]; exact World.alloc_heap_new _ _)
            have hHeld := hHeld.trans hfA
            try have HCB := Lib.hid (show ∀ g, v1.ownBlock = some g → g ≠ qc from fun g hg e => by have h7 := (HC.out.lt g hg).2; omega)
            try have HC := Lib.hid (ownsRow_fr0 HC.out hfA (fun _ _ h => h))
            try have HI := Lib.hid (ownsRow_fr0 HI.out hfA (fun _ _ h => h))
            have HA := Lib.hid ((hfA.block qa (Array.getElem?_eq_some_iff.1 HA.out).1 id).trans HA.out)
            rw [hVA]
            try rw [hqa]
            clear hVA hqa
            refine hK.out _ _ (hHeld.mono (fun _ _ h => h.elim)) (fun hS => ?_)
            clear hK K
            try simp only [Act.put, List.setIfInBounds_toArray, List.set_cons_zero, List.set_cons_succ]
            refine take_call (i := 2) rfl (by kernel_rfl) (by kernel_rfl) (fun K hK => ?_)
            go_simp
            refine (HCl.out _ hHeld).mono ?_
            rintro e V1 ⟨v1, rfl, hr1, hf1⟩
            try have HCA := Lib.hid (show ∀ g, v1.ownBlock = some g → g ≠ qa from fun g hg e => by have h7 := (hr1.lt g hg).1; have h8 := (Array.getElem?_eq_some_iff.1 HA.out).1; omega)
            try have HCB := Lib.hid (show ∀ g, v1.ownBlock = some g → g ≠ qc from fun g hg e => by have h7 := (hr1.lt g hg).1; have h8 := (Array.getElem?_eq_some_iff.1 HBB.out).1; omega)
            try have HA := Lib.hid ((hf1.block qa (Array.getElem?_eq_some_iff.1 HA.out).1 id).trans HA.out)
            try have HBB := Lib.hid ((hf1.block qc (Array.getElem?_eq_some_iff.1 HBB.out).1 id).trans HBB.out)
            have HC := Lib.hid (own_up hr1 hHeld.size)
            have hHeld := hHeld.trans hf1
            clear hr1 hf1
            go_wp2_with fail
            refine hK.out _ _ (hHeld.mono (fun _ _ h => h.elim)) (fun hS => ?_)
            clear hK K
            try simp only [Act.put, List.setIfInBounds_toArray, List.set_cons_zero, List.set_cons_succ]
            refine take_call (i := 6) rfl (by kernel_rfl) (by kernel_rfl) (fun K hK => ?_)
            go_simp
            refine (InsertE (i := kk) (S.drop h) HC.out hkL (by omega) b HA.out (fun e => HCA.out _ e rfl) hHeld.size).mono ?_
            rintro e V6 ⟨v6, rfl, hr6, hf6, hob6⟩
            have hHeld := hHeld.trans' hf6 (fun i hi hs => by have := (HC.out.lt i hs).1; omega)
            try have HBB := Lib.hid ((hf6.block qc (Array.getElem?_eq_some_iff.1 HBB.out).1 (fun hs => HCB.out qc hs rfl)).trans HBB.out)
            have HI := Lib.hid hr6
            clear hr6 hf6 hob6
            go_wp2_with fail
            refine hK.out _ _ (hHeld.mono (fun _ _ h => h.elim)) (fun hS => ?_)
            clear hK K
            try simp only [Act.put, List.setIfInBounds_toArray, List.set_cons_zero, List.set_cons_succ]
            refine take_call (i := 9) rfl (by kernel_rfl) (by kernel_rfl) (fun K hK => ?_)
            have hsrc := (show EsIn _ (some ⟨qc, 0, none⟩) [b] from EsIn.of_cells (n := 1) HBB.out (by simp [flatEv, cev])).src (n := 1) rfl 1 Try.underlying28
            refine wp_append_k _ _ 28 28 rfl W4.heap.size 34 i0 (.agg #[.int .i64 0, .int .i64 0, .int .i64 0, .int .i64 0, .int .i64 0]) 5 40 Try.underlying28 hi hz0 hz1 hz2 rfl (by decide) v6 (L - h + 1) _ rfl HI.out (.slice (some ⟨qc, 0, none⟩) 1 1) 1 _ rfl hsrc (by unfold maxLen; omega) (by omega) hHeld.size ?_
            intro v9 V9 hown hgr hdr hob
            obtain ⟨g9, c9, rfl⟩ := ownsRow_k_succ hown
            have hHeld := hHeld.trans' ((Fr0.refl (fun k => v6.ownBlock = some k) _).grown hgr (fun k hk _ => hk)) (fun i hi hs => by have := (HI.out.lt i hs).1; omega)
            have h9 : flatEv (((S.drop h).take kk ++ b :: (S.drop h).drop kk) ++ [b]) = flatEv ((S.drop h).take kk ++ b :: (S.drop h).drop kk) ++ flatEv [b] := flatEv_append _ _
            rw [← h9] at hown
            have H9 := Lib.hid hown
            clear hown hgr hdr hob hsrc h9
            refine hK.out _ _ (hHeld.mono (fun _ _ h => h.elim)) (fun hS => ?_)
            clear hK K
            try simp only [Act.put, List.setIfInBounds_toArray, List.set_cons_zero, List.set_cons_succ]
            refine take_call (i := 10) rfl (by kernel_rfl) (by kernel_rfl) (fun K hK => ?_)
            go_simp
            obtain ⟨_, _, hve, hvl, hvi⟩ := EsIn.of_own H9.out
            injection hve with hE1 hE2 hE3
            subst hE1
            have HQh := HQ.out.later hHeld
            have hput := HQh.1.putAll (m := L - h + 1 + 1) (cap := c9) (((S.drop h).take kk ++ b :: (S.drop h).drop kk) ++ [b]) hvi hvl (by omega) (by omega) (fun g o s e hk => by
              have h7 := (H9.out.lt g9 rfl).1
              have h8 := HQ.out.1.lt g hk
              have h9 : g9 = g := by injection e with e; injection e
              omega)
            obtain ⟨ea, eb⟩ := all_no (n := 60) HWB.out.1 (by have := HWB.out.2.2.2; omega)
            rw [ea, eb] at hput
            clear ea eb hvi hvl hE2 hE3
            refine hput.mono ?_
            rintro e VP ⟨rfl, hq, hfp⟩
            have hfin := Lib.hid (show ∃ (Tn : Nat) (gt : Nat → Prop), Tn ≤ 200 ∧ St w VP qb 60 Tn Z gt ∧ KeptR VP w2.heap.size r Z gt ∧ KeptB VP bb (cev b) 34 gt from ⟨_, _, by omega, HQh.step hq hfp, (HR.out.later hHeld).step hfp, (HX.out.later hHeld).step hfp⟩)
            have hS2 : Fr0 ft W4 VP := (hHeld.mono (fun _ _ h => h.elim)).trans hfp
            clear hq hfp HQh
            go_wp2_with fail
            refine hK.out _ _ hS2 (fun hS => ?_)
            clear hK K
            try simp only [Act.put, List.setIfInBounds_toArray, List.set_cons_zero, List.set_cons_succ]
            refine take_on (i := 11) (v := .tuple #[.int .i64 kk, .int .i64 wd]) rfl (by kernel_rfl) (by kernel_rfl) (by kernel_rfl) (fun _ _ _ h => h) (by kernel_rfl) (fun W' hSW => ?_) (by assumption) ?_
            · first | (go_simp; done) | exact rfl | (go_simp; rfl) | (go_simp; omega)
            try simp only [Act.put, List.setIfInBounds_toArray, List.set_cons_zero, List.set_cons_succ]
            refine take_on (i := 12) (v := .int .i64 kk) rfl (by kernel_rfl) (by kernel_rfl) (by kernel_rfl) (fun _ _ _ h => h) (by kernel_rfl) (fun W' hSW => ?_) (by assumption) ?_
            · first | (go_simp; done) | exact rfl | (go_simp; rfl) | (go_simp; omega)
            try simp only [Act.put, List.setIfInBounds_toArray, List.set_cons_zero, List.set_cons_succ]
            refine take_on (i := 13) (v := .int .i64 wd) rfl (by kernel_rfl) (by kernel_rfl) (by kernel_rfl) (fun _ _ _ h => h) (by kernel_rfl) (fun W' hSW => ?_) (by assumption) ?_
            · first | (go_simp; done) | exact rfl | (go_simp; rfl) | (go_simp; omega)
            try simp only [Act.put, List.setIfInBounds_toArray, List.set_cons_zero, List.set_cons_succ]
            refine take_on (i := 14) (v := .int .i64 kk) rfl (by kernel_rfl) (by kernel_rfl) (by kernel_rfl) (fun _ _ _ h => h) (by kernel_rfl) (fun W' hSW => ?_) (by assumption) ?_
            · first | (go_simp; done) | exact rfl | (go_simp; rfl) | (go_simp; omega)
            try simp only [Act.put, List.setIfInBounds_toArray, List.set_cons_zero, List.set_cons_succ]
            refine take_on (i := 15) (v := .int .i64 wd) rfl (by kernel_rfl) (by kernel_rfl) (by kernel_rfl) (fun _ _ _ h => h) (by kernel_rfl) (fun W' hSW => ?_) (by assumption) ?_
            · first | (go_simp; done) | exact rfl | (go_simp; rfl) | (go_simp; omega)
            try simp only [Act.put, List.setIfInBounds_toArray, List.set_cons_zero, List.set_cons_succ]
            refine wpAnyH_done (by kernel_rfl) ?_ _
            exact HT.out (fun n => ([.pointer (some ⟨qb, 0, none⟩), .slice (dA vc h va) (L - h) (vc - h), v1, .int .i64 kk, .agg #[.int .i64 b.key.time, .int .i64 b.key.source, .int .i64 b.key.seq, .int .i64 b.to, .int .i64 b.value], .slice (some ⟨qa, 0, none⟩) 1 1, v6, .agg #[.int .i64 b.key.time, .int .i64 b.key.source, .int .i64 b.key.seq, .int .i64 b.to, .int .i64 b.value], .slice (some ⟨qc, 0, none⟩) 1 1, .slice (some ⟨g9, 0, none⟩) (L - h + 1 + 1) c9, .tuple #[.int .i64 kk, .int .i64 wd], .tuple #[.int .i64 kk, .int .i64 wd], .int .i64 kk, .int .i64 wd] : List Value).getD n undef) _ hfin.out
        · rw [if_pos (by kernel_rfl)]
          go_simp
          obtain ⟨qc, hqa⟩ : ∃ q, W4.heap.size = q := ⟨_, rfl⟩
          obtain ⟨Vqc, hVA⟩ : ∃ W, (W4.alloc (.cells #[.int .i64 b.key.time, .int .i64 b.key.source, .int .i64 b.key.seq, .int .i64 b.to, .int .i64 b.value] 34)).drew = W := ⟨_, rfl⟩
          have hHeld : Fr0 none' W4 Vqc := by rw [← hVA]; exact ((Fr0.refl none' W4).alloc _).drew
          have HBB := Lib.hid (show Vqc.heap[qc]? = some (.cells (cev b).toArray 34 (0, 0)) by rw [← hVA, ← hqa]; exact World.alloc_heap_new W4 _)
          rw [hVA]
          try rw [hqa]
          clear hVA hqa
          refine hK.out _ _ (hHeld.mono (fun _ _ h => h.elim)) (fun hS => ?_)
          clear hK K
          try simp only [Act.put, List.setIfInBounds_toArray, List.set_cons_zero, List.set_cons_succ]
          refine wpAnyH_ready (rs := [2, 5]) (by kernel_rfl) (by simp) (AllReadyH.cons (op_at rfl) (fun K hK => ?_) (AllReadyH.cons (op_at rfl) (fun K hK => ?_) AllReadyH.nil))
          · rw [if_pos (by kernel_rfl)]
            go_simp
            refine (HCl.out _ hHeld).mono ?_
            rintro e V1 ⟨v1, rfl, hr1, hf1⟩
            try have HCA := Lib.hid (show ∀ g, v1.ownBlock = some g → g ≠ qa from fun g hg e => by have h7 := (hr1.lt g hg).1; have h8 := (Array.getElem?_eq_some_iff.1 HA.out).1; omega)
            try have HCB := Lib.hid (show ∀ g, v1.ownBlock = some g → g ≠ qc from fun g hg e => by have h7 := (hr1.lt g hg).1; have h8 := (Array.getElem?_eq_some_iff.1 HBB.out).1; omega)
            try have HA := Lib.hid ((hf1.block qa (Array.getElem?_eq_some_iff.1 HA.out).1 id).trans HA.out)
            try have HBB := Lib.hid ((hf1.block qc (Array.getElem?_eq_some_iff.1 HBB.out).1 id).trans HBB.out)
            have HC := Lib.hid (own_up hr1 hHeld.size)
            have hHeld := hHeld.trans hf1
            clear hr1 hf1
            go_wp2_with fail
            refine hK.out _ _ (hHeld.mono (fun _ _ h => h.elim)) (fun hS => ?_)
            clear hK K
            try simp only [Act.put, List.setIfInBounds_toArray, List.set_cons_zero, List.set_cons_succ]
            refine take_call (i := 5) rfl (by kernel_rfl) (by kernel_rfl) (fun K hK => ?_)
            go_simp
            obtain ⟨qa, hqa⟩ : ∃ q, (V1).heap.size = q := ⟨_, rfl⟩
            obtain ⟨Vqa, hVA⟩ : ∃ W, (V1).alloc (.cells #[.int .i64 b.key.time, .int .i64 b.key.source, .int .i64 b.key.seq, .int .i64 b.to, .int .i64 b.value] 34) = W := ⟨_, rfl⟩
            have hfA : Fr0 none' (V1) Vqa := by rw [← hVA]; exact (Fr0.refl none' _).alloc _
            have HA := Lib.hid (show Vqa.heap[qa]? = some (.cells (cev b).toArray 34 (0, 0)) by rw [← hVA, ← hqa]; exact World.alloc_heap_new _ _)
            have hHeld := hHeld.trans hfA
            try have HCA := Lib.hid (show ∀ g, v1.ownBlock = some g → g ≠ qa from fun g hg e => by have h7 := (HC.out.lt g hg).2; omega)
            try have HC := Lib.hid (ownsRow_fr0 HC.out hfA (fun _ _ h => h))
            try have HI := Lib.hid (ownsRow_fr0 HI.out hfA (fun _ _ h => h))
            have HBB := Lib.hid ((hfA.block qc (Array.getElem?_eq_some_iff.1 HBB.out).1 id).trans HBB.out)
            rw [hVA]
            try rw [hqa]
            clear hVA hqa
            refine hK.out _ _ (hHeld.mono (fun _ _ h => h.elim)) (fun hS => ?_)
            clear hK K
            try simp only [Act.put, List.setIfInBounds_toArray, List.set_cons_zero, List.set_cons_succ]
            refine take_call (i := 6) rfl (by kernel_rfl) (by kernel_rfl) (fun K hK => ?_)
            go_simp
            refine (InsertE (i := kk) (S.drop h) HC.out hkL (by omega) b HA.out (fun e => HCA.out _ e rfl) hHeld.size).mono ?_
            rintro e V6 ⟨v6, rfl, hr6, hf6, hob6⟩
            have hHeld := hHeld.trans' hf6 (fun i hi hs => by have := (HC.out.lt i hs).1; omega)
            try have HBB := Lib.hid ((hf6.block qc (Array.getElem?_eq_some_iff.1 HBB.out).1 (fun hs => HCB.out qc hs rfl)).trans HBB.out)
            have HI := Lib.hid hr6
            clear hr6 hf6 hob6
            go_wp2_with fail
            refine hK.out _ _ (hHeld.mono (fun _ _ h => h.elim)) (fun hS => ?_)
            clear hK K
            try simp only [Act.put, List.setIfInBounds_toArray, List.set_cons_zero, List.set_cons_succ]
            refine take_call (i := 9) rfl (by kernel_rfl) (by kernel_rfl) (fun K hK => ?_)
            have hsrc := (show EsIn _ (some ⟨qc, 0, none⟩) [b] from EsIn.of_cells (n := 1) HBB.out (by simp [flatEv, cev])).src (n := 1) rfl 1 Try.underlying28
            refine wp_append_k _ _ 28 28 rfl W4.heap.size 34 i0 (.agg #[.int .i64 0, .int .i64 0, .int .i64 0, .int .i64 0, .int .i64 0]) 5 40 Try.underlying28 hi hz0 hz1 hz2 rfl (by decide) v6 (L - h + 1) _ rfl HI.out (.slice (some ⟨qc, 0, none⟩) 1 1) 1 _ rfl hsrc (by unfold maxLen; omega) (by omega) hHeld.size ?_
            intro v9 V9 hown hgr hdr hob
            obtain ⟨g9, c9, rfl⟩ := ownsRow_k_succ hown
            have hHeld := hHeld.trans' ((Fr0.refl (fun k => v6.ownBlock = some k) _).grown hgr (fun k hk _ => hk)) (fun i hi hs => by have := (HI.out.lt i hs).1; omega)
            have h9 : flatEv (((S.drop h).take kk ++ b :: (S.drop h).drop kk) ++ [b]) = flatEv ((S.drop h).take kk ++ b :: (S.drop h).drop kk) ++ flatEv [b] := flatEv_append _ _
            rw [← h9] at hown
            have H9 := Lib.hid hown
            clear hown hgr hdr hob hsrc h9
            refine hK.out _ _ (hHeld.mono (fun _ _ h => h.elim)) (fun hS => ?_)
            clear hK K
            try simp only [Act.put, List.setIfInBounds_toArray, List.set_cons_zero, List.set_cons_succ]
            refine take_call (i := 10) rfl (by kernel_rfl) (by kernel_rfl) (fun K hK => ?_)
            go_simp
            obtain ⟨_, _, hve, hvl, hvi⟩ := EsIn.of_own H9.out
            injection hve with hE1 hE2 hE3
            subst hE1
            have HQh := HQ.out.later hHeld
            have hput := HQh.1.putAll (m := L - h + 1 + 1) (cap := c9) (((S.drop h).take kk ++ b :: (S.drop h).drop kk) ++ [b]) hvi hvl (by omega) (by omega) (fun g o s e hk => by
              have h7 := (H9.out.lt g9 rfl).1
              have h8 := HQ.out.1.lt g hk
              have h9 : g9 = g := by injection e with e; injection e
              omega)
            obtain ⟨ea, eb⟩ := all_no (n := 60) HWB.out.1 (by have := HWB.out.2.2.2; omega)
            rw [ea, eb] at hput
            clear ea eb hvi hvl hE2 hE3
            refine hput.mono ?_
            rintro e VP ⟨rfl, hq, hfp⟩
            have hfin := Lib.hid (show ∃ (Tn : Nat) (gt : Nat → Prop), Tn ≤ 200 ∧ St w VP qb 60 Tn Z gt ∧ KeptR VP w2.heap.size r Z gt ∧ KeptB VP bb (cev b) 34 gt from ⟨_, _, by omega, HQh.step hq hfp, (HR.out.later hHeld).step hfp, (HX.out.later hHeld).step hfp⟩)
            have hS2 : Fr0 ft W4 VP := (hHeld.mono (fun _ _ h => h.elim)).trans hfp
            clear hq hfp HQh
            go_wp2_with fail
            refine hK.out _ _ hS2 (fun hS => ?_)
            clear hK K
            try simp only [Act.put, List.setIfInBounds_toArray, List.set_cons_zero, List.set_cons_succ]
            refine take_on (i := 11) (v := .tuple #[.int .i64 kk, .int .i64 wd]) rfl (by kernel_rfl) (by kernel_rfl) (by kernel_rfl) (fun _ _ _ h => h) (by kernel_rfl) (fun W' hSW => ?_) (by assumption) ?_
            · first | (go_simp; done) | exact rfl | (go_simp; rfl) | (go_simp; omega)
            try simp only [Act.put, List.setIfInBounds_toArray, List.set_cons_zero, List.set_cons_succ]
            refine take_on (i := 12) (v := .int .i64 kk) rfl (by kernel_rfl) (by kernel_rfl) (by kernel_rfl) (fun _ _ _ h => h) (by kernel_rfl) (fun W' hSW => ?_) (by assumption) ?_
            · first | (go_simp; done) | exact rfl | (go_simp; rfl) | (go_simp; omega)
            try simp only [Act.put, List.setIfInBounds_toArray, List.set_cons_zero, List.set_cons_succ]
            refine take_on (i := 13) (v := .int .i64 wd) rfl (by kernel_rfl) (by kernel_rfl) (by kernel_rfl) (fun _ _ _ h => h) (by kernel_rfl) (fun W' hSW => ?_) (by assumption) ?_
            · first | (go_simp; done) | exact rfl | (go_simp; rfl) | (go_simp; omega)
            try simp only [Act.put, List.setIfInBounds_toArray, List.set_cons_zero, List.set_cons_succ]
            refine take_on (i := 14) (v := .int .i64 kk) rfl (by kernel_rfl) (by kernel_rfl) (by kernel_rfl) (fun _ _ _ h => h) (by kernel_rfl) (fun W' hSW => ?_) (by assumption) ?_
            · first | (go_simp; done) | exact rfl | (go_simp; rfl) | (go_simp; omega)
            try simp only [Act.put, List.setIfInBounds_toArray, List.set_cons_zero, List.set_cons_succ]
            refine take_on (i := 15) (v := .int .i64 wd) rfl (by kernel_rfl) (by kernel_rfl) (by kernel_rfl) (fun _ _ _ h => h) (by kernel_rfl) (fun W' hSW => ?_) (by assumption) ?_
            · first | (go_simp; done) | exact rfl | (go_simp; rfl) | (go_simp; omega)
            try simp only [Act.put, List.setIfInBounds_toArray, List.set_cons_zero, List.set_cons_succ]
            refine wpAnyH_done (by kernel_rfl) ?_ _
            exact HT.out (fun n => ([.pointer (some ⟨qb, 0, none⟩), .slice (dA vc h va) (L - h) (vc - h), v1, .int .i64 kk, .agg #[.int .i64 b.key.time, .int .i64 b.key.source, .int .i64 b.key.seq, .int .i64 b.to, .int .i64 b.value], .slice (some ⟨qa, 0, none⟩) 1 1, v6, .agg #[.int .i64 b.key.time, .int .i64 b.key.source, .int .i64 b.key.seq, .int .i64 b.to, .int .i64 b.value], .slice (some ⟨qc, 0, none⟩) 1 1, .slice (some ⟨g9, 0, none⟩) (L - h + 1 + 1) c9, .tuple #[.int .i64 kk, .int .i64 wd], .tuple #[.int .i64 kk, .int .i64 wd], .int .i64 kk, .int .i64 wd] : List Value).getD n undef) _ hfin.out
          · rw [if_pos (by kernel_rfl)]
            go_simp
            obtain ⟨qa, hqa⟩ : ∃ q, (Vqc).heap.size = q := ⟨_, rfl⟩
            obtain ⟨Vqa, hVA⟩ : ∃ W, (Vqc).alloc (.cells #[.int .i64 b.key.time, .int .i64 b.key.source, .int .i64 b.key.seq, .int .i64 b.to, .int .i64 b.value] 34) = W := ⟨_, rfl⟩
            have hfA : Fr0 none' (Vqc) Vqa := by rw [← hVA]; exact (Fr0.refl none' _).alloc _
            have HA := Lib.hid (show Vqa.heap[qa]? = some (.cells (cev b).toArray 34 (0, 0)) by rw [← hVA, ← hqa]; exact World.alloc_heap_new _ _)
            have hHeld := hHeld.trans hfA
            try have HCA := Lib.hid (show ∀ g, v1.ownBlock = some g → g ≠ qa from fun g hg e => by have h7 := (HC.out.lt g hg).2; omega)
            try have HC := Lib.hid (ownsRow_fr0 HC.out hfA (fun _ _ h => h))
            try have HI := Lib.hid (ownsRow_fr0 HI.out hfA (fun _ _ h => h))
            have HBB := Lib.hid ((hfA.block qc (Array.getElem?_eq_some_iff.1 HBB.out).1 id).trans HBB.out)
            rw [hVA]
            try rw [hqa]
            clear hVA hqa
            refine hK.out _ _ (hHeld.mono (fun _ _ h => h.elim)) (fun hS => ?_)
            clear hK K
            try simp only [Act.put, List.setIfInBounds_toArray, List.set_cons_zero, List.set_cons_succ]
            refine take_call (i := 2) rfl (by kernel_rfl) (by kernel_rfl) (fun K hK => ?_)
            go_simp
            refine (HCl.out _ hHeld).mono ?_
            rintro e V1 ⟨v1, rfl, hr1, hf1⟩
            try have HCA := Lib.hid (show ∀ g, v1.ownBlock = some g → g ≠ qa from fun g hg e => by have h7 := (hr1.lt g hg).1; have h8 := (Array.getElem?_eq_some_iff.1 HA.out).1; omega)
            try have HCB := Lib.hid (show ∀ g, v1.ownBlock = some g → g ≠ qc from fun g hg e => by have h7 := (hr1.lt g hg).1; have h8 := (Array.getElem?_eq_some_iff.1 HBB.out).1; omega)
            try have HA := Lib.hid ((hf1.block qa (Array.getElem?_eq_some_iff.1 HA.out).1 id).trans HA.out)
            try have HBB := Lib.hid ((hf1.block qc (Array.getElem?_eq_some_iff.1 HBB.out).1 id).trans HBB.out)
            have HC := Lib.hid (own_up hr1 hHeld.size)
            have hHeld := hHeld.trans hf1
            clear hr1 hf1
            go_wp2_with fail
            refine hK.out _ _ (hHeld.mono (fun _ _ h => h.elim)) (fun hS => ?_)
            clear hK K
            try simp only [Act.put, List.setIfInBounds_toArray, List.set_cons_zero, List.set_cons_succ]
            refine take_call (i := 6) rfl (by kernel_rfl) (by kernel_rfl) (fun K hK => ?_)
            go_simp
            refine (InsertE (i := kk) (S.drop h) HC.out hkL (by omega) b HA.out (fun e => HCA.out _ e rfl) hHeld.size).mono ?_
            rintro e V6 ⟨v6, rfl, hr6, hf6, hob6⟩
            have hHeld := hHeld.trans' hf6 (fun i hi hs => by have := (HC.out.lt i hs).1; omega)
            try have HBB := Lib.hid ((hf6.block qc (Array.getElem?_eq_some_iff.1 HBB.out).1 (fun hs => HCB.out qc hs rfl)).trans HBB.out)
            have HI := Lib.hid hr6
            clear hr6 hf6 hob6
            go_wp2_with fail
            refine hK.out _ _ (hHeld.mono (fun _ _ h => h.elim)) (fun hS => ?_)
            clear hK K
            try simp only [Act.put, List.setIfInBounds_toArray, List.set_cons_zero, List.set_cons_succ]
            refine take_call (i := 9) rfl (by kernel_rfl) (by kernel_rfl) (fun K hK => ?_)
            have hsrc := (show EsIn _ (some ⟨qc, 0, none⟩) [b] from EsIn.of_cells (n := 1) HBB.out (by simp [flatEv, cev])).src (n := 1) rfl 1 Try.underlying28
            refine wp_append_k _ _ 28 28 rfl W4.heap.size 34 i0 (.agg #[.int .i64 0, .int .i64 0, .int .i64 0, .int .i64 0, .int .i64 0]) 5 40 Try.underlying28 hi hz0 hz1 hz2 rfl (by decide) v6 (L - h + 1) _ rfl HI.out (.slice (some ⟨qc, 0, none⟩) 1 1) 1 _ rfl hsrc (by unfold maxLen; omega) (by omega) hHeld.size ?_
            intro v9 V9 hown hgr hdr hob
            obtain ⟨g9, c9, rfl⟩ := ownsRow_k_succ hown
            have hHeld := hHeld.trans' ((Fr0.refl (fun k => v6.ownBlock = some k) _).grown hgr (fun k hk _ => hk)) (fun i hi hs => by have := (HI.out.lt i hs).1; omega)
            have h9 : flatEv (((S.drop h).take kk ++ b :: (S.drop h).drop kk) ++ [b]) = flatEv ((S.drop h).take kk ++ b :: (S.drop h).drop kk) ++ flatEv [b] := flatEv_append _ _
            rw [← h9] at hown
            have H9 := Lib.hid hown
            clear hown hgr hdr hob hsrc h9
            refine hK.out _ _ (hHeld.mono (fun _ _ h => h.elim)) (fun hS => ?_)
            clear hK K
            try simp only [Act.put, List.setIfInBounds_toArray, List.set_cons_zero, List.set_cons_succ]
            refine take_call (i := 10) rfl (by kernel_rfl) (by kernel_rfl) (fun K hK => ?_)
            go_simp
            obtain ⟨_, _, hve, hvl, hvi⟩ := EsIn.of_own H9.out
            injection hve with hE1 hE2 hE3
            subst hE1
            have HQh := HQ.out.later hHeld
            have hput := HQh.1.putAll (m := L - h + 1 + 1) (cap := c9) (((S.drop h).take kk ++ b :: (S.drop h).drop kk) ++ [b]) hvi hvl (by omega) (by omega) (fun g o s e hk => by
              have h7 := (H9.out.lt g9 rfl).1
              have h8 := HQ.out.1.lt g hk
              have h9 : g9 = g := by injection e with e; injection e
              omega)
            obtain ⟨ea, eb⟩ := all_no (n := 60) HWB.out.1 (by have := HWB.out.2.2.2; omega)
            rw [ea, eb] at hput
            clear ea eb hvi hvl hE2 hE3
            refine hput.mono ?_
            rintro e VP ⟨rfl, hq, hfp⟩
            have hfin := Lib.hid (show ∃ (Tn : Nat) (gt : Nat → Prop), Tn ≤ 200 ∧ St w VP qb 60 Tn Z gt ∧ KeptR VP w2.heap.size r Z gt ∧ KeptB VP bb (cev b) 34 gt from ⟨_, _, by omega, HQh.step hq hfp, (HR.out.later hHeld).step hfp, (HX.out.later hHeld).step hfp⟩)
            have hS2 : Fr0 ft W4 VP := (hHeld.mono (fun _ _ h => h.elim)).trans hfp
            clear hq hfp HQh
            go_wp2_with fail
            refine hK.out _ _ hS2 (fun hS => ?_)
            clear hK K
            try simp only [Act.put, List.setIfInBounds_toArray, List.set_cons_zero, List.set_cons_succ]
            refine take_on (i := 11) (v := .tuple #[.int .i64 kk, .int .i64 wd]) rfl (by kernel_rfl) (by kernel_rfl) (by kernel_rfl) (fun _ _ _ h => h) (by kernel_rfl) (fun W' hSW => ?_) (by assumption) ?_
            · first | (go_simp; done) | exact rfl | (go_simp; rfl) | (go_simp; omega)
            try simp only [Act.put, List.setIfInBounds_toArray, List.set_cons_zero, List.set_cons_succ]
            refine take_on (i := 12) (v := .int .i64 kk) rfl (by kernel_rfl) (by kernel_rfl) (by kernel_rfl) (fun _ _ _ h => h) (by kernel_rfl) (fun W' hSW => ?_) (by assumption) ?_
            · first | (go_simp; done) | exact rfl | (go_simp; rfl) | (go_simp; omega)
            try simp only [Act.put, List.setIfInBounds_toArray, List.set_cons_zero, List.set_cons_succ]
            refine take_on (i := 13) (v := .int .i64 wd) rfl (by kernel_rfl) (by kernel_rfl) (by kernel_rfl) (fun _ _ _ h => h) (by kernel_rfl) (fun W' hSW => ?_) (by assumption) ?_
            · first | (go_simp; done) | exact rfl | (go_simp; rfl) | (go_simp; omega)
            try simp only [Act.put, List.setIfInBounds_toArray, List.set_cons_zero, List.set_cons_succ]
            refine take_on (i := 14) (v := .int .i64 kk) rfl (by kernel_rfl) (by kernel_rfl) (by kernel_rfl) (fun _ _ _ h => h) (by kernel_rfl) (fun W' hSW => ?_) (by assumption) ?_
            · first | (go_simp; done) | exact rfl | (go_simp; rfl) | (go_simp; omega)
            try simp only [Act.put, List.setIfInBounds_toArray, List.set_cons_zero, List.set_cons_succ]
            refine take_on (i := 15) (v := .int .i64 wd) rfl (by kernel_rfl) (by kernel_rfl) (by kernel_rfl) (fun _ _ _ h => h) (by kernel_rfl) (fun W' hSW => ?_) (by assumption) ?_
            · first | (go_simp; done) | exact rfl | (go_simp; rfl) | (go_simp; omega)
            try simp only [Act.put, List.setIfInBounds_toArray, List.set_cons_zero, List.set_cons_succ]
            refine wpAnyH_done (by kernel_rfl) ?_ _
            exact HT.out (fun n => ([.pointer (some ⟨qb, 0, none⟩), .slice (dA vc h va) (L - h) (vc - h), v1, .int .i64 kk, .agg #[.int .i64 b.key.time, .int .i64 b.key.source, .int .i64 b.key.seq, .int .i64 b.to, .int .i64 b.value], .slice (some ⟨qa, 0, none⟩) 1 1, v6, .agg #[.int .i64 b.key.time, .int .i64 b.key.source, .int .i64 b.key.seq, .int .i64 b.to, .int .i64 b.value], .slice (some ⟨qc, 0, none⟩) 1 1, .slice (some ⟨g9, 0, none⟩) (L - h + 1 + 1) c9, .tuple #[.int .i64 kk, .int .i64 wd], .tuple #[.int .i64 kk, .int .i64 wd], .int .i64 kk, .int .i64 wd] : List Value).getD n undef) _ hfin.out
      simp only [List.foldl, Act.put, List.setIfInBounds_toArray, List.set_cons_zero, List.set_cons_succ] at hT
      have HT := Lib.hid hT
      clear hT
      rename_i K2 aK2 K1 aK1 K0 aK0
      clear aK2
      have hwv := HWV.out
      subst hwv
      have y0 := thaw_in HX.out 0
      have y1 := thaw_in HX.out 1
      have y2 := thaw_in HX.out 2
      have y3 := thaw_in HX.out 3
      have y4 := thaw_in HX.out 4
      have z0 := cells_in HX.out 0
      have z1 := cells_in HX.out 1
      have z2 := cells_in HX.out 2
      have z3 := cells_in HX.out 3
      have z4 := cells_in HX.out 4
      simp [cev] at z0 z1 z2 z3 z4
      go_wp2_with fail
      · exact useU HT.out (by kernel_rfl) ⟨⟨⟨3, 16, 9⟩, min n 0, 0⟩, 100, rfl, wrongB_bad (fun x hx => R0.out x (List.mem_of_mem_drop hx)) (by unfold RightE RightK; simp only; omega) (by rw [HMl.out]; exact hkL), F34.out.setCell (fun e => absurd e (by have := Hbb.out; omega)) _, heap_set_cell HX.out _⟩
      · exact useU HT.out (by kernel_rfl) ⟨⟨⟨3, 16, 9⟩, max n 17, 0⟩, 100, rfl, wrongB_bad (fun x hx => R0.out x (List.mem_of_mem_drop hx)) (by unfold RightE RightK; simp only; omega) (by rw [HMl.out]; exact hkL), F34.out.setCell (fun e => absurd e (by have := Hbb.out; omega)) _, heap_set_cell HX.out _⟩
      · exact useU HT.out (by kernel_rfl) ⟨⟨⟨min n (-1), 16, 9⟩, 1, 0⟩, 100, rfl, wrongB_bad (fun x hx => R0.out x (List.mem_of_mem_drop hx)) (by unfold RightE RightK; simp only; omega) (by rw [HMl.out]; exact hkL), F34.out.setCell (fun e => absurd e (by have := Hbb.out; omega)) _, heap_set_cell HX.out _⟩
      · exact useU HT.out (by kernel_rfl) ⟨⟨⟨max n 281474976710657, 16, 9⟩, 1, 0⟩, 100, rfl, wrongB_bad (fun x hx => R0.out x (List.mem_of_mem_drop hx)) (by unfold RightE RightK; simp only; omega) (by rw [HMl.out]; exact hkL), F34.out.setCell (fun e => absurd e (by have := Hbb.out; omega)) _, heap_set_cell HX.out _⟩
      · exact useU HT.out (by kernel_rfl) ⟨⟨⟨3, max n 17, 9⟩, 1, 0⟩, 100, rfl, wrongB_bad (fun x hx => R0.out x (List.mem_of_mem_drop hx)) (by unfold RightE RightK; simp only; omega) (by rw [HMl.out]; exact hkL), F34.out.setCell (fun e => absurd e (by have := Hbb.out; omega)) _, heap_set_cell HX.out _⟩
      · exact useU HT.out (by kernel_rfl) ⟨⟨⟨3, 16, min n (-1)⟩, 1, 0⟩, 100, rfl, wrongB_bad (fun x hx => R0.out x (List.mem_of_mem_drop hx)) (by unfold RightE RightK; simp only; omega) (by rw [HMl.out]; exact hkL), F34.out.setCell (fun e => absurd e (by have := Hbb.out; omega)) _, heap_set_cell HX.out _⟩
      · have h0 : h = 0 := by have hh0 := ‹((h : Int) == 0) = true›; simpa using hh0
        have hln := (HQ.out.later F34.out).1.len
        have hz0 : Z.length = 0 := by rw [← HZ.out, putsE_length, List.length_take]; simp; omega
        rw [hz0, show ((0 : Nat) : Int) = 0 from rfl] at hln
        have HF := Lib.hid (HQ.out.later F34.out).2.1
        clear hz0
        refine hln.mono ?_
        rintro e w5 ⟨rfl, rfl⟩
        go_wp2_with fail
        go_ret
        exact ⟨rfl, HF.out⟩
      · rename_i hh0
        have h0 : 0 < h := by have : (h : Int) ≠ 0 := by simpa using hh0
                              omega
        obtain ⟨x, hx⟩ : ∃ x, S[0]? = some x := ⟨_, List.getElem?_eq_getElem (by rw [N0.out]; omega)⟩
        obtain ⟨g, o, rfl, hat⟩ := Hva.out 0 x hx
        have hgb : ¬ g = bb := fun e => by have h7 := World.block_lt_of_cell? _ _ hat.1; have h8 := Hbb.out; simp only at h7; omega
        rw [Nat.zero_mul, Nat.add_zero] at hat
        have HA := Lib.hid (fun (W' : World) (hf : Fr0 (fun k => k = bb) W4 W') => (hat.later F34.out).fr0 hf hgb)
        have Hx := Lib.hid hx
        have H0 := Lib.hid h0
        have hL0 : (0 : Int) < (L : Int) := by omega
        have hL1 : 0 < L := by omega
        clear hx h0 hat hgb z0 z3 z4 y0 y3 y4
        refine wp_region_held_drew (S := fun W' => Fr0 (fun k => k = bb) W4 W') (by kernel_rfl) ((Fr0.refl _ W4).drew) (fun hHeld => ?_)
        refine take_on (i := 0) (v := .slice (some ⟨g, o, none⟩) L vc) rfl (by kernel_rfl) (by kernel_rfl) (by kernel_rfl) (fun _ _ _ h => h) (by kernel_rfl) (fun W' hSW => ?_) (by assumption) ?_
        · obtain ⟨b0, b1, b2, b3, b4⟩ := HA.out W' hSW
          first | (go_simp; done) | exact rfl | (go_simp; rfl) | (go_simp; omega)
        try simp only [Act.put, List.setIfInBounds_toArray, List.set_cons_zero, List.set_cons_succ]
        refine take_on (i := 1) (v := .pointer (some ⟨g, o, none⟩)) rfl (by kernel_rfl) (by kernel_rfl) (by kernel_rfl) (fun _ _ _ h => h) (by kernel_rfl) (fun W' hSW => ?_) (by assumption) ?_
        · obtain ⟨b0, b1, b2, b3, b4⟩ := HA.out W' hSW
          first | (go_simp; done) | exact rfl | (go_simp; rfl) | (go_simp; omega)
        try simp only [Act.put, List.setIfInBounds_toArray, List.set_cons_zero, List.set_cons_succ]
        refine take_on (i := 2) (v := .pointer (some ⟨g, o, none⟩)) rfl (by kernel_rfl) (by kernel_rfl) (by kernel_rfl) (fun _ _ _ h => h) (by kernel_rfl) (fun W' hSW => ?_) (by assumption) ?_
        · obtain ⟨b0, b1, b2, b3, b4⟩ := HA.out W' hSW
          first | (go_simp; done) | exact rfl | (go_simp; rfl) | (go_simp; omega)
        try simp only [Act.put, List.setIfInBounds_toArray, List.set_cons_zero, List.set_cons_succ]
        refine take_on (i := 3) (v := .pointer (some ⟨g, o + 1, none⟩)) rfl (by kernel_rfl) (by kernel_rfl) (by kernel_rfl) (fun _ _ _ h => h) (by kernel_rfl) (fun W' hSW => ?_) (by assumption) ?_
        · obtain ⟨b0, b1, b2, b3, b4⟩ := HA.out W' hSW
          first | (go_simp; done) | exact rfl | (go_simp; rfl) | (go_simp; omega)
        try simp only [Act.put, List.setIfInBounds_toArray, List.set_cons_zero, List.set_cons_succ]
        refine take_on (i := 4) (v := .int .i64 x.key.source) rfl (by kernel_rfl) (by kernel_rfl) (by kernel_rfl) (fun _ _ _ h => h) (by kernel_rfl) (fun W' hSW => ?_) (by assumption) ?_
        · obtain ⟨b0, b1, b2, b3, b4⟩ := HA.out W' hSW
          first | (go_simp; done) | exact rfl | (go_simp; rfl) | (go_simp; omega)
        try simp only [Act.put, List.setIfInBounds_toArray, List.set_cons_zero, List.set_cons_succ]
        refine take_on (i := 5) (v := .slice (some ⟨g, o, none⟩) L vc) rfl (by kernel_rfl) (by kernel_rfl) (by kernel_rfl) (fun _ _ _ h => h) (by kernel_rfl) (fun W' hSW => ?_) (by assumption) ?_
        · obtain ⟨b0, b1, b2, b3, b4⟩ := HA.out W' hSW
          first | (go_simp; done) | exact rfl | (go_simp; rfl) | (go_simp; omega)
        try simp only [Act.put, List.setIfInBounds_toArray, List.set_cons_zero, List.set_cons_succ]
        refine take_on (i := 6) (v := .pointer (some ⟨g, o, none⟩)) rfl (by kernel_rfl) (by kernel_rfl) (by kernel_rfl) (fun _ _ _ h => h) (by kernel_rfl) (fun W' hSW => ?_) (by assumption) ?_
        · obtain ⟨b0, b1, b2, b3, b4⟩ := HA.out W' hSW
          first | (go_simp; done) | exact rfl | (go_simp; rfl) | (go_simp; omega)
        try simp only [Act.put, List.setIfInBounds_toArray, List.set_cons_zero, List.set_cons_succ]
        refine take_on (i := 7) (v := .pointer (some ⟨g, o, none⟩)) rfl (by kernel_rfl) (by kernel_rfl) (by kernel_rfl) (fun _ _ _ h => h) (by kernel_rfl) (fun W' hSW => ?_) (by assumption) ?_
        · obtain ⟨b0, b1, b2, b3, b4⟩ := HA.out W' hSW
          first | (go_simp; done) | exact rfl | (go_simp; rfl) | (go_simp; omega)
        try simp only [Act.put, List.setIfInBounds_toArray, List.set_cons_zero, List.set_cons_succ]
        refine take_on (i := 8) (v := .pointer (some ⟨g, o + 2, none⟩)) rfl (by kernel_rfl) (by kernel_rfl) (by kernel_rfl) (fun _ _ _ h => h) (by kernel_rfl) (fun W' hSW => ?_) (by assumption) ?_
        · obtain ⟨b0, b1, b2, b3, b4⟩ := HA.out W' hSW
          first | (go_simp; done) | exact rfl | (go_simp; rfl) | (go_simp; omega)
        try simp only [Act.put, List.setIfInBounds_toArray, List.set_cons_zero, List.set_cons_succ]
        refine take_on (i := 9) (v := .int .i64 x.key.seq) rfl (by kernel_rfl) (by kernel_rfl) (by kernel_rfl) (fun _ _ _ h => h) (by kernel_rfl) (fun W' hSW => ?_) (by assumption) ?_
        · obtain ⟨b0, b1, b2, b3, b4⟩ := HA.out W' hSW
          first | (go_simp; done) | exact rfl | (go_simp; rfl) | (go_simp; omega)
        try simp only [Act.put, List.setIfInBounds_toArray, List.set_cons_zero, List.set_cons_succ]
        refine take_on (i := 10) (v := .pointer (some ⟨bb, 0, none⟩)) rfl (by kernel_rfl) (by kernel_rfl) (by kernel_rfl) (fun _ _ _ h => h) (by kernel_rfl) (fun W' hSW => ?_) (by assumption) ?_
        · obtain ⟨b0, b1, b2, b3, b4⟩ := HA.out W' hSW
          first | (go_simp; done) | exact rfl | (go_simp; rfl) | (go_simp; omega)
        try simp only [Act.put, List.setIfInBounds_toArray, List.set_cons_zero, List.set_cons_succ]
        refine take_on (i := 11) (v := .pointer (some ⟨bb, 1, none⟩)) rfl (by kernel_rfl) (by kernel_rfl) (by kernel_rfl) (fun _ _ _ h => h) (by kernel_rfl) (fun W' hSW => ?_) (by assumption) ?_
        · obtain ⟨b0, b1, b2, b3, b4⟩ := HA.out W' hSW
          first | (go_simp; done) | exact rfl | (go_simp; rfl) | (go_simp; omega)
        try simp only [Act.put, List.setIfInBounds_toArray, List.set_cons_zero, List.set_cons_succ]
        refine take_call (i := 12) rfl (by kernel_rfl) (by kernel_rfl) (fun K hK => ?_)
        go_simp
        obtain ⟨W5, hW5⟩ : ∃ W, (W4.setCell ⟨bb, 1, none⟩ (.int .i64 x.key.source)).drew = W := ⟨_, rfl⟩
        have f5 : Fr0 (fun k => k = bb) W4 W5 := by rw [← hW5]; exact ((Fr0.refl (fun k => k = bb) W4).setCell (fun _ => rfl) _).drew
        have hb5 : W5.heap[bb]? = some (.cells (cev ⟨⟨3, x.key.source, 9⟩, 1, 0⟩).toArray 34 (0, 0)) := by rw [← hW5]; exact heap_set_cell HX.out _
        rw [hW5]
        clear z1 z2 y1 y2
        have y2 := thaw_in hb5 2
        have z2 := cells_in hb5 2
        simp [cev] at z2
        refine hK.out _ _ f5 (fun hS => ?_)
        clear hK K hW5
        try simp only [Act.put, List.setIfInBounds_toArray, List.set_cons_zero, List.set_cons_succ]
        refine take_on (i := 13) (v := .pointer (some ⟨bb, 0, none⟩)) rfl (by kernel_rfl) (by kernel_rfl) (by kernel_rfl) (fun _ _ _ h => h) (by kernel_rfl) (fun W' hSW => ?_) (by assumption) ?_
        · obtain ⟨b0, b1, b2, b3, b4⟩ := HA.out W' hSW
          first | (go_simp; done) | exact rfl | (go_simp; rfl) | (go_simp; omega)
        try simp only [Act.put, List.setIfInBounds_toArray, List.set_cons_zero, List.set_cons_succ]
        refine take_on (i := 14) (v := .pointer (some ⟨bb, 2, none⟩)) rfl (by kernel_rfl) (by kernel_rfl) (by kernel_rfl) (fun _ _ _ h => h) (by kernel_rfl) (fun W' hSW => ?_) (by assumption) ?_
        · obtain ⟨b0, b1, b2, b3, b4⟩ := HA.out W' hSW
          first | (go_simp; done) | exact rfl | (go_simp; rfl) | (go_simp; omega)
        try simp only [Act.put, List.setIfInBounds_toArray, List.set_cons_zero, List.set_cons_succ]
        refine take_call (i := 15) rfl (by kernel_rfl) (by kernel_rfl) (fun K hK => ?_)
        go_simp
        obtain ⟨W6, hW6⟩ : ∃ W, W5.setCell ⟨bb, 2, none⟩ (.int .i64 x.key.seq) = W := ⟨_, rfl⟩
        have f6 : Fr0 (fun k => k = bb) W4 W6 := by rw [← hW6]; exact f5.setCell (fun _ => rfl) _
        have hb6 : W6.heap[bb]? = some (.cells (cev ⟨⟨3, x.key.source, x.key.seq⟩, 1, 0⟩).toArray 34 (0, 0)) := by rw [← hW6]; exact heap_set_cell hb5 _
        rw [hW6]
        refine hK.out _ _ f6 (fun hS => ?_)
        clear hK K hW6
        try simp only [Act.put, List.setIfInBounds_toArray, List.set_cons_zero, List.set_cons_succ]
        refine take_on (i := 16) (v := .int .i64 101) rfl (by kernel_rfl) (by kernel_rfl) (by kernel_rfl) (fun _ _ _ h => h) (by kernel_rfl) (fun W' hSW => ?_) (by assumption) ?_
        · obtain ⟨b0, b1, b2, b3, b4⟩ := HA.out W' hSW
          first | (go_simp; done) | exact rfl | (go_simp; rfl) | (go_simp; omega)
        try simp only [Act.put, List.setIfInBounds_toArray, List.set_cons_zero, List.set_cons_succ]
        refine wpAnyH_done (by kernel_rfl) ?_ _
        go_wp2_with fail
        refine useU HT.out (by kernel_rfl) ⟨⟨⟨3, x.key.source, x.key.seq⟩, 1, 0⟩, 101, rfl, ?_, F34.out.trans' f6 (fun i hi e => by have := Hbb.out; omega), hb6⟩
        refine wrongB_first R0.out O0.out ?_ Hx.out H0.out ?_ rfl (by rw [HMl.out]; exact hkL)
        · have h1 := putsE_perm (S.take h) []
          rw [HZ.out, List.append_nil] at h1
          exact h1
        · have h1 := R0.out x (List.mem_of_getElem? Hx.out)
          unfold RightE RightK at h1 ⊢
          simp only
          omega
end Go.Proofs.Ytmcgipilopfgoaa

namespace Go.Proofs.Ytmcgipilopfgoaa.evqWrong
open Go.ChangeShapes Go.WideShapes Go.ChangeAt Go.RowKit Go.Proofs.Ytmcgipilopfgoaa

set_option maxRecDepth 100000 in
theorem lifted (os : Os) (started : os.Started) (H : Type) (enc : TypeId × Value → H) :
    ReturnsInHanded {} Try.checked os 4 .any (Rows.evqWrongSpec.pre6 enc Try.prog Try.f4 Rows.evqWrongRow.domain false) (Rows.evqWrongSpec.post enc Try.prog Try.f4 false true false false) := by
  refine returnsInHanded_of_change (C := Try.checked) own_knob started (by kernel_rfl) Try.func4
    (ChangeSpec.witness6 (enc := enc) (C := Try.checked) false ⟨#[], #[.slice none 0 0, .int .u8 0, .int .u8 0, .int .i64 0], []⟩ 8 (by kernel_rfl) (by kernel_rfl) (by kernel_rfl) (by kernel_rfl)) ?_
  intro W base args ds gs before hval0 hW hcnd _
  have hval : ∀ (j : Nat) t v, Try.f4.params[j]? = some t → args[j]? = some v → Value.okWide Try.prog W .any base t v := hval0
  have hW' := hW
  obtain ⟨p, q, hA0, hV, rfl, hfz, hnd⟩ := hW
  have hA : DataW.TrodAll enc Try.prog W 0 (fun _ => true) true Try.f4.params.toList args.toList ds p := hA0
  rw [Try.params4] at hA hval
  obtain ⟨v0, vs0, d0, ds0, p0, q0, hargs, rfl, rfl, h0, r0⟩ := trodAll_cons hA
  obtain ⟨v1, vs1, d1, ds1, p1, q1, rfl, rfl, rfl, h1, r1⟩ := trodAll_cons r0
  obtain ⟨v2, vs2, d2, ds2, p2, q2, rfl, rfl, rfl, h2, r2⟩ := trodAll_cons r1
  obtain ⟨v3, vs3, d3, ds3, p3, q3, rfl, rfl, rfl, h3, r3⟩ := trodAll_cons r2
  obtain ⟨rfl, rfl, rfl⟩ := trodAll_nil r3
  obtain rfl : args = #[v0, v1, v2, v3] := by cases args; simp_all
  obtain ⟨rfl, rfl⟩ := trodVars_none hV
  clear hA0 hval0
  simp only [List.append_nil] at hW'
  have l0 : ∀ x ∈ p0, x.block < W.heap.size := fun x hx => hW'.lt x (by simp [hx])
  have t0 := fun W' (hb : Below W.heap.size W W') => Below.trod laid_own (by kernel_rfl) (of_decide_eq_true (by kernel_rfl)) h0 hb l0
  have l1 : ∀ x ∈ p1, x.block < W.heap.size := fun x hx => hW'.lt x (by simp [hx])
  have t1 := fun W' (hb : Below W.heap.size W W') => Below.trod laid_own (by kernel_rfl) (of_decide_eq_true (by kernel_rfl)) h1 hb l1
  have l2 : ∀ x ∈ p2, x.block < W.heap.size := fun x hx => hW'.lt x (by simp [hx])
  have t2 := fun W' (hb : Below W.heap.size W W') => Below.trod laid_own (by kernel_rfl) (of_decide_eq_true (by kernel_rfl)) h2 hb l2
  have l3 : ∀ x ∈ p3, x.block < W.heap.size := fun x hx => hW'.lt x (by simp [hx])
  have t3 := fun W' (hb : Below W.heap.size W W') => Below.trod laid_own (by kernel_rfl) (of_decide_eq_true (by kernel_rfl)) h3 hb l3
  obtain ⟨xs0, hx0⟩ := smalls_arg (hval 0 22 v0 rfl rfl) h0
  obtain ⟨a1, rfl, _, _, w1⟩ := open_int Try.underlying5 (hval 1 5 v1 rfl rfl) h1
  have b1 : 0 ≤ a1 ∧ a1 < 256 := by
    have := bounds_u8 w1
    omega
  obtain ⟨a2, rfl, _, _, w2⟩ := open_int Try.underlying5 (hval 2 5 v2 rfl rfl) h2
  have b2 : 0 ≤ a2 ∧ a2 < 256 := by
    have := bounds_u8 w2
    omega
  obtain ⟨a3, rfl, _, _, w3⟩ := open_int Try.underlying3 (hval 3 3 v3 rfl rfl) h3
  have b3 := bounds_i64 w3
  refine (EvqWrong_any hx0 b1 b2 b3).mono fun e W' ⟨he, hf⟩ => ?_
  have hg : Below W.heap.size W W' := hf.below (Nat.le_refl _) (fun _ _ h => h)
  subst he
  exact ⟨_, rfl, post_below2 (pa := p0 ++ (p1 ++ (p2 ++ (p3 ++ ([]))))) (pv := []) hW' (fun _ _ _ => (trodAll_cons_mk (shut_bool Try.underlying4 _) trodAll_mk0)) (trodAll_cons_mk (t0 _ hg) (trodAll_cons_mk (t1 _ hg) (trodAll_cons_mk (t2 _ hg) (trodAll_cons_mk (t3 _ hg) trodAll_mk0)))) (fun _ _ => rfl) hg⟩

theorem over : Rows.evqWrongRow.holds Try.pinned (OpenSpec.ofChange Rows.evqWrongSpec) :=
  OpenClaim.holds_of_wide 4 Try.f4 rfl rfl rfl rfl rfl rfl rfl ⟨rfl, rfl, rfl, rfl, rfl⟩ rfl rfl rfl rfl rfl (by kernel_rfl) Try.func4 (by kernel_rfl)
    (of_decide_eq_true (by kernel_rfl)) (by unfold Func.isWrapper; first | (rw [if_pos (by decide +kernel)]; kernel_rfl) | (rw [if_neg (by decide +kernel)]; exact ⟨rfl, rfl⟩))
    (fun os started H enc _ => lifted os started H enc)

theorem proved : Rows.EvqWrongSaid := over
#print axioms proved
end Go.Proofs.Ytmcgipilopfgoaa.evqWrong
