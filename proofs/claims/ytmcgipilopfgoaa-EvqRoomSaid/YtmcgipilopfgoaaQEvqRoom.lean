/- EvqRoom: the statement: for any input the law returns true, and the arguments read as before; no condition. -/
import Derived.Test.YtmcgipilopfgoaaJa1
import Derived.Test.YtmcgipilopfgoaaJb1
import Derived.Deep.MidRow
import Derived.Test.YtmcgipilopfgoaaJb3
import Derived.Test.YtmcgipilopfgoaaJb2
set_option linter.unusedSimpArgs false
set_option linter.unusedVariables false

/-
  append onto an own row that may start anywhere in its block.
-/
namespace Go.Proofs.Ytmcgipilopfgoaa
open Go.RowKit
variable {P : Program}

/-- The slice value v owns the cells xs, from some place of its block on. -/
def OwnsO (w : World) (base : Nat) (e : TypeId) (size : Nat) (v : Value) (n : Nat) (xs : List Value) : Prop :=
  xs.length = n * size ∧
  ((v = .slice none 0 0 ∧ n = 0) ∨
   ∃ g o cap cur, v = .slice (some ⟨g, o, none⟩) n cap ∧ base ≤ g ∧ w.heap[g]? = some (.cells cur e (0, 0)) ∧ n ≤ cap ∧ cap ≤ maxLen ∧ o + cap * size ≤ cur.size ∧ (cur.toList.drop o).take (n * size) = xs)
theorem OwnsO.of_row {w : World} {base : Nat} {e : TypeId} {size : Nat} {v : Value} {n : Nat} {xs : List Value} (h : w.ownsRow base e size v n xs) : OwnsO w base e size v n xs := by
  obtain ⟨h1, h2⟩ := h
  refine ⟨h1, h2.imp id ?_⟩
  rintro ⟨g, cap, cur, hv, hb, hg, hn, hc, hs, ht⟩
  exact ⟨g, 0, cap, cur, hv, hb, hg, hn, hc, by omega, by simpa using ht⟩
theorem OwnsO.lt {w : World} {base : Nat} {e : TypeId} {size : Nat} {v : Value} {n : Nat} {xs : List Value} (h : OwnsO w base e size v n xs) : ∀ g, v.ownBlock = some g → base ≤ g ∧ g < w.heap.size := by
  intro g hg
  rcases h.2 with ⟨rfl, _⟩ | ⟨g', o, cap, cur, rfl, hb, hgg, _⟩
  · cases hg
  · simp only [Value.ownBlock, Option.some.injEq] at hg
    subst hg
    exact ⟨hb, (Array.getElem?_eq_some_iff.1 hgg).1⟩
theorem OwnsO.fr0 {S : Nat → Prop} {w w' : World} {base : Nat} {e : TypeId} {size : Nat} {v : Value} {n : Nat} {xs : List Value} (h : OwnsO w base e size v n xs) (hf : Fr0 S w w') (hs : ∀ g, v.ownBlock = some g → ¬ S g) : OwnsO w' base e size v n xs := by
  obtain ⟨h1, h2⟩ := h
  refine ⟨h1, h2.imp id ?_⟩
  rintro ⟨g, o, cap, cur, rfl, hb, hg, r⟩
  exact ⟨g, o, cap, cur, rfl, hb, (hf.block g (Array.getElem?_eq_some_iff.1 hg).1 (hs g rfl)).trans hg, r⟩
/-- What is left when the first element is cut off. -/
theorem OwnsO.tail {w : World} {base : Nat} {e : TypeId} {size : Nat} {g o n cap : Nat} {xs : List Value} (h : OwnsO w base e size (.slice (some ⟨g, o, none⟩) n cap) n xs) (hn : 0 < n) :
    OwnsO w base e size (.slice (if cap = 1 then some ⟨g, o, none⟩ else some ⟨g, o + size, none⟩) (n - 1) (cap - 1)) (n - 1) (xs.drop size) := by
  obtain ⟨h1, h2⟩ := h
  refine ⟨by rw [List.length_drop, h1, Nat.sub_mul, Nat.one_mul], .inr ?_⟩
  rcases h2 with ⟨h2, _⟩ | ⟨g', o', cap', cur, hv, hb, hg, hnc, hcm, hcs, ht⟩
  · cases h2
  · injection hv with e1 e2 e3
    injection e1 with e1
    injection e1 with e1 e4
    subst e1
    subst e4
    subst e3
    by_cases hc : cap = 1
    · subst hc
      have hn1 : n = 1 := by omega
      subst hn1
      refine ⟨g, o, 0, cur, by simp, hb, hg, by omega, by omega, by omega, ?_⟩
      have hx : xs.drop size = [] := List.drop_of_length_le (by rw [h1]; omega)
      rw [hx]
      simp
    · rw [if_neg hc]
      refine ⟨g, o + size, cap - 1, cur, rfl, hb, hg, by omega, by omega, ?_, ?_⟩
      · have h3 : cap * size = (cap - 1) * size + size := by rw [Nat.sub_mul, Nat.one_mul]; have := Nat.le_mul_of_pos_left size (show 0 < cap by omega); omega
        omega
      · rw [← ht, List.drop_take, List.drop_drop, Nat.sub_mul, Nat.one_mul]
theorem run_append_own_o (w : World) (base : Nat) (t tx ty e : TypeId) (i : TypeInfo) (z : Value) (size bytes : Nat) (ht : P.underlying t = some (.slice e)) (hi : P.info? e = some i) (hz : i.zero = some z)
    (hsize : i.size = size) (hby : i.bytes = bytes) (hzs : z.cells.size = size) (hsz : 0 < size)
    (v : Value) (n : Nat) (xs : List Value) (hown : OwnsO w base e size v n xs)
    (x : Value) (m : Nat) (news : List Value) (hs : Src P size tx x m news w)
    (h63 : n + m ≤ maxLen) (hbytes : (n + m) * bytes ≤ 140737488355328) (hbase : base ≤ w.heap.size) :
    ∃ v' w', (Builtin.append_ #[t, tx] ty #[v, x]).run P w = .ok v' w' ∧ OwnsO w' base e size v' (n + m) (xs ++ news) ∧ w.grownBy w' v.ownBlock ∧ w.drawn ≤ w'.drawn ∧ (v'.ownBlock = v.ownBlock ∨ v'.ownBlock = some w.heap.size) := by
  subst hsize
  subst hby
  have hl := hs.newsLen
  have hxl := hown.1
  have hlen : (xs ++ news).length = (n + m) * i.size := by rw [List.length_append, hxl, hl, Nat.add_mul]
  have grown : ∀ (old : Nat), old < n + m → ∀ (row : Option Nat),
      (w.drew.alloc (.cells ((xs ++ news).toArray ++ Builtin.zeroCells z.cells (grownCap w (n + m) old e - (n + m))) e)).ownsRow base e i.size
        (.slice (some ⟨w.heap.size, 0, none⟩) (n + m) (grownCap w (n + m) old e)) (n + m) (xs ++ news) ∧
      w.grownBy (w.drew.alloc (.cells ((xs ++ news).toArray ++ Builtin.zeroCells z.cells (grownCap w (n + m) old e - (n + m))) e)) row := by
    intro old ho row
    have hge := grownCap_ge w (n + m) old e
    have hcm : grownCap w (n + m) old e ≤ maxLen := grownCap_le_maxLen w (n + m) old e h63
    refine ⟨⟨hlen, .inr ⟨w.heap.size, _, _, rfl, hbase, heap_alloc_new w.drew _, hge, hcm, ?_, ?_⟩⟩, ⟨rfl, rfl, rfl, by simp, fun k hk _ => heap_alloc_old w.drew _ hk⟩⟩
    · simp only [Array.size_append, List.size_toArray, size_zeroCells, hzs, hlen, ← Nat.add_mul]
      congr 1
      omega
    · simp only [Array.toList_append]
      rw [← hlen]
      exact List.take_left
  rcases hown.2 with ⟨rfl, rfl⟩ | ⟨g, o, cap, cur, rfl, hbg, hg, hnc, hcm, hcs, htake⟩
  · have hx : xs = [] := List.eq_nil_of_length_eq_zero (by simpa using hxl)
    subst hx
    by_cases hm : m = 0
    · subst hm
      have hn : news = [] := List.eq_nil_of_length_eq_zero (by simpa using hl)
      subst hn
      refine ⟨.slice none 0 0, w, ?_, OwnsO.of_row (World.ownsRow_nil w base e i.size), ⟨rfl, rfl, rfl, Nat.le_refl _, fun _ _ _ => rfl⟩, Nat.le_refl _, .inl rfl⟩
      have hc := hs.cells
      rcases hs.kind with ⟨e', hk⟩ | hk <;> simp [Builtin.append_, run_underlying ht, run_underlying hk, sizeOf, typeInfo, hi, hs.len, hc]
    · have hr := run_append_grow_src w t tx ty e i z ht hi hz none 0 0 [] (by simp [Builtin.firstCells, Sem.run_pure]) x m news hs (by omega) (by simp only [maxLen] at h63; omega) (growslice_fits (by omega) hbytes)
      have hgr := grown 0 (by omega) (Value.ownBlock (.slice none 0 0))
      exact ⟨_, _, hr, OwnsO.of_row hgr.1, hgr.2, Nat.le_succ _, .inr rfl⟩
  · by_cases hroom : n + m ≤ cap
    · have hfit : o + n * i.size + news.length ≤ cur.size := by
        have h3 : (n + m) * i.size ≤ cap * i.size := Nat.mul_le_mul_right _ hroom
        rw [Nat.add_mul] at h3
        rw [hl]
        omega
      have hst := run_storeCells_at P g (o + n * i.size) e news 0 cur w hg (by simpa using hfit) hs.one
      simp only [Nat.add_zero] at hst
      have hr : (Builtin.append_ #[t, tx] ty #[.slice (some ⟨g, o, none⟩) n cap, x]).run P w =
          .ok (.slice (some ⟨g, o, none⟩) (n + m) cap) (w.setRow g (cur.toList.take (o + n * i.size) ++ news ++ cur.toList.drop (o + n * i.size + news.length)).toArray) := by
        have hc := hs.cells
        rcases hs.kind with ⟨e', hk⟩ | hk <;> simp [Builtin.append_, run_underlying ht, run_underlying hk, sizeOf, typeInfo, hi, hs.len, hroom, hc, Addr.add_mid, hst]
      refine ⟨_, _, hr, ⟨hlen, .inr ⟨g, o, cap, _, rfl, hbg, setRow_heap w g cur _ e _ hg, hroom, hcm, ?_, ?_⟩⟩, ⟨rfl, rfl, rfl, by simp, fun k _ hk => setRow_other w g k _ (fun e => hk (by simp [Value.ownBlock, e]))⟩, Nat.le_refl _, .inl rfl⟩
      · simp only [List.size_toArray, List.length_append, List.length_take, List.length_drop, Array.length_toList]
        omega
      · have h4 : (cur.toList.take (o + n * i.size)).drop o = xs := by rw [List.drop_take, ← htake]; congr 1; omega
        have h5 : o ≤ (cur.toList.take (o + n * i.size)).length := by rw [List.length_take, Array.length_toList]; omega
        rw [List.append_assoc, List.drop_append_of_le_length h5, h4, ← List.append_assoc, ← hlen]
        exact List.take_left
    · have holds : ∀ j u, xs[j]? = some u → w.drew.cell? ((⟨g, o, none⟩ : Addr).add j) = some u := fun j u hj => by
        rw [Addr.add_mid]
        have h6 : w.cell? ⟨g, o + j, none⟩ = some u := by
          rw [cells_in hg, ← Array.getElem?_toList]
          rw [← htake, List.getElem?_take] at hj
          split at hj
          · rwa [List.getElem?_drop] at hj
          · cases hj
        exact h6
      have hr := run_append_grow_src w t tx ty e i z ht hi hz (some ⟨g, o, none⟩) n cap xs (run_firstCells_some w.drew i.size n ⟨g, o, none⟩ n cap xs hxl holds) x m news hs (by omega) (by simp only [maxLen] at h63; omega) (growslice_fits (by omega) hbytes)
      have hgr := grown cap (by omega) (Value.ownBlock (.slice (some ⟨g, o, none⟩) n cap))
      exact ⟨_, _, hr, OwnsO.of_row hgr.1, hgr.2, Nat.le_succ _, .inr rfl⟩

theorem wpList_append_o {w : World} {ops : Array Oper} {rest : List Oper} {o : Oper} {a : Act} {Q : Exit → Act → World → Prop} (hgd : o.guard = none) (s x : Operand) (t tx : TypeId)
    (ho : o.op = .call { callee := .builtin .append, args := #[s, x], argTypes := #[t, tx] })
    (base : Nat) (e : TypeId) (i : TypeInfo) (z : Value) (size bytes : Nat) (ht : P.underlying t = some (.slice e)) (hi : P.info? e = some i) (hz : i.zero = some z)
    (hsize : i.size = size) (hby : i.bytes = bytes) (hzs : z.cells.size = size) (hsz : 0 < size)
    (v : Value) (n : Nat) (xs : List Value) (hs : a.eval s = v) (hown : OwnsO w base e size v n xs)
    (xv : Value) (m : Nat) (news : List Value) (hx : a.eval x = xv) (hsrc : Src P size tx xv m news w)
    (h63 : n + m ≤ maxLen) (hbytes : (n + m) * bytes ≤ 140737488355328) (hbase : base ≤ w.heap.size)
    (h : ∀ v' w', OwnsO w' base e size v' (n + m) (xs ++ news) → w.grownBy w' v.ownBlock → w.drawn ≤ w'.drawn → (v'.ownBlock = v.ownBlock ∨ v'.ownBlock = some w.heap.size) → wpList P ops Q rest (a.put o.dst v') w') : wpList P ops Q (o :: rest) a w :=
  wpList_plain hgd fun _ hK => by
    obtain ⟨v', w', hr, h2, h3, h4, h5⟩ := run_append_own_o (P := P) w base t tx o.type e i z size bytes ht hi hz hsize hby hzs hsz v n xs hown xv m news hsrc h63 hbytes hbase
    unfold Oper.wp execOp
    simp only [ho, resolve, invoke, builtin, Sem.run_bind, Sem.run_pure, Result.andThen_ok, List.map_toArray, List.map_cons, List.map_nil, hs, hx, hr]
    exact hK _ _ (h v' w' h2 h3 h4 h5)

end Go.Proofs.Ytmcgipilopfgoaa

/-
  EvqRoom.
-/
namespace Go.Proofs.Ytmcgipilopfgoaa
open Go Go.RowKit Go.ChangeMaps
attribute [local go_sem ↓] Go.wp_at_zero Go.wp_at_succ
attribute [local go_sem] Oper.semAt_some wide_fn wide_depth wide_fnR wide_depthR

theorem OwnsO.esIn {w : World} {base : Nat} {v : Value} {n : Nat} {L : List Ev} (h : OwnsO w base 34 5 v n (flatEv L)) : ∃ a cap, v = .slice a n cap ∧ n ≤ cap ∧ L.length = n ∧ EsIn w a L ∧ (n = 0 ∨ ∃ g o, a = some ⟨g, o, none⟩) := by
  have hl : L.length = n := by have := h.1; rw [flatEv_length] at this; omega
  rcases h.2 with ⟨rfl, h0⟩ | ⟨g, o, cap, cur, rfl, hb, hg, hn, hcm, hs, ht⟩
  · have : L = [] := List.eq_nil_of_length_eq_zero (by omega)
    subst this
    exact ⟨none, 0, by rw [h0], by omega, hl, esIn_nil w none, .inl h0⟩
  · refine ⟨some ⟨g, o, none⟩, cap, rfl, hn, hl, EsIn.of_flat (fun j u hj => ?_), .inr ⟨g, o, rfl⟩⟩
    rw [cells_in hg, ← Array.getElem?_toList]
    rw [← ht, List.getElem?_take] at hj
    split at hj
    · rwa [List.getElem?_drop] at hj
    · cases hj
set_option maxRecDepth 100000 in
set_option maxHeartbeats 4000000 in
theorem EvqRoom_any {w : World} {u : Value} {xs : List Sme} {c : Int} (hc : 0 ≤ c ∧ c < 256) (hu : SmesAt w u xs) :
    Calls Try.prog 3 #[.int .u8 c, u] w fun e w' => e = .returned (.bool true) ∧ Fr0 none' w w' := by
  obtain ⟨i0, hi, hz0, hz1, hz2⟩ := info_parts info_event0
  have HU := Lib.hid (fun (W : World) (hf : Fr0 none' w W) => events_any xs 40 (by omega) W (hu.later hf))
  obtain ⟨S, hS⟩ : ∃ S, evsE xs 40 = S := ⟨_, rfl⟩
  have R0 := Lib.hid (evsE_right (xs := xs) (most := 40))
  have L0 := Lib.hid (evsE_le xs 40)
  rw [hS] at HU R0 L0
  obtain ⟨N, hN, hN1⟩ : ∃ N : Nat, (1 + c % 20) = N ∧ 1 ≤ N ∧ N ≤ 20 := ⟨(1 + c % 20).toNat, by omega, by omega, by omega⟩
  have wN : IntKind.i64.wrap (1 + c % 20) = (N : Int) := by rw [IntWalk.i64_in _ (by omega)]; exact hN
  have HN := Lib.hid (QNew_is N (by omega))
  clear hu hS
  go_enter Try.func3, Try.ntmps3
  go_wp2_with fail
  refine (awake_any w).mono ?_
  rintro e w1 ⟨rfl, f1⟩
  have F1 := Lib.hid f1
  clear f1
  go_wp2_with fail
  refine (HN.out w1).mono ?_
  rintro e w2 ⟨qb, ft, rfl, hq, hf, hge⟩
  have HQ := Lib.hid (show St w w2 qb N 0 [] ft from ⟨hq, F1.out.trans hf, fun k hk => Nat.le_trans F1.out.size (hge k hk)⟩)
  clear hq hf hge HN
  go_wp2_with fail
  refine (HU.out w2 HQ.out.2.1).mono ?_
  rintro e w3 ⟨r, rfl, hr, hf⟩
  have HS := Lib.hid (show KeptR w3 w2.heap.size r S ft from ⟨hr, fun g hg hk => by have := HQ.out.1.lt g hk; have := (hr.lt g hg).1; omega⟩)
  have HQ := Lib.hid (HQ.out.later hf)
  obtain ⟨va, vc, rfl, _, _⟩ := EsIn.of_own hr
  clear hr hf HU
  obtain ⟨L, hL⟩ : ∃ n, S.length = n := ⟨_, rfl⟩
  rw [hL] at L0 HS ⊢
  have N0 := Lib.hid hL
  clear hL
  have hL40 : L ≤ 40 := L0.out
  rcases Nat.eq_zero_or_pos L with h0 | h0
  · have d1 : ((L : Int) == 0) = true := by rw [h0]; rfl
    clear h0
    go_wp2_with fail
    refine HQ.out.1.room.mono ?_
    rintro e w4 ⟨rfl, hf⟩
    have HF := Lib.hid (HQ.out.2.1.trans hf)
    simp only [List.length_nil, Nat.sub_zero]
    go_wp2_with fail
    go_ret
    exact ⟨rfl, HF.out⟩
  · have d1 : ((L : Int) == 0) = false := beq_eq_false_iff_ne.2 (by omega)
    go_wp2_with fail
    have HW3 := Lib.hid (show Fr0 none' w w3 from HQ.out.2.1)
    have hva3 : ∀ g, (Value.slice va L vc).ownBlock = some g → g < w3.heap.size := fun g hg => (HS.out.1.lt g hg).2
    have Hva3 := Lib.hid hva3
    clear hva3
    go_loopw [9, 10, 11, 12, 13, 14, 41] (fun v9 _ _ _ _ _ i wr => ∃ (k : Nat) (M : List Ev) (fk : Nat → Prop), k ≤ 300 ∧ i = .int .i64 k ∧ Hid (St w wr qb N k (putsE M []) fk) ∧ Hid (KeptR wr w2.heap.size (.slice va L vc) S fk) ∧ Hid (OwnsO wr w3.heap.size 34 5 v9 M.length (flatEv M)) ∧ Hid (∀ g, v9.ownBlock = some g → ¬ fk g) ∧ Hid (w3.heap.size ≤ wr.heap.size) ∧ Hid (∀ y ∈ M, y.key.seq < k)) (fun _ _ _ _ _ _ i _ => 300 - (Go.RowKit.intOf i).toNat)
    case atStart => exact ⟨0, [], ft, by omega, rfl, HQ, HS, OwnsO.of_row (World.ownsRow_nil _ _ _ _), (fun g hg => by cases hg), Nat.le_refl _, (fun y hy => by cases hy)⟩
    case round =>
      obtain ⟨k, M, fk, hk, rfl, HQ, HS, HM, HMf, HWr, HSq⟩ := hrel
      obtain ⟨ma, mc, rfl, hmc, _, hma, _⟩ := HM.out.esIn
      have hML : M.length ≤ N := by have := HQ.out.1.le.1; rw [putsE_length] at this; simpa using this
      have Hma := Lib.hid hma
      clear hma
      by_cases hlt : k < 300
      · obtain ⟨j, hj⟩ : ∃ j, k % L = j := ⟨_, rfl⟩
        have hjL : j < L := by rw [← hj]; exact Nat.mod_lt _ h0
        have wt : Int.tmod (k : Int) (L : Int) = (j : Int) := by rw [Int.tmod_eq_emod_of_nonneg (by omega), ← hj]; rfl
        have wj : IntKind.i64.wrap (j : Int) = (j : Int) := IntWalk.i64_in _ (by omega)
        obtain ⟨x, hx⟩ : ∃ x, S[j]? = some x := ⟨_, List.getElem?_eq_getElem (by rw [N0.out]; exact hjL)⟩
        obtain ⟨_, _, hEe, hEi⟩ := HS.out.slice
        injection hEe with hE1 hE2 hE3
        subst hE1
        obtain ⟨g2, o, rfl, hxc⟩ := hEi j x hx
        obtain ⟨x0, x1, x2, x3, x4⟩ := hxc
        have k1 : (0 : Int) ≤ (k : Int) := by omega
        have k2 : (k : Int) < 300 := by omega
        have j1 : (0 : Int) ≤ (j : Int) := by omega
        have j2 : (j : Int) < (L : Int) := by omega
        have hrx := R0.out x (List.mem_of_getElem? hx)
        have Hrx := Lib.hid hrx
        clear hx hE2 hE3 hEi hj hrx
        go_wp2_with fail
        obtain ⟨y, hy⟩ : ∃ y : Ev, (⟨⟨x.key.time, x.key.source, (k : Int)⟩, x.to, x.value⟩ : Ev) = y := ⟨_, rfl⟩
        have hyk : y.key.seq = k := by rw [← hy]
        have hry : RightE y := by
          have h1 := Hrx.out
          rw [← hy]
          unfold RightE RightK at h1 ⊢
          simp only at h1 ⊢
          omega
        have hoy : OnceE ([y] ++ putsE M []) := once_cons.2 ⟨fun z hz e => by
          have h1 := HSq.out z ((putsE_mem.1 hz).elim id (fun h => by cases h))
          have h2 : z.key.seq = y.key.seq := congrArg Prod.snd e
          omega, HQ.out.1.good.2.1⟩
        have Hy := Lib.hid (show y.key.time = x.key.time ∧ y.key.source = x.key.source ∧ y.key.seq = k ∧ y.to = x.to ∧ y.value = x.value by rw [← hy]; exact ⟨rfl, rfl, rfl, rfl, rfl⟩)
        obtain ⟨bq, hbq⟩ : ∃ bq, wr.heap.size = bq := ⟨_, rfl⟩
        obtain ⟨W4, hW⟩ : ∃ W, wr.alloc (.cells #[.int .i64 x.key.time, .int .i64 x.key.source, .int .i64 k, .int .i64 x.to, .int .i64 x.value] 34) = W := ⟨_, rfl⟩
        have hf : Fr0 none' wr W4 := by rw [← hW]; exact (Fr0.refl _ _).alloc _
        have HX := Lib.hid (show KeptB W4 bq (cev y) 34 fk from ⟨by rw [← hW, ← hbq, ← hy]; exact World.alloc_heap_new _ _, fun hk => by have := HQ.out.1.lt _ hk; omega⟩)
        have Hbq := Lib.hid (show w3.heap.size ≤ bq by rw [← hbq]; exact HWr.out)
        rw [hW]
        try rw [hbq]
        have HQ := Lib.hid (HQ.out.later hf)
        have HS := Lib.hid (HS.out.later hf)
        have HM := Lib.hid (HM.out.fr0 hf (fun _ _ h => h))
        have Hma := Lib.hid (Hma.out.later hf)
        have HP := HQ.out.1.put1 y (by omega)
        have hev : evV y = .agg #[.int .i64 x.key.time, .int .i64 x.key.source, .int .i64 k, .int .i64 x.to, .int .i64 x.value] := by rw [← hy]; rfl
        rw [hev] at HP
        clear hW hbq hf x0 x1 x2 x3 x4 hev hy
        have hck := chk_of_ok (E := putsE M []) (l := [y]) (fun z hz => by rw [List.mem_singleton.1 hz]; exact hry) hoy
        have Hry := Lib.hid hry
        have Hoy := Lib.hid hoy
        have Hyk := Lib.hid hyk
        have hpl : (putsE M []).length = M.length := by rw [putsE_length]; rfl
        clear hry hoy hyk
        by_cases hroom : M.length < N
        · obtain ⟨e1, e2⟩ := all_ok (n := N) (E := putsE M []) (l := [y]) (fun z hz => by rw [List.mem_singleton.1 hz]; exact Hry.out) Hoy.out (by rw [hpl, List.length_singleton]; omega)
          rw [← putsE_append] at e2
          rw [e1, e2] at HP
          have d2 : decide ((M.length : Int) < (N : Int)) = true := decide_eq_true (by omega)
          clear e1 e2 hck hpl
          refine HP.mono ?_
          rintro e w5 ⟨rfl, hq, hf⟩
          have HX := Lib.hid (HX.out.step hf)
          have HS := Lib.hid (HS.out.step hf)
          have HMg := HM.out.lt
          have HMn := Lib.hid (show ∀ g, (Value.slice ma M.length mc).ownBlock = some g → ¬ qgrow fk W4 w5 g from fun g hg hh => hh.elim (HMf.out g hg) (fun h => by have := (HMg g hg).2; omega))
          have HM := Lib.hid (HM.out.fr0 hf HMf.out)
          have HQ := Lib.hid (HQ.out.step hq hf)
          have S5 := Lib.hid hf.size
          clear hq hf HP HMg
          have hln := HQ.out.1.len
          rw [putsE_length] at hln
          simp only [List.length_nil, Nat.add_zero, List.length_append, List.length_singleton] at hln
          have d3 : decide (((M.length + 1 : Nat) : Int) > (N : Int)) = false := decide_eq_false (by omega)
          have d4 : decide ((N : Int) < ((M.length + 1 : Nat) : Int)) = false := decide_eq_false (by omega)
          have d5 : decide (N < M.length + 1) = false := decide_eq_false (by omega)
          go_wp2_with fail
          refine hln.mono ?_
          rintro e w6 ⟨rfl, rfl⟩
          have a0 := cells_in HX.out.1 0
          have a1 := cells_in HX.out.1 1
          have a2 := cells_in HX.out.1 2
          have a3 := cells_in HX.out.1 3
          have a4 := cells_in HX.out.1 4
          simp [cev] at a0 a1 a2 a3 a4
          have hsrc := Src.newRow (P := Try.prog) (size := 5) (tx := 28) (ty := 34) w5 Try.underlying28 1 1 (cev y) rfl (by simp [Value.oneCell', cev])
          simp only [cev] at hsrc
          have hw35 : w3.heap.size ≤ w5.heap.size := by have := HX.out.lt; have := Hbq.out; omega
          have HW35 := Lib.hid hw35
          go_wp2_with (at_builtin; refine wpList_append_o rfl _ _ 28 28 rfl w3.heap.size 34 i0 (.agg #[.int .i64 0, .int .i64 0, .int .i64 0, .int .i64 0, .int .i64 0]) 5 40 Try.underlying28 hi hz0 hz1 hz2 rfl (by decide) (.slice ma M.length mc) M.length _ rfl (HM.out.fr0 ((Fr0.refl none' w5).alloc _) (fun _ _ h => h)) (.slice (some ⟨w5.heap.size, 0, none⟩) 1 1) 1 _ rfl hsrc (by unfold maxLen; omega) (by omega) (by simp; omega) ?_; intro v6 w6 hown hgrow hdr hob; have Hown := Lib.hid hown; have hfg : Fr0 (fun i => (Value.slice ma M.length mc).ownBlock = some i) w5 w6 := ((Fr0.refl _ w5).alloc _).grown hgrow (fun i hi _ => hi); have F6 := Lib.hid hfg; have Hob := Lib.hid hob; clear hown hgrow hdr hob a0 a1 a2 a3 a4 hfg hsrc)
          have hq5 := HQ.out.1.lt
          have HMl := HM.out.lt
          have HQn := Lib.hid (HQ.out.other (gt := fun k => (Value.slice ma M.length mc).ownBlock = some k) (fun k hk => by have := (HMl k hk).1; have := HW3.out.size; omega) (fun k hk e => HMn.out k e hk) F6.out)
          have HSn := Lib.hid (show KeptR w6 w2.heap.size (.slice (some ⟨g2, o, none⟩) L vc) S _ from ⟨ownsRow_fr0 HS.out.1 F6.out (fun g hg h2 => by have := (HMl g h2).1; have := Hva3.out g hg; omega), HS.out.2⟩)
          have h1 := Hown.out
          have h2 : flatEv (M ++ [y]) = flatEv M ++ [.int .i64 y.key.time, .int .i64 y.key.source, .int .i64 y.key.seq, .int .i64 y.to, .int .i64 y.value] := by rw [flatEv_append, flatEv_single]; rfl
          rw [← h2] at h1
          have HNf : ∀ g, v6.ownBlock = some g → ¬ qgrow fk W4 w5 g := fun g hg hk => by
            rcases Hob.out with h | h
            · rw [h] at hg
              exact HMn.out g hg hk
            · rw [h] at hg
              injection hg with hg
              have h3 := hq5 g hk
              rw [World.size_alloc] at hg
              omega
          have HNf := Lib.hid HNf
          have H1 := Lib.hid h1
          clear hq5 HMl h1 h2
          go_roundw
          case rel =>
            refine ⟨k + 1, M ++ [y], _, by omega, by go_num, HQn, HSn, ?_, HNf, ?_, fun z hz => ?_⟩
            · rw [List.length_append, List.length_singleton]
              exact H1.out
            · have := F6.out.size
              have := HW35.out
              exact Nat.le_trans HW35.out F6.out.size
            · rcases List.mem_append.1 hz with hz | hz
              · have := HSq.out z hz
                omega
              · rw [List.mem_singleton.1 hz, Hyk.out]
                omega
          case measure => simp [Go.RowKit.intOf]; omega
        · have hfull : M.length = N := by omega
          have e1 : allV N (putsE M []) [y] = (-1, 4) := by
            unfold allV
            rw [hck, if_neg (by simp), if_pos (by rw [hpl, List.length_singleton]; omega)]
          have e2 : allE N (putsE M []) [y] = putsE M [] := by
            unfold allE
            rw [e1, if_neg (by decide)]
          rw [e1, e2] at HP
          have d2 : decide ((M.length : Int) < (N : Int)) = false := decide_eq_false (by omega)
          clear e1 e2 hck
          refine HP.mono ?_
          rintro e w5 ⟨rfl, hq, hf⟩
          have HX := Lib.hid (HX.out.step hf)
          have HS := Lib.hid (HS.out.step hf)
          have HM := Lib.hid (HM.out.fr0 hf HMf.out)
          have HQ := Lib.hid (HQ.out.step hq hf)
          have hlm := HM.out
          clear hq hf HP
          obtain ⟨ma', mc', hme, _, _, hma, _⟩ := hlm.esIn
          injection hme with h1 h2 h3
          subst h1
          have Hma := Lib.hid hma
          clear hma h2 h3 hlm
          have hln := HQ.out.1.len
          rw [hpl] at hln
          have d3 : decide ((M.length : Int) > (N : Int)) = false := decide_eq_false (by omega)
          have d4 : decide ((N : Int) < (M.length : Int)) = false := decide_eq_false (by omega)
          have d5 : decide (N < M.length) = false := decide_eq_false (by omega)
          have Hfull := Lib.hid hfull
          have Hpl := Lib.hid hpl
          clear hfull hpl
          go_wp2_with fail
          refine hln.mono ?_
          rintro e w6 ⟨rfl, rfl⟩
          go_wp2_with fail
          have HW35 := Lib.hid (show w3.heap.size ≤ w5.heap.size by have := Hbq.out; have := HX.out.lt; omega)
          refine (inOrder_any (n := M.length) (cap := mc) M Hma.out rfl (by omega)).mono ?_
          rintro e w7 ⟨v7, rfl, hr7, hf⟩
          have HS := Lib.hid (HS.out.later hf)
          have HX := Lib.hid (HX.out.later hf)
          have hf57 := hf.size
          have hq5 := HQ.out.1.lt
          have HQ := Lib.hid (HQ.out.later hf)
          obtain ⟨z, E', hE⟩ : ∃ z E', putsE M [] = z :: E' := by
            cases hE : putsE M [] with
            | nil =>
              have := Hpl.out
              rw [hE] at this
              have := Hfull.out
              simp at *
              omega
            | cons z E' => exact ⟨z, E', rfl⟩
          have hEl : E'.length + 1 = M.length := by
            have := Hpl.out
            rw [hE] at this
            simpa using this
          have hasc := HQ.out.1.good
          rw [hE] at HQ hr7 hasc
          have Hasc := Lib.hid (show AscE E' ∧ OnceE E' from ⟨asc_sub hasc.1 (List.sublist_cons_self _ _), once_sub hasc.2.1 (List.sublist_cons_self _ _)⟩)
          have HE := Lib.hid hE
          have hv7 : ∃ g7 c7, v7 = .slice (some ⟨g7, 0, none⟩) M.length c7 ∧ M.length ≤ c7 := by
            rcases hr7.2 with ⟨_, h0⟩ | ⟨g, cap, cur, hv, _, _, hn, _⟩
            · have := Hfull.out; omega
            · exact ⟨g, cap, hv, hn⟩
          obtain ⟨g7, c7, rfl, hc7⟩ := hv7
          obtain ⟨_, _, hve, _, hes⟩ := EsIn.of_own hr7
          injection hve with h1 h2 h3
          subst h1
          have hg7 : w5.heap.size ≤ g7 ∧ g7 < w7.heap.size := hr7.lt g7 rfl
          have HR := Lib.hid (show w7.ownsRow w5.heap.size 34 5 (.slice (some ⟨g7, 0, none⟩) M.length c7) M.length (flatEv (z :: E')) from hr7)
          have HRf := Lib.hid (show ¬ qgrow fk W4 w5 g7 from fun hk => by have := hq5 g7 hk; omega)
          have Hg7 := Lib.hid hg7
          clear hf hr7 hasc hE hes h2 h3 hq5
          go_wp2_with fail
          refine (HQ.out.1.take (by omega)).mono ?_
          rintro e w8 ⟨rfl, hq, hf⟩
          have HX := Lib.hid (HX.out.step hf)
          have HS := Lib.hid (HS.out.step hf)
          have HR := Lib.hid (ownsRow_fr0 HR.out hf (fun g hg hk => by
            have h1 : g7 = g := by injection hg
            subst h1
            exact HRf.out hk))
          have HRf := Lib.hid (show ¬ qgrow (qgrow fk W4 w5) w7 w8 g7 from fun hk => hk.elim HRf.out (fun h => by have := Hg7.out.2; omega))
          have HQ := Lib.hid (HQ.out.step hq hf)
          have S8 := Lib.hid hf.size
          clear hq hf
          rw [if_neg (by simp)]
          simp only [lstE, evV, List.tail_cons] at HQ ⊢
          obtain ⟨W9, hW⟩ : ∃ W, w8.alloc (.cells #[.int .i64 z.key.time, .int .i64 z.key.source, .int .i64 z.key.seq, .int .i64 z.to, .int .i64 z.value] 34) = W := ⟨_, rfl⟩
          have hf : Fr0 none' w8 W9 := by rw [← hW]; exact (Fr0.refl _ _).alloc _
          have HZb := Lib.hid (show W9.heap[w8.heap.size]? = some (.cells (cev z).toArray 34 (0, 0)) by rw [← hW]; exact World.alloc_heap_new _ _)
          have HX := Lib.hid (HX.out.later hf)
          have HS := Lib.hid (HS.out.later hf)
          have HR := Lib.hid (ownsRow_fr0 HR.out hf (fun _ _ h => h))
          have HQ := Lib.hid (HQ.out.later hf)
          obtain ⟨_, _, hve, _, hes⟩ := EsIn.of_own HR.out
          injection hve with h1 h2 h3
          subst h1
          obtain ⟨g', o', he7, hz7⟩ := hes 0 z rfl
          injection he7 with he7
          injection he7 with he7 he8
          subst he7
          subst he8
          clear h2 h3 hes
          have HZ9 := Lib.hid (fun (W' : World) (hf : Fr0 none' W9 W') => (hf.block w8.heap.size (Array.getElem?_eq_some_iff.1 HZb.out).1 id).trans HZb.out)
          have Hz7 := Lib.hid hz7
          simp only [cev] at HZ9
          have hN1E : N - E'.length = 1 := by have := Hfull.out; omega
          have HRm := Lib.hid (fun (W' : World) (hf : Fr0 none' W9 W') => (HQ.out.1.later hf).room)
          rw [hN1E] at HRm
          clear hN1E hz7 hf
          have d8 : ((M.length : Int) == 0) = false := beq_eq_false_iff_ne.2 (by have := Hfull.out; omega)
          have d9 : (0 : Int) < (M.length : Int) := by have := Hfull.out; omega
          have d10 : (M = []) = False := eq_false (fun h => by rw [h] at d9; simp at d9)
          have S9 := Lib.hid (show w8.heap.size ≤ W9.heap.size by rw [← hW, World.size_alloc]; omega)
          go_wp2_with fail
          try rw [hW]
          clear hW
          refine wp_region_held_drew (S := fun W' => Fr0 none' W9 W') (by kernel_rfl) ((Fr0.refl none' W9).drew) (fun hHeld => ?_)
          refine take_on (i := 0) (v := .int .i64 0) rfl (by kernel_rfl) (by kernel_rfl) (by kernel_rfl) (fun _ _ _ h => h) (by kernel_rfl) (fun W' hSW => ?_) (by assumption) ?_
          · first | (go_simp; done) | exact rfl | (go_simp; rfl) | (go_simp; omega)
          try simp only [Act.put, List.setIfInBounds_toArray, List.set_cons_zero, List.set_cons_succ]
          refine take_on (i := 1) (v := .bool false) rfl (by kernel_rfl) (by kernel_rfl) (by kernel_rfl) (fun _ _ _ h => h) (by kernel_rfl) (fun W' hSW => ?_) (by assumption) ?_
          · first | (go_simp; done) | exact rfl | (go_simp; rfl) | (go_simp; omega)
          try simp only [Act.put, List.setIfInBounds_toArray, List.set_cons_zero, List.set_cons_succ]
          refine take_on (i := 2) (v := .bool false) rfl (by kernel_rfl) (by kernel_rfl) (by kernel_rfl) (fun _ _ _ h => h) (by kernel_rfl) (fun W' hSW => ?_) (by assumption) ?_
          · first | (go_simp; done) | exact rfl | (go_simp; rfl) | (go_simp; omega)
          try simp only [Act.put, List.setIfInBounds_toArray, List.set_cons_zero, List.set_cons_succ]
          refine take_on (i := 3) (v := .slice (some ⟨g7, 0, none⟩) M.length c7) rfl (by kernel_rfl) (by kernel_rfl) (by kernel_rfl) (fun _ _ _ h => h) (by kernel_rfl) (fun W' hSW => ?_) (by assumption) ?_
          · first | (go_simp; done) | exact rfl | (go_simp; rfl) | (go_simp; omega)
          try simp only [Act.put, List.setIfInBounds_toArray, List.set_cons_zero, List.set_cons_succ]
          refine take_on (i := 4) (v := .int .i64 M.length) rfl (by kernel_rfl) (by kernel_rfl) (by kernel_rfl) (fun _ _ _ h => h) (by kernel_rfl) (fun W' hSW => ?_) (by assumption) ?_
          · first | (go_simp; done) | exact rfl | (go_simp; rfl) | (go_simp; omega)
          try simp only [Act.put, List.setIfInBounds_toArray, List.set_cons_zero, List.set_cons_succ]
          refine take_on (i := 5) (v := .bool false) rfl (by kernel_rfl) (by kernel_rfl) (by kernel_rfl) (fun _ _ _ h => h) (by kernel_rfl) (fun W' hSW => ?_) (by assumption) ?_
          · first | (go_simp; done) | exact rfl | (go_simp; rfl) | (go_simp; omega)
          try simp only [Act.put, List.setIfInBounds_toArray, List.set_cons_zero, List.set_cons_succ]
          refine take_on (i := 6) (v := .bool false) rfl (by kernel_rfl) (by kernel_rfl) (by kernel_rfl) (fun _ _ _ h => h) (by kernel_rfl) (fun W' hSW => ?_) (by assumption) ?_
          · first | (go_simp; done) | exact rfl | (go_simp; rfl) | (go_simp; omega)
          try simp only [Act.put, List.setIfInBounds_toArray, List.set_cons_zero, List.set_cons_succ]
          refine take_on (i := 7) (v := .bool false) rfl (by kernel_rfl) (by kernel_rfl) (by kernel_rfl) (fun _ _ _ h => h) (by kernel_rfl) (fun W' hSW => ?_) (by assumption) ?_
          · first | (go_simp; done) | exact rfl | (go_simp; rfl) | (go_simp; omega)
          try simp only [Act.put, List.setIfInBounds_toArray, List.set_cons_zero, List.set_cons_succ]
          refine take_on (i := 8) (v := .agg #[.int .i64 z.key.time, .int .i64 z.key.source, .int .i64 z.key.seq, .int .i64 z.to, .int .i64 z.value]) rfl (by kernel_rfl) (by kernel_rfl) (by kernel_rfl) (fun _ _ _ h => h) (by kernel_rfl) (fun W' hSW => ?_) (by assumption) ?_
          · have hb := HZ9.out W' hSW
            have x0 := cells_in hb 0
            have x1 := cells_in hb 1
            have x2 := cells_in hb 2
            have x3 := cells_in hb 3
            have x4 := cells_in hb 4
            simp at x0 x1 x2 x3 x4
            clear hb
            first | (go_simp; done) | exact rfl | (go_simp; rfl) | (go_simp; omega)
          try simp only [Act.put, List.setIfInBounds_toArray, List.set_cons_zero, List.set_cons_succ]
          refine take_on (i := 9) (v := .slice (some ⟨g7, 0, none⟩) M.length c7) rfl (by kernel_rfl) (by kernel_rfl) (by kernel_rfl) (fun _ _ _ h => h) (by kernel_rfl) (fun W' hSW => ?_) (by assumption) ?_
          · first | (go_simp; done) | exact rfl | (go_simp; rfl) | (go_simp; omega)
          try simp only [Act.put, List.setIfInBounds_toArray, List.set_cons_zero, List.set_cons_succ]
          refine take_on (i := 10) (v := .pointer (some ⟨g7, 0, none⟩)) rfl (by kernel_rfl) (by kernel_rfl) (by kernel_rfl) (fun _ _ _ h => h) (by kernel_rfl) (fun W' hSW => ?_) (by assumption) ?_
          · first | (go_simp; done) | exact rfl | (go_simp; rfl) | (go_simp; omega)
          try simp only [Act.put, List.setIfInBounds_toArray, List.set_cons_zero, List.set_cons_succ]
          refine take_on (i := 11) (v := .agg #[.int .i64 z.key.time, .int .i64 z.key.source, .int .i64 z.key.seq, .int .i64 z.to, .int .i64 z.value]) rfl (by kernel_rfl) (by kernel_rfl) (by kernel_rfl) (fun _ _ _ h => h) (by kernel_rfl) (fun W' hSW => ?_) (by assumption) ?_
          · obtain ⟨b0, b1, b2, b3, b4⟩ := Hz7.out.later hSW
            simp only [Nat.zero_mul, Nat.zero_add] at b0 b1 b2 b3 b4
            first | (go_simp; done) | exact rfl | (go_simp; rfl) | (go_simp; omega)
          try simp only [Act.put, List.setIfInBounds_toArray, List.set_cons_zero, List.set_cons_succ]
          refine take_on (i := 12) (v := .bool false) rfl (by kernel_rfl) (by kernel_rfl) (by kernel_rfl) (fun _ _ _ h => h) (by kernel_rfl) (fun W' hSW => ?_) (by assumption) ?_
          · first | (go_simp; done) | exact rfl | (go_simp; rfl) | (go_simp; omega)
          try simp only [Act.put, List.setIfInBounds_toArray, List.set_cons_zero, List.set_cons_succ]
          refine take_on (i := 13) (v := .bool false) rfl (by kernel_rfl) (by kernel_rfl) (by kernel_rfl) (fun _ _ _ h => h) (by kernel_rfl) (fun W' hSW => ?_) (by assumption) ?_
          · first | (go_simp; done) | exact rfl | (go_simp; rfl) | (go_simp; omega)
          try simp only [Act.put, List.setIfInBounds_toArray, List.set_cons_zero, List.set_cons_succ]
          refine take_on (i := 14) (v := .bool false) rfl (by kernel_rfl) (by kernel_rfl) (by kernel_rfl) (fun _ _ _ h => h) (by kernel_rfl) (fun W' hSW => ?_) (by assumption) ?_
          · first | (go_simp; done) | exact rfl | (go_simp; rfl) | (go_simp; omega)
          try simp only [Act.put, List.setIfInBounds_toArray, List.set_cons_zero, List.set_cons_succ]
          refine take_on (i := 15) (v := .pointer (some ⟨qb, 0, none⟩)) rfl (by kernel_rfl) (by kernel_rfl) (by kernel_rfl) (fun _ _ _ h => h) (by kernel_rfl) (fun W' hSW => ?_) (by assumption) ?_
          · first | (go_simp; done) | exact rfl | (go_simp; rfl) | (go_simp; omega)
          try simp only [Act.put, List.setIfInBounds_toArray, List.set_cons_zero, List.set_cons_succ]
          refine take_call (i := 16) rfl (by kernel_rfl) (by kernel_rfl) (fun K hK => ?_)
          go_simp
          refine (HRm.out _ hHeld).mono ?_
          rintro e w10 ⟨rfl, hf⟩
          have F10 := Lib.hid (hHeld.trans hf)
          clear hf
          go_wp2_with fail
          refine hK.out _ _ F10.out (fun hHeld => ?_)
          clear hK K
          try simp only [Act.put, List.setIfInBounds_toArray, List.set_cons_zero, List.set_cons_succ]
          refine take_on (i := 17) (v := .bool false) rfl (by kernel_rfl) (by kernel_rfl) (by kernel_rfl) (fun _ _ _ h => h) (by kernel_rfl) (fun W' hSW => ?_) (by assumption) ?_
          · first | (go_simp; done) | exact rfl | (go_simp; rfl) | (go_simp; omega)
          try simp only [Act.put, List.setIfInBounds_toArray, List.set_cons_zero, List.set_cons_succ]
          refine take_on (i := 18) (v := .bool false) rfl (by kernel_rfl) (by kernel_rfl) (by kernel_rfl) (fun _ _ _ h => h) (by kernel_rfl) (fun W' hSW => ?_) (by assumption) ?_
          · first | (go_simp; done) | exact rfl | (go_simp; rfl) | (go_simp; omega)
          try simp only [Act.put, List.setIfInBounds_toArray, List.set_cons_zero, List.set_cons_succ]
          refine wpAnyH_done (by kernel_rfl) ?_ _
          have HS := Lib.hid (HS.out.later F10.out)
          have HR := Lib.hid (ownsRow_fr0 HR.out F10.out (fun _ _ h => h))
          have HQ := Lib.hid (HQ.out.later F10.out)
          clear hHeld d8 HRm HZ9 Hz7
          have n1 : (1 : Int) ≤ (M.length : Int) := by have := Hfull.out; omega
          have n2 : (M.length : Int) ≤ (c7 : Int) := by omega
          have n3 : (1 : Int) ≤ (c7 : Int) := by omega
          go_wp2_with fail
          go_roundw
          case rel =>
            have hE1 : M.length - 1 = E'.length := by omega
            have hpz : putsE E' [] = E' := asc_puts Hasc.out.1 Hasc.out.2
            have how := (OwnsO.of_row (own_up HR.out HW35.out)).tail (by omega)
            have hfl : (flatEv (z :: E')).drop 5 = flatEv E' := by rw [flatEv_cons]; rfl
            rw [hfl, hE1] at how
            simp only [Nat.zero_add] at how
            refine ⟨k + 1, E', _, by omega, by go_num, ?_, HS, ?_, fun g hg => ?_, ?_, fun y hy => ?_⟩
            · rw [hpz]
              exact HQ.out
            · rw [hE1]
              exact how
            · have h1 : g7 = g := by
                by_cases h : c7 = 1
                · rw [if_pos h] at hg; injection hg
                · rw [if_neg h] at hg; injection hg
              rw [← h1]
              exact HRf.out
            · have := HW35.out
              have := S8.out
              have := S9.out
              have := F10.out.size
              have : w3.heap.size ≤ w10.heap.size := by omega
              exact this
            · have h1 : y ∈ putsE M [] := by rw [HE.out]; exact List.mem_cons_of_mem _ hy
              have h2 := HSq.out y ((putsE_mem.1 h1).elim id (fun h => by cases h))
              omega
          case measure => simp [Go.RowKit.intOf]; omega
      · have hk3 : k = 300 := by omega
        subst hk3
        have hln := HQ.out.1.len
        rw [putsE_length] at hln
        simp only [List.length_nil, Nat.add_zero] at hln
        go_wp2_with fail
        refine hln.mono ?_
        rintro e w5 ⟨rfl, rfl⟩
        go_wp2_with fail
        go_ret
        exact ⟨rfl, HQ.out.2.1⟩
end Go.Proofs.Ytmcgipilopfgoaa

namespace Go.Proofs.Ytmcgipilopfgoaa.evqRoom
open Go.ChangeShapes Go.WideShapes Go.ChangeAt Go.RowKit Go.Proofs.Ytmcgipilopfgoaa

set_option maxRecDepth 100000 in
theorem lifted (os : Os) (started : os.Started) (H : Type) (enc : TypeId × Value → H) :
    ReturnsInHanded {} Try.checked os 3 .any (Rows.evqRoomSpec.pre6 enc Try.prog Try.f3 Rows.evqRoomRow.domain false) (Rows.evqRoomSpec.post enc Try.prog Try.f3 false true false false) := by
  refine returnsInHanded_of_change (C := Try.checked) own_knob started (by kernel_rfl) Try.func3
    (ChangeSpec.witness6 (enc := enc) (C := Try.checked) false ⟨#[], #[.int .u8 0, .slice none 0 0], []⟩ 8 (by kernel_rfl) (by kernel_rfl) (by kernel_rfl) (by kernel_rfl)) ?_
  intro W base args ds gs before hval0 hW hcnd _
  have hval : ∀ (j : Nat) t v, Try.f3.params[j]? = some t → args[j]? = some v → Value.okWide Try.prog W .any base t v := hval0
  have hW' := hW
  obtain ⟨p, q, hA0, hV, rfl, hfz, hnd⟩ := hW
  have hA : DataW.TrodAll enc Try.prog W 0 (fun _ => true) true Try.f3.params.toList args.toList ds p := hA0
  rw [Try.params3] at hA hval
  obtain ⟨v0, vs0, d0, ds0, p0, q0, hargs, rfl, rfl, h0, r0⟩ := trodAll_cons hA
  obtain ⟨v1, vs1, d1, ds1, p1, q1, rfl, rfl, rfl, h1, r1⟩ := trodAll_cons r0
  obtain ⟨rfl, rfl, rfl⟩ := trodAll_nil r1
  obtain rfl : args = #[v0, v1] := by cases args; simp_all
  obtain ⟨rfl, rfl⟩ := trodVars_none hV
  clear hA0 hval0
  simp only [List.append_nil] at hW'
  have l0 : ∀ x ∈ p0, x.block < W.heap.size := fun x hx => hW'.lt x (by simp [hx])
  have t0 := fun W' (hb : Below W.heap.size W W') => Below.trod laid_own (by kernel_rfl) (of_decide_eq_true (by kernel_rfl)) h0 hb l0
  have l1 : ∀ x ∈ p1, x.block < W.heap.size := fun x hx => hW'.lt x (by simp [hx])
  have t1 := fun W' (hb : Below W.heap.size W W') => Below.trod laid_own (by kernel_rfl) (of_decide_eq_true (by kernel_rfl)) h1 hb l1
  obtain ⟨a0, rfl, _, _, w0⟩ := open_int Try.underlying5 (hval 0 5 v0 rfl rfl) h0
  have b0 : 0 ≤ a0 ∧ a0 < 256 := by
    have := bounds_u8 w0
    omega
  obtain ⟨xs1, hx1⟩ := smalls_arg (hval 1 22 v1 rfl rfl) h1
  refine (EvqRoom_any b0 hx1).mono fun e W' ⟨he, hf⟩ => ?_
  have hg : Below W.heap.size W W' := hf.below (Nat.le_refl _) (fun _ _ h => h)
  subst he
  exact ⟨_, rfl, post_below2 (pa := p0 ++ (p1 ++ ([]))) (pv := []) hW' (fun _ _ _ => (trodAll_cons_mk (shut_bool Try.underlying4 _) trodAll_mk0)) (trodAll_cons_mk (t0 _ hg) (trodAll_cons_mk (t1 _ hg) trodAll_mk0)) (fun _ _ => rfl) hg⟩

theorem over : Rows.evqRoomRow.holds Try.pinned (OpenSpec.ofChange Rows.evqRoomSpec) :=
  OpenClaim.holds_of_wide 3 Try.f3 rfl rfl rfl rfl rfl rfl rfl ⟨rfl, rfl, rfl, rfl, rfl⟩ rfl rfl rfl rfl rfl (by kernel_rfl) Try.func3 (by kernel_rfl)
    (of_decide_eq_true (by kernel_rfl)) (by unfold Func.isWrapper; first | (rw [if_pos (by decide +kernel)]; kernel_rfl) | (rw [if_neg (by decide +kernel)]; exact ⟨rfl, rfl⟩))
    (fun os started H enc _ => lifted os started H enc)

theorem proved : Rows.EvqRoomSaid := over
#print axioms proved
end Go.Proofs.Ytmcgipilopfgoaa.evqRoom
