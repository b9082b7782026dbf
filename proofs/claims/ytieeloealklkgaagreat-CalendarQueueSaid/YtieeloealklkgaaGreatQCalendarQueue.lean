/- CalendarQueue: the statement: for any input the law returns true, and the arguments read as before; no condition. -/
import Derived.Test.YtieeloealklkgaaGreatJb3
import Derived.Test.YtieeloealklkgaaGreatJb4
set_option linter.unusedSimpArgs false
set_option linter.unusedVariables false

/-
  CalendarQueue.
-/
namespace Go.Proofs.YtieeloealklkgaaGreat
open Go Go.RowKit Go.ChangeMaps
attribute [local go_sem ↓] Go.wp_at_zero Go.wp_at_succ
attribute [local go_sem] Oper.semAt_some wide_fn wide_depth wide_fnR wide_depthR

theorem acts_i64 (l : List Smc) : ∀ a ∈ l.map actC, I64 a.x.name.1 ∧ I64 a.x.name.2 := fun a ha => by
 obtain ⟨x, _, rfl⟩ := List.mem_map.1 ha
 unfold I64 Ev.name actC madeV
 simp only
 omega
theorem CasIn.one {w : World} {g : Nat} {x : Ca} (h : w.heap[g]? = some (.cells #[.int .u8 x.kind, .int .i64 x.x.key.time, .int .i64 x.x.key.source, .int .i64 x.x.key.seq, .int .i64 x.x.to, .int .i64 x.x.value, .int .i64 x.time] 33 (0, 0))) : CasIn w (some ⟨g, 0, none⟩) [x] := CasIn.of_flat (fun j u hj => by
 rw [Nat.zero_add, cells_in h, ← Array.getElem?_toList]
 exact hj)
theorem TdsIn.single {w : World} {g : Nat} {y : Td} {ty : TypeId} (h : w.heap[g]? = some (.cells #[.int .i64 y.err, .slice y.sa y.sn y.sc] ty (0, 0))) : TdsIn w (some ⟨g, 0, none⟩) [y] := TdsIn.of_flat (fun j u hj => by
 rw [Nat.zero_add, cells_in h, ← Array.getElem?_toList]
 exact hj)
/-- One of a row of what was told. -/
theorem TdsIn.nth {w : World} {a : Option Addr} {L : List Td} (h : TdsIn w a L) {k : Nat} {y : Td} (hy : L[k]? = some y) : TdsIn w (a.map (fun x => x.add (k * 2))) [y] := fun i x hx => by
 cases i with
 | succ i => simp at hx
 | zero =>
  simp at hx
  subst hx
  obtain ⟨g, o, rfl, hc⟩ := h k y hy
  refine ⟨g, o + k * 2, by rw [Option.map_some, Addr.add_mid], ?_⟩
  rw [Nat.zero_mul, Nat.add_zero]
  exact hc
theorem TdEv.own {W : World} {base : Nat} {y : Td} (h : W.ownsRow base 30 5 y.v y.evs.length (flatEv y.evs)) (hm : y.evs.length ≤ 10000) : EsIn W y.sa y.evs ∧ y.evs.length = y.sn ∧ y.sn ≤ 10000 := by
 obtain ⟨p, cp, e1, e2, e3⟩ := EsIn.of_own h
 unfold Td.v at e1
 injection e1 with f1 f2 f3
 rw [f1]
 exact ⟨e3, f2.symm, by omega⟩
set_option maxRecDepth 100000 in
set_option maxHeartbeats 4000000 in
theorem CalendarQueue_any {w : World} {a : Option Addr} {m cap : Nat} {c : Int} (l : List Smc) (h : SmcsIn w a l) (hl : l.length = m) (hc : m ≤ cap) (hc0 : 0 ≤ c ∧ c < 256) :
  Calls Tryz.prog 5 #[.slice a m cap, .int .u8 c] w fun e w' => e = .returned (.bool true) ∧ Fr0 none' w w' := by
 obtain ⟨n, hn⟩ : ∃ n : Nat, c % 21 = (n : Int) := ⟨(c % 21).toNat, by omega⟩
 have hn1 : n ≤ 20 := by omega
 have q1 : Int.tmod c 21 = (n : Int) := by rw [Int.tmod_eq_emod_of_nonneg hc0.1, hn]
 have HA := Lib.hid (fun (W : World) => cawake_any W)
 have HX := Lib.hid (fun (W : World) (hf : Fr0 none' w W) => Acts_any (most := 100) l (h.later hf) hl hc (by omega))
 clear h hl hc hn hc0
 go_enter Tryz.func5, Tryz.ntmps5
 go_wp2_with fail
 refine (HA.out _).mono ?_
 rintro e w1 ⟨rfl, hf⟩
 have F := Lib.hid hf
 clear hf HA
 go_wp2_with fail
 refine (HX.out _ F.out).mono ?_
 rintro e w2 ⟨v, rfl, hr, hf⟩
 obtain ⟨A, hA⟩ : ∃ A, (l.take 100).map actC = A := ⟨_, rfl⟩
 have hk : ∀ x ∈ A, 1 ≤ x.kind ∧ x.kind ≤ 5 := by rw [← hA]; exact kinds_acts _
 have hi64 : ∀ x ∈ A, I64 x.x.name.1 ∧ I64 x.x.name.2 := by rw [← hA]; exact acts_i64 _
 have hM : A.length ≤ 100 := by rw [← hA, List.length_map, List.length_take]; omega
 rw [hA] at hr
 obtain ⟨M, hMl⟩ : ∃ M, A.length = M := ⟨_, rfl⟩
 rw [hMl] at hr hM
 obtain ⟨aa, ac, rfl, _, hac, hin⟩ := CasIn.of_own hr
 have F := Lib.hid (F.out.trans hf)
 have HAlt := Lib.hid (show ∀ g o s, aa = some ⟨g, o, s⟩ → g < w2.heap.size from fun g o s e => (hr.lt g (by rw [e]; rfl)).2)
 have HI := Lib.hid hin
 have HK := Lib.hid hk
 have HI64 := Lib.hid hi64
 have Hl := Lib.hid hMl
 have S02 := Lib.hid F.out.size
 have HN := Lib.hid (QNew_is n (by omega) w2)
 clear hA hk hr hMl hin hf HX hi64 q1
 go_wp2_with fail
 refine HN.out.mono ?_
 rintro e w3 ⟨qb, ft, rfl, hq3, hf, hge⟩
 have HI := Lib.hid (HI.out.later hf)
 have F := Lib.hid (F.out.trans hf)
 have HQ3 := Lib.hid hq3
 have HGE := Lib.hid hge
 have S23 := Lib.hid hf.size
 clear hq3 hf hge HN
 go_wp2_with fail
 have HP := Play_any (w := w3) (c := n) (n := 0) (cap := 0) (ca := ac) [] A (esIn_nilC w3 none) rfl (by omega) (Nat.zero_le _) HI.out Hl.out (by omega) (kinds_wide HK.out)
 unfold EndP at HP
 rw [playC_ok (GoodE.nil n) (by omega) HK.out] at HP
 refine HP.mono ?_
 clear HP
 rintro e w4 ⟨ov, av, ys, rfl, ho, hall, hT, hov, hf⟩
 have hgE : GoodE n (stC n [] A) := GoodE.acts A (GoodE.nil n)
 obtain ⟨oa, oc, rfl, hoc, hoi⟩ := EsIn.of_own ho
 obtain ⟨ala, alc, rfl, hal, hali⟩ := TdsIn.of_own hall
 have halc : M ≤ alc := by have := own_cap hall rfl; rw [tlC_length, Hl.out] at this; exact this
 rw [tlC_length, Hl.out] at hall hal ⊢
 have hoc2 := own_cap ho rfl
 obtain ⟨en, hen⟩ : ∃ k, (stC n [] A).length = k := ⟨_, rfl⟩
 have henn : en ≤ n := by rw [← hen]; exact hgE.le
 rw [hen] at ho hoc2 ⊢
 have HO := Lib.hid ho
 have HALL := Lib.hid hall
 have HT := Lib.hid hT
 have HYL := Lib.hid hal
 have Hen := Lib.hid hen
 have HI := Lib.hid (HI.out.later hf)
 have F := Lib.hid (F.out.trans hf)
 have HQ4 := Lib.hid (HQ3.out.later hf)
 have S34 := Lib.hid hf.size
 have HFT := Lib.hid (show ∀ k, ft k → w2.heap.size ≤ k ∧ k < w3.heap.size from fun k hk => ⟨HGE.out k hk, HQ3.out.lt k hk⟩)
 have HR := Lib.hid (CRight_any (w := w4) (c := n) (cap := oc) (stC n [] A) (EsIn.of_own' ho) hen (by omega) hoc2)
 have z1 : ((M : Int) != (M : Int)) = false := by simp
 clear ho hall hT hov hf hoi hali hal hen HQ3 HGE
 go_wp2_with fail
 refine HR.out.mono ?_
 rintro e w5 ⟨b, rfl, hb, hf⟩
 obtain rfl : b = true := hb.2 (hgE.rightC (by omega))
 have FW := Lib.hid (show Fr0 (fun j => w2.heap.size ≤ j ∧ j < w3.heap.size) w4 w5 from hf.mono (fun _ _ h => h.elim))
 have HQ5 := Lib.hid (HQ4.out.later hf)
 have HgE := Lib.hid hgE
 clear hb hf hgE HR HQ4 z1
 go_wp2_with fail
 go_loopw [13, 14, 15, 16, 17, 18, 19, 20, 21, 69] (fun ev _ _ _ _ _ _ _ _ i wr => ∃ (k : Nat) (fk : Nat → Prop) (ea : Option Addr) (ec ek : Nat), k ≤ M ∧ i = .int .i64 k ∧ ev = .slice ea ek ec ∧ Hid (QIs wr qb n k (stC n [] (A.take k)) fk) ∧ Hid (∀ j, fk j → (w2.heap.size ≤ j ∧ j < w3.heap.size) ∨ w4.heap.size ≤ j) ∧
  Hid ((stC n [] (A.take k)).length = ek ∧ ek ≤ ec ∧ EsIn wr ea (stC n [] (A.take k)) ∧ ∀ g o s, ea = some ⟨g, o, s⟩ → stC n [] (A.take k) ≠ [] → ¬ fk g) ∧ Hid (Fr0 (fun j => w2.heap.size ≤ j ∧ j < w3.heap.size) w4 wr)) (fun _ _ _ _ _ _ _ _ _ i _ => M - (Go.RowKit.intOf i).toNat)
 case atStart => exact ⟨0, ft, none, 0, 0, Nat.zero_le _, rfl, rfl, HQ5, fun j hj => .inl (HFT.out j hj), ⟨rfl, Nat.le_refl _, esIn_nilC _ _, fun g o s e => by cases e⟩, FW⟩
 case round =>
  obtain ⟨k, fk, ea, ec, ek, hk, rfl, rfl, hq, hfk, hev, hfr⟩ := hrel
  by_cases hlt : k < M
  ·obtain ⟨x, hx⟩ : ∃ x, A[k]? = some x := ⟨_, List.getElem?_eq_getElem (by rw [Hl.out]; exact hlt)⟩
   obtain ⟨y, hy⟩ : ∃ y, ys[k]? = some y := ⟨_, List.getElem?_eq_getElem (by rw [HYL.out]; exact hlt)⟩
   have hst := stC_snoc (n := n) (E := []) hx
   have htl := tlC_at (n := n) (E := []) hx
   have hyt : y.tl = (doC n (stC n [] (A.take k)) x).2 := by
    rw [← HT.out.tl, List.getElem?_map, hy] at htl
    exact Option.some.inj htl
   have hgk : GoodE n (stC n [] (A.take k)) := GoodE.acts _ (GoodE.nil n)
   obtain ⟨Ek, hEk⟩ : ∃ E, stC n [] (A.take k) = E := ⟨_, rfl⟩
   obtain ⟨En, hEn⟩ : ∃ E, stC n [] (A.take (k + 1)) = E := ⟨_, rfl⟩
   rw [hEk] at hq hev hst hyt hgk
   rw [hEn] at hst
   have hxk := HK.out x (List.mem_of_getElem? hx)
   have hxi := HI64.out x (List.mem_of_getElem? hx)
   obtain ⟨g, o, rfl, hxc⟩ := (HI.out.fr0 hfr.out (fun g o s e h => by have := HAlt.out g o s e; omega)) k x hx
   obtain ⟨x0, x1, x2, x3, x4, x5, x6⟩ := hxc
   have k1 : (0 : Int) ≤ (k : Int) := by omega
   have k2 : (k : Int) < (M : Int) := by omega
   obtain ⟨ab, hab⟩ : ∃ b, wr.heap.size = b := ⟨_, rfl⟩
   obtain ⟨W1, hW1⟩ : ∃ V, wr.alloc (.cells #[.int .u8 x.kind, .int .i64 x.x.key.time, .int .i64 x.x.key.source, .int .i64 x.x.key.seq, .int .i64 x.x.to, .int .i64 x.x.value, .int .i64 x.time] 33) = V := ⟨_, rfl⟩
   have f1 : Fr0 none' wr W1 := by rw [← hW1]; exact (Fr0.refl _ _).alloc _
   have b1 : W1.heap[ab]? = some (.cells #[.int .u8 x.kind, .int .i64 x.x.key.time, .int .i64 x.x.key.source, .int .i64 x.x.key.seq, .int .i64 x.x.to, .int .i64 x.x.value, .int .i64 x.time] 33 (0, 0)) := by rw [← hW1, ← hab]; exact World.alloc_heap_new _ _
   have a0 := cells_in b1 0
   have a1 := cells_in b1 1
   have a2 := cells_in b1 2
   have a3 := cells_in b1 3
   have a4 := cells_in b1 4
   have a5 := cells_in b1 5
   have a6 := cells_in b1 6
   simp at a0 a1 a2 a3 a4 a5 a6
   obtain ⟨rb, hrb⟩ : ∃ b, W1.heap.size = b := ⟨_, rfl⟩
   obtain ⟨W2, hW2⟩ : ∃ V, W1.alloc (.cells #[.int .u8 x.kind, .int .i64 x.x.key.time, .int .i64 x.x.key.source, .int .i64 x.x.key.seq, .int .i64 x.x.to, .int .i64 x.x.value, .int .i64 x.time] 33) = V := ⟨_, rfl⟩
   have f2 : Fr0 none' W1 W2 := by rw [← hW2]; exact (Fr0.refl _ _).alloc _
   have b2 : W2.heap[rb]? = some (.cells #[.int .u8 x.kind, .int .i64 x.x.key.time, .int .i64 x.x.key.source, .int .i64 x.x.key.seq, .int .i64 x.x.to, .int .i64 x.x.value, .int .i64 x.time] 33 (0, 0)) := by rw [← hW2, ← hrb]; exact World.alloc_heap_new _ _
   have HB1 := Lib.hid ((f2.block ab (Array.getElem?_eq_some_iff.1 b1).1 id).trans b1)
   have HFr := Lib.hid (hfr.out.trans ((f1.trans f2).mono (fun _ _ h => h.elim)))
   have HFs := Lib.hid (show Fr0 fk wr W2 from (f1.trans f2).mono (fun _ _ h => h.elim))
   have HFW := Lib.hid (show Fr0 (fun j => w2.heap.size ≤ j ∧ j < w3.heap.size) w4 wr from hfr.out)
   have HQ2 := Lib.hid (hq.out.later (f1.trans f2))
   have hflt := hq.out.lt
   have HAb := Lib.hid (show wr.heap.size ≤ ab ∧ ab < rb from ⟨by omega, by have := (Array.getElem?_eq_some_iff.1 b1).1; omega⟩)
   have HQu := Lib.hid (Queue_any (w := W2) (m := 1) (ca := 1) [x] HQ2.out (by omega) (CasIn.one b2) rfl (by omega) (fun z hz => by rw [List.mem_singleton.1 hz]; omega) (fun z hz => by rw [List.mem_singleton.1 hz]; exact hxi) (fun _ g o s e hg => by
    injection e with e
    injection e with e
    have := hflt g hg
    have := HAb.out
    omega))
   unfold EndQ at HQu
   rw [queC_ok (fun z hz => by rw [List.mem_singleton.1 hz]; exact hxk), show stC n Ek [x] = En from hst.symm, show tlC n Ek [x] = [y.tl] from by rw [hyt]; rfl] at HQu
   have Hst := Lib.hid hst
   have Hyt := Lib.hid hyt
   have Hgk := Lib.hid hgk
   have Hx := Lib.hid hx
   have Hy := Lib.hid hy
   have Hxk := Lib.hid hxk
   have HEk := Lib.hid hEk
   have HEn := Lib.hid hEn
   have HFLT := Lib.hid hflt
   have HW1 := Lib.hid f1.size
   clear hst hyt hgk hx hy hxk hEk hEn hxi f1 f2 b1 b2 hflt htl hq hfr
   go_wp2_with fail
   clear hW1 hW2 hab hrb a0 a1 a2 a3 a4 a5 a6 x0 x1 x2 x3 x4 x5 x6
   refine HQu.out.mono ?_
   clear HQu
   rintro e w9 ⟨u, zs, fn, rfl, hu, hTz, hq9, hfn, hun, hf⟩
   have hu : w9.ownsRow W2.heap.size 56 2 u 1 (flatTd zs) := hu
   obtain ⟨ua, uc, rfl, hzl, huin⟩ := TdsIn.of_own hu
   have hw29 : wr.heap.size ≤ W2.heap.size := by have := (Array.getElem?_eq_some_iff.1 HB1.out).1; have := HAb.out; omega
   have HFr := Lib.hid (show Fr0 (fun j => w2.heap.size ≤ j ∧ j < w3.heap.size) w4 w9 from HFr.out.trans' hf (fun j hj hs => (hfk.out j hs).resolve_right (by omega)))
   have b9 := (hf.block ab (Array.getElem?_eq_some_iff.1 HB1.out).1 (fun hk => by have := HFLT.out ab hk; have := HAb.out; omega)).trans HB1.out
   have a0 := cells_in b9 0
   have a1 := cells_in b9 1
   have a2 := cells_in b9 2
   have a3 := cells_in b9 3
   have a4 := cells_in b9 4
   have a5 := cells_in b9 5
   have a6 := cells_in b9 6
   simp at a0 a1 a2 a3 a4 a5 a6
   have HFN := Lib.hid (show ∀ j, fn j → (w2.heap.size ≤ j ∧ j < w3.heap.size) ∨ w4.heap.size ≤ j from fun j hj => by
    rcases hfn j hj with h | h
    ·exact hfk.out j h
    ·have := HFr.out.size
     have h4 : w4.heap.size ≤ W2.heap.size := Nat.le_trans HFW.out.size hw29
     exact .inr (by omega))
   have HQ9 := Lib.hid hq9
   have HU := Lib.hid huin
   have HZL := Lib.hid hzl
   have HZT := Lib.hid (show zs.map Td.tl = [y.tl] from hTz.tl)
   have hyb : y.evs.length ≤ 10000 := by
    have h1 := told_good Hgk.out x
    rw [← Hyt.out] at h1
    have h1 : y.evs.length ≤ n := h1.le
    omega
   have HYB := Lib.hid hyb
   have HZE := Lib.hid (show TdEv w9 zs from fun z hz => by
    have h2 : z.tl ∈ [y.tl] := by rw [← hTz.tl]; exact List.mem_map.2 ⟨z, hz, rfl⟩
    have h2 : z.tl = y.tl := List.mem_singleton.1 h2
    have h2 : z.evs = y.evs := congrArg Tl.evs h2
    exact TdEv.own (hTz.row z hz) (by rw [h2]; exact hyb))
   have hE9 := hev.out.2.2.1.off (HFs.out.trans hf) hev.out.2.2.2
   have HD := Lib.hid (Do_any (w := w9) (c := n) (cap := ec) Ek x hE9 hev.out.1 (by have := Hgk.out.le; have := hev.out.1; omega) hev.out.2.1 (by have := Hxk.out; omega))
   unfold EndD actCV doT at HD
   rw [playC_ok Hgk.out (by omega) (fun z hz => by rw [List.mem_singleton.1 hz]; exact Hxk.out), show stC n Ek [x] = En from Hst.out.symm, show tlC n Ek [x] = [y.tl] from by rw [Hyt.out]; rfl] at HD
   simp only [List.headD_cons] at HD
   have Hw29 := Lib.hid hw29
   clear hu hTz hq9 hfn hun hf hzl huin hyb b9 hE9 hw29
   go_wp2_with fail
   refine HD.out.mono ?_
   clear HD
   rintro e w10 ⟨nv, z, rfl, hnv, hzt, hzr, _, hf⟩
   obtain ⟨na, nc, rfl, _, hni⟩ := EsIn.of_own hnv
   have hnc := own_cap hnv rfl
   obtain ⟨nn, hnn⟩ : ∃ k, En.length = k := ⟨_, rfl⟩
   rw [hnn] at hnc ⊢
   have HNL := Lib.hid (show ∀ g o s, na = some ⟨g, o, s⟩ → ¬ fn g from fun g o s e hg => by have := (hnv.lt g (by rw [e]; rfl)).1; have := HQ9.out.lt g hg; omega)
   have HNI := Lib.hid hni
   have Hnn := Lib.hid hnn
   have Hnc := Lib.hid hnc
   have HZZ := Lib.hid hzt
   have hzq : z.evs = y.evs := congrArg Tl.evs hzt
   have HZR := Lib.hid (TdEv.own hzr (by rw [hzq]; exact HYB.out))
   have HFr := Lib.hid (HFr.out.trans (hf.mono (fun _ _ h => h.elim)))
   have HQ9 := Lib.hid (HQ9.out.later hf)
   have HU := Lib.hid (HU.out.later hf)
   have HZE := Lib.hid (HZE.out.later hf)
   clear hnv hni hnn hnc hzt hzr hf hzq a0 a1 a2 a3 a4 a5 a6
   unfold Td.val
   go_wp2_with fail
   obtain ⟨tb, htb⟩ : ∃ b, w10.heap.size = b := ⟨_, rfl⟩
   obtain ⟨W3, hW3⟩ : ∃ V, w10.alloc (.cells #[.int .i64 z.err, .slice z.sa z.sn z.sc] 56) = V := ⟨_, rfl⟩
   have f3 : Fr0 none' w10 W3 := by rw [← hW3]; exact (Fr0.refl _ _).alloc _
   have b3 : W3.heap[tb]? = some (.cells #[.int .i64 z.err, .slice z.sa z.sn z.sc] 56 (0, 0)) := by rw [← hW3, ← htb]; exact World.alloc_heap_new _ _
   rw [hW3]
   try rw [htb]
   have HB3 := Lib.hid b3
   have HFr := Lib.hid (HFr.out.trans (f3.mono (fun _ _ h => h.elim)))
   have HQ9 := Lib.hid (HQ9.out.later f3)
   have HU := Lib.hid (HU.out.later f3)
   have HZE := Lib.hid (HZE.out.later f3)
   have HNI := Lib.hid (HNI.out.later f3)
   have HZR := Lib.hid (show EsIn W3 z.sa z.evs ∧ z.evs.length = z.sn ∧ z.sn ≤ 10000 from ⟨HZR.out.1.later f3, HZR.out.2⟩)
   have hY3 := TdsIn.nth (TdsIn.of_own' (ownsRow_fr0 HALL.out HFr.out (fun g hg hs => by have := (HALL.out.lt g hg).1; omega))) Hy.out
   have hYE3 : TdEv W3 [y] := fun y' hy' => by
    rw [List.mem_singleton.1 hy']
    have hm := List.mem_of_getElem? Hy.out
    exact TdEv.own (ownsRow_fr0 (HT.out.row y hm) HFr.out (fun g hg hs => by have := (HT.out.out y hm g hg).2.2; omega)) HYB.out
   have HS := alike_any ua (ala.map (fun x => x.add (k * 2))) 1 1 uc (alc - k) zs [y] W3 HZL.out rfl (by omega) (by omega) HU.out hY3 HZE.out hYE3
   rw [decide_eq_true (show zs.map Td.tl = [y].map Td.tl from HZT.out)] at HS
   refine HS.mono ?_
   clear HS hY3 hYE3 f3 b3 hW3 htb
   rintro e w11 ⟨rfl, hf⟩
   have b4 := (hf.block tb (Array.getElem?_eq_some_iff.1 HB3.out).1 id).trans HB3.out
   have t0 := cells_in b4 0
   have t1 := cells_in b4 1
   simp at t0 t1
   obtain ⟨rb2, hrb⟩ : ∃ b, w11.heap.size = b := ⟨_, rfl⟩
   obtain ⟨W4, hW4⟩ : ∃ V, w11.alloc (.cells #[.int .i64 z.err, .slice z.sa z.sn z.sc] 56) = V := ⟨_, rfl⟩
   have f4 : Fr0 none' w11 W4 := by rw [← hW4]; exact (Fr0.refl _ _).alloc _
   have b5 : W4.heap[rb2]? = some (.cells #[.int .i64 z.err, .slice z.sa z.sn z.sc] 56 (0, 0)) := by rw [← hW4, ← hrb]; exact World.alloc_heap_new _ _
   have HB5 := Lib.hid b5
   have F4 := Lib.hid (hf.trans f4)
   clear b4 b5 f4 hf
   go_wp2_with fail
   clear hW4 hrb t0 t1
   have HFr := Lib.hid (HFr.out.trans (F4.out.mono (fun _ _ h => h.elim)))
   have HQ9 := Lib.hid (HQ9.out.later F4.out)
   have HNI := Lib.hid (HNI.out.later F4.out)
   have hZE4 : TdEv W4 [z] := fun z' hz' => by
    rw [List.mem_singleton.1 hz']
    exact ⟨HZR.out.1.later F4.out, HZR.out.2⟩
   have HS := alike_any (some ⟨rb2, 0, none⟩) ua 1 1 1 uc [z] zs W4 rfl HZL.out (by omega) (by omega) (TdsIn.single HB5.out) (HU.out.later F4.out) hZE4 (HZE.out.later F4.out)
   rw [decide_eq_true (show [z].map Td.tl = zs.map Td.tl from by rw [HZT.out, ← HZZ.out]; rfl)] at HS
   refine HS.mono ?_
   clear HS hZE4
   rintro e w12 ⟨rfl, hf⟩
   have HFr := Lib.hid (HFr.out.trans (hf.mono (fun _ _ h => h.elim)))
   have HQ9 := Lib.hid (HQ9.out.later hf)
   have HNI := Lib.hid (HNI.out.later hf)
   clear hf
   go_wp2_with fail
   refine HQ9.out.all.mono ?_
   rintro e w13 ⟨v, rfl, hv, hf⟩
   obtain ⟨va, vc, rfl, _, hvi⟩ := EsIn.of_own hv
   rw [Hnn.out]
   have HFr := Lib.hid (HFr.out.trans (hf.mono (fun _ _ h => h.elim)))
   have HQ9 := Lib.hid (HQ9.out.later hf)
   have HNI := Lib.hid (HNI.out.later hf)
   have HV := Lib.hid hvi
   have hnn := Hgk.out.act x
   have hnnb : nn ≤ 10000 := by
    have h1 : GoodE n (doC n Ek x).1 := hnn
    rw [← Hst.out] at h1
    have := h1.le
    have := Hnn.out
    omega
   clear hv hvi hf hnn
   go_wp2_with fail
   have HS := Same_any va na nn nn vc nc En En w13 Hnn.out Hnn.out (by omega) (by omega) HV.out HNI.out
   rw [decide_eq_true rfl] at HS
   refine HS.mono ?_
   clear HS
   rintro e w14 ⟨rfl, hf⟩
   have HFr := Lib.hid (HFr.out.trans (hf.mono (fun _ _ h => h.elim)))
   have HQ9 := Lib.hid (show QIs w14 qb n (k + 1) (stC n [] (A.take (k + 1))) fn by rw [HEn.out]; exact HQ9.out.later hf)
   have HEV := Lib.hid (show (stC n [] (A.take (k + 1))).length = nn ∧ nn ≤ nc ∧ EsIn w14 na (stC n [] (A.take (k + 1))) ∧ ∀ g o s, na = some ⟨g, o, s⟩ → stC n [] (A.take (k + 1)) ≠ [] → ¬ fn g by rw [HEn.out]; exact ⟨Hnn.out, Hnc.out, HNI.out.later hf, fun g o s e _ => HNL.out g o s e⟩)
   clear hf
   go_wp2
   go_roundw
   case rel => exact ⟨k + 1, fn, na, nc, nn, by omega, by go_num, rfl, HQ9, HFN, HEV, HFr⟩
   case measure => simp [Go.RowKit.intOf]; omega
  ·have hkm : k = M := by omega
   subst hkm
   rw [List.take_of_length_le (by rw [Hl.out]; exact Nat.le_refl _)] at hev
   have hoi := EsIn.of_own' (ownsRow_fr0 HO.out hfr.out (fun g hg hs => by have := (HO.out.lt g hg).1; omega))
   have hee : ek = en := by have := hev.out.1; have := Hen.out; omega
   subst hee
   have HS := Lib.hid (Same_any ea oa ek ek ec oc (stC n [] A) (stC n [] A) wr Hen.out Hen.out (by omega) (by omega) hev.out.2.2.1 hoi)
   rw [decide_eq_true rfl] at HS
   have HFin := Lib.hid (show Fr0 none' w wr from F.out.trans' hfr.out (fun k hk hs => by have := S02.out; omega))
   clear hoi
   go_wp2_with fail
   refine HS.out.mono ?_
   rintro e w14 ⟨rfl, hf⟩
   have HFin := Lib.hid (HFin.out.trans hf)
   clear hf
   go_wp2
   go_ret
   exact ⟨rfl, HFin.out⟩
end Go.Proofs.YtieeloealklkgaaGreat

/-
  A slice of small acts among the arguments.
-/
namespace Go.Proofs.YtieeloealklkgaaGreat
open Go.ChangeShapes Go.WideShapes Go.ChangeAt Go.RowKit Go.Deep Go.Joins

set_option maxRecDepth 100000 in
theorem sm5_field {H : Type} {enc : TypeId × Value → H} {w : World} {n : Nat} {v0 v1 v2 v3 v4 : Value} {y : DataW H × List MemPlace} (h : DataW.trod enc Tryz.prog w 0 (fun _ => true) true n 97 [v0, v1, v2, v3, v4] = some y) : ∃ x : Sm5, x.ok ∧ v0 = .int .u8 x.t ∧ v1 = .int .u8 x.s ∧ v2 = .int .u8 x.q ∧ v3 = .int .u8 x.o ∧ v4 = .int .u8 x.l := by
 obtain ⟨ys, k, _, _, _, hyl, hfl⟩ := DataW.trod_struct Tryz.underlying97 h
 have hone : Tryz.prog.cellsOf 5 = 1 := by kernel_rfl
 have f0 : DataW.trod enc Tryz.prog w 0 (fun _ => true) true k 5 (([v0, v1, v2, v3, v4].drop 0).take (Tryz.prog.cellsOf 5)) = ys[0]? := hfl 0 _ rfl
 have f1 : DataW.trod enc Tryz.prog w 0 (fun _ => true) true k 5 (([v0, v1, v2, v3, v4].drop 1).take (Tryz.prog.cellsOf 5)) = ys[1]? := hfl 1 _ rfl
 have f2 : DataW.trod enc Tryz.prog w 0 (fun _ => true) true k 5 (([v0, v1, v2, v3, v4].drop 2).take (Tryz.prog.cellsOf 5)) = ys[2]? := hfl 2 _ rfl
 have f3 : DataW.trod enc Tryz.prog w 0 (fun _ => true) true k 5 (([v0, v1, v2, v3, v4].drop 3).take (Tryz.prog.cellsOf 5)) = ys[3]? := hfl 3 _ rfl
 have f4 : DataW.trod enc Tryz.prog w 0 (fun _ => true) true k 5 (([v0, v1, v2, v3, v4].drop 4).take (Tryz.prog.cellsOf 5)) = ys[4]? := hfl 4 _ rfl
 rw [hone] at f0 f1 f2 f3 f4
 have yl : ys.length = 5 := hyl
 have t0 : DataW.trod enc Tryz.prog w 0 (fun _ => true) true k 5 [v0] = some (ys[0]'(by omega)) := f0.trans (List.getElem?_eq_getElem _)
 have t1 : DataW.trod enc Tryz.prog w 0 (fun _ => true) true k 5 [v1] = some (ys[1]'(by omega)) := f1.trans (List.getElem?_eq_getElem _)
 have t2 : DataW.trod enc Tryz.prog w 0 (fun _ => true) true k 5 [v2] = some (ys[2]'(by omega)) := f2.trans (List.getElem?_eq_getElem _)
 have t3 : DataW.trod enc Tryz.prog w 0 (fun _ => true) true k 5 [v3] = some (ys[3]'(by omega)) := f3.trans (List.getElem?_eq_getElem _)
 have t4 : DataW.trod enc Tryz.prog w 0 (fun _ => true) true k 5 [v4] = some (ys[4]'(by omega)) := f4.trans (List.getElem?_eq_getElem _)
 obtain ⟨a0, rfl, l0, m0⟩ := smallC t0
 obtain ⟨a1, rfl, l1, m1⟩ := smallC t1
 obtain ⟨a2, rfl, l2, m2⟩ := smallC t2
 obtain ⟨a3, rfl, l3, m3⟩ := smallC t3
 obtain ⟨a4, rfl, l4, m4⟩ := smallC t4
 exact ⟨⟨a0, a1, a2, a3, a4⟩, ⟨⟨l0, m0⟩, ⟨l1, m1⟩, ⟨l2, m2⟩, ⟨l3, m3⟩, l4, m4⟩, rfl, rfl, rfl, rfl, rfl⟩
set_option maxRecDepth 100000 in
/-- A slice of small acts, opened. -/
theorem smcs_arg {base : Nat} {H : Type} {enc : TypeId × Value → H} {W : World} {v : Value} {d : DataW H} {ps : List MemPlace}
  (hval : Value.okWide Tryz.prog W .any base 48 v) (h : DataW.Trod enc Tryz.prog W 0 (fun _ => true) true 48 v d ps) : ∃ a n cap xs, v = .slice a n cap ∧ xs.length = n ∧ n ≤ cap ∧ SmcsIn W a xs := by
 obtain ⟨A, n, cap, rfl⟩ := okWide_slice Tryz.underlying48 hval
 obtain ⟨fuel, hf⟩ := h
 rcases open_slice Tryz.underlying48 hf with ⟨hcs, _⟩ | ⟨a, len, cap', m, _, D, Pl, hcs, _, hl, hm, hz, _, hi⟩
 ·simp [Value.cells] at hcs
  obtain ⟨rfl, rfl, rfl⟩ := hcs
  exact ⟨none, 0, 0, [], rfl, rfl, Nat.le_refl _, fun j x hj => by simp at hj⟩
 ·simp [Value.cells] at hcs
  obtain ⟨rfl, rfl, rfl⟩ := hcs
  have hmn : n ≤ m := by rw [hz]; split <;> omega
  have key : ∀ i, i < n → ∃ x : Smc, x.ok ∧ ∃ g o, a = ⟨g, o, none⟩ ∧ W.cell? ⟨g, o + i * 6, none⟩ = some (.int .u8 x.kind) ∧ W.cell? ⟨g, o + i * 6 + 1, none⟩ = some (.int .u8 x.x.t) ∧ W.cell? ⟨g, o + i * 6 + 2, none⟩ = some (.int .u8 x.x.s) ∧ W.cell? ⟨g, o + i * 6 + 3, none⟩ = some (.int .u8 x.x.q) ∧ W.cell? ⟨g, o + i * 6 + 4, none⟩ = some (.int .u8 x.x.o) ∧ W.cell? ⟨g, o + i * 6 + 5, none⟩ = some (.int .u8 x.x.l) := fun i hin => by
   obtain ⟨cs, hc, ht⟩ := hi i (by omega)
   rw [show Tryz.prog.cellsOf 99 = 6 by kernel_rfl] at hc
   obtain ⟨ys, k, _, _, _, hyl, hfl⟩ := DataW.trod_struct Tryz.underlying99 ht
   obtain ⟨_, hcl, hat⟩ := World.cells?_some hc
   have hone : Tryz.prog.cellsOf 5 = 1 := by kernel_rfl
   have hfive : Tryz.prog.cellsOf 97 = 5 := by kernel_rfl
   match cs, hcl with
   | [v0, v1, v2, v3, v4, v5], _ =>
   have c0 := hat 0 (by omega)
   have c1 := hat 1 (by omega)
   have c2 := hat 2 (by omega)
   have c3 := hat 3 (by omega)
   have c4 := hat 4 (by omega)
   have c5 := hat 5 (by omega)
   have f0 : DataW.trod enc Tryz.prog W 0 (fun _ => true) true k 5 (([v0, v1, v2, v3, v4, v5].drop 0).take (Tryz.prog.cellsOf 5)) = ys[0]? := hfl 0 _ rfl
   have f1 : DataW.trod enc Tryz.prog W 0 (fun _ => true) true k 97 (([v0, v1, v2, v3, v4, v5].drop 1).take (Tryz.prog.cellsOf 97)) = ys[1]? := hfl 1 _ rfl
   rw [hone] at f0
   rw [hfive] at f1
   have yl : ys.length = 2 := hyl
   have t0 : DataW.trod enc Tryz.prog W 0 (fun _ => true) true k 5 [v0] = some (ys[0]'(by omega)) := f0.trans (List.getElem?_eq_getElem _)
   have t1 : DataW.trod enc Tryz.prog W 0 (fun _ => true) true k 97 [v1, v2, v3, v4, v5] = some (ys[1]'(by omega)) := f1.trans (List.getElem?_eq_getElem _)
   obtain ⟨a0, rfl, l0, m0⟩ := smallC t0
   obtain ⟨x, hx, rfl, rfl, rfl, rfl, rfl⟩ := sm5_field t1
   obtain ⟨cs', hc', _⟩ := hi 0 (by omega)
   rw [show Tryz.prog.cellsOf 99 = 6 by kernel_rfl] at hc'
   obtain ⟨_, hcl', hat'⟩ := World.cells?_some hc'
   have z0 := hat' 0 (by omega)
   rw [List.getElem?_eq_getElem (by omega)] at z0
   obtain ⟨b, off, spot⟩ := a
   have hspot : spot = none := by simpa [Addr.add] using World.cell?_spot z0
   subst hspot
   rw [Addr.add_mid, Addr.add_mid] at c0 c1 c2 c3 c4 c5
   exact ⟨⟨a0, x⟩, ⟨⟨l0, m0⟩, hx⟩, b, off, rfl, c0, c1, c2, c3, c4, c5⟩
  obtain ⟨xs, hxl, hx⟩ := listC n key
  refine ⟨some a, n, cap, xs, rfl, hxl, by simpa using hl, fun j x hj => ?_⟩
  obtain ⟨hok, g, o, rfl, q0, q1, q2, q3, q4, q5⟩ := hx j x hj
  exact ⟨hok, g, o, rfl, q0, q1, q2, q3, q4, q5⟩
end Go.Proofs.YtieeloealklkgaaGreat

namespace Go.Proofs.YtieeloealklkgaaGreat.calendarQueue
open Go.ChangeShapes Go.WideShapes Go.ChangeAt Go.RowKit Go.Proofs.YtieeloealklkgaaGreat

set_option maxRecDepth 100000 in
theorem lifted (os : Os) (started : os.Started) (H : Type) (enc : TypeId × Value → H) :
  ReturnsInHanded {} Tryz.checked os 5 .any (Rows.calendarQueueSpec.pre6 enc Tryz.prog Tryz.f5 Rows.calendarQueueRow.domain false) (Rows.calendarQueueSpec.post enc Tryz.prog Tryz.f5 false true false false) := by
 refine returnsInHanded_of_change (C := Tryz.checked) knobC started (by kernel_rfl) Tryz.func5
  (ChangeSpec.witness6 (enc := enc) (C := Tryz.checked) false ⟨#[], #[.slice none 0 0, .int .u8 0], []⟩ 8 (by kernel_rfl) (by kernel_rfl) (by kernel_rfl) (by kernel_rfl)) ?_
 intro W base args ds gs before hval0 hW hcnd _
 have hval : ∀ (j : Nat) t v, Tryz.f5.params[j]? = some t → args[j]? = some v → Value.okWide Tryz.prog W .any base t v := hval0
 have hW' := hW
 obtain ⟨p, q, hA0, hV, rfl, hfz, hnd⟩ := hW
 have hA : DataW.TrodAll enc Tryz.prog W 0 (fun _ => true) true Tryz.f5.params.toList args.toList ds p := hA0
 rw [Tryz.params5] at hA hval
 obtain ⟨v0, vs0, d0, ds0, p0, q0, hargs, rfl, rfl, h0, r0⟩ := trodAll_cons hA
 obtain ⟨v1, vs1, d1, ds1, p1, q1, rfl, rfl, rfl, h1, r1⟩ := trodAll_cons r0
 obtain ⟨rfl, rfl, rfl⟩ := trodAll_nil r1
 obtain rfl : args = #[v0, v1] := by cases args; simp_all
 obtain ⟨rfl, rfl⟩ := trodVars_none hV
 clear hA0 hval0
 simp only [List.append_nil] at hW'
 have l0 : ∀ x ∈ p0, x.block < W.heap.size := fun x hx => hW'.lt x (by simp [hx])
 have t0 := fun W' (hb : Below W.heap.size W W') => Below.trod laidC (by kernel_rfl) (of_decide_eq_true (by kernel_rfl)) h0 hb l0
 have l1 : ∀ x ∈ p1, x.block < W.heap.size := fun x hx => hW'.lt x (by simp [hx])
 have t1 := fun W' (hb : Below W.heap.size W W') => Below.trod laidC (by kernel_rfl) (of_decide_eq_true (by kernel_rfl)) h1 hb l1
 obtain ⟨a0, n0, c0, xs0, rfl, hl0, hc0, hx0⟩ := smcs_arg (hval 0 48 v0 rfl rfl) h0
 obtain ⟨a1, rfl, _, _, w1⟩ := open_int Tryz.underlying5 (hval 1 5 v1 rfl rfl) h1
 have b1 : 0 ≤ a1 ∧ a1 < 256 := by
  have := bounds_u8 w1
  omega
 refine (CalendarQueue_any xs0 hx0 hl0 hc0 b1).mono fun e W' ⟨he, hf⟩ => ?_
 have hg : Below W.heap.size W W' := hf.below (Nat.le_refl _) (fun _ _ h => h)
 subst he
 exact ⟨_, rfl, post_belowC (pa := p0 ++ (p1 ++ ([]))) (pv := []) hW' (fun _ _ _ => (trodAll_cons_mk (shut_bool Tryz.underlying4 _) trodAll_mk0)) (trodAll_cons_mk (t0 _ hg) (trodAll_cons_mk (t1 _ hg) trodAll_mk0)) (fun _ _ => rfl) hg⟩

theorem over : Rows.calendarQueueRow.holds Tryz.pinned (OpenSpec.ofChange Rows.calendarQueueSpec) :=
 OpenClaim.holds_of_wide 5 Tryz.f5 rfl rfl rfl rfl rfl rfl rfl ⟨rfl, rfl, rfl, rfl, rfl⟩ rfl rfl rfl rfl rfl (by kernel_rfl) Tryz.func5 (by kernel_rfl)
  (of_decide_eq_true (by kernel_rfl)) (by unfold Func.isWrapper; first | (rw [if_pos (by decide +kernel)]; kernel_rfl) | (rw [if_neg (by decide +kernel)]; exact ⟨rfl, rfl⟩))
  (fun os started H enc _ => lifted os started H enc)

theorem proved : Rows.CalendarQueueSaid := over
#print axioms proved
end Go.Proofs.YtieeloealklkgaaGreat.calendarQueue
