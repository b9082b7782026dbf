/-
  Acts that turn a heap: Put.
-/
import Derived.Test.YtbpmdhngobdilaaHp9
import Derived.Test.YtbpmdhngobdilaaTakeZ
import Derived.Test.YtbpmdhngobdilaaAppK
namespace Go.Proofs.Ytbpmdhngobdilaa
open Go.RowKit
attribute [local go_sem ↓] Go.wp_at_zero Go.wp_at_succ

theorem info_entry : (Try.prog.info? 70).map (fun i => (i.zero, i.size, i.bytes)) = some (some (.agg #[.int .i64 0, .int .i64 0, .int .i64 0, .int .i64 0]), 4, 32) := by kernel_rfl

theorem wp_append_k {P : Program} {w : World} {o : Oper} {a : Act} {K : Act → World → Prop} {Q : Exit → Act → World → Prop} (s x : Operand) (t tx : TypeId)
    (ho : o.op = .call { callee := .builtin .append, args := #[s, x], argTypes := #[t, tx] })
    (base : Nat) (e : TypeId) (i : TypeInfo) (z : Value) (size bytes : Nat) (ht : P.underlying t = some (.slice e)) (hi : P.info? e = some i) (hz : i.zero = some z)
    (hsize : i.size = size) (hby : i.bytes = bytes) (hzs : z.cells.size = size) (hsz : 0 < size)
    (v : Value) (n : Nat) (xs : List Value) (hs : a.eval s = v) (hown : w.ownsRow base e size v n xs)
    (xv : Value) (m : Nat) (news : List Value) (hx : a.eval x = xv) (hsrc : Src P size tx xv m news w)
    (h63 : n + m ≤ maxLen) (hbytes : (n + m) * bytes ≤ 140737488355328) (hbase : base ≤ w.heap.size)
    (h : ∀ v' w', w'.ownsRow base e size v' (n + m) (xs ++ news) → w.grownBy w' v.ownBlock → w.drawn ≤ w'.drawn → (v'.ownBlock = v.ownBlock ∨ v'.ownBlock = some w.heap.size) → K (a.put o.dst v') w') : o.wp P a w K Q := by
  obtain ⟨v', w', hr, h2, h3, h4, h5⟩ := run_append_own_k (P := P) w base t tx o.type e i z size bytes ht hi hz hsize hby hzs hsz v n xs hown xv m news hsrc h63 hbytes hbase
  unfold Oper.wp execOp
  simp only [ho, resolve, invoke, builtin, Sem.run_bind, Sem.run_pure, Result.andThen_ok, List.map_toArray, List.map_cons, List.map_nil, hs, hx, hr]
  exact h v' w' h2 h3 h4 h5
theorem Src.newRowD {P : Program} {size : Nat} {tx e' ty : TypeId} (w : World) (hk : P.underlying tx = some (.slice e')) (n c : Nat) (news : List Value) (hl : news.length = n * size) (h1 : ∀ u ∈ news, u.oneCell' = true) :
    Src P size tx (.slice (some ⟨w.heap.size, 0, none⟩) n c) n news (w.alloc (.cells news.toArray ty)).drew :=
  Src.ofSlice _ hk _ n c news hl (fun j u hj => by
    have h : (w.alloc (.cells news.toArray ty)).drew.heap[w.heap.size]? = _ := World.alloc_heap_new w (.cells news.toArray ty)
    unfold Addr.add
    by_cases hj0 : j = 0
    · subst hj0; simp only [World.cell?, if_true, h]; simpa using hj
    · rw [if_neg hj0]; simp only [World.cell?, h]; simpa using hj) h1

set_option maxRecDepth 100000 in
set_option maxHeartbeats 4000000 in
theorem Put_in {w : World} {hb ba n ca : Nat} {v : Value} {t : List Ent} {A : List Nat} (hIn : HeapIn w hb ba v n ca t A) (p : Nat) (k : Key3)
    (hF : ∀ W, Fr none' w W → Calls Try.prog 29 #[.pointer (some ⟨hb, 0, none⟩), .int .i64 p] W fun e w' => e = .returned (.tuple #[.int .i64 0, .int .i64 6]) ∧ Fr none' W w') (hm : t.length < 5000) (hp : ∀ e ∈ t, e.place < n) (hpn : p < n) :
    Calls Try.prog 13 #[.pointer (some ⟨hb, 0, none⟩), .int .i64 p, keyV k] w fun e w' => e = .returned (.int .i64 0) ∧ ∃ v', HeapIn w' hb ba v' n ca (putT ordE ⟨k, p⟩ t) (putA ordE Ent.place ⟨k, p⟩ t A) ∧ HStep hb ba v v' w w' := by
  have hl := hIn.lt
  obtain ⟨a, cap, hv⟩ := hIn.nil_or
  obtain ⟨m, hm'⟩ : ∃ m, t.length = m := ⟨_, rfl⟩
  have hrow := hIn.tr
  obtain ⟨i0, hi, hz0, hz1, hz2⟩ := info_parts info_entry
  have h1 : w.cell? ⟨hb, 1, none⟩ = some v := by rw [cells_at hIn.hd]; rfl
  have hbl : hb < w.heap.size := hl hb (.inl rfl)
  obtain ⟨N, hN⟩ : ∃ N, w.heap.size = N := ⟨_, rfl⟩
  obtain ⟨W0, hW0⟩ : ∃ W0, w.alloc (.cells #[.int .i64 k.time, .int .i64 k.source, .int .i64 k.seq] 26) = W0 := ⟨_, rfl⟩
  have f0 : Fr none' w W0 := by rw [← hW0]; exact (Fr.refl _ _).alloc _
  have kz : KeyAt W0 N k := by rw [← hW0, ← hN]; exact World.alloc_heap_new w _
  have HI := Lib.hid hIn
  have HF := Lib.hid hF
  have HP := Lib.hid hp
  have HN := Lib.hid hN
  have HW0 := Lib.hid hW0
  have HV := Lib.hid hv
  have F0 := Lib.hid f0
  have Kz := Lib.hid kz
  have Hm := Lib.hid hm'
  rw [hm'] at hm
  rw [hN] at hbl
  clear hIn hF hp hN hW0 hv f0 kz hm' hl hrow h1
  simp only [keyV]
  go_enter Try.func13, Try.ntmps13
  go_wp2_with fail
  rw [HN.out, HW0.out]
  refine (HF.out W0 F0.out).mono ?_
  rintro e w1 ⟨rfl, hf⟩
  have f1 : Fr none' w w1 := F0.out.trans hf
  have hI1 := HI.out.fr f1 (fun _ _ h => h)
  have h1 : w1.cell? ⟨hb, 1, none⟩ = some v := by rw [cells_at hI1.hd]; rfl
  have hfz1 : w1.frozen? ⟨hb, 1, none⟩ = false := frozen_at hI1.hd 1
  have kz1 := Kz.out.fr hf id
  have w0 := cells_of kz1 0
  have w1' := cells_of kz1 1
  have w2 := cells_of kz1 2
  simp at w0 w1' w2
  have F1 := Lib.hid f1
  have HI1 := Lib.hid hI1
  clear hf f1 hI1 kz1
  go_wp2_with fail
  refine wp_region_Z (z := 12) (S := fun W' => W'.cell? ⟨hb, 1, none⟩ = some v ∧ W'.cell? ⟨N, 0, none⟩ = some (.int .i64 k.time) ∧ W'.cell? ⟨N, 1, none⟩ = some (.int .i64 k.source) ∧ W'.cell? ⟨N, 2, none⟩ = some (.int .i64 k.seq)) (by kernel_rfl) ?_
  have hSS : w1.drew.cell? ⟨hb, 1, none⟩ = some v ∧ w1.drew.cell? ⟨N, 0, none⟩ = some (.int .i64 k.time) ∧ w1.drew.cell? ⟨N, 1, none⟩ = some (.int .i64 k.source) ∧ w1.drew.cell? ⟨N, 2, none⟩ = some (.int .i64 k.seq) := ⟨h1, w0, w1', w2⟩
  refine takeZ_on (i := 0) (v := .pointer (some ⟨hb, 0, none⟩)) rfl (by kernel_rfl) (by kernel_rfl) (by kernel_rfl) (by kernel_rfl) (fun _ _ _ h => h) (by kernel_rfl) (fun W' hSW => ?_) (by assumption) ?_
  · (try dsimp only at hSW)
    first | (go_simp; done) | exact rfl | (go_simp; rfl) | (go_simp; omega)
  try simp only [Act.put, List.setIfInBounds_toArray, List.set_cons_zero, List.set_cons_succ]
  refine takeZ_on (i := 1) (v := .pointer (some ⟨hb, 0, none⟩)) rfl (by kernel_rfl) (by kernel_rfl) (by kernel_rfl) (by kernel_rfl) (fun _ _ _ h => h) (by kernel_rfl) (fun W' hSW => ?_) (by assumption) ?_
  · (try dsimp only at hSW)
    first | (go_simp; done) | exact rfl | (go_simp; rfl) | (go_simp; omega)
  try simp only [Act.put, List.setIfInBounds_toArray, List.set_cons_zero, List.set_cons_succ]
  refine takeZ_on (i := 2) (v := .pointer (some ⟨hb, 0, none⟩)) rfl (by kernel_rfl) (by kernel_rfl) (by kernel_rfl) (by kernel_rfl) (fun _ _ _ h => h) (by kernel_rfl) (fun W' hSW => ?_) (by assumption) ?_
  · (try dsimp only at hSW)
    first | (go_simp; done) | exact rfl | (go_simp; rfl) | (go_simp; omega)
  try simp only [Act.put, List.setIfInBounds_toArray, List.set_cons_zero, List.set_cons_succ]
  refine takeZ_on (i := 3) (v := .pointer (some ⟨hb, 1, none⟩)) rfl (by kernel_rfl) (by kernel_rfl) (by kernel_rfl) (by kernel_rfl) (fun _ _ _ h => h) (by kernel_rfl) (fun W' hSW => ?_) (by assumption) ?_
  · (try dsimp only at hSW)
    first | (go_simp; done) | exact rfl | (go_simp; rfl) | (go_simp; omega)
  try simp only [Act.put, List.setIfInBounds_toArray, List.set_cons_zero, List.set_cons_succ]
  refine takeZ_on (i := 4) (v := v) rfl (by kernel_rfl) (by kernel_rfl) (by kernel_rfl) (by kernel_rfl) (fun _ _ _ h => h) (by kernel_rfl) (fun W' hSW => ?_) (by assumption) ?_
  · (try dsimp only at hSW)
    first | (go_simp; done) | exact rfl | (go_simp; rfl) | (go_simp; omega)
  try simp only [Act.put, List.setIfInBounds_toArray, List.set_cons_zero, List.set_cons_succ]
  refine takeZ_on (i := 5) (v := .agg #[.int .i64 k.time, .int .i64 k.source, .int .i64 k.seq]) rfl (by kernel_rfl) (by kernel_rfl) (by kernel_rfl) (by kernel_rfl) (fun _ _ _ h => h) (by kernel_rfl) (fun W' hSW => ?_) (by assumption) ?_
  · (try dsimp only at hSW)
    first | (go_simp; done) | exact rfl | (go_simp; rfl) | (go_simp; omega)
  try simp only [Act.put, List.setIfInBounds_toArray, List.set_cons_zero, List.set_cons_succ]
  refine takeZ_on (i := 6) (v := .int .i64 p) rfl (by kernel_rfl) (by kernel_rfl) (by kernel_rfl) (by kernel_rfl) (fun _ _ _ h => h) (by kernel_rfl) (fun W' hSW => ?_) (by assumption) ?_
  · (try dsimp only at hSW)
    first | (go_simp; done) | exact rfl | (go_simp; rfl) | (go_simp; omega)
  try simp only [Act.put, List.setIfInBounds_toArray, List.set_cons_zero, List.set_cons_succ]
  refine takeZ_on (i := 7) (v := .agg #[.int .i64 k.time, .int .i64 k.source, .int .i64 k.seq, .int .i64 p]) rfl (by kernel_rfl) (by kernel_rfl) (by kernel_rfl) (by kernel_rfl) (fun _ _ _ h => h) (by kernel_rfl) (fun W' hSW => ?_) (by assumption) ?_
  · (try dsimp only at hSW)
    first | (go_simp; done) | exact rfl | (go_simp; rfl) | (go_simp; omega)
  try simp only [Act.put, List.setIfInBounds_toArray, List.set_cons_zero, List.set_cons_succ]
  refine takeZ_call (i := 8) rfl (by kernel_rfl) (by kernel_rfl) (fun K hK => ?_)
  go_simp
  have hbl1 : hb < w1.heap.size := Nat.lt_of_lt_of_le (by rw [HN.out]; exact hbl) F1.out.size
  have hN1 : N < w1.heap.size := World.block_lt_of_cell? w1 _ w0
  obtain ⟨W2, hW2⟩ : ∃ W2, (w1.alloc (.cells #[.int .i64 k.time, .int .i64 k.source, .int .i64 k.seq, .int .i64 p] 70)).drew = W2 := ⟨_, rfl⟩
  have f2 : Fr none' w1 W2 := by rw [← hW2]; exact ((Fr.refl _ _).alloc _).drew
  have hsrc := Src.newRowD (P := Try.prog) (size := 4) (tx := 62) (ty := 70) w1 Try.underlying62 1 1 [.int .i64 k.time, .int .i64 k.source, .int .i64 k.seq, .int .i64 p] rfl (by simp [Value.oneCell'])
  rw [hW2] at hsrc ⊢
  have hS2 : W2.cell? ⟨hb, 1, none⟩ = some v ∧ W2.cell? ⟨N, 0, none⟩ = some (.int .i64 k.time) ∧ W2.cell? ⟨N, 1, none⟩ = some (.int .i64 k.source) ∧ W2.cell? ⟨N, 2, none⟩ = some (.int .i64 k.seq) := ⟨f2.later h1, f2.later w0, f2.later w1', f2.later w2⟩
  refine hK.out _ _ (.inr hS2) ?_
  clear hK K
  try simp only [Act.put, List.setIfInBounds_toArray, List.set_cons_zero, List.set_cons_succ]
  have hI2 := HI1.out.fr f2 (fun _ _ h => h)
  refine takeZ_call (i := 9) rfl (by kernel_rfl) (by kernel_rfl) (fun K hK => ?_)
  refine wp_append_k _ _ 62 62 rfl 0 70 i0 (.agg #[.int .i64 0, .int .i64 0, .int .i64 0, .int .i64 0]) 4 32 Try.underlying62 hi hz0 hz1 hz2 rfl (by decide) v t.length _ rfl hI2.tr (.slice (some ⟨w1.heap.size, 0, none⟩) 1 1) 1 _ rfl hsrc (by rw [Hm.out]; unfold maxLen; omega) (by rw [Hm.out]; omega) (Nat.zero_le _) ?_
  intro v' W3 hrow3 hgr hdr hob
  obtain ⟨g, cap', rfl⟩ := ownsRow_k_succ hrow3
  have f3 : Fr (fun k => v.ownBlock = some k) W2 W3 := (Fr.refl _ W2).grown hgr hdr (fun k hk _ => hk)
  have hgne : ∀ j, j < W2.heap.size → (v.ownBlock = some j → False) → j ≠ g := fun j hj h1 e => by
    subst e
    rcases hob with h | h
    · exact h1 h.symm
    · injection h with h
      simp at h; omega
  have hn1 : ∀ j, (j = hb ∨ j = ba) → v.ownBlock = some j → False := fun j hj h => by
    have := hI2.n1 j h
    rcases hj with rfl | rfl
    · exact this.1 rfl
    · exact this.2 rfl
  have hghb : hb ≠ g := hgne hb (hI2.lt hb (.inl rfl)) (hn1 hb (.inl rfl))
  have hgba : ba ≠ g := hgne ba (hI2.lt ba (.inr (.inl rfl))) (hn1 ba (.inr rfl))
  have hNv : v.ownBlock = some N → False := fun h => by
    have := HI.out.lt N (.inr (.inr h)); rw [HN.out] at this; omega
  have nmem : ∀ j o u, (v.ownBlock = some j → False) → W2.cell? ⟨j, o, none⟩ = some u → W3.cell? ⟨j, o, none⟩ = some u := fun j o u hj hc => by
    rw [f3.cell (p := ⟨j, o, none⟩) (World.block_lt_of_cell? _ _ hc) (fun h => hj h)]; exact hc
  have hS3 : W3.cell? ⟨hb, 1, none⟩ = some v ∧ W3.cell? ⟨N, 0, none⟩ = some (.int .i64 k.time) ∧ W3.cell? ⟨N, 1, none⟩ = some (.int .i64 k.source) ∧ W3.cell? ⟨N, 2, none⟩ = some (.int .i64 k.seq) :=
    ⟨nmem _ _ _ (hn1 hb (.inl rfl)) hS2.1, nmem _ _ _ hNv hS2.2.1, nmem _ _ _ hNv hS2.2.2.1, nmem _ _ _ hNv hS2.2.2.2⟩
  have hd3 : W3.heap[hb]? = some (.cells #[.bool true, v, .slice (some ⟨ba, 0, none⟩) n ca] 64 (0, 0)) := (f3.block hb (hI2.lt hb (.inl rfl)) (hn1 hb (.inl rfl))).trans hI2.hd
  refine hK.out _ _ (.inr hS3) ?_
  clear hK K
  try simp only [Act.put, List.setIfInBounds_toArray, List.set_cons_zero, List.set_cons_succ]
  refine takeZ_call (i := 10) rfl (by kernel_rfl) (by kernel_rfl) (fun K hK => ?_)
  go_simp
  refine hK.out _ _ (.inr hS3) ?_
  clear hK K
  try simp only [Act.put, List.setIfInBounds_toArray, List.set_cons_zero, List.set_cons_succ]
  refine takeZ_call (i := 11) rfl (by kernel_rfl) (by kernel_rfl) (fun K hK => ?_)
  go_simp
  refine hK.out _ _ (.inr hS3) ?_
  clear hK K
  try simp only [Act.put, List.setIfInBounds_toArray, List.set_cons_zero, List.set_cons_succ]
  have hfz3 : W3.frozen? ⟨hb, 1, none⟩ = false := frozen_at hd3 1
  obtain ⟨W4, hW4⟩ : ∃ W4, W3.setCell ⟨hb, 1, none⟩ (.slice (some ⟨g, 0, none⟩) (t.length + 1) cap') = W4 := ⟨_, rfl⟩
  have f4 : Fr (fun k => k = hb) W3 W4 := by rw [← hW4]; exact (Fr.refl (fun k => k = hb) W3).setCell (fun _ => rfl) _
  have hfl : flatE t ++ [.int .i64 k.time, .int .i64 k.source, .int .i64 k.seq, .int .i64 p] = flatE (t ++ [⟨k, p⟩]) := by simp [flatE, entCells]
  rw [hfl] at hrow3
  have hI4 : HeapIn W4 hb ba (.slice (some ⟨g, 0, none⟩) (t.length + 1) cap') n ca (t ++ [⟨k, p⟩]) A := by
    obtain ⟨cv, hc1, hc2, hc3, hc4⟩ := hI2.tb
    refine ⟨?_, ?_, ⟨cv, (f4.block ba (Nat.lt_of_lt_of_le (hI2.lt ba (.inr (.inl rfl))) f3.size) hI2.n2.symm).trans ((f3.block ba (hI2.lt ba (.inr (.inl rfl))) (hn1 ba (.inr rfl))).trans hc1), hc2, hc3, hc4⟩, ?_, hI2.n2⟩
    · rw [← hW4]; simp [World.setCell, Array.getElem?_modify, hd3]
    · rw [List.length_append]
      refine ownsRow_k_fr hrow3 f4 (fun j hj e => ?_)
      injection hj with hj
      simp at hj; omega
    · intro j hj
      injection hj with hj
      simp at hj
      subst hj
      exact ⟨hghb.symm, hgba.symm⟩
  obtain ⟨_, cap2, hveq, hM4⟩ := hI4.mem (by simp)
  injection hveq with e1 e2 e3
  injection e1 with e1
  injection e1 with e1
  subst e1
  subst e3
  have hst : HStep hb ba v (.slice (some ⟨g, 0, none⟩) (t.length + 1) cap') w W4 := by
    refine HStep.before (F1.out.trans f2) ⟨(f3.mono (fun _ _ h => .inr (.inr h))).trans (f4.mono (fun _ _ h => .inl h)), fun j hj => ?_⟩
    rcases hob with h | h
    · left; rw [← h]; exact hj
    · right
      rw [hj] at h
      injection h with h
      exact Nat.le_of_eq h.symm
  have Hst := Lib.hid hst
  have HM4 := Lib.hid hM4
  have HW4 := Lib.hid hW4
  have hk1 : W4.cell? ⟨hb, 1, none⟩ = some (.slice (some ⟨g, 0, none⟩) (m + 1) cap') := by rw [cells_at hI4.hd, ← Hm.out]; rfl
  refine takeZ_call (i := 12) rfl (by kernel_rfl) (by kernel_rfl) (fun K hK => ?_)
  clear hI4 hM4 hst hfl hrow3 hob hgr hdr hI2 hgne hn1 hghb hgba hNv nmem hS2 f2 f3 f4 hsrc hd3 hW2 e2
  have hs1 := hS3.1
  clear hS3 hSS
  go_simp
  refine hK.out _ _ (.inl rfl) ?_
  clear hK K hs1 hfz3 hW4
  try simp only [Act.put, List.setIfInBounds_toArray, List.set_cons_zero, List.set_cons_succ]
  refine wpAnyZ_done (by kernel_rfl) ?_ _
  have q3 : IntKind.i64.wrap (((m + 1 : Nat) : Int) - 1) = (m : Int) := by rw [IntWalk.i64_in _ (by omega)]; omega
  go_wp2_with fail
  have hlen : (t ++ [⟨k, p⟩] : List Ent).length = m + 1 := by simp [Hm.out]
  have hat : at' (t ++ [⟨k, p⟩] : List Ent) m = ⟨k, p⟩ := by rw [← Hm.out]; exact at_append_last t ⟨k, p⟩
  have HR := rise_mem ordE order_does hb g ba cap' n ca m (t ++ [⟨k, p⟩]) A W4 HM4.out (by omega) (by omega) (fun j hj => by
    have h1 : at' (t ++ [⟨k, p⟩] : List Ent) j ∈ (t ++ [⟨k, p⟩] : List Ent) := by rw [at_get hj]; exact List.getElem_mem _
    rcases List.mem_append.1 h1 with h2 | h2
    · exact HP.out _ h2
    · rw [List.mem_singleton.1 h2]; exact hpn)
  rw [hat] at HR
  refine HR.mono ?_
  rintro e5 W5 ⟨rfl, m5, sf5⟩
  have hfin : HeapIn W5 hb ba (.slice (some ⟨g, 0, none⟩) (m + 1) cap') n ca (putT ordE ⟨k, p⟩ t) (putA ordE Ent.place ⟨k, p⟩ t A) := by
    have h1 := m5.heapIn
    rw [riseL_length, hlen] at h1
    rw [putT, putA, Hm.out]
    exact h1
  have hst5 : HStep hb ba v (.slice (some ⟨g, 0, none⟩) (m + 1) cap') w W5 := by
    have h1 : HStep hb ba (.slice (some ⟨g, 0, none⟩) (t.length + 1) cap') (.slice (some ⟨g, 0, none⟩) (m + 1) cap') W4 W5 := ⟨sf5.to.mono (fun k _ h => by
      rcases h with h | h
      · exact .inr (.inr (by rw [h]; rfl))
      · exact .inr (.inl h)), fun j hj => .inl hj⟩
    exact Hst.out.trans h1
  have Hfin := Lib.hid hfin
  have Hst5 := Lib.hid hst5
  clear HR m5 sf5 hfin hst5 hlen hat hk1
  go_wp2
  go_ret
  exact ⟨rfl, _, Hfin.out, Hst5.out⟩
end Go.Proofs.Ytbpmdhngobdilaa
