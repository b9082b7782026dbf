/-
  Change, New.
-/
import Derived.Test.YtbpmdhngobdilaaHpC
namespace Go.Proofs.Ytbpmdhngobdilaa
open Go.RowKit
attribute [local go_sem ↓] Go.wp_at_zero Go.wp_at_succ

def chgL (n : Nat) (L : List Ent) (p : Int) (k : Key3) : List Ent := if errP n L p = 0 then insL ⟨k, p.toNat⟩ (delL p.toNat L) else L
theorem set_perm {t : List Ent} {i : Nat} (hi : i < t.length) (e : Ent) : ∃ R, (t.set i e).Perm (e :: R) ∧ t.Perm (at' t i :: R) := by
  have e1 : t = t.take i ++ at' t i :: t.drop (i + 1) := by
    rw [at_get hi, ← List.drop_eq_getElem_cons hi, List.take_append_drop]
  have e2 : t.set i e = t.take i ++ e :: t.drop (i + 1) := by rw [List.set_eq_take_append_cons_drop, if_pos hi]
  refine ⟨t.take i ++ t.drop (i + 1), ?_, ?_⟩
  · rw [e2]; exact List.perm_middle
  · have h := List.perm_middle (a := at' t i) (l₁ := t.take i) (l₂ := t.drop (i + 1))
    rwa [← e1] at h
theorem chg_perm {t L : List Ent} (hPe : t.Perm L) (hOn : Once L) {i : Nat} (hi : i < t.length) (e : Ent) (he : e.place = (at' t i).place) : (t.set i e).Perm (insL e (delL e.place L)) := by
  obtain ⟨R, h1, h2⟩ := set_perm hi e
  have hm : at' t i ∈ L := hPe.mem_iff.1 (by rw [at_get hi]; exact List.getElem_mem _)
  have h3 := del_perm hOn hm
  have h4 : R.Perm (delL (at' t i).place L) := List.Perm.cons_inv (h2.symm.trans (hPe.trans h3))
  rw [he]
  refine (h1.trans (h4.cons e)).trans ?_
  exact ((insL_perm e _).trans (List.perm_append_singleton e _)).symm
/-- An entry's key is put anew. -/
theorem MemH.key {w : World} {hb bt ba cap n ca : Nat} {t : List Ent} {A : List Nat} (h : MemH w hb bt ba cap n ca t A) {i : Nat} (hi : i < t.length) (a b c : Int) (p : Nat) (hp : p = (at' t i).place) :
    MemH (((w.setCell ⟨bt, i * 4, none⟩ (.int .i64 a)).setCell ⟨bt, i * 4 + 1, none⟩ (.int .i64 b)).setCell ⟨bt, i * 4 + 2, none⟩ (.int .i64 c)) hb bt ba cap n ca (t.set i ⟨⟨a, b, c⟩, p⟩) A := by
  obtain ⟨cu, h2, h2', h3⟩ := h.tr
  obtain ⟨cv, h4, h5⟩ := h.tb
  have hl := h.len
  have hw : ((w.setCell ⟨bt, i * 4, none⟩ (.int .i64 a)).setCell ⟨bt, i * 4 + 1, none⟩ (.int .i64 b)).setCell ⟨bt, i * 4 + 2, none⟩ (.int .i64 c) = w.setCells bt (i * 4) [.int .i64 a, .int .i64 b, .int .i64 c] := rfl
  rw [hw]
  have hh := heap_setCells_at [.int .i64 a, .int .i64 b, .int .i64 c] (i * 4) w cu h2
  refine ⟨(setCells_other bt _ _ _ hb h.ne1).trans (by rw [List.length_set]; exact h.hd), ⟨_, hh, by rw [over_size]; exact h2', fun j hj d hd => ?_⟩, ⟨cv, (setCells_other bt _ _ _ ba h.ne3.symm).trans h4, h5⟩, h.ne1, h.ne2, h.ne3, by simpa using hl, h.small⟩
  simp only [List.length_set] at hj
  rw [over_get]
  by_cases hji : j = i
  · subst hji
    rw [at_set_same _ hj]
    by_cases hd3 : d = 3
    · subst hd3
      rw [if_neg (by simp; omega)]
      have := h3 j hj 3 (by omega)
      rw [this]
      simp [entCells, hp]
    · rw [if_pos ⟨by omega, by simp; omega, by omega⟩, show 4 * j + d - j * 4 = d by omega]
      have : d = 0 ∨ d = 1 ∨ d = 2 := by omega
      rcases this with rfl | rfl | rfl <;> rfl
  · rw [if_neg (by simp; omega), at_set_ne (t := t) _ (fun e => hji e.symm)]
    exact h3 j hj d hd

set_option maxRecDepth 100000 in
set_option maxHeartbeats 4000000 in
theorem Change_yes {w : World} {hb ba n ca : Nat} {v : Value} {t : List Ent} {A : List Nat} {L : List Ent} (hIn : HeapIn w hb ba v n ca t A) (hOk : HeapOK ordE Ent.place t A) (hPe : t.Perm L) (hSo : Sorted L) (hOn : Once L) (hPl : ∀ e ∈ L, e.place < n) (hNn : n ≤ 4096) (hLn : L.length ≤ n)
    (p : Nat) (k : Key3) {i : Nat} (hi : i < t.length) (hpi : (at' t i).place = p) (hF : ∀ W, Fr none' w W → Calls Try.prog 29 #[.pointer (some ⟨hb, 0, none⟩), .int .i64 p] W fun e w' => e = .returned (.tuple #[.int .i64 i, .int .i64 0]) ∧ Fr none' W w') :
    Calls Try.prog 15 #[.pointer (some ⟨hb, 0, none⟩), .int .i64 p, keyV k] w fun e w' => e = .returned (.tuple #[keyV (at' t i).key, .int .i64 0]) ∧ ∃ v', HeapIs w' hb ba v' n (insL ⟨k, p⟩ (delL p L)) ∧ HStep hb ba v v' w w' := by
  obtain ⟨bt, cap, rfl, hM⟩ := hIn.mem (by intro h; rw [h] at hi; simp at hi)
  have hl := hM.lt
  obtain ⟨m, hm⟩ : ∃ m, t.length = m := ⟨_, rfl⟩
  obtain ⟨x, hx⟩ : ∃ x, at' t i = x := ⟨_, rfl⟩
  have hmt : ∀ j, j < t.length → (at' t j).place < n := fun j hj => hPl _ (hPe.mem_iff.1 (by rw [at_get hj]; exact List.getElem_mem _))
  have hpn : p < n := by rw [← hpi]; exact hmt i hi
  have hch := change_ok ordE_ord hOk hi ⟨k, p⟩ (by simp [hpi])
  have hfx := fix_ok ordE_ord hch.1 hch.2
  have hper := chg_perm hPe hOn hi ⟨k, p⟩ (by simp [hpi])
  have hsk := sinkL_all ordE_ord (⟨k, p⟩ : Ent) (t.set i ⟨k, p⟩) i (by simpa using hi) hch.1
  obtain ⟨N, hN⟩ : ∃ N, w.heap.size = N := ⟨_, rfl⟩
  obtain ⟨W0, hW0⟩ : ∃ W0, (w.alloc (.cells #[.int .i64 k.time, .int .i64 k.source, .int .i64 k.seq] 26)).alloc (.cells #[.int .i64 0, .int .i64 0, .int .i64 0] 26) = W0 := ⟨_, rfl⟩
  have f0 : Fr none' w W0 := by rw [← hW0]; exact ((Fr.refl _ _).alloc _).alloc _
  have kk : KeyAt W0 N k := by rw [← hW0, ← hN]; exact KeyAt.fr (World.alloc_heap_new w _) ((Fr.refl none' _).alloc _) id
  have kz : KeyAt W0 (N + 1) zeroK := by
    rw [← hW0, ← hN]
    have := World.alloc_heap_new (w.alloc (.cells #[.int .i64 k.time, .int .i64 k.source, .int .i64 k.seq] 26)) (.cells #[.int .i64 0, .int .i64 0, .int .i64 0] 26)
    rwa [World.size_alloc] at this
  have hs0 : W0.heap.size = N + 2 := by rw [← hW0]; simp [hN]
  rw [hN] at hl
  obtain ⟨l1, l2, l3⟩ := hl
  rw [hx]
  rw [hm] at hi
  have hml : m ≤ 4096 := by rw [← hm, hPe.length_eq]; omega
  have q1 : (0 : Int) ≤ (i : Int) := by omega
  have q2 : (i : Int) < (m : Int) := by omega
  have Hm := Lib.hid hm
  have Hx := Lib.hid hx
  have HM := Lib.hid hM
  have HF := Lib.hid hF
  have HN := Lib.hid hN
  have HW0 := Lib.hid hW0
  have F0 := Lib.hid f0
  have Kk := Lib.hid kk
  have Kz := Lib.hid kz
  have Hs0 := Lib.hid hs0
  have Hfx := Lib.hid hfx
  have Hper := Lib.hid hper
  have Hsk := Lib.hid hsk
  have Hmt := Lib.hid hmt
  have Hpi := Lib.hid hpi
  have Hrest := Lib.hid (And.intro hSo (And.intro hOn (And.intro hPl hNn)))
  clear hIn hOk hPe hSo hOn hPl hNn hLn hm hx hM hF hN hW0 f0 kk kz hs0 hfx hch hper hsk hmt hpi
  simp only [keyV]
  go_enter Try.func15, Try.ntmps15
  go_wp2_with fail
  rw [HN.out, HW0.out]
  refine (HF.out W0 F0.out).mono ?_
  rintro e w1 ⟨rfl, hf⟩
  have m1 := HM.out.fr (F0.out.trans hf) id id id
  obtain ⟨s0, s1, s2, s3⟩ := m1.ent (i := i) (by rw [Hm.out]; exact hi)
  rw [Hx.out] at s0 s1 s2 s3
  have k1 : w1.cell? ⟨hb, 1, none⟩ = some (.slice (some ⟨bt, 0, none⟩) m cap) := by rw [cells_at m1.hd, Hm.out]; rfl
  have M1 := Lib.hid m1
  have F1 := Lib.hid (F0.out.trans hf)
  have Kk1 := Lib.hid (Kk.out.fr hf id)
  have Kz1 := Lib.hid (Kz.out.fr hf id)
  clear hf m1
  obtain ⟨O, hO⟩ : ∃ O, w1.heap.size = O := ⟨_, rfl⟩
  have hO2 : N + 1 < O := by have := KeyAt.lt Kz1.out; omega
  have HO := Lib.hid hO
  clear hO
  go_wp2_with fail
  obtain ⟨V, hV⟩ : ∃ V, w1.alloc (.cells #[.int .i64 x.key.time, .int .i64 x.key.source, .int .i64 x.key.seq] 26) = V := ⟨_, rfl⟩
  rw [hV, HO.out]
  have fV : Fr none' w1 V := by rw [← hV]; exact (Fr.refl _ _).alloc _
  have kO : KeyAt V O x.key := by rw [← hV, ← HO.out]; exact World.alloc_heap_new w1 _
  have mV := M1.out.fr fV id id id
  have kV := Kk1.out.fr fV id
  have w0 := kV.cell (i := 0) (by omega)
  have w1' := kV.cell (i := 1) (by omega)
  have w2' := kV.cell (i := 2) (by omega)
  simp [nth3] at w0 w1' w2'
  clear s0 s1 s2 s3 k1
  obtain ⟨s0, s1, s2, s3⟩ := mV.ent (i := i) (by rw [Hm.out]; exact hi)
  rw [Hx.out] at s0 s1 s2 s3
  have k1 : V.cell? ⟨hb, 1, none⟩ = some (.slice (some ⟨bt, 0, none⟩) m cap) := by rw [cells_at mV.hd, Hm.out]; rfl
  obtain ⟨cu, hcu, -, -⟩ := mV.tr
  have y0 : V.frozen? ⟨bt, i * 4, none⟩ = false := frozen_at hcu _
  have y1 : V.frozen? ⟨bt, i * 4 + 1, none⟩ = false := frozen_at hcu _
  have y2 : V.frozen? ⟨bt, i * 4 + 2, none⟩ = false := frozen_at hcu _
  have MV := Lib.hid mV
  have FV := Lib.hid fV
  have KO := Lib.hid kO
  clear hV fV kO mV kV hcu
  go_still_tail 8, (by kernel_rfl)
  change wpList _ _ _ _ _ V.drew
  go_wp2_with fail
  obtain ⟨U, hU⟩ : ∃ U, (((V.setCell ⟨bt, i * 4, none⟩ (.int .i64 k.time)).setCell ⟨bt, i * 4 + 1, none⟩ (.int .i64 k.source)).setCell ⟨bt, i * 4 + 2, none⟩ (.int .i64 k.seq)).drew = U := ⟨_, rfl⟩
  have mU : MemH U hb bt ba cap n ca (t.set i ⟨k, p⟩) A := by
    rw [← hU]
    exact (MV.out.key (by rw [Hm.out]; exact hi) k.time k.source k.seq p Hpi.out.symm).fr (Fr.refl none' _).drew id id id
  have fU : Fr (fun j => j = bt) V U := by
    rw [← hU]
    exact ((((Fr.refl (fun j => j = bt) V).setCell (fun _ => rfl) _).setCell (fun _ => rfl) _).setCell (fun _ => rfl) _).drew
  try rw [hU]
  have MU := Lib.hid mU
  have FU := Lib.hid fU
  have HU := Lib.hid hU
  clear mU fU hU w0 w1' w2' s0 s1 s2 s3 k1 y0 y1 y2
  have hset : ∀ j, j < m → (at' (t.set i ⟨k, p⟩ : List Ent) j).place < n := fun j hj => by
    by_cases hji : j = i
    · rw [hji, at_set_same _ (by rw [Hm.out]; exact hi)]; exact hpn
    · rw [at_set_ne (t := t) _ (fun e => hji e.symm)]; exact Hmt.out j (by rw [Hm.out]; exact hj)
  have hsame : at' (t.set i ⟨k, p⟩ : List Ent) i = ⟨k, p⟩ := at_set_same _ (by rw [Hm.out]; exact hi)
  have HS := sink_mem hb bt ba cap n ca i (t.set i ⟨k, p⟩) A U MU.out (by rw [List.length_set, Hm.out]; exact hi) (by rw [List.length_set, Hm.out]; omega) (fun j hj => hset j (by rw [List.length_set, Hm.out] at hj; exact hj))
  rw [hsame] at HS
  refine HS.mono ?_
  rintro e4 W4 ⟨rfl, m4, sf4⟩
  obtain ⟨fx1, fx2, fx3, fx4, fx5, fx6, fx7, fx8⟩ := Hfx.out
  obtain ⟨_, _, _, _, sk5, _⟩ := Hsk.out
  obtain ⟨T, hT⟩ : ∃ T, sinkL ordE (⟨k, p⟩ : Ent) (t.set i ⟨k, p⟩) i = T := ⟨_, rfl⟩
  obtain ⟨idx, hidx⟩ : ∃ idx, T.2 = idx := ⟨_, rfl⟩
  have hfA : fixA ordE Ent.place (⟨k, p⟩ : Ent) (t.set i ⟨k, p⟩) A i = riseA ordE Ent.place (⟨k, p⟩ : Ent) T.1 (sinkA ordE Ent.place (⟨k, p⟩ : Ent) (t.set i ⟨k, p⟩) A i) idx := by unfold fixA; rw [hT, hidx]
  have hfT : fixT ordE (⟨k, p⟩ : Ent) (t.set i ⟨k, p⟩) i = riseL ordE (⟨k, p⟩ : Ent) T.1 idx := by unfold fixT; rw [hT, hidx]
  obtain ⟨TA, hTA⟩ : ∃ TA, sinkA ordE Ent.place (⟨k, p⟩ : Ent) (t.set i ⟨k, p⟩) A i = TA := ⟨_, rfl⟩
  rw [hT] at m4 fx5 fx6 fx7 fx8 sk5
  rw [hTA] at m4 fx7
  rw [hidx] at fx5 fx6 fx7
  have hidx2 : idx < m := by have := fx5; rw [List.length_set, Hm.out] at this; exact this
  have hTl : T.1.length = m := by rw [fx8, List.length_set, Hm.out]
  have hpT : ∀ j, j < m → (at' T.1 j).place < n := fun j hj => by
    rw [List.set_set] at sk5
    have h3 : at' T.1 j ∈ t.set i ⟨k, p⟩ := sk5.mem_iff.1 (by rw [at_get (by omega)]; exact List.getElem_mem _)
    obtain ⟨l, hl, he⟩ := List.getElem_of_mem h3
    rw [← he, ← at_get hl]
    exact hset l (by rw [List.length_set, Hm.out] at hl; exact hl)
  have kk : W4.cell? ⟨hb, 2, none⟩ = some (.slice (some ⟨ba, 0, none⟩) n ca) := by rw [cells_at m4.hd]; rfl
  have tt := (m4.tabCell fx7).1
  have r1 : (0 : Int) ≤ (p : Int) := by omega
  have r2 : (p : Int) < (n : Int) := by omega
  have r3 : IntKind.i64.wrap (((idx + 1 : Nat) : Int) - 1) = (idx : Int) := by rw [IntWalk.i64_in _ (by omega)]; omega
  have HR := rise_mem ordE order_does hb bt ba cap n ca idx T.1 TA W4 m4 (by omega) (by omega) (fun j hj => hpT j (by omega))
  rw [fx6, ← hfT] at HR
  rw [hTA] at hfA
  rw [← hfA] at HR
  have HHR := Lib.hid HR
  have Sf4 := Lib.hid sf4
  have Fx1 := Lib.hid fx1
  have Fx2 := Lib.hid fx2
  have Fx4 := Lib.hid fx4
  clear HS m4 sf4 fx1 fx2 fx3 fx4 fx5 fx6 fx7 fx8 hT hidx hfA hfT hTA hTl hpT HR sk5 hset hsame
  go_wp2_with fail
  refine HHR.out.mono ?_
  rintro e5 W5 ⟨rfl, m5, sf5⟩
  have fVW : Fr (fun j => j = bt ∨ j = ba) V W5 := ((FU.out.mono (S' := fun j => j = bt ∨ j = ba) (fun _ _ h => .inl h)).trans Sf4.out.to).trans sf5.to
  have kz5 := (Kz1.out.fr FV.out id).fr fVW (by omega)
  have ko5 := KO.out.fr fVW (by omega)
  obtain ⟨g0, g1, g2⟩ : W5.cell? ⟨O, 0, none⟩ = some (.int .i64 x.key.time) ∧ W5.cell? ⟨O, 1, none⟩ = some (.int .i64 x.key.source) ∧ W5.cell? ⟨O, 2, none⟩ = some (.int .i64 x.key.seq) := ⟨ko5.cell (i := 0) (by omega), ko5.cell (i := 1) (by omega), ko5.cell (i := 2) (by omega)⟩
  obtain ⟨z0, z1, z2⟩ : W5.cell? ⟨N + 1, 0, none⟩ = some (.int .i64 0) ∧ W5.cell? ⟨N + 1, 1, none⟩ = some (.int .i64 0) ∧ W5.cell? ⟨N + 1, 2, none⟩ = some (.int .i64 0) := ⟨kz5.cell (i := 0) (by omega), kz5.cell (i := 1) (by omega), kz5.cell (i := 2) (by omega)⟩
  have y0 := frozen_at kz5 0
  have y1 := frozen_at kz5 1
  have y2 := frozen_at kz5 2
  have zz := set3 kz5 (.int .i64 x.key.time) (.int .i64 x.key.source) (.int .i64 x.key.seq)
  have w0 := cells_of zz 0
  have w1' := cells_of zz 1
  have w2 := cells_of zz 2
  simp at w0 w1' w2
  have M5 := Lib.hid m5
  have FVW := Lib.hid fVW
  clear kz5 ko5 zz m5 sf5 fVW kk tt r1 r2 r3
  go_wp2
  obtain ⟨hSo, hOn, hPl, hNn⟩ := Hrest.out
  have hno : ∀ y ∈ delL p L, y.place ≠ p := fun y hy => (delL_mem.1 hy).2
  have h5 := M5.out.heapIn.fr (S := fun j => j = N + 1) ((((Fr.refl (fun j => j = N + 1) W5).setCell (fun _ => rfl) (.int .i64 x.key.time) (o := 0)).setCell (fun _ => rfl) (.int .i64 x.key.source) (o := 1)).setCell (fun _ => rfl) (.int .i64 x.key.seq) (o := 2)) (fun j h e => by
    subst e
    rcases h with h | h | h
    · omega
    · omega
    · injection h with h; simp at h; omega)
  refine bodyPost_ret (v := .tuple #[.agg #[.int .i64 x.key.time, .int .i64 x.key.source, .int .i64 x.key.seq], .int .i64 0]) (by simp [results, Try.results15, go_sem, w0, w1', w2]) rfl ⟨rfl, _, ⟨⟨_, _, _, h5, Fx1.out, ?_⟩, insL_sorted (delL_sorted hSo) (fun y hy e => hno y hy (by rw [e])), insL_once (delL_once hOn) hno, fun y hy => ?_, hNn⟩, ?_⟩
  · have h6 := Fx2.out
    rw [List.set_set] at h6
    exact h6.trans Hper.out
  · rcases insL_mem.1 hy with rfl | hy
    · exact hpn
    · exact hPl y (delL_mem.1 hy).1
  · refine ⟨?_, fun g hg => .inl ?_⟩
    · have nN : N + 1 < w.heap.size → foot hb ba (.slice (some ⟨bt, 0, none⟩) t.length cap) (N + 1) := fun h => by rw [HN.out] at h; omega
      refine Fr.setCell (Fr.setCell (Fr.setCell ?_ nN _) nN _) nN _
      refine (((F1.out.trans FV.out).mono (fun _ _ h => h.elim)).trans (FVW.out.mono (fun j _ h => ?_)))
      rcases h with h | h
      · exact .inr (.inr (by rw [h]; rfl))
      · exact .inr (.inl h)
    · exact hg
end Go.Proofs.Ytbpmdhngobdilaa
