/-
  What the laws lean on and what knows nothing of their subject: frames, rows, iterators.
-/
import Derived.Test.YtmcgipilopfgoaaGreatJa2
import Derived.Test.YtmcgipilopfgoaaGreatShelf
import Derived.Lib.OwnBridge
import Derived.Test.YtmcgipilopfgoaaGreatJa1
import Derived.WideKeyEntry
import Derived.Maps.OwnSet
import Derived.Maps.Views
set_option linter.unusedSimpArgs false
set_option linter.unusedVariables false

/-
  slices.SortFunc(.., order) and slices.Clone at entries; Order, Copy.
-/
namespace Go.Proofs.YtmcgipilopfgoaaGreat
open Go.RowKit Go.Sort
attribute [local go_sem ↓] Go.wp_at_zero Go.wp_at_succ

theorem swoE : SWO (ltOf ordE) where
  irrefl x := decide_eq_false (by rw [ordE_ord.refl]; omega)
  trans x y z h1 h2 := decide_eq_true (ordE_ord.trans _ _ _ (of_decide_eq_true h1) (of_decide_eq_true h2))
  ntrans x y z h1 h2 := by
    have h1 := of_decide_eq_false h1
    have h2 := of_decide_eq_false h2
    refine decide_eq_false (fun h => ?_)
    have k1 := ordE_ord.anti x y
    have k2 := ordE_ord.anti y z
    have k3 := ordE_ord.anti x z
    have := ordE_ord.le_trans (a := z) (b := y) (c := x) (by omega) (by omega)
    omega
theorem totE (x y : Ent) (h1 : ltOf ordE x y = false) (h2 : ltOf ordE y x = false) : x = y := by
  have h1 := of_decide_eq_false h1
  have h2 := of_decide_eq_false h2
  have k1 := ordE_ord.anti x y
  exact (ordE_ord.eq x y).1 (by omega)
theorem laysE (blk off size : Nat) (w : World) : CmpLays Tryz.prog 92 #[] entCells 4 ordE blk off size w := fun m os dk _ x y =>
  (order_does x y (sortWorldK entCells 4 w blk off m dk os)).mono fun _ _ h => ⟨h.1, grow_of_below h.2.1 h.2.2⟩
theorem flatK_eq (zs : List Ent) : flatK entCells 4 zs.toArray = (flatE zs).toArray := by
  apply Array.ext
  · simp [flatE_length]
  · intro j h1 h2
    have hj : j < zs.length * 4 := by simpa [flatE_length] using h2
    have h3 := flatE_get zs (j / 4) (j % 4) (by omega) (by omega)
    rw [show 4 * (j / 4) + j % 4 = j by omega] at h3
    have h4 := get_flatK entCells 4 zs.toArray j (by simpa using hj)
    rw [getElem!_pos _ j h1] at h4
    rw [h4]
    have h5 : zs.toArray[j / 4]! = at' zs (j / 4) := by
      rw [getElem!_pos _ (j / 4) (by simp; omega)]; simp [at', List.getD_eq_getElem?_getD, List.getElem?_eq_getElem (show j / 4 < zs.length by omega)]
    rw [h5]
    have h6 : j % 4 < (entCells (at' zs (j / 4))).length := by simp [entCells]; omega
    rw [getElem!_pos (entCells (at' zs (j / 4))) (j % 4) h6]
    rw [List.getElem?_eq_getElem h6] at h3
    have h7 : (flatE zs)[j]? = some ((flatE zs)[j]'(by rw [flatE_length]; exact hj)) := List.getElem?_eq_getElem _
    rw [h7] at h3
    injection h3 with h3
    simp [h3]
theorem row_put {w : World} {base : Nat} {e : TypeId} {size g n cap q : Nat} {xs ys : List Value} {os : Array Obj} (h : w.ownsRow base e size (.slice (some ⟨g, 0, none⟩) n cap) n xs) (hy : ys.length = xs.length) :
    (grow (putRow id (Sort.ahead w q) g 0 ys.toArray) os).ownsRow base e size (.slice (some ⟨g, 0, none⟩) n cap) n ys := by
  have hxl := h.1
  rcases h.2 with ⟨e0, _⟩ | ⟨g', cap', cur, e0, hb, hg, hn, hm, hs, ht⟩
  · cases e0
  · injection e0 with e1 _ e3
    injection e1 with e1
    injection e1 with e1
    subst e1; subst e3
    have hgl : g < w.heap.size := (Array.getElem?_eq_some_iff.1 hg).1
    have hcs : n * size ≤ cur.size := by rw [hs]; exact Nat.mul_le_mul_right _ hn
    refine ⟨hy.trans hxl, .inr ⟨g, cap, putCells id 0 ys.toArray cur, rfl, hb, ?_, hn, hm, by simpa [putCells] using hs, ?_⟩⟩
    · simp only [grow]
      rw [Array.getElem?_append_left (by simp [putRow, mapBlock, Sort.ahead]; exact hgl)]
      simp [putRow, mapBlock, Sort.ahead, Array.getElem?_modify, hg, onCells]
    · apply List.ext_getElem?
      intro j
      rw [List.getElem?_take, Array.getElem?_toList]
      by_cases hj : j < n * size
      · have hjc : j < cur.size := by omega
        simp only [if_pos hj, putCells, Array.getElem?_mapIdx, Array.getElem?_eq_getElem hjc, Option.map_some]
        rw [if_pos (by simp; omega), List.getElem?_eq_getElem (by omega)]
        simp [getElem!_pos, show j < ys.length by omega]
      · rw [if_neg hj, List.getElem?_eq_none (by omega)]
theorem fr_put {w : World} {g q : Nat} {ys : Array Value} {os : Array Obj} : Fr (fun k => k = g) w (grow (putRow id (Sort.ahead w q) g 0 ys) os) := by
  refine ⟨rfl, rfl, rfl, by simp [grow, putRow, mapBlock, Sort.ahead], fun k hk hs => ?_, by simp [grow, putRow, mapBlock, Sort.ahead]⟩
  simp only [grow]
  rw [Array.getElem?_append_left (by simp [putRow, mapBlock, Sort.ahead]; exact hk)]
  simp [putRow, mapBlock, Sort.ahead, Array.getElem?_modify, show g ≠ k from fun e => hs e.symm]

/-- What slices.SortFunc leaves. -/
theorem sort_ents {base g cap n : Nat} {t : List Ent} {w : World} (h : w.ownsRow base 140 4 (.slice (some ⟨g, 0, none⟩) n cap) n (flatE t)) (hn : t.length = n) (hm : n ≤ 5000) :
    Calls Tryz.prog 91 #[.slice (some ⟨g, 0, none⟩) n cap, .func (.func 92) #[] #[]] w fun e w' => e = .returned (.tuple #[]) ∧
      ∃ zs : List Ent, zs.Perm t ∧ zs.Pairwise (fun a b => ordE a b ≤ 0) ∧ w'.ownsRow base 140 4 (.slice (some ⟨g, 0, none⟩) n cap) n (flatE zs) ∧ Fr (fun k => k = g) w w' := by
  have eg : ∀ args w, (callFunc 92 args).run Tryz.prog w = .ok (.enter 92 args) w := enters_of Tryz.func92 (by kernel_rfl) rfl
  have hg := h.lt g rfl
  have hz := h.cells (g := g) rfl
  have hfr : ∀ o, w.frozen? ⟨g, o, none⟩ = false := fun o => by
    rcases h.2 with ⟨e0, _⟩ | ⟨g', cap', cur, e0, hb, hg', _⟩
    · cases e0
    · injection e0 with e1
      injection e1 with e1
      injection e1 with e1
      subst e1
      exact frozen_at hg' o
  have hH : HoldsK entCells 4 w g 0 t.toArray := by
    unfold HoldsK
    rw [flatK_eq]
    intro j hj
    have hj' : j < (flatE t).length := by simpa using hj
    refine ⟨?_, hfr _⟩
    have h1 := hz j ((flatE t)[j]) (List.getElem?_eq_getElem hj')
    have h2 : (flatE t).toArray[j]! = (flatE t)[j] := by rw [getElem!_pos _ j hj]; simp
    rw [h2, Nat.zero_add]
    unfold Addr.add at h1
    split at h1
    · next h0 => subst h0; exact h1
    · simpa using h1
  have hS := AnyQ.slices_SortFunc_total Tryz.sortK_f91 4 Tryz.isAgg140 Tryz.sizeOf140 entCells (fun _ => rfl) (fun x v hv => flatE_one [x] v (by simpa [flatE] using hv)) ordE swoE 92 #[] g 0 cap t.toArray w eg (laysE g 0 t.toArray.size w) hH hg.2 (by simp; omega) totE
  rw [show t.toArray.size = n from by simpa using hn] at hS
  refine Calls.mono hS ?_
  rintro e w' ⟨rfl, nn, os, hw⟩
  refine ⟨rfl, t.mergeSort fun x y => !(ltOf ordE) y x, List.mergeSort_perm _ _, ?_, ?_, ?_⟩
  · have := List.pairwise_mergeSort (le := fun x y : Ent => !(ltOf ordE) y x) (fun a b c h1 h2 => by
      simp only [Bool.not_eq_true'] at h1 h2 ⊢
      exact swoE.ntrans _ _ _ h2 h1) (fun a b => by
      cases h : ltOf ordE b a with
      | false => rfl
      | true =>
        have : ltOf ordE a b = false := decide_eq_false (by have h1 := of_decide_eq_true h; have := ordE_ord.anti a b; omega)
        rw [this]; rfl) t
    refine this.imp fun {a b} h => ?_
    simp only [Bool.not_eq_true'] at h
    have h1 := of_decide_eq_false h
    have h2 := ordE_ord.anti a b
    omega
  · rw [hw]
    unfold sortWorldK putRowK
    dsimp only
    rw [flatK_eq]
    exact row_put h (by rw [flatE_length, flatE_length, List.length_mergeSort])
  · rw [hw]
    unfold sortWorldK putRowK
    exact fr_put
end Go.Proofs.YtmcgipilopfgoaaGreat

/-
  Order, Copy; frames without the count of draws.
-/
namespace Go.Proofs.YtmcgipilopfgoaaGreat
open Go.RowKit Go.Sort
attribute [local go_sem ↓] Go.wp_at_zero Go.wp_at_succ

theorem HeapIn.fr0 {S : Nat → Prop} {w w' : World} {hb ba n ca : Nat} {v : Value} {t : List Ent} {A : List Nat} (h : HeapIn w hb ba v n ca t A) (hf : Fr0 S w w') (hS : ∀ k, foot hb ba v k → ¬ S k) : HeapIn w' hb ba v n ca t A := by
  obtain ⟨cv, h4, h5⟩ := h.tb
  exact ⟨(hf.block _ (h.lt _ (.inl rfl)) (hS _ (.inl rfl))).trans h.hd, ownsRow_fr0 h.tr hf (fun g hg => hS g (.inr (.inr hg))), ⟨cv, (hf.block _ (h.lt _ (.inr (.inl rfl))) (hS _ (.inr (.inl rfl)))).trans h4, h5⟩, h.n1, h.n2⟩
theorem HeapIs.fr0 {S : Nat → Prop} {w w' : World} {hb ba n : Nat} {v : Value} {L : List Ent} (h : HeapIs w hb ba v n L) (hf : Fr0 S w w') (hS : ∀ k, foot hb ba v k → ¬ S k) : HeapIs w' hb ba v n L := by
  obtain ⟨ca, t, A, h1, h2⟩ := h.some; exact ⟨⟨ca, t, A, h1.fr0 hf hS, h2⟩, h.sorted, h.once, h.place, h.size⟩
theorem HeapIs.later0 {w w' : World} {hb ba n : Nat} {v : Value} {L : List Ent} (h : HeapIs w hb ba v n L) (hf : Fr0 none' w w') : HeapIs w' hb ba v n L := h.fr0 hf (fun _ _ h => h)

theorem ownBlock_base {w : World} {base : Nat} {e : TypeId} {size : Nat} {v : Value} {n : Nat} {xs : List Value} (h : w.ownsRow base e size v n xs) (g : Nat) (hg : v.ownBlock = some g) : base ≤ g ∧ g < w.heap.size := h.lt g hg
theorem clone_ents {w : World} {base : Nat} {v : Value} {t : List Ent} (h : w.ownsRow base 140 4 v t.length (flatE t)) (hm : t.length ≤ 5000) :
    Calls Tryz.prog 90 #[v] w fun e w' => ∃ v', e = .returned v' ∧ w'.ownsRow w.heap.size 140 4 v' t.length (flatE t) ∧ Fr0 none' w w' := by
  obtain ⟨i0, hi, hz0, hz1, hz2⟩ := info_parts info_entry
  have h' := h
  rcases h.2 with ⟨rfl, h0⟩ | ⟨g, cap, cur, rfl, hb, hg, hn, hcm, hs, ht⟩
  · refine Calls.mono (AnyE.slices_Clone_nil Tryz.cloneK_f90 0 0 w) ?_
    rintro e w' ⟨rfl, rfl⟩
    rw [h0, List.eq_nil_of_length_eq_zero h0]
    exact ⟨_, rfl, World.ownsRow_nil _ _ _ _, Fr0.refl _ _⟩
  · refine Calls.mono (AnyE.slices_Clone Tryz.cloneK_f90 i0 (.agg #[.int .i64 0, .int .i64 0, .int .i64 0, .int .i64 0]) 4 32 hi hz0 hz1 hz2 rfl (by decide) Tryz.sizeOf140 g 0 t.length cap (flatE t) w (flatE_length t) (by unfold maxLen; omega) (by omega) (fun j u hj => ?_) (flatE_one t)) ?_
    · have := h'.cells (g := g) rfl j u hj
      unfold Addr.add at this
      split at this
      · next h0 => subst h0; exact this
      · simpa using this
    · rintro e w' ⟨v', rfl, hrow, _, hbe⟩
      exact ⟨v', rfl, hrow, below_to0 hbe⟩
set_option maxRecDepth 100000 in
set_option maxHeartbeats 1000000 in
theorem Order_is {w : World} {hb ba n : Nat} {v : Value} {L : List Ent} (h : HeapIs w hb ba v n L) :
    Calls Tryz.prog 70 #[.pointer (some ⟨hb, 0, none⟩)] w fun e w' => ∃ v', e = .returned v' ∧ w'.ownsRow w.heap.size 3 1 v' L.length (placesV L) ∧ Fr0 none' w w' := by
  have hLn := h.len
  obtain ⟨⟨ca, t, A, hIn, hOk, hPe⟩, hSo, hOn, hPl, hNn⟩ := h
  have h0 : w.cell? ⟨hb, 0, none⟩ = some (.bool true) := by rw [cells_at hIn.hd]; rfl
  have h1 : w.cell? ⟨hb, 1, none⟩ = some v := by rw [cells_at hIn.hd]; rfl
  have hml : t.length ≤ 5000 := by rw [hPe.length_eq]; omega
  have HC := clone_ents hIn.tr hml
  have hu : ∀ zs : List Ent, zs.Perm t → zs.Pairwise (fun a b => ordE a b ≤ 0) → zs = L := fun zs h1 h2 => order_one ordE_ord h2 (hSo.imp (fun h => by omega)) (h1.trans hPe)
  have hlen : t.length = L.length := hPe.length_eq
  have HC' := Lib.hid HC
  have Hu := Lib.hid hu
  have Hlen := Lib.hid hlen
  have Hml := Lib.hid hml
  clear HC hu hlen hml hIn hOk hPe hSo hOn hPl hNn hLn
  go_enter Tryz.func70, Tryz.ntmps70
  go_wp2_with fail
  refine (is_made hb true _ h0).mono ?_
  rintro e w' ⟨rfl, rfl⟩
  go_wp2_with fail
  refine HC'.out.mono ?_
  rintro e w1 ⟨v1, rfl, hrow, hf1⟩
  have Hrow := Lib.hid hrow
  have Hf1 := Lib.hid hf1
  clear hrow hf1
  go_wp2_with fail
  rcases Hrow.out.2 with ⟨hv, hz⟩ | ⟨g, cap, cur, hv, _⟩
  · subst hv
    have ht0 : t = [] := List.eq_nil_of_length_eq_zero hz
    refine Calls.mono (AnyF.slices_SortFunc_none { Tryz.sortK_f91 with } none 0 (.func (.func 92) #[] #[]) w1) ?_
    rintro e w2 ⟨rfl, rfl⟩
    go_wp2_with fail
    have HP := places_any (t := ([] : List Ent)) (World.ownsRow_nil w2 0 140 4) (by simp)
    refine HP.mono ?_
    rintro e w3 ⟨v3, rfl, hown, hf3⟩
    have Hown := Lib.hid hown
    have Hf3 := Lib.hid hf3
    clear hown hf3 HP
    go_wp2
    go_ret
    have hL : L = [] := List.eq_nil_of_length_eq_zero (by rw [← Hlen.out, ht0]; rfl)
    subst hL
    exact ⟨_, rfl, ownsRow_k_mono Hown.out Hf1.out.size, Hf1.out.trans Hf3.out.to0⟩
  · subst hv
    refine (sort_ents Hrow.out rfl Hml.out).mono ?_
    rintro e w2 ⟨rfl, zs, hz1, hz2, hrow2, hf2⟩
    have hzL := Hu.out zs hz1 hz2
    subst hzL
    rw [Hlen.out] at hrow2
    have hg := ownBlock_base Hrow.out g rfl
    have HP := places_any hrow2 (by rw [← Hlen.out]; exact Hml.out)
    have Hrow2 := Lib.hid hrow2
    have Hf2 := Lib.hid hf2
    have HP' := Lib.hid HP
    clear hrow2 hf2 HP hz1 hz2
    rw [Hlen.out]
    go_wp2_with fail
    refine HP'.out.mono ?_
    rintro e w3 ⟨v3, rfl, hown, hf3⟩
    have Hown := Lib.hid hown
    have Hf3 := Lib.hid hf3
    clear hown hf3
    go_wp2
    go_ret
    have f12 : Fr0 none' w w2 := Hf1.out.trans' Hf2.out.to0 (fun k hk h => by omega)
    exact ⟨_, rfl, ownsRow_k_mono Hown.out f12.size, f12.trans Hf3.out.to0⟩

end Go.Proofs.YtmcgipilopfgoaaGreat

/-
  An assignment to a key that a map does not have, in its two steps.
-/
namespace Go.Proofs.YtmcgipilopfgoaaGreat
open Go.RowKit Go.Maps Go.ChangeMaps
open Go.WideElems (Fit)

theorem entry_new {H : Type} {P : Program} {k e t : TypeId} {R : Value → Option (DataW H × List MemPlace)} {w : World} {b n : Nat} {D : DataW H} (h : w.ownsMap P k R b n D) (K : Keyed P k) (ht : P.underlying t = some (.map k e)) (hn : n < maxLen)
    {z : Value} (hz : ∀ u : World, (zeroValue e).run P u = .ok z u) {key : Value} {kl : Lit} (hkey : keyOf P k key = some kl) (hhas : Maps.has D kl = false) {val : Value} {d : DataW H} {ps : List MemPlace} (hv : R val = some (d, ps)) :
    ∃ (o1 o2 : Obj) (st : Int), (Instr.mapEntry t (.map (some b)) key).run P w = .ok (.tuple #[z, .int .i64 st]) (setBlock w b o1) ∧
      (∀ w2 : World, w2.heap[b]? = some o1 → (Instr.entryStore t (.map (some b)) (.int .i64 st) val).run P w2 = .ok () (setBlock w2 b o2)) ∧
      ∀ w3 : World, w3.heap[b]? = some o2 → w3.ownsMap P k R b (n + 1) (D.put kl d) := by
  obtain ⟨w', hup, hown', _⟩ := h.store K ht hn hkey hv
  obtain ⟨es, clock, hb, F, hs, hD⟩ := h
  subst hD
  rcases Maps.fit_look true K ht (hz w) hb F hkey with ⟨_, hno, _⟩ | ⟨e0, y, _, _, _, _, hat, _⟩
  · rcases K.find w hkey es.toList F.keys with ⟨h1, _⟩ | ⟨j, e0, _, h2, h3⟩
    · have hc : (Instr.checkKey false 10000 k key).run P w = .ok () w := K.check w false hkey
      refine ⟨.map (es.push ⟨key, z, clock⟩) (clock + 1), .map (es.push ⟨key, val, clock⟩) (clock + 1), clock, ?_, fun w2 hw2 => ?_, fun w3 hw3 => ?_⟩
      · simp [Instr.mapEntry, run_underlying ht, MapKept.run_getObj_map hb, hc, h1, hz, MapKept.run_setObj_map _ hb, Result.andThen, setBlock, goInt]
      · have hidx : (es.push ⟨key, z, clock⟩).findIdx? (fun x => ((x.born : Nat) : Int) == ((clock : Nat) : Int)) = some es.size := by
          rw [WideElems.findIdx_arr]
          obtain ⟨s1, s2, _⟩ := F.stamped
          refine WideElems.findIdx_born (e0 := ⟨key, z, clock⟩) ?_ (by simp)
          rw [Array.toList_push, List.map_append, List.nodup_append]
          refine ⟨s2, by simp, fun a ha c hc => ?_⟩
          obtain ⟨x, hx, rfl⟩ := List.mem_map.1 ha
          simp at hc
          have := s1 x hx
          omega
        have hmod : (es.push ⟨key, z, clock⟩).modify es.size (fun x => { x with val := val }) = es.push ⟨key, val, clock⟩ := by
          apply Array.ext'
          have := WideElems.modify_last (fun x : MapEntry => { x with val := val }) ⟨key, z, clock⟩ es.toList
          rw [Array.length_toList] at this
          rw [Array.toList_modify, Array.toList_push, Array.toList_push]
          exact this
        simp [Instr.entryStore, MapKept.run_getObj_map hw2, asInt, asIntOf, hidx, hmod, MapKept.run_setObj_map _ hw2, Result.andThen, setBlock]
      · have hup2 : (Instr.mapUpdate t (.map (some b)) key val).run P w = .ok () (setBlock w b (.map (es.push ⟨key, val, clock⟩) (clock + 1))) := by
          simp [Instr.mapUpdate, run_underlying ht, MapKept.run_getObj_map hb, hc, h1, MapKept.run_setObj_map _ hb, Result.andThen, setBlock]
        rw [hup] at hup2
        injection hup2 with _ hw
        obtain ⟨es', clock', hb', r⟩ := hown'
        rw [hw, heap_setBlock_same hb] at hb'
        exact ⟨es', clock', hw3.trans hb', r⟩
    · exact absurd h3 (hno e0 (List.mem_of_getElem? h2))
  · rw [Maps.has_true_of_atKey hat] at hhas; cases hhas
theorem setBlock_same {w : World} {b : Nat} {o o' : Obj} (h : w.heap[b]? = some o) : (setBlock w b o').heap[b]? = some o' := by
  have := (Array.getElem?_eq_some_iff.1 h).1
  simp [setBlock, this]
theorem setBlock_other {w : World} {b i : Nat} {o' : Obj} (h : i ≠ b) : (setBlock w b o').heap[i]? = w.heap[i]? := by
  simp [setBlock, Array.getElem?_setIfInBounds, Ne.symm h]
theorem Fr0.setBlock {S : Nat → Prop} {a w : World} (h : Fr0 S a w) {b : Nat} (hp : b < a.heap.size → S b) (o : Obj) : Fr0 S a (setBlock w b o) :=
  ⟨h.os, h.tape, h.output, by have := h.size; simp [ChangeMaps.setBlock]; omega, fun k hk hs => (setBlock_other (fun e => hs (by subst e; exact hp hk))).trans (h.block k hk hs)⟩
end Go.Proofs.YtmcgipilopfgoaaGreat
