/- CalendarKeeps: the statement: for any input the law returns true, and the arguments read as before; no condition. -/
import Derived.Test.YtmbjfmlicffclaaJb1
import Derived.Test.YtmbjfmlicffclaaJb2
import Derived.WideKeyEntry
import Derived.DeepKeys4
import Derived.Test.YtmbjfmlicffclaaJa
import Derived.WideKeyPair
set_option linter.unusedSimpArgs false
set_option linter.unusedVariables false

/-
  A slice of small acts among the arguments.
-/
namespace Go.Proofs.Ytmbjfmlicffclaa
open Go.ChangeShapes Go.WideShapes Go.ChangeAt Go.RowKit Go.Deep Go.Joins

set_option maxRecDepth 100000 in
theorem sm5_field {H : Type} {enc : TypeId × Value → H} {w : World} {n : Nat} {v0 v1 v2 v3 v4 : Value} {y : DataW H × List MemPlace} (h : DataW.trod enc Try.prog w 0 (fun _ => true) true n 74 [v0, v1, v2, v3, v4] = some y) : ∃ x : Sm5, x.ok ∧ v0 = .int .u8 x.t ∧ v1 = .int .u8 x.s ∧ v2 = .int .u8 x.q ∧ v3 = .int .u8 x.o ∧ v4 = .int .u8 x.l := by
 obtain ⟨ys, k, _, _, _, hyl, hfl⟩ := DataW.trod_struct Try.underlying74 h
 have hone : Try.prog.cellsOf 5 = 1 := by kernel_rfl
 have f0 : DataW.trod enc Try.prog w 0 (fun _ => true) true k 5 (([v0, v1, v2, v3, v4].drop 0).take (Try.prog.cellsOf 5)) = ys[0]? := hfl 0 _ rfl
 have f1 : DataW.trod enc Try.prog w 0 (fun _ => true) true k 5 (([v0, v1, v2, v3, v4].drop 1).take (Try.prog.cellsOf 5)) = ys[1]? := hfl 1 _ rfl
 have f2 : DataW.trod enc Try.prog w 0 (fun _ => true) true k 5 (([v0, v1, v2, v3, v4].drop 2).take (Try.prog.cellsOf 5)) = ys[2]? := hfl 2 _ rfl
 have f3 : DataW.trod enc Try.prog w 0 (fun _ => true) true k 5 (([v0, v1, v2, v3, v4].drop 3).take (Try.prog.cellsOf 5)) = ys[3]? := hfl 3 _ rfl
 have f4 : DataW.trod enc Try.prog w 0 (fun _ => true) true k 5 (([v0, v1, v2, v3, v4].drop 4).take (Try.prog.cellsOf 5)) = ys[4]? := hfl 4 _ rfl
 rw [hone] at f0 f1 f2 f3 f4
 have yl : ys.length = 5 := hyl
 have t0 : DataW.trod enc Try.prog w 0 (fun _ => true) true k 5 [v0] = some (ys[0]'(by omega)) := f0.trans (List.getElem?_eq_getElem _)
 have t1 : DataW.trod enc Try.prog w 0 (fun _ => true) true k 5 [v1] = some (ys[1]'(by omega)) := f1.trans (List.getElem?_eq_getElem _)
 have t2 : DataW.trod enc Try.prog w 0 (fun _ => true) true k 5 [v2] = some (ys[2]'(by omega)) := f2.trans (List.getElem?_eq_getElem _)
 have t3 : DataW.trod enc Try.prog w 0 (fun _ => true) true k 5 [v3] = some (ys[3]'(by omega)) := f3.trans (List.getElem?_eq_getElem _)
 have t4 : DataW.trod enc Try.prog w 0 (fun _ => true) true k 5 [v4] = some (ys[4]'(by omega)) := f4.trans (List.getElem?_eq_getElem _)
 obtain ⟨a0, rfl, l0, m0⟩ := smallC t0
 obtain ⟨a1, rfl, l1, m1⟩ := smallC t1
 obtain ⟨a2, rfl, l2, m2⟩ := smallC t2
 obtain ⟨a3, rfl, l3, m3⟩ := smallC t3
 obtain ⟨a4, rfl, l4, m4⟩ := smallC t4
 exact ⟨⟨a0, a1, a2, a3, a4⟩, ⟨⟨l0, m0⟩, ⟨l1, m1⟩, ⟨l2, m2⟩, ⟨l3, m3⟩, l4, m4⟩, rfl, rfl, rfl, rfl, rfl⟩
set_option maxRecDepth 100000 in
/-- A slice of small acts, opened. -/
theorem smcs_arg {base : Nat} {H : Type} {enc : TypeId × Value → H} {W : World} {v : Value} {d : DataW H} {ps : List MemPlace}
  (hval : Value.okWide Try.prog W .any base 37 v) (h : DataW.Trod enc Try.prog W 0 (fun _ => true) true 37 v d ps) : ∃ a n cap xs, v = .slice a n cap ∧ xs.length = n ∧ n ≤ cap ∧ SmcsIn W a xs := by
 obtain ⟨A, n, cap, rfl⟩ := okWide_slice Try.underlying37 hval
 obtain ⟨fuel, hf⟩ := h
 rcases open_slice Try.underlying37 hf with ⟨hcs, _⟩ | ⟨a, len, cap', m, _, D, Pl, hcs, _, hl, hm, hz, _, hi⟩
 ·simp [Value.cells] at hcs
  obtain ⟨rfl, rfl, rfl⟩ := hcs
  exact ⟨none, 0, 0, [], rfl, rfl, Nat.le_refl _, fun j x hj => by simp at hj⟩
 ·simp [Value.cells] at hcs
  obtain ⟨rfl, rfl, rfl⟩ := hcs
  have hmn : n ≤ m := by rw [hz]; split <;> omega
  have key : ∀ i, i < n → ∃ x : Smc, x.ok ∧ ∃ g o, a = ⟨g, o, none⟩ ∧ W.cell? ⟨g, o + i * 6, none⟩ = some (.int .u8 x.kind) ∧ W.cell? ⟨g, o + i * 6 + 1, none⟩ = some (.int .u8 x.x.t) ∧ W.cell? ⟨g, o + i * 6 + 2, none⟩ = some (.int .u8 x.x.s) ∧ W.cell? ⟨g, o + i * 6 + 3, none⟩ = some (.int .u8 x.x.q) ∧ W.cell? ⟨g, o + i * 6 + 4, none⟩ = some (.int .u8 x.x.o) ∧ W.cell? ⟨g, o + i * 6 + 5, none⟩ = some (.int .u8 x.x.l) := fun i hin => by
   obtain ⟨cs, hc, ht⟩ := hi i (by omega)
   rw [show Try.prog.cellsOf 85 = 6 by kernel_rfl] at hc
   obtain ⟨ys, k, _, _, _, hyl, hfl⟩ := DataW.trod_struct Try.underlying85 ht
   obtain ⟨_, hcl, hat⟩ := World.cells?_some hc
   have hone : Try.prog.cellsOf 5 = 1 := by kernel_rfl
   have hfive : Try.prog.cellsOf 74 = 5 := by kernel_rfl
   match cs, hcl with
   | [v0, v1, v2, v3, v4, v5], _ =>
   have c0 := hat 0 (by omega)
   have c1 := hat 1 (by omega)
   have c2 := hat 2 (by omega)
   have c3 := hat 3 (by omega)
   have c4 := hat 4 (by omega)
   have c5 := hat 5 (by omega)
   have f0 : DataW.trod enc Try.prog W 0 (fun _ => true) true k 5 (([v0, v1, v2, v3, v4, v5].drop 0).take (Try.prog.cellsOf 5)) = ys[0]? := hfl 0 _ rfl
   have f1 : DataW.trod enc Try.prog W 0 (fun _ => true) true k 74 (([v0, v1, v2, v3, v4, v5].drop 1).take (Try.prog.cellsOf 74)) = ys[1]? := hfl 1 _ rfl
   rw [hone] at f0
   rw [hfive] at f1
   have yl : ys.length = 2 := hyl
   have t0 : DataW.trod enc Try.prog W 0 (fun _ => true) true k 5 [v0] = some (ys[0]'(by omega)) := f0.trans (List.getElem?_eq_getElem _)
   have t1 : DataW.trod enc Try.prog W 0 (fun _ => true) true k 74 [v1, v2, v3, v4, v5] = some (ys[1]'(by omega)) := f1.trans (List.getElem?_eq_getElem _)
   obtain ⟨a0, rfl, l0, m0⟩ := smallC t0
   obtain ⟨x, hx, rfl, rfl, rfl, rfl, rfl⟩ := sm5_field t1
   obtain ⟨cs', hc', _⟩ := hi 0 (by omega)
   rw [show Try.prog.cellsOf 85 = 6 by kernel_rfl] at hc'
   obtain ⟨_, hcl', hat'⟩ := World.cells?_some hc'
   have z0 := hat' 0 (by omega)
   rw [List.getElem?_eq_getElem (by omega)] at z0
   obtain ⟨b, off, spot⟩ := a
   have hspot : spot = none := by simpa [Addr.add] using World.cell?_spot z0
   subst hspot
   rw [Addr.add_mid, Addr.add_mid] at c0 c1 c2 c3 c4 c5
   exact ⟨⟨a0, x⟩, ⟨⟨l0, m0⟩, hx⟩, b, off, rfl, c0, c1, c2, c3, c4, c5⟩
  obtain ⟨xs, hxl, hx⟩ := listC n key
  refine ⟨some a, n, cap, xs, rfl, hxl, by simpa using hl, fun j x hj => ?_⟩
  obtain ⟨hok, g, o, rfl, q0, q1, q2, q3, q4, q5⟩ := hx j x hj
  exact ⟨hok, g, o, rfl, q0, q1, q2, q3, q4, q5⟩
end Go.Proofs.Ytmbjfmlicffclaa

/-
  Calendars in plain words: what an act takes and leaves; acts of one name alone.
-/
namespace Go.Proofs.Ytmbjfmlicffclaa
open Go Go.RowKit

theorem doC_put {n : Nat} {E : List Ev} (h : GoodE n E) {a : Ca} (hk : a.kind = 1) : (doC n E a).2.evs = [] ∧ (((doC n E a).2.err = 0 ∧ (doC n E a).1.Perm (a.x :: E)) ∨ ((doC n E a).2.err ≠ 0 ∧ (doC n E a).1 = E)) := by
 unfold doC
 rw [if_pos hk]
 refine ⟨rfl, ?_⟩
 simp only
 rcases put_cases n E a.x h.le with ⟨_, e1, e2⟩ | ⟨_, _, e1, e2⟩ | ⟨_, _, _, e1, e2⟩ | ⟨_, _, _, e1, e2⟩
 ·exact .inr ⟨by rw [e1]; decide, e2⟩
 ·exact .inr ⟨by rw [e1]; decide, e2⟩
 ·exact .inr ⟨by rw [e1]; decide, e2⟩
 ·exact .inl ⟨e1, by rw [e2]; exact insE_perm _ _⟩
theorem cancel_perm {n : Nat} {E : List Ev} (h : GoodE n E) (p : Int × Int) : E.Perm ((cancelC p E).2.evs ++ (cancelC p E).1) ∧ ((cancelC p E).2.err ≠ 0 → (cancelC p E).2.evs = []) := by
 unfold cancelC
 cases hf : findE p E with
 | none => exact ⟨List.Perm.refl _, fun _ => rfl⟩
 | some y =>
  obtain ⟨h1, rfl⟩ := (findE_some h.once).1 hf
  exact ⟨delE_perm h.once h1, fun h => absurd rfl h⟩
theorem doC_out {n : Nat} {E : List Ev} (h : GoodE n E) {a : Ca} (hk : a.kind ≠ 1) : E.Perm ((doC n E a).2.evs ++ (doC n E a).1) ∧ ((doC n E a).2.err ≠ 0 → (doC n E a).2.evs = []) := by
 unfold doC
 rw [if_neg hk]
 split
 ·cases E with
  | nil => exact ⟨List.Perm.refl _, fun _ => rfl⟩
  | cons x r => exact ⟨List.Perm.refl _, fun h => absurd rfl h⟩
 ·split
  ·refine ⟨?_, fun h => absurd rfl h⟩
   simp only
   rw [← bef_aft h.asc]
  ·split
   ·exact cancel_perm h a.x.name
   ·exact ⟨by simp, fun h => absurd rfl h⟩

/-! ### Acts of one name -/
end Go.Proofs.Ytmbjfmlicffclaa

/-
  An assignment to a key of a map, in its two steps, whether the map has the key or not; maps from names to integers.
-/
namespace Go.Proofs.Ytmbjfmlicffclaa
open Go.RowKit Go.Maps Go.ChangeMaps
open Go.WideElems (Fit)
open Go.WideMaps (KeyLaw)

theorem entry_up {H : Type} {P : Program} {k e t : TypeId} {R : Value → Option (DataW H × List MemPlace)} {w : World} {b n : Nat} {D : DataW H} (h : w.ownsMap P k R b n D) (K : KeyLaw P k) (ht : P.underlying t = some (.map k e)) (hn : n < maxLen)
  {z : Value} (hz : ∀ u : World, (zeroValue e).run P u = .ok z u) {dz : DataW H} {pz : List MemPlace} (zR : R z = some (dz, pz)) {key : Value} {kl : Lit} (hkey : keyOf P k key = some kl) :
  ∃ (v0 : Value) (o1 : Obj) (st : Int), (Instr.mapEntry t (.map (some b)) key).run P w = .ok (.tuple #[v0, .int .i64 st]) (setBlock w b o1) ∧ (∃ ps', R v0 = some (D.atKey kl dz, ps')) ∧ (∀ w2 : World, w2.heap[b]? = some o1 → (Instr.lookup t (.map (some b)) key false).run P w2 = .ok v0 w2) ∧
   ∀ (val : Value) (d : DataW H) (ps : List MemPlace), R val = some (d, ps) → ∃ o2 : Obj,
   (∀ w2 : World, w2.heap[b]? = some o1 → (Instr.entryStore t (.map (some b)) (.int .i64 st) val).run P w2 = .ok () (setBlock w2 b o2)) ∧
   ∀ w3 : World, w3.heap[b]? = some o2 → w3.ownsMap P k R b (n + 1) (D.put kl d) := by
 have hst := fun val d ps (hv : R val = some (d, ps)) => h.store (Keyed.of_law K) ht hn hkey hv
 obtain ⟨v, ps', hl, hR⟩ := h.lookup (Keyed.of_law K) ht (hz w) zR hkey
 obtain ⟨es, clock, hb, F, hs, hD⟩ := h
 obtain ⟨s1, s2, s3⟩ := F.stamped
 have fin : ∀ (es' : Array MapEntry) (clock' : Nat) (val : Value) (d : DataW H) (ps : List MemPlace), R val = some (d, ps) → (Instr.mapUpdate t (.map (some b)) key val).run P w = .ok () (setBlock w b (.map es' clock')) →
   ∀ w3 : World, w3.heap[b]? = some (.map es' clock') → w3.ownsMap P k R b (n + 1) (D.put kl d) := fun es' clock' val d ps hv hup2 w3 hw3 => by
  obtain ⟨w', hup, hown', _⟩ := hst val d ps hv
  rw [hup] at hup2
  injection hup2 with _ hw
  obtain ⟨es2, clock2, hb', r⟩ := hown'
  rw [hw, setBlock_same hb] at hb'
  injection hb' with hb'
  injection hb' with g1 g2
  subst g1; subst g2
  exact ⟨es', clock', hw3, r⟩
 rcases K.find w hkey es.toList F.keys with ⟨h1, h2⟩ | ⟨j, e0, h1, h2, h3⟩
 ·have hvz : z = v := by
   have e1 : (Instr.lookup t (.map (some b)) key false).run P w = .ok z w := by
    simp [Instr.lookup, run_underlying ht, MapKept.run_getObj_map hb, K.check w _ hkey, h1, hz, Result.andThen]
   rw [e1] at hl
   injection hl with hl _
  have hks : ∀ e ∈ (es.push ⟨key, z, clock⟩).toList, ∃ l, keyOf P k e.key = some l := fun e he => by
   rw [Array.toList_push, List.mem_append] at he
   rcases he with he | he
   ·exact F.keys e he
   ·simp at he; subst he; exact ⟨kl, hkey⟩
  refine ⟨z, .map (es.push ⟨key, z, clock⟩) (clock + 1), clock, ?_, ⟨ps', by rw [hvz]; exact hR⟩, fun w2 hw2 => ?_, fun val d ps hv => ⟨.map (es.push ⟨key, val, clock⟩) (clock + 1), fun w2 hw2 => ?_, fin _ _ val d ps hv ?_⟩⟩
  ·simp [Instr.mapEntry, run_underlying ht, MapKept.run_getObj_map hb, K.check w false hkey, h1, hz, MapKept.run_setObj_map _ hb, Result.andThen, setBlock, goInt]
  ·rcases K.find w2 hkey (es.push ⟨key, z, clock⟩).toList hks with ⟨g1, g2⟩ | ⟨j, e0, g1, g2, g3⟩
   ·exact absurd rfl (g2 ⟨key, z, clock⟩ (by simp))
   ·have hval : e0.val = z := by
     have he := List.mem_of_getElem? g2
     rw [Array.toList_push, List.mem_append] at he
     rcases he with he | he
     ·exact absurd g3 (h2 e0 he)
     ·simp at he; subst he; rfl
    rw [hval] at g1
    simp only [Array.toList_push] at g1
    simp [Instr.lookup, run_underlying ht, MapKept.run_getObj_map hw2, K.check w2 _ hkey, g1, Result.andThen]
  ·have hidx : (es.push ⟨key, z, clock⟩).findIdx? (fun x => ((x.born : Nat) : Int) == ((clock : Nat) : Int)) = some es.size := by
    rw [WideElems.findIdx_arr]
    refine WideElems.findIdx_born (e0 := ⟨key, z, clock⟩) ?_ (by simp)
    rw [Array.toList_push, List.map_append, List.nodup_append]
    refine ⟨s2, by simp, fun a ha c hc => ?_⟩
    obtain ⟨x, hx, rfl⟩ := List.mem_map.1 ha
    simp at hc
    have := s1 x hx
    omega
   have hmod : (es.push ⟨key, z, clock⟩).modify es.size (fun x => { x with val := val }) = es.push ⟨key, val, clock⟩ := by
    apply Array.ext'
    have := WideElems.modify_last (fun x : MapEntry => { x with val := val }) ⟨key, z, clock⟩ es.toList
    rw [Array.length_toList] at this
    rw [Array.toList_modify, Array.toList_push, Array.toList_push]
    exact this
   simp [Instr.entryStore, MapKept.run_getObj_map hw2, asInt, asIntOf, hidx, hmod, MapKept.run_setObj_map _ hw2, Result.andThen, setBlock]
  ·simp [Instr.mapUpdate, run_underlying ht, MapKept.run_getObj_map hb, K.check w false hkey, h1, MapKept.run_setObj_map _ hb, Result.andThen, setBlock]
 ·have hve : e0.val = v := by
   have e1 : (Instr.lookup t (.map (some b)) key false).run P w = .ok e0.val w := by
    simp [Instr.lookup, run_underlying ht, MapKept.run_getObj_map hb, K.check w _ hkey, h1, Result.andThen]
   rw [e1] at hl
   injection hl with hl _
  have hj : es[j]? = some e0 := by simpa using h2
  have hsame : es.modify j (fun e => { e with key := key }) = es := by
   apply Array.ext'
   rw [Array.toList_modify, modify_eq_set _ _ _ _ h2]
   have : ({ e0 with key := key } : MapEntry) = e0 := by rw [← h3]
   rw [this]
   exact WideElems.set_self _ _ _ h2
  refine ⟨e0.val, .map es clock, e0.born, ?_, ⟨ps', by rw [hve]; exact hR⟩, fun w2 hw2 => ?_, fun val d ps hv => ⟨.map (es.modify j (fun e' => { e' with key := key, val := val })) clock, fun w2 hw2 => ?_, fin _ _ val d ps hv ?_⟩⟩
  ·simp [Instr.mapEntry, run_underlying ht, MapKept.run_getObj_map hb, K.check w false hkey, h1, hj, h3, K.stays w hkey, hsame, MapKept.run_setObj_map _ hb, Result.andThen, setBlock, goInt]
  ·rcases K.find w2 hkey es.toList F.keys with ⟨g1, g2⟩ | ⟨j2, e2, g1, g2, g3⟩
   ·exact absurd h3 (g2 e0 (List.mem_of_getElem? h2))
   ·have e1 : (Instr.findKey k key es.toList).run P w2 = .ok (some (j, e0.val)) w2 := by
     have hw : e2.val = e0.val ∧ j2 = j := by
      have q1 : (es.toList.map (fun x => x.key))[j2]? = some key := by rw [List.getElem?_map, g2, ← g3]; rfl
      have q2 : (es.toList.map (fun x => x.key))[j]? = some key := by rw [List.getElem?_map, h2, ← h3]; rfl
      have hjj : j2 = j := (List.getElem?_inj (List.getElem?_eq_some_iff.1 q1).1 s3).1 (q1.trans q2.symm)
      subst hjj
      rw [h2] at g2
      cases g2
      exact ⟨rfl, rfl⟩
     rw [← hw.1, ← hw.2]
     exact g1
    simp [Instr.lookup, run_underlying ht, MapKept.run_getObj_map hw2, K.check w2 _ hkey, e1, Result.andThen]
  ·have hidx : es.findIdx? (fun e => ((e.born : Nat) : Int) == ((e0.born : Nat) : Int)) = some j := by
    rw [WideElems.findIdx_arr]
    exact WideElems.findIdx_born s2 h2
   have hmod : es.modify j (fun e => { e with val := val }) = es.modify j (fun e' => { e' with key := key, val := val }) := by
    apply Array.ext'
    rw [Array.toList_modify, Array.toList_modify, modify_eq_set _ _ _ _ h2, modify_eq_set _ _ _ _ h2, ← h3]
   simp [Instr.entryStore, MapKept.run_getObj_map hw2, asInt, asIntOf, hidx, hmod, MapKept.run_setObj_map _ hw2, Result.andThen, setBlock]
  ·simp [Instr.mapUpdate, run_underlying ht, MapKept.run_getObj_map hb, K.check w false hkey, h1, hj, h3, K.stays w hkey, MapKept.run_setObj_map _ hb, Result.andThen, setBlock]
def intR : Value → Option (DataW Unit × List MemPlace)
 | .int .i64 a => some (.lit (.int .i64 a), [])
 | _ => none
theorem intR_inv {v : Value} {a : Int} {ps : List MemPlace} (h : intR v = some (.lit (.int .i64 a), ps)) : v = .int .i64 a := by
 unfold intR at h
 split at h
 ·simp only [Option.some.injEq, Prod.mk.injEq, DataW.lit.injEq, Lit.int.injEq, true_and] at h
  rw [h.1]
 ·cases h
section
variable {P : Program} {k t e : TypeId} {w w' : World} {b n : Nat} {c : Int × Int → Option Int}
/-- The map has the names that c has, each with its number; it has at most n. -/
def MetIs (P : Program) (k : TypeId) (w : World) (b n : Nat) (c : Int × Int → Option Int) : Prop :=
 ∃ D : DataW Unit, w.ownsMap P k intR b n D ∧ ∀ (nm : Int × Int) (kl : Lit), keyOf P k (nameV nm) = some kl → Maps.has D kl = (c nm).isSome ∧ D.atKey kl (.lit (.int .i64 0)) = .lit (.int .i64 ((c nm).getD 0))
theorem MetIs.fr0 {S : Nat → Prop} (h : MetIs P k w b n c) (hf : Fr0 S w w') (hs : ¬ S b) : MetIs P k w' b n c := by
 obtain ⟨D, h1, h2⟩ := h
 refine ⟨D, ?_, h2⟩
 obtain ⟨es, clock, hb, r⟩ := h1
 exact ⟨es, clock, (hf.block b (Array.getElem?_eq_some_iff.1 hb).1 hs).trans hb, r⟩
theorem MetIs.lt (h : MetIs P k w b n c) : b < w.heap.size := by
 obtain ⟨D, h1, _⟩ := h
 exact h1.lt
theorem MetIs.look (h : MetIs P k w b n c) (K : KeyLaw P k) (ht : P.underlying t = some (.map k e)) (hz : (zeroValue e).run P w = .ok (.int .i64 0) w) {nm : Int × Int} {kl : Lit} (hk : keyOf P k (nameV nm) = some kl) :
  (Instr.lookup t (.map (some b)) (nameV nm) true).run P w = .ok (.tuple #[.int .i64 ((c nm).getD 0), .bool (c nm).isSome]) w ∧ (Instr.lookup t (.map (some b)) (nameV nm) false).run P w = .ok (.int .i64 ((c nm).getD 0)) w := by
 obtain ⟨D, h1, h2⟩ := h
 obtain ⟨ha, hb⟩ := h2 nm kl hk
 obtain ⟨v, ps, hr, hv⟩ := h1.look_ok (Keyed.of_law K) ht hz (show intR (.int .i64 0) = some (_, _) from rfl) hk
 obtain ⟨v', ps', hr', hv'⟩ := h1.lookup (Keyed.of_law K) ht hz (show intR (.int .i64 0) = some (_, _) from rfl) hk
 rw [hb] at hv hv'
 rw [intR_inv hv, ha] at hr
 rw [intR_inv hv'] at hr'
 exact ⟨hr, hr'⟩
/-- An entry is written. -/
theorem MetIs.up (h : MetIs P k w b n c) (K : KeyLaw P k) (ht : P.underlying t = some (.map k e)) (hn : n < maxLen) (hz : ∀ u : World, (zeroValue e).run P u = .ok (.int .i64 0) u) {nm : Int × Int} {kl : Lit} (hk : keyOf P k (nameV nm) = some kl) :
  ∃ (o1 : Obj) (st : Int), (Instr.mapEntry t (.map (some b)) (nameV nm)).run P w = .ok (.tuple #[.int .i64 ((c nm).getD 0), .int .i64 st]) (setBlock w b o1) ∧ (∀ w2 : World, w2.heap[b]? = some o1 → (Instr.lookup t (.map (some b)) (nameV nm) false).run P w2 = .ok (.int .i64 ((c nm).getD 0)) w2) ∧
   ∀ v : Int, ∃ o2 : Obj, (∀ w2 : World, w2.heap[b]? = some o1 → (Instr.entryStore t (.map (some b)) (.int .i64 st) (.int .i64 v)).run P w2 = .ok () (setBlock w2 b o2)) ∧
    ∀ w3 : World, w3.heap[b]? = some o2 → MetIs P k w3 b (n + 1) (fun m => if m = nm then some v else c m) := by
 obtain ⟨D, h1, h2⟩ := h
 have hD := h1.tidy (Keyed.of_law K)
 obtain ⟨v0, o1, st, hr, ⟨ps', hv0⟩, hlk, hst⟩ := entry_up h1 K ht hn hz (show intR (.int .i64 0) = some (_, _) from rfl) hk
 rw [(h2 nm kl hk).2] at hv0
 obtain rfl := intR_inv hv0
 refine ⟨o1, st, hr, hlk, fun v => ?_⟩
 obtain ⟨o2, g1, g2⟩ := hst (.int .i64 v) (.lit (.int .i64 v)) [] rfl
 refine ⟨o2, g1, fun w3 hw3 => ⟨_, g2 w3 hw3, fun m kl' hk' => ?_⟩⟩
 by_cases hm : m = nm
 ·subst hm
  rw [hk] at hk'
  cases hk'
  simp only [if_pos rfl]
  exact ⟨Maps.has_put_same hD.isMap ((Keyed.of_law K).key hk) _, Maps.atKey_put_same hD.isMap ((Keyed.of_law K).key hk) _ _⟩
 ·have hne : kl' ≠ kl := fun e => by
   subst e
   have := K.inj hk' hk
   unfold nameV at this
   simp only [Value.agg.injEq, Array.mk.injEq, List.cons.injEq, Value.int.injEq, true_and, and_true] at this
   exact hm (Prod.ext this.1 this.2)
  simp only [if_neg hm]
  rw [Maps.has_put_other hne, Maps.atKey_put_other hne]
  exact h2 m kl' hk'
end
end Go.Proofs.Ytmbjfmlicffclaa

/-
  Maps from keys of any kind to integers; keys, events as keys.
-/
namespace Go.Proofs.Ytmbjfmlicffclaa
open Go Go.RowKit Go.Maps Go.ChangeMaps
open Go.WideElems (Fit)
open Go.WideMaps (KeyLaw ArrKey)

section
variable {κ : Type} {P : Program} {k t e : TypeId} {w w' : World} {b n : Nat} {kv : κ → Value} {c : κ → Option Int}
/-- The map has the keys that c has, each with its number; it has at most n. -/
def MgIs (P : Program) (k : TypeId) (kv : κ → Value) (w : World) (b n : Nat) (c : κ → Option Int) : Prop :=
 ∃ D : DataW Unit, w.ownsMap P k intR b n D ∧ ∀ (nm : κ) (kl : Lit), keyOf P k (kv nm) = some kl → Maps.has D kl = (c nm).isSome ∧ D.atKey kl (.lit (.int .i64 0)) = .lit (.int .i64 ((c nm).getD 0))
theorem MgIs.fr0 {S : Nat → Prop} (h : MgIs P k kv w b n c) (hf : Fr0 S w w') (hs : ¬ S b) : MgIs P k kv w' b n c := by
 obtain ⟨D, h1, h2⟩ := h
 refine ⟨D, ?_, h2⟩
 obtain ⟨es, clock, hb, r⟩ := h1
 exact ⟨es, clock, (hf.block b (Array.getElem?_eq_some_iff.1 hb).1 hs).trans hb, r⟩
theorem MgIs.later (h : MgIs P k kv w b n c) (hf : Fr0 none' w w') : MgIs P k kv w' b n c := h.fr0 hf (fun h => h)
theorem MgIs.lt (h : MgIs P k kv w b n c) : b < w.heap.size := by
 obtain ⟨D, h1, _⟩ := h
 exact h1.lt
theorem mg_made (w : World) : MgIs P k kv (w.alloc (.map #[] 0)) w.heap.size 0 (fun _ => none) :=
 ⟨.map [], World.ownsMap_made w P k intR, fun nm kl _ => ⟨rfl, rfl⟩⟩
theorem MgIs.look (h : MgIs P k kv w b n c) (K : KeyLaw P k) (ht : P.underlying t = some (.map k e)) (hz : (zeroValue e).run P w = .ok (.int .i64 0) w) {nm : κ} {kl : Lit} (hk : keyOf P k (kv nm) = some kl) :
  (Instr.lookup t (.map (some b)) (kv nm) true).run P w = .ok (.tuple #[.int .i64 ((c nm).getD 0), .bool (c nm).isSome]) w ∧ (Instr.lookup t (.map (some b)) (kv nm) false).run P w = .ok (.int .i64 ((c nm).getD 0)) w := by
 obtain ⟨D, h1, h2⟩ := h
 obtain ⟨ha, hb⟩ := h2 nm kl hk
 obtain ⟨v, ps, hr, hv⟩ := h1.look_ok (Keyed.of_law K) ht hz (show intR (.int .i64 0) = some (_, _) from rfl) hk
 obtain ⟨v', ps', hr', hv'⟩ := h1.lookup (Keyed.of_law K) ht hz (show intR (.int .i64 0) = some (_, _) from rfl) hk
 rw [hb] at hv hv'
 rw [intR_inv hv, ha] at hr
 rw [intR_inv hv'] at hr'
 exact ⟨hr, hr'⟩
theorem mg_put [DecidableEq κ] (hinj : ∀ a b : κ, kv a = kv b → a = b) {D : DataW Unit} (hD : Maps.Tidy D) (K : KeyLaw P k) (h2 : ∀ (nm : κ) (kl : Lit), keyOf P k (kv nm) = some kl → Maps.has D kl = (c nm).isSome ∧ D.atKey kl (.lit (.int .i64 0)) = .lit (.int .i64 ((c nm).getD 0)))
  {nm : κ} {kl : Lit} (hk : keyOf P k (kv nm) = some kl) (v : Int) (m : κ) (kl' : Lit) (hk' : keyOf P k (kv m) = some kl') :
  Maps.has (D.put kl (.lit (.int .i64 v))) kl' = ((if m = nm then some v else c m) : Option Int).isSome ∧ (D.put kl (.lit (.int .i64 v))).atKey kl' (.lit (.int .i64 0)) = .lit (.int .i64 (((if m = nm then some v else c m) : Option Int).getD 0)) := by
 by_cases hm : m = nm
 ·subst hm
  rw [hk] at hk'
  cases hk'
  simp only [if_pos rfl]
  exact ⟨Maps.has_put_same hD.isMap ((Keyed.of_law K).key hk) _, Maps.atKey_put_same hD.isMap ((Keyed.of_law K).key hk) _ _⟩
 ·have hne : kl' ≠ kl := fun e => by
   subst e
   exact hm (hinj _ _ (K.inj hk' hk))
  simp only [if_neg hm]
  rw [Maps.has_put_other hne, Maps.atKey_put_other hne]
  exact h2 m kl' hk'
/-- A key is written. -/
theorem MgIs.put [DecidableEq κ] (h : MgIs P k kv w b n c) (hinj : ∀ a b : κ, kv a = kv b → a = b) (K : KeyLaw P k) (ht : P.underlying t = some (.map k e)) (hn : n < maxLen) {nm : κ} {kl : Lit} (hk : keyOf P k (kv nm) = some kl) (v : Int) :
  ∃ w', (Instr.mapUpdate t (.map (some b)) (kv nm) (.int .i64 v)).run P w = .ok () w' ∧ MgIs P k kv w' b (n + 1) (fun m => if m = nm then some v else c m) ∧ Fr0 (fun g => g = b) w w' := by
 obtain ⟨D, ho, h3⟩ := h
 have hD := ho.tidy (Keyed.of_law K)
 obtain ⟨w', hr, ho', hm⟩ := ho.store (Keyed.of_law K) ht hn hk (show intR (.int .i64 v) = some (_, _) from rfl)
 have hg := hm.grown
 exact ⟨w', hr, ⟨_, ho', fun m kl' hk' => mg_put hinj hD K h3 hk v m kl' hk'⟩, ⟨hg.os, hg.tape, hg.output, hg.size, fun i hi hs => hg.block i hi (fun e => hs (Option.some.inj e))⟩⟩
/-- An entry is written, in its two steps. -/
theorem MgIs.up [DecidableEq κ] (h : MgIs P k kv w b n c) (hinj : ∀ a b : κ, kv a = kv b → a = b) (K : KeyLaw P k) (ht : P.underlying t = some (.map k e)) (hn : n < maxLen) (hz : ∀ u : World, (zeroValue e).run P u = .ok (.int .i64 0) u) {nm : κ} {kl : Lit} (hk : keyOf P k (kv nm) = some kl) :
  ∃ (o1 : Obj) (st : Int), (Instr.mapEntry t (.map (some b)) (kv nm)).run P w = .ok (.tuple #[.int .i64 ((c nm).getD 0), .int .i64 st]) (setBlock w b o1) ∧ (∀ w2 : World, w2.heap[b]? = some o1 → (Instr.lookup t (.map (some b)) (kv nm) false).run P w2 = .ok (.int .i64 ((c nm).getD 0)) w2) ∧
   ∀ v : Int, ∃ o2 : Obj, (∀ w2 : World, w2.heap[b]? = some o1 → (Instr.entryStore t (.map (some b)) (.int .i64 st) (.int .i64 v)).run P w2 = .ok () (setBlock w2 b o2)) ∧
    ∀ w3 : World, w3.heap[b]? = some o2 → MgIs P k kv w3 b (n + 1) (fun m => if m = nm then some v else c m) := by
 obtain ⟨D, h1, h2⟩ := h
 have hD := h1.tidy (Keyed.of_law K)
 obtain ⟨v0, o1, st, hr, ⟨ps', hv0⟩, hlk, hst⟩ := entry_up h1 K ht hn hz (show intR (.int .i64 0) = some (_, _) from rfl) hk
 rw [(h2 nm kl hk).2] at hv0
 obtain rfl := intR_inv hv0
 refine ⟨o1, st, hr, hlk, fun v => ?_⟩
 obtain ⟨o2, g1, g2⟩ := hst (.int .i64 v) (.lit (.int .i64 v)) [] rfl
 exact ⟨o2, g1, fun w3 hw3 => ⟨_, g2 w3 hw3, fun m kl' hk' => mg_put hinj hD K h2 hk v m kl' hk'⟩⟩
end
/-! ### Keys and events as keys -/
theorem laid_outM : laidOutB Try.prog = true := by kernel_rfl
theorem ev_law : KeyLaw Try.prog 47 := deep_law_laid laid_outM (m := 3) (by omega) (of_decide_eq_true (by kernel_rfl)) (by kernel_rfl) (by rw [Try.underlying47])
/-- A number that a register holds. -/
def R64 (a : Int) : Prop := -9223372036854775808 ≤ a ∧ a ≤ 9223372036854775807
theorem wf_r64 {a : Int} (h : R64 a) : (Lit.int .i64 a).wf = true := by
 obtain ⟨h1, h2⟩ := h
 simp [Lit.wf, show IntKind.i64.min = -9223372036854775808 from by decide, show IntKind.i64.max = 9223372036854775807 from by decide]
 omega
theorem types_size2 : ∃ m, (Try.prog).types.size = m + 2 := ⟨(Try.prog).types.size - 2, by kernel_rfl⟩
def R64K (x : Key3) : Prop := R64 x.time ∧ R64 x.source ∧ R64 x.seq
def R64E (x : Ev) : Prop := R64K x.key ∧ R64 x.to ∧ R64 x.value
theorem evV_inj (a b : Ev) (h : evV a = evV b) : a = b := by
 unfold evV at h
 simp only [Value.agg.injEq, Array.mk.injEq, List.cons.injEq, Value.int.injEq, true_and, and_true] at h
 obtain ⟨⟨⟩, _, _⟩ := a
 obtain ⟨⟨⟩, _, _⟩ := b
 simp_all
theorem key_lits {m : Nat} {a b c : Int} (w1 : (Lit.int .i64 a).wf = true) (w2 : (Lit.int .i64 b).wf = true) (w3 : (Lit.int .i64 c).wf = true) : Try.prog.keyLits (m + 2) 45 [.int .i64 a, .int .i64 b, .int .i64 c] = some [.int .i64 a, .int .i64 b, .int .i64 c] := by
 have hc : Try.prog.cellsOf 45 = 3 := by kernel_rfl
 have hi : Try.prog.cellsOf 3 = 1 := by kernel_rfl
 unfold Program.keyLits
 simp only [Try.underlying45]
 rw [if_pos ⟨by rw [hc]; rfl, by kernel_rfl⟩]
 simp [hi, Program.keyLits, Try.underlying3, w1, w2, w3]
theorem ev_key_is {x : Ev} (h : R64E x) : ∃ kl, keyOf Try.prog 47 (evV x) = some kl := by
 have w1 := wf_r64 h.1.1
 have w2 := wf_r64 h.1.2.1
 have w3 := wf_r64 h.1.2.2
 have w4 := wf_r64 h.2.1
 have w5 := wf_r64 h.2.2
 refine ⟨.string (keyBytes [.int .i64 x.key.time, .int .i64 x.key.source, .int .i64 x.key.seq, .int .i64 x.to, .int .i64 x.value]), ?_⟩
 have hkt : Try.prog.keyType 47 = true := by kernel_rfl
 have hc : Try.prog.cellsOf 47 = 5 := by kernel_rfl
 have hc3 : Try.prog.cellsOf 45 = 3 := by kernel_rfl
 have hi : Try.prog.cellsOf 3 = 1 := by kernel_rfl
 have hi6 : Try.prog.cellsOf 2 = 1 := by kernel_rfl
 obtain ⟨m, hm⟩ := types_size2
 unfold keyOf evV
 simp only [Try.underlying47]
 rw [if_pos (by simp [hkt, Value.formed, Try.underlying47, hc]), hm]
 unfold Program.keyLits
 simp only [Try.underlying47, Value.cells]
 rw [if_pos ⟨by rw [hc]; rfl, by kernel_rfl⟩]
 have hk := key_lits (m := m) w1 w2 w3
 have h4 : Try.prog.keyLits (m + 2) 3 [.int .i64 x.to] = some [.int .i64 x.to] := by simp [Program.keyLits, Try.underlying3, w4]
 have h5 : Try.prog.keyLits (m + 2) 2 [.int .i64 x.value] = some [.int .i64 x.value] := by simp [Program.keyLits, Try.underlying2, w5]
 simp [hi, hi6, hc3, hk, h4, h5]
end Go.Proofs.Ytmbjfmlicffclaa

/-
  Calendars in plain words: events counted.
-/
namespace Go.Proofs.Ytmbjfmlicffclaa
open Go Go.RowKit

/-- The numbers say how often each event is there. -/
def CntIs (c : Ev → Option Int) (E : List Ev) : Prop := ∀ x, (c x).getD 0 = (E.count x : Int)
theorem CntIs.nil : CntIs (fun _ => none) [] := fun _ => rfl
theorem CntIs.perm {c : Ev → Option Int} {E F : List Ev} (h : CntIs c E) (hp : E.Perm F) : CntIs c F := fun x => by rw [h x, hp.count_eq]
theorem CntIs.more {c : Ev → Option Int} {E : List Ev} (h : CntIs c E) (x : Ev) : CntIs (fun m => if m = x then some ((c x).getD 0 + 1) else c m) (x :: E) := fun y => by
 show (if y = x then some ((c x).getD 0 + 1) else c y).getD 0 = _
 have h1 := h y
 by_cases hy : y = x
 ·subst hy
  rw [if_pos rfl, List.count_cons_self, Option.getD_some, h1]
  omega
 ·rw [if_neg hy, h1, List.count_cons_of_ne (fun e => hy e.symm)]
theorem CntIs.less {c : Ev → Option Int} {E : List Ev} {x : Ev} (h : CntIs c (x :: E)) : CntIs (fun m => if m = x then some ((c x).getD 0 - 1) else c m) E := fun y => by
 show (if y = x then some ((c x).getD 0 - 1) else c y).getD 0 = _
 have h1 := h y
 by_cases hy : y = x
 ·subst hy
  rw [List.count_cons_self] at h1
  rw [if_pos rfl, Option.getD_some, h1]
  omega
 ·rw [if_neg hy, h1, List.count_cons_of_ne (fun e => hy e.symm)]
theorem doC_mem {n : Nat} {E : List Ev} (h : GoodE n E) (a : Ca) : (∀ x ∈ (doC n E a).1, x ∈ E ∨ x = a.x) ∧ ∀ x ∈ (doC n E a).2.evs, x ∈ E := by
 by_cases hk : a.kind = 1
 ·obtain ⟨h1, h2⟩ := doC_put h hk
  refine ⟨fun x hx => ?_, fun x hx => by rw [h1] at hx; simp at hx⟩
  rcases h2 with ⟨_, hp⟩ | ⟨_, e⟩
  ·have := hp.mem_iff.1 hx
   rcases List.mem_cons.1 this with rfl | h
   ·exact .inr rfl
   ·exact .inl h
  ·rw [e] at hx; exact .inl hx
 ·have hp := (doC_out h hk).1
  exact ⟨fun x hx => .inl (hp.mem_iff.2 (List.mem_append_right _ hx)), fun x hx => hp.mem_iff.2 (List.mem_append_left _ hx)⟩
theorem stC_all {P : Ev → Prop} {n : Nat} : ∀ (A : List Ca) {E : List Ev}, GoodE n E → (∀ a ∈ A, P a.x) → (∀ x ∈ E, P x) → ∀ x ∈ stC n E A, P x
 | [], _, _, _, hE => hE
 | a :: r, _, h, hA, hE => by
  rw [stC_cons]
  refine stC_all r (h.act a) (fun b hb => hA b (List.mem_cons_of_mem _ hb)) (fun x hx => ?_)
  rcases (doC_mem h a).1 x hx with h1 | rfl
  ·exact hE x h1
  ·exact hA a List.mem_cons_self
theorem madeV_r64 {x : Sm5} (h : x.ok) : R64E (madeV x) := by
 obtain ⟨h1, h2, h3, h4, h5⟩ := h
 unfold R64E R64K R64 madeV
 simp only
 omega
theorem acts_r64 {l : List Smc} (h : ∀ x ∈ l, x.ok) (i : Nat) : ∀ a ∈ (l.take i).map actC, R64E a.x := fun a ha => by
 obtain ⟨x, hx, rfl⟩ := List.mem_map.1 ha
 exact madeV_r64 (h x (List.mem_of_mem_take hx)).2
end Go.Proofs.Ytmbjfmlicffclaa

/-
  CalendarKeeps.
-/
namespace Go.Proofs.Ytmbjfmlicffclaa
open Go Go.RowKit
attribute [local go_sem ↓] Go.wp_at_zero Go.wp_at_succ
attribute [local go_sem] Oper.semAt_some wide_fn wide_depth wide_fnR wide_depthR

set_option maxRecDepth 100000 in
set_option maxHeartbeats 4000000 in
theorem CalendarKeeps_any {w : World} {a : Option Addr} {m cap : Nat} {c : Int} (l : List Smc) (h : SmcsIn w a l) (hl : l.length = m) (hc : m ≤ cap) (hc0 : 0 ≤ c ∧ c < 256) :
  Calls Try.prog 5 #[.slice a m cap, .int .u8 c] w fun e w' => e = .returned (.bool true) ∧ Fr0 none' w w' := by
 obtain ⟨n, hn⟩ : ∃ n : Nat, c % 21 = (n : Int) := ⟨(c % 21).toNat, by omega⟩
 have hn1 : n ≤ 20 := by omega
 have q1 : Int.tmod c 21 = (n : Int) := by rw [Int.tmod_eq_emod_of_nonneg hc0.1, hn]
 have HA := Lib.hid (fun (W : World) => cawake_any W)
 have HX := Lib.hid (fun (W : World) (hf : Fr0 none' w W) => Acts_any (most := 100) l (h.later hf) hl hc (by omega))
 have hok : ∀ x ∈ l, x.ok := fun x hx => by
  obtain ⟨j, hj⟩ := List.getElem?_of_mem hx
  exact (h j x hj).1
 have HOK := Lib.hid hok
 clear h hl hc hn hc0 hok
 go_enter Try.func5, Try.ntmps5
 go_wp2_with fail
 refine (HA.out _).mono ?_
 rintro e w1 ⟨rfl, hf⟩
 have F := Lib.hid hf
 clear hf HA
 go_wp2_with fail
 refine (HX.out _ F.out).mono ?_
 rintro e w2 ⟨v, rfl, hr, hf⟩
 obtain ⟨A, hA⟩ : ∃ A, (l.take 100).map actC = A := ⟨_, rfl⟩
 have hk : ∀ x ∈ A, 1 ≤ x.kind ∧ x.kind ≤ 5 := by rw [← hA]; exact kinds_acts _
 have hM : A.length ≤ 100 := by rw [← hA, List.length_map, List.length_take]; omega
 rw [hA] at hr
 obtain ⟨M, hMl⟩ : ∃ M, A.length = M := ⟨_, rfl⟩
 rw [hMl] at hr hM
 obtain ⟨aa, ac, rfl, _, hac, hin⟩ := CasIn.of_own hr
 have F := Lib.hid (F.out.trans hf)
 have HI := Lib.hid hin
 have HK := Lib.hid hk
 have Hl := Lib.hid hMl
 have HR64 := Lib.hid (show ∀ x ∈ A, R64E x.x by rw [← hA]; exact acts_r64 HOK.out 100)
 clear hA hk hr hMl hin hf HX HOK
 go_wp2_with fail
 have HP := Play_told (n := 0) (cap := 0) (ca := ac) (playC_ok (GoodE.nil n) (by omega) HK.out) (esIn_nilC w2 none) rfl (by omega) (by omega) HI.out Hl.out (by omega) (kinds_wide HK.out)
 refine HP.mono ?_
 clear HP
 rintro e w3 ⟨oa, oc, la, lc, ys, rfl, hoc, ho, hys, hyt, hye, hf⟩
 have hgE : GoodE n (stC n [] A) := GoodE.acts A (GoodE.nil n)
 obtain ⟨E, hE⟩ : ∃ E, stC n [] A = E := ⟨_, rfl⟩
 rw [hE] at ho hoc hgE ⊢
 obtain ⟨N, hN⟩ : ∃ N, E.length = N := ⟨_, rfl⟩
 rw [hN] at hoc ⊢
 rw [tlC_length, Hl.out]
 have hNn : N ≤ n := by rw [← hN]; exact hgE.le
 have HI := Lib.hid (HI.out.later hf)
 have F := Lib.hid (F.out.trans hf)
 have HO := Lib.hid ho
 have HY := Lib.hid hys
 have HYT := Lib.hid hyt
 have HYE := Lib.hid (TdEv.of_told hyt hye (by omega) (tlC_le A (GoodE.nil n)))
 have HN := Lib.hid hN
 have HE := Lib.hid hE
 have HYL := Lib.hid (show ys.length = M by rw [← Hl.out, ← tlC_length n A [], ← hyt, List.length_map])
 clear ho hys hyt hye hf hoc hN hE hgE q1
 have z1 : ((M : Int) != (M : Int)) = false := by simp
 have z2 : decide ((N : Int) > (n : Int)) = false := decide_eq_false (by omega)
 have z3 : decide ((n : Int) < (N : Int)) = false := decide_eq_false (by omega)
 have z4 : decide (n < N) = false := decide_eq_false (by omega)
 have hmm := @run_makeMap Try.prog
 go_wp2_with fail
 clear z1 z2 z3 z4 hmm
 obtain ⟨B, hB⟩ : ∃ B, w3.heap.size = B := ⟨_, rfl⟩
 obtain ⟨W0, hW0⟩ : ∃ W, w3.alloc (.map #[] 0) = W := ⟨_, rfl⟩
 have HM0 := Lib.hid (show MgIs Try.prog 47 evV W0 B 0 (fun _ => none) by rw [← hW0, ← hB]; exact mg_made w3)
 have F0 := Lib.hid (show Fr0 none' w3 W0 by rw [← hW0]; exact (Fr0.refl _ _).alloc _)
 have HB := Lib.hid hB
 rw [hW0]
 try rw [hB]
 clear hW0 hB
 go_loopw [12, 13, 14, 15, 17, 53] (fun sz _ _ _ _ i wr => ∃ (k nn : Nat) (c : Ev → Option Int), k ≤ M ∧ i = .int .i64 k ∧ sz = .int .i64 ((stC n [] (A.take k)).length : Nat) ∧ nn ≤ 30 * k ∧ Hid (CntIs c (stC n [] (A.take k))) ∧ Hid (MgIs Try.prog 47 evV wr B nn c) ∧ Hid (Fr0 none' w3 wr)) (fun _ _ _ _ _ i _ => M - (Go.RowKit.intOf i).toNat)
 case atStart => exact ⟨0, 0, _, Nat.zero_le _, rfl, rfl, Nat.zero_le _, CntIs.nil, HM0, F0⟩
 case round =>
  obtain ⟨k, nn, cm, hk, rfl, rfl, hnn, hcnt, hmg, hfr⟩ := hrel
  have hgk : GoodE n (stC n [] (A.take k)) := GoodE.acts _ (GoodE.nil n)
  have hst := fun a (ha : A[k]? = some a) => stC_snoc (n := n) (E := []) ha
  have htl := fun a (ha : A[k]? = some a) => tlC_at (n := n) (E := []) ha
  have hke : ∀ z ∈ stC n [] (A.take k), R64E z := stC_all (P := R64E) (A.take k) (GoodE.nil n) (fun z hz => HR64.out z (List.mem_of_mem_take hz)) (fun z hz => by simp at hz)
  obtain ⟨Ek, hEk⟩ : ∃ E, stC n [] (A.take k) = E := ⟨_, rfl⟩
  have HEk := Lib.hid hEk
  rw [hEk] at hgk hcnt hst htl hke ⊢
  obtain ⟨sz, hsz⟩ : ∃ s, Ek.length = s := ⟨_, rfl⟩
  rw [hsz]
  have Hsz := Lib.hid hsz
  have hszn : sz ≤ n := by rw [← hsz]; exact hgk.le
  by_cases hlt : k < M
  ·obtain ⟨x, hx⟩ : ∃ x, A[k]? = some x := ⟨_, List.getElem?_eq_getElem (by rw [Hl.out]; exact hlt)⟩
   obtain ⟨y, hy⟩ : ∃ y, ys[k]? = some y := ⟨_, List.getElem?_eq_getElem (by rw [HYL.out]; exact hlt)⟩
   have hyt : y.tl = (doC n Ek x).2 := by
    have h1 := htl x hx
    rw [← HYT.out, List.getElem?_map, hy] at h1
    exact Option.some.inj h1
   have hst := hst x hx
   obtain ⟨g, o, rfl, hxc⟩ := (HI.out.later hfr.out) k x hx
   obtain ⟨x0, x1, x2, x3, x4, x5, x6⟩ := hxc
   obtain ⟨g2, o2, rfl, y0, y1⟩ := (HY.out.later hfr.out) k y hy
   have k1 : (0 : Int) ≤ (k : Int) := by omega
   have k2 : (k : Int) < (M : Int) := by omega
   obtain ⟨ab, hab⟩ : ∃ b, wr.heap.size = b := ⟨_, rfl⟩
   obtain ⟨W1, hW1⟩ : ∃ V, wr.alloc (.cells #[.int .u8 x.kind, .int .i64 x.x.key.time, .int .i64 x.x.key.source, .int .i64 x.x.key.seq, .int .i64 x.x.to, .int .i64 x.x.value, .int .i64 x.time] 49) = V := ⟨_, rfl⟩
   have f1 : Fr0 none' wr W1 := by rw [← hW1]; exact (Fr0.refl _ _).alloc _
   have b1 : W1.heap[ab]? = some (.cells #[.int .u8 x.kind, .int .i64 x.x.key.time, .int .i64 x.x.key.source, .int .i64 x.x.key.seq, .int .i64 x.x.to, .int .i64 x.x.value, .int .i64 x.time] 49 (0, 0)) := by rw [← hW1, ← hab]; exact World.alloc_heap_new _ _
   have s1 : W1.heap.size = ab + 1 := by rw [← hW1, ← hab]; exact World.size_alloc _ _
   obtain ⟨tb, htb⟩ : ∃ b, W1.heap.size = b := ⟨_, rfl⟩
   have Htb := Lib.hid (show tb = ab + 1 by rw [← htb]; exact s1)
   have v0 := f1.later y0
   have v1 := f1.later y1
   obtain ⟨W2, hW2⟩ : ∃ V, W1.alloc (.cells #[.int .i64 y.err, .slice y.sa y.sn y.sc] 51) = V := ⟨_, rfl⟩
   have f2 : Fr0 none' W1 W2 := by rw [← hW2]; exact (Fr0.refl _ _).alloc _
   have b2 : W2.heap[tb]? = some (.cells #[.int .i64 y.err, .slice y.sa y.sn y.sc] 51 (0, 0)) := by rw [← hW2, ← htb]; exact World.alloc_heap_new _ _
   have b3 := (f2.block ab (Array.getElem?_eq_some_iff.1 b1).1 id).trans b1
   have a0 := cells_in b3 0
   have a1 := cells_in b3 1
   have a2 := cells_in b3 2
   have a3 := cells_in b3 3
   have a4 := cells_in b3 4
   have a5 := cells_in b3 5
   have a6 := cells_in b3 6
   have t0 := cells_in b2 0
   have t1 := cells_in b2 1
   simp at a0 a1 a2 a3 a4 a5 a6 t0 t1
   have HM := Lib.hid ((hmg.out.later f1).later f2)
   have FR := Lib.hid ((hfr.out.trans f1).trans f2)
   have HB3 := Lib.hid b3
   have HB2 := Lib.hid b2
   have HRx := Lib.hid (HR64.out x (List.mem_of_getElem? hx))
   have Hyt := Lib.hid hyt
   have Hyk := Lib.hid hy
   have Hst := Lib.hid hst
   have HGk := Lib.hid hgk
   have Hke := Lib.hid hke
   have HYEk := Lib.hid ((HYE.out.later FR.out) y (List.mem_of_getElem? hy))
   have Habs := Lib.hid (show B < ab by rw [← hab]; exact hmg.out.lt)
   have Hkx := Lib.hid (HK.out x (List.mem_of_getElem? hx))
   clear hx hy hyt hst hgk hke hEk hsz htl f1 f2 b1 b2 b3 s1 hmg hfr
   by_cases hkd : x.kind = 1
   ·have hput := doC_put HGk.out hkd
    have d1 : (x.kind == 1) = true := by simp [hkd]
    have hev : y.evs = [] := by have h1 := hput.1; rw [← Hyt.out] at h1; exact h1
    have hsn : y.sn = 0 := by rw [← HYEk.out.2.1, hev]; rfl
    have Hsn := Lib.hid hsn
    rw [hsn] at t1
    have hnx := HGk.out.act x
    rw [← Hst.out] at hnx
    have hlx := hnx.le
    by_cases he : y.err = 0
    ·have d2 : (y.err == 0) = true := by simp [he]
     have hpe : (stC n [] (A.take (k + 1))).Perm (x.x :: Ek) := by
      rw [Hst.out]
      rcases hput.2 with ⟨_, h⟩ | ⟨h, _⟩
      ·exact h
      ·rw [← Hyt.out] at h; exact absurd he h
     have hlen := hpe.length_eq
     rw [List.length_cons, Hsz.out] at hlen
     have Hpe := Lib.hid hpe
     clear hpe hput hkd hev hsn he hnx
     go_wp2_with fail
     have hcb : 0 ≤ (cm x.x).getD 0 ∧ (cm x.x).getD 0 ≤ 1000 := by
      have h1 := hcnt.out x.x
      have h2 : Ek.count x.x ≤ Ek.length := List.count_le_length
      have := HGk.out.le
      omega
     obtain ⟨WD, hWD⟩ : ∃ V, (W2).drew = V := ⟨_, rfl⟩
     have FD := Lib.hid (show Fr0 none' (W2) WD by rw [← hWD]; exact (Fr0.refl _ _).drew)
     have HMD := Lib.hid (HM.out.later FD.out)
     obtain ⟨kl, hkl⟩ := ev_key_is HRx.out
     have hlk := (HMD.out.look ev_law Try.underlying43 (Try.zeroValue3 WD) hkl).2
     obtain ⟨o1, st, hr1, hl1, hup⟩ := HMD.out.up evV_inj ev_law Try.underlying43 (by unfold maxLen; omega) (fun u => Try.zeroValue3 u) hkl
     obtain ⟨cv, hcv⟩ : ∃ v, (cm (x.x)).getD 0 = v := ⟨_, rfl⟩
     rw [hcv] at hlk hr1 hl1 hcb
     unfold evV at hlk hr1 hl1
     obtain ⟨o2, hr2, hm2⟩ := hup (cv + 1)
     have w1' : IntKind.i64.wrap (cv + 1) = cv + 1 := IntWalk.i64_in _ (by omega)
     have w2' : IntKind.i64.wrap (cv - 1) = cv - 1 := IntWalk.i64_in _ (by omega)
     have Hcv := Lib.hid hcv
     have Hkl := Lib.hid hkl
     have Hr1 := Lib.hid hr1
     have Hr2 := Lib.hid hr2
     have Hl1 := Lib.hid hl1
     have Hm2 := Lib.hid hm2
     have Hcb := Lib.hid hcb
     clear hup hkl hr1 hr2 hl1 hm2 hcv hcb
     refine wp_region_Z (z := 7) (S := fun W' => EAt W' ab 1 x.x ∧ (Instr.lookup 43 (.map (some B)) (.agg #[.int .i64 x.x.key.time, .int .i64 x.x.key.source, .int .i64 x.x.key.seq, .int .i64 x.x.to, .int .i64 x.x.value]) false).run Try.prog W' = .ok (.int .i64 cv) W') (by kernel_rfl) ?_
     rw [hWD]
     clear hWD
     have hcell : ∀ V, Fr0 (fun j => j = B) W2 V → EAt V ab 1 x.x := fun V hf => by
      have hb := (hf.block ab (Array.getElem?_eq_some_iff.1 HB3.out).1 (fun e => by have e : ab = B := e; have := Habs.out; omega)).trans HB3.out
      exact ⟨by rw [cells_in hb]; rfl, by rw [cells_in hb]; rfl, by rw [cells_in hb]; rfl, by rw [cells_in hb]; rfl, by rw [cells_in hb]; rfl⟩
     have hHeld : EAt WD ab 1 x.x ∧ (Instr.lookup 43 (.map (some B)) (.agg #[.int .i64 x.x.key.time, .int .i64 x.x.key.source, .int .i64 x.x.key.seq, .int .i64 x.x.to, .int .i64 x.x.value]) false).run Try.prog WD = .ok (.int .i64 cv) WD := ⟨hcell WD (FD.out.mono (fun _ _ h => h.elim)), hlk⟩
     clear hlk
     refine takeZ_on (i := 0) (v := .map (some B)) rfl (by kernel_rfl) (by kernel_rfl) (by kernel_rfl) (by kernel_rfl) (fun _ _ _ h => h) (by kernel_rfl) (fun W' hSW => ?_) (by assumption) ?_
     ·obtain ⟨⟨s1, s2, s3, s4, s5⟩, s6⟩ := hSW
      (try simp only [Nat.zero_add, Nat.reduceAdd] at s1 s2 s3 s4 s5)
      first | (go_simp; done) | exact rfl | (go_simp; rfl) | (go_simp; omega)
     try simp only [pUt, pUn, sEt, sEz, sEs]
     refine takeZ_on (i := 1) (v := .pointer (some ⟨ab, 1, none⟩)) rfl (by kernel_rfl) (by kernel_rfl) (by kernel_rfl) (by kernel_rfl) (fun _ _ _ h => h) (by kernel_rfl) (fun W' hSW => ?_) (by assumption) ?_
     ·obtain ⟨⟨s1, s2, s3, s4, s5⟩, s6⟩ := hSW
      (try simp only [Nat.zero_add, Nat.reduceAdd] at s1 s2 s3 s4 s5)
      first | (go_simp; done) | exact rfl | (go_simp; rfl) | (go_simp; omega)
     try simp only [pUt, pUn, sEt, sEz, sEs]
     refine takeZ_on (i := 2) (v := .agg #[.int .i64 x.x.key.time, .int .i64 x.x.key.source, .int .i64 x.x.key.seq, .int .i64 x.x.to, .int .i64 x.x.value]) rfl (by kernel_rfl) (by kernel_rfl) (by kernel_rfl) (by kernel_rfl) (fun _ _ _ h => h) (by kernel_rfl) (fun W' hSW => ?_) (by assumption) ?_
     ·obtain ⟨⟨s1, s2, s3, s4, s5⟩, s6⟩ := hSW
      (try simp only [Nat.zero_add, Nat.reduceAdd] at s1 s2 s3 s4 s5)
      first | (go_simp; done) | exact rfl | (go_simp; rfl) | (go_simp; omega)
     try simp only [pUt, pUn, sEt, sEz, sEs]
     refine takeZ_on (i := 3) (v := .int .i64 cv) rfl (by kernel_rfl) (by kernel_rfl) (by kernel_rfl) (by kernel_rfl) (fun _ _ _ h => h) (by kernel_rfl) (fun W' hSW => ?_) (by assumption) ?_
     ·obtain ⟨⟨s1, s2, s3, s4, s5⟩, s6⟩ := hSW
      (try simp only [Nat.zero_add, Nat.reduceAdd] at s1 s2 s3 s4 s5)
      first | (go_simp; done) | exact rfl | (go_simp; rfl) | (go_simp; omega)
     try simp only [pUt, pUn, sEt, sEz, sEs]
     refine takeZ_on (i := 4) (v := .int .i64 (cv + 1)) rfl (by kernel_rfl) (by kernel_rfl) (by kernel_rfl) (by kernel_rfl) (fun _ _ _ h => h) (by kernel_rfl) (fun W' hSW => ?_) (by assumption) ?_
     ·obtain ⟨⟨s1, s2, s3, s4, s5⟩, s6⟩ := hSW
      (try simp only [Nat.zero_add, Nat.reduceAdd] at s1 s2 s3 s4 s5)
      first | (go_simp; done) | exact rfl | (go_simp; rfl) | (go_simp; omega)
     try simp only [pUt, pUn, sEt, sEz, sEs]
     refine takeZ_call (i := 5) rfl (by kernel_rfl) (by kernel_rfl) (fun K hK => ?_)
     have hr1 := Hr1.out
     go_simp
     clear hr1
     obtain ⟨W6, hW6⟩ : ∃ W, ChangeMaps.setBlock WD B o1 = W := ⟨_, rfl⟩
     have F6 := Lib.hid (show Fr0 (fun j => j = B) WD W6 by rw [← hW6]; exact (Fr0.refl (fun j => j = B) WD).setBlock (fun _ => rfl) _)
     have hB6 : W6.heap[B]? = some o1 := by rw [← hW6]; exact setBlock_same (Array.getElem?_eq_getElem HMD.out.lt)
     rw [hW6]
     have hHeld6 : EAt W6 ab 1 (x.x) ∧ (Instr.lookup 43 (.map (some B)) (.agg #[.int .i64 (x.x).key.time, .int .i64 (x.x).key.source, .int .i64 (x.x).key.seq, .int .i64 (x.x).to, .int .i64 (x.x).value]) false).run Try.prog W6 = .ok (.int .i64 cv) W6 := ⟨hcell W6 (F6.out |> fun f => ((FD.out.mono (fun _ _ h => h.elim)).trans f)), Hl1.out W6 hB6⟩
     have hr2 := Hr2.out W6 hB6
     have Hr2 := Lib.hid hr2
     clear hW6 hB6 hHeld hr2
     refine hK.out _ _ (.inr hHeld6) ?_
     clear hK K
     try simp only [pUt, pUn, sEt, sEz, sEs]
     refine takeZ_call (i := 6) rfl (by kernel_rfl) (by kernel_rfl) (fun K hK => ?_)
     go_simp
     refine hK.out _ _ (.inr hHeld6) ?_
     clear hK K
     try simp only [pUt, pUn, sEt, sEz, sEs]
     refine takeZ_call (i := 7) rfl (by kernel_rfl) (by kernel_rfl) (fun K hK => ?_)
     have hr2 := Hr2.out
     go_simp
     clear hr2
     obtain ⟨W7, hW7⟩ : ∃ W, ChangeMaps.setBlock W6 B o2 = W := ⟨_, rfl⟩
     have F7 := Lib.hid (show Fr0 (fun j => j = B) WD W7 by rw [← hW7]; exact F6.out.trans ((Fr0.refl (fun j => j = B) W6).setBlock (fun _ => rfl) _))
     have M7 := Lib.hid (Hm2.out W7 (by rw [← hW7]; exact setBlock_same (Array.getElem?_eq_getElem (Nat.lt_of_lt_of_le HMD.out.lt F6.out.size))))
     rw [hW7]
     clear hW7
     refine hK.out _ _ (.inl rfl) ?_
     clear hK K hHeld6
     try simp only [pUt, pUn, sEt, sEz, sEs]
     refine wpAnyZ_done (by kernel_rfl) ?_ _
     have F27 := Lib.hid (show Fr0 (fun j => j = B) (W2) W7 from (FD.out.mono (fun _ _ h => h.elim)).trans F7.out)
     have FR := Lib.hid (FR.out.trans' F27.out (fun j hj e => by have := HB.out; have e : j = B := e; omega))
     have hb2 := (F27.out.block tb (Array.getElem?_eq_some_iff.1 HB2.out).1 (fun e => by have e : tb = B := e; have := Htb.out; have := Habs.out; omega)).trans HB2.out
     have p0 := cells_in hb2 0
     have p1 := cells_in hb2 1
     simp at p0 p1
     rw [Hsn.out] at p1
     have hc2 := (hcnt.out.more x.x).perm Hpe.out.symm
     rw [Hcv.out] at hc2
     have Hc2 := Lib.hid hc2
     have hs2 : (stC n [] (A.take (k + 1))).length = sz + 1 := hlen
     have w3 : IntKind.i64.wrap ((sz : Int) + 1) = (sz : Int) + 1 := IntWalk.i64_in _ (by omega)
     have d3 : decide ((sz : Int) + 1 > (n : Int)) = false := decide_eq_false (by omega)
     have d4 : decide ((n : Int) < (sz : Int) + 1) = false := decide_eq_false (by omega)
     have Hs2 := Lib.hid hs2
     clear hs2 hc2 hb2 hlen hcell
     go_wp2_with fail
     go_roundw
     case rel => exact ⟨k + 1, nn + 1, _, by omega, by go_num, by rw [Hs2.out]; push_cast; rfl, by omega, Hc2, M7, FR⟩
     case measure => simp [Go.RowKit.intOf]; omega
    ·have d2 : (y.err == 0) = false := beq_eq_false_iff_ne.2 he
     have hsame : stC n [] (A.take (k + 1)) = Ek := by
      rw [Hst.out]
      rcases hput.2 with ⟨h, _⟩ | ⟨_, h⟩
      ·rw [← Hyt.out] at h; exact absurd h he
      ·exact h
     have Hsame := Lib.hid hsame
     have d3 : decide ((sz : Int) > (n : Int)) = false := decide_eq_false (by omega)
     have d4 : decide ((n : Int) < (sz : Int)) = false := decide_eq_false (by omega)
     clear hsame hput hkd hev hsn he hnx hlx
     go_wp2_with fail
     go_roundw
     case rel => exact ⟨k + 1, nn, cm, by omega, by go_num, by rw [Hsame.out, Hsz.out], by omega, by rw [Hsame.out]; exact hcnt, HM, FR⟩
     case measure => simp [Go.RowKit.intOf]; omega
   ·have d1 : (x.kind == 1) = false := beq_eq_false_iff_ne.2 hkd
    have hout := doC_out HGk.out hkd
    have hasc := (told_good HGk.out x).asc
    rw [← Hyt.out] at hout hasc
    rw [← Hst.out] at hout
    have hgn : GoodE n (stC n [] (A.take (k + 1))) := GoodE.acts _ (GoodE.nil n)
    obtain ⟨E', hE'⟩ : ∃ E', stC n [] (A.take (k + 1)) = E' := ⟨_, rfl⟩
    rw [hE'] at hout hgn
    have HE' := Lib.hid hE'
    have hout : Ek.Perm (y.evs ++ E') ∧ (y.err ≠ 0 → y.evs = []) := hout
    have hasc : AscE y.evs := hasc
    have Hout := Lib.hid hout
    have HGn := Lib.hid hgn
    have hsn20 : y.sn ≤ 20 := by
     have h1 := hout.1.length_eq
     rw [List.length_append, HYEk.out.2.1] at h1
     have := HGk.out.le
     omega
    have HSo := Lib.hid (Sorted_any (w := W2) (cap := y.sc) y.evs HYEk.out.1 HYEk.out.2.1 HYEk.out.2.2)
    rw [show decide (AscE y.evs) = true from decide_eq_true hasc] at HSo
    clear hout hasc hE' hgn
    by_cases he : y.err = 0
    ·have d2 : (y.err != 0) = false := by simp [he]
     clear hkd he
     go_wp2_with fail
     refine HSo.out.mono ?_
     rintro e w4 ⟨rfl, hf4⟩
     have hb2 := (hf4.block tb (Array.getElem?_eq_some_iff.1 HB2.out).1 id).trans HB2.out
     have p0 := cells_in hb2 0
     have p1 := cells_in hb2 1
     simp at p0 p1
     have HM := Lib.hid (HM.out.later hf4)
     have FR := Lib.hid (FR.out.trans hf4)
     clear hf4 hb2 HSo a0 a1 a2 a3 a4 a5 a6 t0 t1 hW1 hW2 hab htb v0 v1 x0 x1 x2 x3 x4 x5 x6 y0 y1
     go_wp2_with fail
     have hc0 := hcnt.out.perm Hout.out.1
     have hl0 : (y.evs ++ E').length = sz := by rw [← Hout.out.1.length_eq, Hsz.out]
     have Hl0 := Lib.hid hl0
     have Hc0 := Lib.hid hc0
     clear hc0 hl0 p0 p1 hcnt
     go_loopw [12, 17, 104] (fun s _ i wr => ∃ (j nj : Nat) (cj : Ev → Option Int), j ≤ y.sn ∧ i = .int .i64 j ∧ s = .int .i64 ((y.evs.drop j ++ E').length : Nat) ∧ nj ≤ 30 * k + j ∧ Hid (CntIs cj (y.evs.drop j ++ E')) ∧ Hid (MgIs Try.prog 47 evV wr B nj cj) ∧ Hid (Fr0 none' w3 wr)) (fun _ _ i _ => y.sn - (Go.RowKit.intOf i).toNat)
     case atStart => exact ⟨0, nn, cm, Nat.zero_le _, rfl, by rw [List.drop_zero, Hl0.out], by omega, Hc0, HM, FR⟩
     case round =>
      obtain ⟨j, nj, cj, hj, rfl, rfl, hnj, hcj, hmj, hfj⟩ := hrel
      obtain ⟨sj, hsj⟩ : ∃ s, (y.evs.drop j ++ E').length = s := ⟨_, rfl⟩
      rw [hsj]
      by_cases hlj : j < y.sn
      ·obtain ⟨z, hz⟩ : ∃ z, y.evs[j]? = some z := ⟨_, List.getElem?_eq_getElem (by rw [HYEk.out.2.1]; exact hlj)⟩
       have hdz : y.evs.drop j ++ E' = z :: (y.evs.drop (j + 1) ++ E') := by
        obtain ⟨hi, he⟩ := List.getElem?_eq_some_iff.1 hz
        rw [List.drop_eq_getElem_cons hi, he]; rfl
       rw [hdz] at hcj hsj
       rw [List.length_cons] at hsj
       have hz64 : R64E z := Hke.out z (Hout.out.1.mem_iff.2 (List.mem_append_left _ (List.mem_of_getElem? hz)))
       have HRx := Lib.hid hz64
       obtain ⟨g5, o5, hya, w0, w1'', w2'', w3', w4'⟩ := ((HYE.out.later hfj.out) y (List.mem_of_getElem? Hyk.out)).1 j z hz
       have Hya := Lib.hid hya
       have hcb : 0 ≤ (cj z).getD 0 ∧ (cj z).getD 0 ≤ 1000 := by
        have h1 := hcj.out z
        have h2 : (z :: (y.evs.drop (j + 1) ++ E')).count z ≤ _ := List.count_le_length
        rw [List.length_cons, hsj] at h2
        have h3 := Hl0.out
        have h4 : (y.evs.drop (j + 1)).length ≤ y.evs.length := by rw [List.length_drop]; omega
        rw [List.length_append] at hsj h3
        omega
       have hcz : (cj z).getD 0 - 1 = ((y.evs.drop (j + 1) ++ E').count z : Int) := by
        have h1 := hcj.out z
        rw [List.count_cons_self] at h1
        omega
       have y1' : (0 : Int) ≤ (j : Int) := by omega
       have y2' : (j : Int) < (y.sn : Int) := by omega
       have hs100 : sj ≤ 1000 := by
        have h3 := Hl0.out
        have h4 : (y.evs.drop (j + 1)).length ≤ y.evs.length := by rw [List.length_drop]; omega
        rw [List.length_append] at hsj h3
        omega
       have Hsj := Lib.hid hsj
       clear hz hdz hz64 hsj
       obtain ⟨xb, hxb⟩ : ∃ b, (wr).heap.size = b := ⟨_, rfl⟩
       obtain ⟨W2, hW2⟩ : ∃ V, (wr).alloc (.cells #[.int .i64 z.key.time, .int .i64 z.key.source, .int .i64 z.key.seq, .int .i64 z.to, .int .i64 z.value] 47) = V := ⟨_, rfl⟩
       have f2 : Fr0 none' (wr) W2 := by rw [← hW2]; exact (Fr0.refl _ _).alloc _
       have b2 : W2.heap[xb]? = some (.cells #[.int .i64 z.key.time, .int .i64 z.key.source, .int .i64 z.key.seq, .int .i64 z.to, .int .i64 z.value] 47 (0, 0)) := by rw [← hW2, ← hxb]; exact World.alloc_heap_new _ _
       have HM := Lib.hid (hmj.out.later f2)
       have FR := Lib.hid (hfj.out.trans f2)
       have Hxbs := Lib.hid (show B < xb by rw [← hxb]; exact hmj.out.lt)
       have HBX := Lib.hid b2
       clear f2 b2 hmj hfj
       rw [hya]
       go_wp2_with fail
       clear hW2 hxb
       obtain ⟨WD, hWD⟩ : ∃ V, (W2).drew = V := ⟨_, rfl⟩
       have FD := Lib.hid (show Fr0 none' (W2) WD by rw [← hWD]; exact (Fr0.refl _ _).drew)
       have HMD := Lib.hid (HM.out.later FD.out)
       obtain ⟨kl, hkl⟩ := ev_key_is HRx.out
       have hlk := (HMD.out.look ev_law Try.underlying43 (Try.zeroValue3 WD) hkl).2
       obtain ⟨o1, st, hr1, hl1, hup⟩ := HMD.out.up evV_inj ev_law Try.underlying43 (by unfold maxLen; omega) (fun u => Try.zeroValue3 u) hkl
       obtain ⟨cv, hcv⟩ : ∃ v, (cj (z)).getD 0 = v := ⟨_, rfl⟩
       rw [hcv] at hlk hr1 hl1 hcb
       unfold evV at hlk hr1 hl1
       obtain ⟨o2, hr2, hm2⟩ := hup (cv - 1)
       have w1' : IntKind.i64.wrap (cv + 1) = cv + 1 := IntWalk.i64_in _ (by omega)
       have w2' : IntKind.i64.wrap (cv - 1) = cv - 1 := IntWalk.i64_in _ (by omega)
       have Hcv := Lib.hid hcv
       have Hkl := Lib.hid hkl
       have Hr1 := Lib.hid hr1
       have Hr2 := Lib.hid hr2
       have Hl1 := Lib.hid hl1
       have Hm2 := Lib.hid hm2
       have Hcb := Lib.hid hcb
       clear hup hkl hr1 hr2 hl1 hm2 hcv hcb
       refine wp_region_Z (z := 6) (S := fun W' => EAt W' xb 0 z ∧ (Instr.lookup 43 (.map (some B)) (.agg #[.int .i64 z.key.time, .int .i64 z.key.source, .int .i64 z.key.seq, .int .i64 z.to, .int .i64 z.value]) false).run Try.prog W' = .ok (.int .i64 cv) W') (by kernel_rfl) ?_
       rw [hWD]
       clear hWD
       have hcell : ∀ V, Fr0 (fun j => j = B) W2 V → EAt V xb 0 z := fun V hf => by
        have hb := (hf.block xb (Array.getElem?_eq_some_iff.1 HBX.out).1 (fun e => by have e : xb = B := e; have := Hxbs.out; omega)).trans HBX.out
        exact ⟨by rw [cells_in hb]; rfl, by rw [cells_in hb]; rfl, by rw [cells_in hb]; rfl, by rw [cells_in hb]; rfl, by rw [cells_in hb]; rfl⟩
       have hHeld : EAt WD xb 0 z ∧ (Instr.lookup 43 (.map (some B)) (.agg #[.int .i64 z.key.time, .int .i64 z.key.source, .int .i64 z.key.seq, .int .i64 z.to, .int .i64 z.value]) false).run Try.prog WD = .ok (.int .i64 cv) WD := ⟨hcell WD (FD.out.mono (fun _ _ h => h.elim)), hlk⟩
       clear hlk
       refine takeZ_on (i := 0) (v := .map (some B)) rfl (by kernel_rfl) (by kernel_rfl) (by kernel_rfl) (by kernel_rfl) (fun _ _ _ h => h) (by kernel_rfl) (fun W' hSW => ?_) (by assumption) ?_
       ·obtain ⟨⟨s1, s2, s3, s4, s5⟩, s6⟩ := hSW
        (try simp only [Nat.zero_add, Nat.reduceAdd] at s1 s2 s3 s4 s5)
        first | (go_simp; done) | exact rfl | (go_simp; rfl) | (go_simp; omega)
       try simp only [pUt, pUn, sEt, sEz, sEs]
       refine takeZ_on (i := 1) (v := .agg #[.int .i64 z.key.time, .int .i64 z.key.source, .int .i64 z.key.seq, .int .i64 z.to, .int .i64 z.value]) rfl (by kernel_rfl) (by kernel_rfl) (by kernel_rfl) (by kernel_rfl) (fun _ _ _ h => h) (by kernel_rfl) (fun W' hSW => ?_) (by assumption) ?_
       ·obtain ⟨⟨s1, s2, s3, s4, s5⟩, s6⟩ := hSW
        (try simp only [Nat.zero_add, Nat.reduceAdd] at s1 s2 s3 s4 s5)
        first | (go_simp; done) | exact rfl | (go_simp; rfl) | (go_simp; omega)
       try simp only [pUt, pUn, sEt, sEz, sEs]
       refine takeZ_on (i := 2) (v := .int .i64 cv) rfl (by kernel_rfl) (by kernel_rfl) (by kernel_rfl) (by kernel_rfl) (fun _ _ _ h => h) (by kernel_rfl) (fun W' hSW => ?_) (by assumption) ?_
       ·obtain ⟨⟨s1, s2, s3, s4, s5⟩, s6⟩ := hSW
        (try simp only [Nat.zero_add, Nat.reduceAdd] at s1 s2 s3 s4 s5)
        first | (go_simp; done) | exact rfl | (go_simp; rfl) | (go_simp; omega)
       try simp only [pUt, pUn, sEt, sEz, sEs]
       refine takeZ_on (i := 3) (v := .int .i64 (cv - 1)) rfl (by kernel_rfl) (by kernel_rfl) (by kernel_rfl) (by kernel_rfl) (fun _ _ _ h => h) (by kernel_rfl) (fun W' hSW => ?_) (by assumption) ?_
       ·obtain ⟨⟨s1, s2, s3, s4, s5⟩, s6⟩ := hSW
        (try simp only [Nat.zero_add, Nat.reduceAdd] at s1 s2 s3 s4 s5)
        first | (go_simp; done) | exact rfl | (go_simp; rfl) | (go_simp; omega)
       try simp only [pUt, pUn, sEt, sEz, sEs]
       refine takeZ_call (i := 4) rfl (by kernel_rfl) (by kernel_rfl) (fun K hK => ?_)
       have hr1 := Hr1.out
       go_simp
       clear hr1
       obtain ⟨W6, hW6⟩ : ∃ W, ChangeMaps.setBlock WD B o1 = W := ⟨_, rfl⟩
       have F6 := Lib.hid (show Fr0 (fun j => j = B) WD W6 by rw [← hW6]; exact (Fr0.refl (fun j => j = B) WD).setBlock (fun _ => rfl) _)
       have hB6 : W6.heap[B]? = some o1 := by rw [← hW6]; exact setBlock_same (Array.getElem?_eq_getElem HMD.out.lt)
       rw [hW6]
       have hHeld6 : EAt W6 xb 0 (z) ∧ (Instr.lookup 43 (.map (some B)) (.agg #[.int .i64 (z).key.time, .int .i64 (z).key.source, .int .i64 (z).key.seq, .int .i64 (z).to, .int .i64 (z).value]) false).run Try.prog W6 = .ok (.int .i64 cv) W6 := ⟨hcell W6 (F6.out |> fun f => ((FD.out.mono (fun _ _ h => h.elim)).trans f)), Hl1.out W6 hB6⟩
       have hr2 := Hr2.out W6 hB6
       have Hr2 := Lib.hid hr2
       clear hW6 hB6 hHeld hr2
       refine hK.out _ _ (.inr hHeld6) ?_
       clear hK K
       try simp only [pUt, pUn, sEt, sEz, sEs]
       refine takeZ_call (i := 5) rfl (by kernel_rfl) (by kernel_rfl) (fun K hK => ?_)
       go_simp
       refine hK.out _ _ (.inr hHeld6) ?_
       clear hK K
       try simp only [pUt, pUn, sEt, sEz, sEs]
       refine takeZ_call (i := 6) rfl (by kernel_rfl) (by kernel_rfl) (fun K hK => ?_)
       have hr2 := Hr2.out
       go_simp
       clear hr2
       obtain ⟨W7, hW7⟩ : ∃ W, ChangeMaps.setBlock W6 B o2 = W := ⟨_, rfl⟩
       have F7 := Lib.hid (show Fr0 (fun j => j = B) WD W7 by rw [← hW7]; exact F6.out.trans ((Fr0.refl (fun j => j = B) W6).setBlock (fun _ => rfl) _))
       have M7 := Lib.hid (Hm2.out W7 (by rw [← hW7]; exact setBlock_same (Array.getElem?_eq_getElem (Nat.lt_of_lt_of_le HMD.out.lt F6.out.size))))
       rw [hW7]
       clear hW7
       refine hK.out _ _ (.inl rfl) ?_
       clear hK K hHeld6
       try simp only [pUt, pUn, sEt, sEz, sEs]
       refine wpAnyZ_done (by kernel_rfl) ?_ _
       have F27 := Lib.hid (show Fr0 (fun j => j = B) (W2) W7 from (FD.out.mono (fun _ _ h => h.elim)).trans F7.out)
       have FR := Lib.hid (FR.out.trans' F27.out (fun j hj e => by have := HB.out; have e : j = B := e; omega))
       have hlk7 := (M7.out.look ev_law Try.underlying43 (Try.zeroValue3 W7) Hkl.out).2
       rw [if_pos rfl] at hlk7
       simp only [Option.getD_some] at hlk7
       unfold evV at hlk7
       have hcell7 := hcell W7 F27.out
       obtain ⟨n0, n1, n2, n3, n4⟩ := hcell7
       simp only [Nat.zero_add] at n0 n1 n2 n3 n4
       have hcz' := hcz
       rw [Hcv.out] at hcz'
       have d5 : decide (cv - 1 < 0) = false := decide_eq_false (by rw [hcz']; omega)
       have hcnew := hcj.out.less
       rw [Hcv.out] at hcnew
       have Hcnew := Lib.hid hcnew
       have w5 : IntKind.i64.wrap ((sj : Int) - 1) = (sj : Int) - 1 := IntWalk.i64_in _ (by omega)
       clear hcell hcz hcz' hcnew
       go_wp2_with fail
       go_roundw
       case rel => exact ⟨j + 1, nj + 1, _, by omega, by go_num, by rw [show (y.evs.drop (j + 1) ++ E').length = sj - 1 by rw [← Hsj.out]; omega]; have := Hsj.out; congr 1; omega, by omega, Hcnew, M7, FR⟩
       case measure => simp [Go.RowKit.intOf]; omega
      ·have hde : y.evs.drop j = [] := List.drop_of_length_le (by rw [HYEk.out.2.1]; omega)
       rw [hde, List.nil_append] at hcj hsj
       have Hsj := Lib.hid hsj
       clear hde hsj
       go_wp2_with fail
       go_roundw
       case rel => exact ⟨k + 1, nj, cj, by omega, by go_num, by rw [HE'.out, Hsj.out], by omega, by rw [HE'.out]; exact hcj, hmj, hfj⟩
       case measure => simp [Go.RowKit.intOf]; omega
    ·have d2 : (y.err != 0) = true := by simp [he]
     have hsn0 : y.sn = 0 := by rw [← HYEk.out.2.1, Hout.out.2 he]; rfl
     have d3 : ((y.sn : Int) != 0) = false := by simp [hsn0]
     clear hkd he hsn0
     go_wp2_with fail
     refine HSo.out.mono ?_
     rintro e w4 ⟨rfl, hf4⟩
     have hb2 := (hf4.block tb (Array.getElem?_eq_some_iff.1 HB2.out).1 id).trans HB2.out
     have p0 := cells_in hb2 0
     have p1 := cells_in hb2 1
     simp at p0 p1
     have HM := Lib.hid (HM.out.later hf4)
     have FR := Lib.hid (FR.out.trans hf4)
     clear hf4 hb2 HSo a0 a1 a2 a3 a4 a5 a6 t0 t1 hW1 hW2 hab htb v0 v1 x0 x1 x2 x3 x4 x5 x6 y0 y1
     go_wp2_with fail
     have hc0 := hcnt.out.perm Hout.out.1
     have hl0 : (y.evs ++ E').length = sz := by rw [← Hout.out.1.length_eq, Hsz.out]
     have Hl0 := Lib.hid hl0
     have Hc0 := Lib.hid hc0
     clear hc0 hl0 p0 p1 hcnt
     go_loopw [12, 17, 104] (fun s _ i wr => ∃ (j nj : Nat) (cj : Ev → Option Int), j ≤ y.sn ∧ i = .int .i64 j ∧ s = .int .i64 ((y.evs.drop j ++ E').length : Nat) ∧ nj ≤ 30 * k + j ∧ Hid (CntIs cj (y.evs.drop j ++ E')) ∧ Hid (MgIs Try.prog 47 evV wr B nj cj) ∧ Hid (Fr0 none' w3 wr)) (fun _ _ i _ => y.sn - (Go.RowKit.intOf i).toNat)
     case atStart => exact ⟨0, nn, cm, Nat.zero_le _, rfl, by rw [List.drop_zero, Hl0.out], by omega, Hc0, HM, FR⟩
     case round =>
      obtain ⟨j, nj, cj, hj, rfl, rfl, hnj, hcj, hmj, hfj⟩ := hrel
      obtain ⟨sj, hsj⟩ : ∃ s, (y.evs.drop j ++ E').length = s := ⟨_, rfl⟩
      rw [hsj]
      by_cases hlj : j < y.sn
      ·obtain ⟨z, hz⟩ : ∃ z, y.evs[j]? = some z := ⟨_, List.getElem?_eq_getElem (by rw [HYEk.out.2.1]; exact hlj)⟩
       have hdz : y.evs.drop j ++ E' = z :: (y.evs.drop (j + 1) ++ E') := by
        obtain ⟨hi, he⟩ := List.getElem?_eq_some_iff.1 hz
        rw [List.drop_eq_getElem_cons hi, he]; rfl
       rw [hdz] at hcj hsj
       rw [List.length_cons] at hsj
       have hz64 : R64E z := Hke.out z (Hout.out.1.mem_iff.2 (List.mem_append_left _ (List.mem_of_getElem? hz)))
       have HRx := Lib.hid hz64
       obtain ⟨g5, o5, hya, w0, w1'', w2'', w3', w4'⟩ := ((HYE.out.later hfj.out) y (List.mem_of_getElem? Hyk.out)).1 j z hz
       have Hya := Lib.hid hya
       have hcb : 0 ≤ (cj z).getD 0 ∧ (cj z).getD 0 ≤ 1000 := by
        have h1 := hcj.out z
        have h2 : (z :: (y.evs.drop (j + 1) ++ E')).count z ≤ _ := List.count_le_length
        rw [List.length_cons, hsj] at h2
        have h3 := Hl0.out
        have h4 : (y.evs.drop (j + 1)).length ≤ y.evs.length := by rw [List.length_drop]; omega
        rw [List.length_append] at hsj h3
        omega
       have hcz : (cj z).getD 0 - 1 = ((y.evs.drop (j + 1) ++ E').count z : Int) := by
        have h1 := hcj.out z
        rw [List.count_cons_self] at h1
        omega
       have y1' : (0 : Int) ≤ (j : Int) := by omega
       have y2' : (j : Int) < (y.sn : Int) := by omega
       have hs100 : sj ≤ 1000 := by
        have h3 := Hl0.out
        have h4 : (y.evs.drop (j + 1)).length ≤ y.evs.length := by rw [List.length_drop]; omega
        rw [List.length_append] at hsj h3
        omega
       have Hsj := Lib.hid hsj
       clear hz hdz hz64 hsj
       obtain ⟨xb, hxb⟩ : ∃ b, (wr).heap.size = b := ⟨_, rfl⟩
       obtain ⟨W2, hW2⟩ : ∃ V, (wr).alloc (.cells #[.int .i64 z.key.time, .int .i64 z.key.source, .int .i64 z.key.seq, .int .i64 z.to, .int .i64 z.value] 47) = V := ⟨_, rfl⟩
       have f2 : Fr0 none' (wr) W2 := by rw [← hW2]; exact (Fr0.refl _ _).alloc _
       have b2 : W2.heap[xb]? = some (.cells #[.int .i64 z.key.time, .int .i64 z.key.source, .int .i64 z.key.seq, .int .i64 z.to, .int .i64 z.value] 47 (0, 0)) := by rw [← hW2, ← hxb]; exact World.alloc_heap_new _ _
       have HM := Lib.hid (hmj.out.later f2)
       have FR := Lib.hid (hfj.out.trans f2)
       have Hxbs := Lib.hid (show B < xb by rw [← hxb]; exact hmj.out.lt)
       have HBX := Lib.hid b2
       clear f2 b2 hmj hfj
       rw [hya]
       go_wp2_with fail
       clear hW2 hxb
       obtain ⟨WD, hWD⟩ : ∃ V, (W2).drew = V := ⟨_, rfl⟩
       have FD := Lib.hid (show Fr0 none' (W2) WD by rw [← hWD]; exact (Fr0.refl _ _).drew)
       have HMD := Lib.hid (HM.out.later FD.out)
       obtain ⟨kl, hkl⟩ := ev_key_is HRx.out
       have hlk := (HMD.out.look ev_law Try.underlying43 (Try.zeroValue3 WD) hkl).2
       obtain ⟨o1, st, hr1, hl1, hup⟩ := HMD.out.up evV_inj ev_law Try.underlying43 (by unfold maxLen; omega) (fun u => Try.zeroValue3 u) hkl
       obtain ⟨cv, hcv⟩ : ∃ v, (cj (z)).getD 0 = v := ⟨_, rfl⟩
       rw [hcv] at hlk hr1 hl1 hcb
       unfold evV at hlk hr1 hl1
       obtain ⟨o2, hr2, hm2⟩ := hup (cv - 1)
       have w1' : IntKind.i64.wrap (cv + 1) = cv + 1 := IntWalk.i64_in _ (by omega)
       have w2' : IntKind.i64.wrap (cv - 1) = cv - 1 := IntWalk.i64_in _ (by omega)
       have Hcv := Lib.hid hcv
       have Hkl := Lib.hid hkl
       have Hr1 := Lib.hid hr1
       have Hr2 := Lib.hid hr2
       have Hl1 := Lib.hid hl1
       have Hm2 := Lib.hid hm2
       have Hcb := Lib.hid hcb
       clear hup hkl hr1 hr2 hl1 hm2 hcv hcb
       refine wp_region_Z (z := 6) (S := fun W' => EAt W' xb 0 z ∧ (Instr.lookup 43 (.map (some B)) (.agg #[.int .i64 z.key.time, .int .i64 z.key.source, .int .i64 z.key.seq, .int .i64 z.to, .int .i64 z.value]) false).run Try.prog W' = .ok (.int .i64 cv) W') (by kernel_rfl) ?_
       rw [hWD]
       clear hWD
       have hcell : ∀ V, Fr0 (fun j => j = B) W2 V → EAt V xb 0 z := fun V hf => by
        have hb := (hf.block xb (Array.getElem?_eq_some_iff.1 HBX.out).1 (fun e => by have e : xb = B := e; have := Hxbs.out; omega)).trans HBX.out
        exact ⟨by rw [cells_in hb]; rfl, by rw [cells_in hb]; rfl, by rw [cells_in hb]; rfl, by rw [cells_in hb]; rfl, by rw [cells_in hb]; rfl⟩
       have hHeld : EAt WD xb 0 z ∧ (Instr.lookup 43 (.map (some B)) (.agg #[.int .i64 z.key.time, .int .i64 z.key.source, .int .i64 z.key.seq, .int .i64 z.to, .int .i64 z.value]) false).run Try.prog WD = .ok (.int .i64 cv) WD := ⟨hcell WD (FD.out.mono (fun _ _ h => h.elim)), hlk⟩
       clear hlk
       refine takeZ_on (i := 0) (v := .map (some B)) rfl (by kernel_rfl) (by kernel_rfl) (by kernel_rfl) (by kernel_rfl) (fun _ _ _ h => h) (by kernel_rfl) (fun W' hSW => ?_) (by assumption) ?_
       ·obtain ⟨⟨s1, s2, s3, s4, s5⟩, s6⟩ := hSW
        (try simp only [Nat.zero_add, Nat.reduceAdd] at s1 s2 s3 s4 s5)
        first | (go_simp; done) | exact rfl | (go_simp; rfl) | (go_simp; omega)
       try simp only [pUt, pUn, sEt, sEz, sEs]
       refine takeZ_on (i := 1) (v := .agg #[.int .i64 z.key.time, .int .i64 z.key.source, .int .i64 z.key.seq, .int .i64 z.to, .int .i64 z.value]) rfl (by kernel_rfl) (by kernel_rfl) (by kernel_rfl) (by kernel_rfl) (fun _ _ _ h => h) (by kernel_rfl) (fun W' hSW => ?_) (by assumption) ?_
       ·obtain ⟨⟨s1, s2, s3, s4, s5⟩, s6⟩ := hSW
        (try simp only [Nat.zero_add, Nat.reduceAdd] at s1 s2 s3 s4 s5)
        first | (go_simp; done) | exact rfl | (go_simp; rfl) | (go_simp; omega)
       try simp only [pUt, pUn, sEt, sEz, sEs]
       refine takeZ_on (i := 2) (v := .int .i64 cv) rfl (by kernel_rfl) (by kernel_rfl) (by kernel_rfl) (by kernel_rfl) (fun _ _ _ h => h) (by kernel_rfl) (fun W' hSW => ?_) (by assumption) ?_
       ·obtain ⟨⟨s1, s2, s3, s4, s5⟩, s6⟩ := hSW
        (try simp only [Nat.zero_add, Nat.reduceAdd] at s1 s2 s3 s4 s5)
        first | (go_simp; done) | exact rfl | (go_simp; rfl) | (go_simp; omega)
       try simp only [pUt, pUn, sEt, sEz, sEs]
       refine takeZ_on (i := 3) (v := .int .i64 (cv - 1)) rfl (by kernel_rfl) (by kernel_rfl) (by kernel_rfl) (by kernel_rfl) (fun _ _ _ h => h) (by kernel_rfl) (fun W' hSW => ?_) (by assumption) ?_
       ·obtain ⟨⟨s1, s2, s3, s4, s5⟩, s6⟩ := hSW
        (try simp only [Nat.zero_add, Nat.reduceAdd] at s1 s2 s3 s4 s5)
        first | (go_simp; done) | exact rfl | (go_simp; rfl) | (go_simp; omega)
       try simp only [pUt, pUn, sEt, sEz, sEs]
       refine takeZ_call (i := 4) rfl (by kernel_rfl) (by kernel_rfl) (fun K hK => ?_)
       have hr1 := Hr1.out
       go_simp
       clear hr1
       obtain ⟨W6, hW6⟩ : ∃ W, ChangeMaps.setBlock WD B o1 = W := ⟨_, rfl⟩
       have F6 := Lib.hid (show Fr0 (fun j => j = B) WD W6 by rw [← hW6]; exact (Fr0.refl (fun j => j = B) WD).setBlock (fun _ => rfl) _)
       have hB6 : W6.heap[B]? = some o1 := by rw [← hW6]; exact setBlock_same (Array.getElem?_eq_getElem HMD.out.lt)
       rw [hW6]
       have hHeld6 : EAt W6 xb 0 (z) ∧ (Instr.lookup 43 (.map (some B)) (.agg #[.int .i64 (z).key.time, .int .i64 (z).key.source, .int .i64 (z).key.seq, .int .i64 (z).to, .int .i64 (z).value]) false).run Try.prog W6 = .ok (.int .i64 cv) W6 := ⟨hcell W6 (F6.out |> fun f => ((FD.out.mono (fun _ _ h => h.elim)).trans f)), Hl1.out W6 hB6⟩
       have hr2 := Hr2.out W6 hB6
       have Hr2 := Lib.hid hr2
       clear hW6 hB6 hHeld hr2
       refine hK.out _ _ (.inr hHeld6) ?_
       clear hK K
       try simp only [pUt, pUn, sEt, sEz, sEs]
       refine takeZ_call (i := 5) rfl (by kernel_rfl) (by kernel_rfl) (fun K hK => ?_)
       go_simp
       refine hK.out _ _ (.inr hHeld6) ?_
       clear hK K
       try simp only [pUt, pUn, sEt, sEz, sEs]
       refine takeZ_call (i := 6) rfl (by kernel_rfl) (by kernel_rfl) (fun K hK => ?_)
       have hr2 := Hr2.out
       go_simp
       clear hr2
       obtain ⟨W7, hW7⟩ : ∃ W, ChangeMaps.setBlock W6 B o2 = W := ⟨_, rfl⟩
       have F7 := Lib.hid (show Fr0 (fun j => j = B) WD W7 by rw [← hW7]; exact F6.out.trans ((Fr0.refl (fun j => j = B) W6).setBlock (fun _ => rfl) _))
       have M7 := Lib.hid (Hm2.out W7 (by rw [← hW7]; exact setBlock_same (Array.getElem?_eq_getElem (Nat.lt_of_lt_of_le HMD.out.lt F6.out.size))))
       rw [hW7]
       clear hW7
       refine hK.out _ _ (.inl rfl) ?_
       clear hK K hHeld6
       try simp only [pUt, pUn, sEt, sEz, sEs]
       refine wpAnyZ_done (by kernel_rfl) ?_ _
       have F27 := Lib.hid (show Fr0 (fun j => j = B) (W2) W7 from (FD.out.mono (fun _ _ h => h.elim)).trans F7.out)
       have FR := Lib.hid (FR.out.trans' F27.out (fun j hj e => by have := HB.out; have e : j = B := e; omega))
       have hlk7 := (M7.out.look ev_law Try.underlying43 (Try.zeroValue3 W7) Hkl.out).2
       rw [if_pos rfl] at hlk7
       simp only [Option.getD_some] at hlk7
       unfold evV at hlk7
       have hcell7 := hcell W7 F27.out
       obtain ⟨n0, n1, n2, n3, n4⟩ := hcell7
       simp only [Nat.zero_add] at n0 n1 n2 n3 n4
       have hcz' := hcz
       rw [Hcv.out] at hcz'
       have d5 : decide (cv - 1 < 0) = false := decide_eq_false (by rw [hcz']; omega)
       have hcnew := hcj.out.less
       rw [Hcv.out] at hcnew
       have Hcnew := Lib.hid hcnew
       have w5 : IntKind.i64.wrap ((sj : Int) - 1) = (sj : Int) - 1 := IntWalk.i64_in _ (by omega)
       clear hcell hcz hcz' hcnew
       go_wp2_with fail
       go_roundw
       case rel => exact ⟨j + 1, nj + 1, _, by omega, by go_num, by rw [show (y.evs.drop (j + 1) ++ E').length = sj - 1 by rw [← Hsj.out]; omega]; have := Hsj.out; congr 1; omega, by omega, Hcnew, M7, FR⟩
       case measure => simp [Go.RowKit.intOf]; omega
      ·have hde : y.evs.drop j = [] := List.drop_of_length_le (by rw [HYEk.out.2.1]; omega)
       rw [hde, List.nil_append] at hcj hsj
       have Hsj := Lib.hid hsj
       clear hde hsj
       go_wp2_with fail
       go_roundw
       case rel => exact ⟨k + 1, nj, cj, by omega, by go_num, by rw [HE'.out, Hsj.out], by omega, by rw [HE'.out]; exact hcj, hmj, hfj⟩
       case measure => simp [Go.RowKit.intOf]; omega
  ·have hkM : k = M := by omega
   have hEE : Ek = E := by
    have h1 := HEk.out
    rw [List.take_of_length_le (by rw [Hl.out]; omega)] at h1
    rw [← h1, HE.out]
   subst hEE
   have hszN : sz = N := by rw [← Hsz.out, HN.out]
   have HszN := Lib.hid hszN
   have Hke := Lib.hid hke
   have HkM := Lib.hid hkM
   clear hkM hszN hst htl hgk hke hEk hsz
   go_wp2_with fail
   go_loopw [12, 19, 124] (fun s _ i wr => ∃ (j nj : Nat) (cj : Ev → Option Int), j ≤ N ∧ i = .int .i64 j ∧ s = .int .i64 ((Ek.drop j).length : Nat) ∧ nj ≤ 4000 + j ∧ Hid (CntIs cj (Ek.drop j)) ∧ Hid (MgIs Try.prog 47 evV wr B nj cj) ∧ Hid (Fr0 none' w3 wr)) (fun _ _ i _ => N - (Go.RowKit.intOf i).toNat)
   case atStart => exact ⟨0, nn, cm, Nat.zero_le _, rfl, by rw [List.drop_zero, HN.out, HszN.out], by omega, hcnt, hmg, hfr⟩
   case round =>
    obtain ⟨j, nj, cj, hj, rfl, rfl, hnj, hcj, hmj, hfj⟩ := hrel
    obtain ⟨sj, hsj⟩ : ∃ s, (Ek.drop j).length = s := ⟨_, rfl⟩
    rw [hsj]
    by_cases hlj : j < N
    ·obtain ⟨z, hz⟩ : ∃ z, Ek[j]? = some z := ⟨_, List.getElem?_eq_getElem (by rw [HN.out]; exact hlj)⟩
     have hdz : Ek.drop j = z :: Ek.drop (j + 1) := by
      obtain ⟨hi, he⟩ := List.getElem?_eq_some_iff.1 hz
      rw [List.drop_eq_getElem_cons hi, he]
     rw [hdz] at hcj hsj
     rw [List.length_cons] at hsj
     have HRx := Lib.hid (Hke.out z (List.mem_of_getElem? hz))
     obtain ⟨g5, o5, rfl, w0, w1'', w2'', w3', w4'⟩ := (HO.out.later hfj.out) j z hz
     have hlsj : (Ek.drop (j + 1)).length ≤ N := by rw [← HN.out, List.length_drop]; omega
     have hcb : 0 ≤ (cj z).getD 0 ∧ (cj z).getD 0 ≤ 1000 := by
      have h1 := hcj.out z
      have h2 : (z :: Ek.drop (j + 1)).count z ≤ _ := List.count_le_length
      rw [List.length_cons] at h2
      omega
     have hcz : (cj z).getD 0 - 1 = ((Ek.drop (j + 1)).count z : Int) := by
      have h1 := hcj.out z
      rw [List.count_cons_self] at h1
      omega
     have y1' : (0 : Int) ≤ (j : Int) := by omega
     have y2' : (j : Int) < (N : Int) := by omega
     have hs100 : sj ≤ 1000 := by omega
     have Hsj := Lib.hid hsj
     clear hz hdz hsj hlsj
     obtain ⟨xb, hxb⟩ : ∃ b, (wr).heap.size = b := ⟨_, rfl⟩
     obtain ⟨W2, hW2⟩ : ∃ V, (wr).alloc (.cells #[.int .i64 z.key.time, .int .i64 z.key.source, .int .i64 z.key.seq, .int .i64 z.to, .int .i64 z.value] 47) = V := ⟨_, rfl⟩
     have f2 : Fr0 none' (wr) W2 := by rw [← hW2]; exact (Fr0.refl _ _).alloc _
     have b2 : W2.heap[xb]? = some (.cells #[.int .i64 z.key.time, .int .i64 z.key.source, .int .i64 z.key.seq, .int .i64 z.to, .int .i64 z.value] 47 (0, 0)) := by rw [← hW2, ← hxb]; exact World.alloc_heap_new _ _
     have HM := Lib.hid (hmj.out.later f2)
     have FR := Lib.hid (hfj.out.trans f2)
     have Hxbs := Lib.hid (show B < xb by rw [← hxb]; exact hmj.out.lt)
     have HBX := Lib.hid b2
     clear f2 b2 hmj hfj
     go_wp2_with fail
     clear hW2 hxb
     obtain ⟨WD, hWD⟩ : ∃ V, (W2).drew = V := ⟨_, rfl⟩
     have FD := Lib.hid (show Fr0 none' (W2) WD by rw [← hWD]; exact (Fr0.refl _ _).drew)
     have HMD := Lib.hid (HM.out.later FD.out)
     obtain ⟨kl, hkl⟩ := ev_key_is HRx.out
     have hlk := (HMD.out.look ev_law Try.underlying43 (Try.zeroValue3 WD) hkl).2
     obtain ⟨o1, st, hr1, hl1, hup⟩ := HMD.out.up evV_inj ev_law Try.underlying43 (by unfold maxLen; omega) (fun u => Try.zeroValue3 u) hkl
     obtain ⟨cv, hcv⟩ : ∃ v, (cj (z)).getD 0 = v := ⟨_, rfl⟩
     rw [hcv] at hlk hr1 hl1 hcb
     unfold evV at hlk hr1 hl1
     obtain ⟨o2, hr2, hm2⟩ := hup (cv - 1)
     have w1' : IntKind.i64.wrap (cv + 1) = cv + 1 := IntWalk.i64_in _ (by omega)
     have w2' : IntKind.i64.wrap (cv - 1) = cv - 1 := IntWalk.i64_in _ (by omega)
     have Hcv := Lib.hid hcv
     have Hkl := Lib.hid hkl
     have Hr1 := Lib.hid hr1
     have Hr2 := Lib.hid hr2
     have Hl1 := Lib.hid hl1
     have Hm2 := Lib.hid hm2
     have Hcb := Lib.hid hcb
     clear hup hkl hr1 hr2 hl1 hm2 hcv hcb
     refine wp_region_Z (z := 6) (S := fun W' => EAt W' xb 0 z ∧ (Instr.lookup 43 (.map (some B)) (.agg #[.int .i64 z.key.time, .int .i64 z.key.source, .int .i64 z.key.seq, .int .i64 z.to, .int .i64 z.value]) false).run Try.prog W' = .ok (.int .i64 cv) W') (by kernel_rfl) ?_
     rw [hWD]
     clear hWD
     have hcell : ∀ V, Fr0 (fun j => j = B) W2 V → EAt V xb 0 z := fun V hf => by
      have hb := (hf.block xb (Array.getElem?_eq_some_iff.1 HBX.out).1 (fun e => by have e : xb = B := e; have := Hxbs.out; omega)).trans HBX.out
      exact ⟨by rw [cells_in hb]; rfl, by rw [cells_in hb]; rfl, by rw [cells_in hb]; rfl, by rw [cells_in hb]; rfl, by rw [cells_in hb]; rfl⟩
     have hHeld : EAt WD xb 0 z ∧ (Instr.lookup 43 (.map (some B)) (.agg #[.int .i64 z.key.time, .int .i64 z.key.source, .int .i64 z.key.seq, .int .i64 z.to, .int .i64 z.value]) false).run Try.prog WD = .ok (.int .i64 cv) WD := ⟨hcell WD (FD.out.mono (fun _ _ h => h.elim)), hlk⟩
     clear hlk
     refine takeZ_on (i := 0) (v := .map (some B)) rfl (by kernel_rfl) (by kernel_rfl) (by kernel_rfl) (by kernel_rfl) (fun _ _ _ h => h) (by kernel_rfl) (fun W' hSW => ?_) (by assumption) ?_
     ·obtain ⟨⟨s1, s2, s3, s4, s5⟩, s6⟩ := hSW
      (try simp only [Nat.zero_add, Nat.reduceAdd] at s1 s2 s3 s4 s5)
      first | (go_simp; done) | exact rfl | (go_simp; rfl) | (go_simp; omega)
     try simp only [pUt, pUn, sEt, sEz, sEs]
     refine takeZ_on (i := 1) (v := .agg #[.int .i64 z.key.time, .int .i64 z.key.source, .int .i64 z.key.seq, .int .i64 z.to, .int .i64 z.value]) rfl (by kernel_rfl) (by kernel_rfl) (by kernel_rfl) (by kernel_rfl) (fun _ _ _ h => h) (by kernel_rfl) (fun W' hSW => ?_) (by assumption) ?_
     ·obtain ⟨⟨s1, s2, s3, s4, s5⟩, s6⟩ := hSW
      (try simp only [Nat.zero_add, Nat.reduceAdd] at s1 s2 s3 s4 s5)
      first | (go_simp; done) | exact rfl | (go_simp; rfl) | (go_simp; omega)
     try simp only [pUt, pUn, sEt, sEz, sEs]
     refine takeZ_on (i := 2) (v := .int .i64 cv) rfl (by kernel_rfl) (by kernel_rfl) (by kernel_rfl) (by kernel_rfl) (fun _ _ _ h => h) (by kernel_rfl) (fun W' hSW => ?_) (by assumption) ?_
     ·obtain ⟨⟨s1, s2, s3, s4, s5⟩, s6⟩ := hSW
      (try simp only [Nat.zero_add, Nat.reduceAdd] at s1 s2 s3 s4 s5)
      first | (go_simp; done) | exact rfl | (go_simp; rfl) | (go_simp; omega)
     try simp only [pUt, pUn, sEt, sEz, sEs]
     refine takeZ_on (i := 3) (v := .int .i64 (cv - 1)) rfl (by kernel_rfl) (by kernel_rfl) (by kernel_rfl) (by kernel_rfl) (fun _ _ _ h => h) (by kernel_rfl) (fun W' hSW => ?_) (by assumption) ?_
     ·obtain ⟨⟨s1, s2, s3, s4, s5⟩, s6⟩ := hSW
      (try simp only [Nat.zero_add, Nat.reduceAdd] at s1 s2 s3 s4 s5)
      first | (go_simp; done) | exact rfl | (go_simp; rfl) | (go_simp; omega)
     try simp only [pUt, pUn, sEt, sEz, sEs]
     refine takeZ_call (i := 4) rfl (by kernel_rfl) (by kernel_rfl) (fun K hK => ?_)
     have hr1 := Hr1.out
     go_simp
     clear hr1
     obtain ⟨W6, hW6⟩ : ∃ W, ChangeMaps.setBlock WD B o1 = W := ⟨_, rfl⟩
     have F6 := Lib.hid (show Fr0 (fun j => j = B) WD W6 by rw [← hW6]; exact (Fr0.refl (fun j => j = B) WD).setBlock (fun _ => rfl) _)
     have hB6 : W6.heap[B]? = some o1 := by rw [← hW6]; exact setBlock_same (Array.getElem?_eq_getElem HMD.out.lt)
     rw [hW6]
     have hHeld6 : EAt W6 xb 0 (z) ∧ (Instr.lookup 43 (.map (some B)) (.agg #[.int .i64 (z).key.time, .int .i64 (z).key.source, .int .i64 (z).key.seq, .int .i64 (z).to, .int .i64 (z).value]) false).run Try.prog W6 = .ok (.int .i64 cv) W6 := ⟨hcell W6 (F6.out |> fun f => ((FD.out.mono (fun _ _ h => h.elim)).trans f)), Hl1.out W6 hB6⟩
     have hr2 := Hr2.out W6 hB6
     have Hr2 := Lib.hid hr2
     clear hW6 hB6 hHeld hr2
     refine hK.out _ _ (.inr hHeld6) ?_
     clear hK K
     try simp only [pUt, pUn, sEt, sEz, sEs]
     refine takeZ_call (i := 5) rfl (by kernel_rfl) (by kernel_rfl) (fun K hK => ?_)
     go_simp
     refine hK.out _ _ (.inr hHeld6) ?_
     clear hK K
     try simp only [pUt, pUn, sEt, sEz, sEs]
     refine takeZ_call (i := 6) rfl (by kernel_rfl) (by kernel_rfl) (fun K hK => ?_)
     have hr2 := Hr2.out
     go_simp
     clear hr2
     obtain ⟨W7, hW7⟩ : ∃ W, ChangeMaps.setBlock W6 B o2 = W := ⟨_, rfl⟩
     have F7 := Lib.hid (show Fr0 (fun j => j = B) WD W7 by rw [← hW7]; exact F6.out.trans ((Fr0.refl (fun j => j = B) W6).setBlock (fun _ => rfl) _))
     have M7 := Lib.hid (Hm2.out W7 (by rw [← hW7]; exact setBlock_same (Array.getElem?_eq_getElem (Nat.lt_of_lt_of_le HMD.out.lt F6.out.size))))
     rw [hW7]
     clear hW7
     refine hK.out _ _ (.inl rfl) ?_
     clear hK K hHeld6
     try simp only [pUt, pUn, sEt, sEz, sEs]
     refine wpAnyZ_done (by kernel_rfl) ?_ _
     have F27 := Lib.hid (show Fr0 (fun j => j = B) (W2) W7 from (FD.out.mono (fun _ _ h => h.elim)).trans F7.out)
     have FR := Lib.hid (FR.out.trans' F27.out (fun j hj e => by have := HB.out; have e : j = B := e; omega))
     have hlk7 := (M7.out.look ev_law Try.underlying43 (Try.zeroValue3 W7) Hkl.out).2
     rw [if_pos rfl] at hlk7
     simp only [Option.getD_some] at hlk7
     unfold evV at hlk7
     have hcell7 := hcell W7 F27.out
     obtain ⟨n0, n1, n2, n3, n4⟩ := hcell7
     simp only [Nat.zero_add] at n0 n1 n2 n3 n4
     have hcz' := hcz
     rw [Hcv.out] at hcz'
     have d5 : decide (cv - 1 < 0) = false := decide_eq_false (by rw [hcz']; omega)
     have hcnew := hcj.out.less
     rw [Hcv.out] at hcnew
     have Hcnew := Lib.hid hcnew
     have w5 : IntKind.i64.wrap ((sj : Int) - 1) = (sj : Int) - 1 := IntWalk.i64_in _ (by omega)
     clear hcell hcz hcz' hcnew
     go_wp2_with fail
     go_roundw
     case rel => exact ⟨j + 1, nj + 1, _, by omega, by go_num, by rw [show (Ek.drop (j + 1)).length = sj - 1 by rw [← Hsj.out]; omega]; have := Hsj.out; congr 1; omega, by omega, Hcnew, M7, FR⟩
     case measure => simp [Go.RowKit.intOf]; omega
    ·have hde : Ek.drop j = [] := List.drop_of_length_le (by rw [HN.out]; omega)
     rw [hde] at hsj
     obtain rfl : sj = 0 := by rw [← hsj]; rfl
     have FE := Lib.hid (F.out.trans hfj.out)
     clear hde hsj hcj hmj hfj
     go_wp2_with fail
     go_ret
     exact ⟨rfl, FE.out⟩
end Go.Proofs.Ytmbjfmlicffclaa

namespace Go.Proofs.Ytmbjfmlicffclaa.calendarKeeps
open Go.ChangeShapes Go.WideShapes Go.ChangeAt Go.RowKit Go.Proofs.Ytmbjfmlicffclaa

set_option maxRecDepth 100000 in
theorem lifted (os : Os) (started : os.Started) (H : Type) (enc : TypeId × Value → H) :
  ReturnsInHanded {} Try.checked os 5 .any (Rows.calendarKeepsSpec.pre6 enc Try.prog Try.f5 Rows.calendarKeepsRow.domain false) (Rows.calendarKeepsSpec.post enc Try.prog Try.f5 false true false false) := by
 refine returnsInHanded_of_change (C := Try.checked) knobC started (by kernel_rfl) Try.func5
  (ChangeSpec.witness6 (enc := enc) (C := Try.checked) false ⟨#[], #[.slice none 0 0, .int .u8 0], []⟩ 8 (by kernel_rfl) (by kernel_rfl) (by kernel_rfl) (by kernel_rfl)) ?_
 intro W base args ds gs before hval0 hW hcnd _
 have hval : ∀ (j : Nat) t v, Try.f5.params[j]? = some t → args[j]? = some v → Value.okWide Try.prog W .any base t v := hval0
 have hW' := hW
 obtain ⟨p, q, hA0, hV, rfl, hfz, hnd⟩ := hW
 have hA : DataW.TrodAll enc Try.prog W 0 (fun _ => true) true Try.f5.params.toList args.toList ds p := hA0
 rw [Try.params5] at hA hval
 obtain ⟨v0, vs0, d0, ds0, p0, q0, hargs, rfl, rfl, h0, r0⟩ := trodAll_cons hA
 obtain ⟨v1, vs1, d1, ds1, p1, q1, rfl, rfl, rfl, h1, r1⟩ := trodAll_cons r0
 obtain ⟨rfl, rfl, rfl⟩ := trodAll_nil r1
 obtain rfl : args = #[v0, v1] := by cases args; simp_all
 obtain ⟨rfl, rfl⟩ := trodVars_none hV
 clear hA0 hval0
 simp only [List.append_nil] at hW'
 have l0 : ∀ x ∈ p0, x.block < W.heap.size := fun x hx => hW'.lt x (by simp [hx])
 have t0 := fun W' (hb : Below W.heap.size W W') => Below.trod laidC (by kernel_rfl) (of_decide_eq_true (by kernel_rfl)) h0 hb l0
 have l1 : ∀ x ∈ p1, x.block < W.heap.size := fun x hx => hW'.lt x (by simp [hx])
 have t1 := fun W' (hb : Below W.heap.size W W') => Below.trod laidC (by kernel_rfl) (of_decide_eq_true (by kernel_rfl)) h1 hb l1
 obtain ⟨a0, n0, c0, xs0, rfl, hl0, hc0, hx0⟩ := smcs_arg (hval 0 37 v0 rfl rfl) h0
 obtain ⟨a1, rfl, _, _, w1⟩ := open_int Try.underlying5 (hval 1 5 v1 rfl rfl) h1
 have b1 : 0 ≤ a1 ∧ a1 < 256 := by
  have := bounds_u8 w1
  omega
 refine (CalendarKeeps_any xs0 hx0 hl0 hc0 b1).mono fun e W' ⟨he, hf⟩ => ?_
 have hg : Below W.heap.size W W' := hf.below (Nat.le_refl _) (fun _ _ h => h)
 subst he
 exact ⟨_, rfl, post_belowC (pa := p0 ++ (p1 ++ ([]))) (pv := []) hW' (fun _ _ _ => (trodAll_cons_mk (shut_bool Try.underlying4 _) trodAll_mk0)) (trodAll_cons_mk (t0 _ hg) (trodAll_cons_mk (t1 _ hg) trodAll_mk0)) (fun _ _ => rfl) hg⟩

theorem over : Rows.calendarKeepsRow.holds Try.pinned (OpenSpec.ofChange Rows.calendarKeepsSpec) :=
 OpenClaim.holds_of_wide 5 Try.f5 rfl rfl rfl rfl rfl rfl rfl ⟨rfl, rfl, rfl, rfl, rfl⟩ rfl rfl rfl rfl rfl (by kernel_rfl) Try.func5 (by kernel_rfl)
  (of_decide_eq_true (by kernel_rfl)) (by unfold Func.isWrapper; first | (rw [if_pos (by decide +kernel)]; kernel_rfl) | (rw [if_neg (by decide +kernel)]; exact ⟨rfl, rfl⟩))
  (fun os started H enc _ => lifted os started H enc)

theorem proved : Rows.CalendarKeepsSaid := over
#print axioms proved
end Go.Proofs.Ytmbjfmlicffclaa.calendarKeeps
