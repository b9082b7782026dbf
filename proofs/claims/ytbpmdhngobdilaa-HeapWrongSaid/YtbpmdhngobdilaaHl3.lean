/-
  What the heap's laws keep beside a heap: keys and marks in two arrays.
-/
import Derived.Test.YtbpmdhngobdilaaHl1
import Derived.Deep.MidRow
import Derived.Laws.Rows
namespace Go.Proofs.Ytbpmdhngobdilaa
open Go Go.RowKit

/-- An object that is not the heap's. -/
structure ObjBox (w : World) (hb ba : Nat) (v : Value) (B : Nat) (o : Obj) : Prop where
  obj : w.heap[B]? = some o
  out : ¬ foot hb ba v B
theorem ObjBox.lt {w : World} {hb ba : Nat} {v : Value} {B : Nat} {o : Obj} (h : ObjBox w hb ba v B o) : B < w.heap.size := (Array.getElem?_eq_some_iff.1 h.obj).1
theorem ObjBox.later {w w' : World} {hb ba : Nat} {v : Value} {B : Nat} {o : Obj} (h : ObjBox w hb ba v B o) (hf : Fr0 none' w w') : ObjBox w' hb ba v B o := ⟨(hf.block B h.lt id).trans h.obj, h.out⟩
theorem ObjBox.fr {S : Nat → Prop} {w w' : World} {hb ba : Nat} {v : Value} {B : Nat} {o : Obj} (h : ObjBox w hb ba v B o) (hf : Fr0 S w w') (hS : ¬ S B) : ObjBox w' hb ba v B o := ⟨(hf.block B h.lt hS).trans h.obj, h.out⟩
theorem ObjBox.step {w w' : World} {hb ba : Nat} {v v' : Value} {B : Nat} {o : Obj} (h : ObjBox w hb ba v B o) (hs : Step hb ba v v' w w') : ObjBox w' hb ba v' B o := ⟨(hs.fr.block B h.lt h.out).trans h.obj, hs.not h.out h.lt⟩
theorem ObjBox.new {w0 w : World} {hb ba n : Nat} {v : Value} {L : List Ent} (h : Own w0 w hb ba v n L) (o : Obj) : ObjBox (w.alloc o) hb ba v w.heap.size o :=
  ⟨World.alloc_heap_new w _, fun hf => by have := h.lt _ hf; omega⟩

/-- The cells of keys, one after the other. -/
def cellsK (Ks : List Key3) : List Value := Ks.flatMap (fun k => [.int .i64 k.time, .int .i64 k.source, .int .i64 k.seq])
def cellsB (Ts : List Bool) : List Value := Ts.map .bool
theorem cellsK_length (Ks : List Key3) : (cellsK Ks).length = 3 * Ks.length := by
  induction Ks with
  | nil => rfl
  | cons k r ih =>
    show (_ ++ cellsK r).length = _
    simp [ih]; omega
theorem cellsK_get (Ks : List Key3) : ∀ (p c : Nat) (k : Key3), Ks[p]? = some k → c < 3 → (cellsK Ks)[p * 3 + c]? = some (.int .i64 (nth3 k c)) := by
  induction Ks with
  | nil => intro p c k h; simp at h
  | cons x r ih =>
    intro p c k h hc
    show ([.int .i64 x.time, .int .i64 x.source, .int .i64 x.seq] ++ cellsK r)[p * 3 + c]? = _
    cases p with
    | zero =>
      simp at h; subst h
      match c, hc with
      | 0, _ => rfl
      | 1, _ => rfl
      | 2, _ => rfl
    | succ p =>
      rw [List.getElem?_append_right (by simp; omega)]
      have := ih p c k (by simpa using h) hc
      rw [show (p + 1) * 3 + c - [Value.int .i64 x.time, .int .i64 x.source, .int .i64 x.seq].length = p * 3 + c by simp; omega]
      exact this
theorem cellsK_one (Ks : List Key3) : ∀ v ∈ cellsK Ks, v.oneCell' = true := by
  intro v hv
  obtain ⟨k, _, h⟩ := List.mem_flatMap.1 hv
  simp at h
  rcases h with rfl | rfl | rfl <;> rfl
theorem cellsB_one (Ts : List Bool) : ∀ v ∈ cellsB Ts, v.oneCell' = true := by
  intro v hv
  obtain ⟨k, _, h⟩ := List.mem_map.1 hv
  subst h; rfl
theorem cellsK_set (Ks : List Key3) : ∀ (p : Nat) (k : Key3), p < Ks.length → cellsK (Ks.set p k) = (((cellsK Ks).set (p * 3) (.int .i64 k.time)).set (p * 3 + 1) (.int .i64 k.source)).set (p * 3 + 2) (.int .i64 k.seq) := by
  induction Ks with
  | nil => intro p k h; simp at h
  | cons x r ih =>
    intro p k h
    cases p with
    | zero => rfl
    | succ p =>
      have h1 := ih p k (by simpa using h)
      show [.int .i64 x.time, .int .i64 x.source, .int .i64 x.seq] ++ cellsK (r.set p k) = _
      rw [h1]
      show _ = ((([Value.int .i64 x.time, .int .i64 x.source, .int .i64 x.seq] ++ cellsK r).set ((p + 1) * 3) _).set ((p + 1) * 3 + 1) _).set ((p + 1) * 3 + 2) _
      rw [show (p + 1) * 3 = p * 3 + 3 by omega]
      rfl

/-- What the arrays tell of a heap. -/
structure Holds (L : List Ent) (Ks : List Key3) (Ts : List Bool) : Prop where
  kl : Ks.length = 24
  tl : Ts.length = 24
  look : ∀ p, p < 24 → look L p = if Ts.getD p false then some (Ks.getD p zeroK) else none
theorem Holds.nil : Holds [] (List.replicate 24 zeroK) (List.replicate 24 false) := ⟨rfl, rfl, fun p hp => by
  have : (List.replicate 24 false).getD p false = false := by rw [List.getD, List.getElem?_replicate]; split <;> rfl
  rw [this]; rfl⟩
variable {L : List Ent} {Ks : List Key3} {Ts : List Bool}
theorem getD_set_self {α : Type} (l : List α) (p : Nat) (x d : α) (h : p < l.length) : (l.set p x).getD p d = x := by simp [List.getD, h]
theorem getD_set_other {α : Type} (l : List α) (p q : Nat) (x d : α) (h : p ≠ q) : (l.set p x).getD q d = l.getD q d := by simp [List.getD, h]
theorem Holds.err {p : Nat} (h : Holds L Ks Ts) (hp : p < 24) : errP 24 L (p : Int) = if Ts.getD p false then 0 else 6 := by
  unfold errP
  rw [if_neg (by omega), Int.toNat_natCast, h.look p hp]
  cases Ts.getD p false <;> simp
theorem Holds.key {p : Nat} (h : Holds L Ks Ts) (hp : p < 24) (ht : Ts.getD p false = true) : keyP 24 L (p : Int) = Ks.getD p zeroK := by
  unfold keyP
  rw [h.err hp, ht, if_pos rfl, if_pos rfl, Int.toNat_natCast, h.look p hp, ht, if_pos rfl]; rfl
theorem Holds.put_no {p : Nat} (h : Holds L Ks Ts) (hp : p < 24) (ht : Ts.getD p false = true) (k : Key3) : putE 24 L (p : Int) = 81 ∧ putL 24 L (p : Int) k = L := by
  unfold putE putL
  rw [h.err hp, ht]; simp
theorem Holds.put {p : Nat} (h : Holds L Ks Ts) (ho : Once L) (hp : p < 24) (ht : Ts.getD p false = false) (k : Key3) : putE 24 L (p : Int) = 0 ∧ Holds (putL 24 L (p : Int) k) (Ks.set p k) (Ts.set p true) := by
  have hn := look_none.1 ((h.look p hp).trans (by rw [ht]; rfl))
  unfold putE putL
  rw [h.err hp, ht]
  refine ⟨by simp, ⟨by simp [h.kl], by simp [h.tl], fun q hq => ?_⟩⟩
  simp only [Bool.false_eq_true, if_false, if_true]
  rw [Int.toNat_natCast, look_ins ho ⟨k, p⟩ hn q]
  by_cases hpq : q = p
  · subst hpq
    rw [if_pos rfl, getD_set_self _ _ _ _ (by rw [h.tl]; exact hp), getD_set_self _ _ _ _ (by rw [h.kl]; exact hp)]; rfl
  · rw [if_neg hpq, getD_set_other _ _ _ _ _ (Ne.symm hpq), getD_set_other _ _ _ _ _ (Ne.symm hpq)]
    exact h.look q hq
theorem Holds.chg_no {p : Nat} (h : Holds L Ks Ts) (hp : p < 24) (ht : Ts.getD p false = false) (k : Key3) : errP 24 L (p : Int) = 6 ∧ chgL 24 L (p : Int) k = L := by
  unfold chgL
  rw [h.err hp, ht]; simp
theorem Holds.chg {p : Nat} (h : Holds L Ks Ts) (ho : Once L) (hp : p < 24) (ht : Ts.getD p false = true) (k : Key3) : errP 24 L (p : Int) = 0 ∧ Holds (chgL 24 L (p : Int) k) (Ks.set p k) Ts := by
  unfold chgL
  rw [h.err hp, ht]
  refine ⟨by simp, ⟨by simp [h.kl], h.tl, fun q hq => ?_⟩⟩
  simp only [if_true]
  rw [Int.toNat_natCast, look_ins (delL_once ho) ⟨k, p⟩ (fun x hx => (delL_mem.1 hx).2) q, look_del ho]
  by_cases hpq : q = p
  · subst hpq
    rw [if_pos rfl, ht, getD_set_self _ _ _ _ (by rw [h.kl]; exact hp)]; rfl
  · rw [if_neg hpq, if_neg hpq, getD_set_other _ _ _ _ _ (Ne.symm hpq)]
    exact h.look q hq
theorem Holds.rem_no {p : Nat} (h : Holds L Ks Ts) (hp : p < 24) (ht : Ts.getD p false = false) : errP 24 L (p : Int) = 6 ∧ delP 24 L (p : Int) = L ∧ Ts.set p false = Ts := by
  unfold delP
  rw [h.err hp, ht]
  refine ⟨by simp, by simp, ?_⟩
  refine List.ext_getElem? (fun j => ?_)
  by_cases hj : p = j
  · subst hj
    have : p < Ts.length := by rw [h.tl]; exact hp
    simp [List.getD, this] at ht ⊢
    exact ht
  · simp [hj]
theorem Holds.rem {p : Nat} (h : Holds L Ks Ts) (ho : Once L) (hp : p < 24) (ht : Ts.getD p false = true) : errP 24 L (p : Int) = 0 ∧ Holds (delP 24 L (p : Int)) Ks (Ts.set p false) := by
  unfold delP
  rw [h.err hp, ht]
  refine ⟨by simp, ⟨h.kl, by simp [h.tl], fun q hq => ?_⟩⟩
  simp only [if_true]
  rw [Int.toNat_natCast, look_del ho]
  by_cases hpq : q = p
  · subst hpq
    rw [if_pos rfl, getD_set_self _ _ _ _ (by rw [h.tl]; exact hp)]; rfl
  · rw [if_neg hpq, getD_set_other _ _ _ _ _ (Ne.symm hpq)]
    exact h.look q hq
theorem Holds.take {x : Ent} {r : List Ent} (h : Holds (x :: r) Ks Ts) (ho : Once (x :: r)) (hp : x.place < 24) : Ts.getD x.place false = true ∧ Ks.getD x.place zeroK = x.key ∧ Holds r Ks (Ts.set x.place false) := by
  have h1 := h.look x.place hp
  have h2 : Go.Proofs.Ytbpmdhngobdilaa.look (x :: r) x.place = some x.key := by simp [Go.Proofs.Ytbpmdhngobdilaa.look]
  rw [h2] at h1
  have ht : Ts.getD x.place false = true := by
    cases hc : Ts.getD x.place false
    · rw [hc] at h1; cases h1
    · rfl
  rw [ht, if_pos rfl] at h1
  injection h1 with h1
  refine ⟨ht, h1.symm, ⟨h.kl, by simp [h.tl], fun q hq => ?_⟩⟩
  rw [look_cons ho]
  by_cases hpq : q = x.place
  · rw [if_pos hpq, hpq, getD_set_self _ _ _ _ (by rw [h.tl]; exact hp)]; rfl
  · rw [if_neg hpq, getD_set_other _ _ _ _ _ (Ne.symm hpq)]
    exact h.look q hq
/-- Cells of the arrays. -/
theorem ObjBox.keys {w : World} {hb ba : Nat} {v : Value} {B : Nat} {ty : TypeId} (h : ObjBox w hb ba v B (.cells (cellsK Ks).toArray ty)) {p : Nat} (hp : p < Ks.length) (c : Nat) (hc : c < 3) : w.cell? ⟨B, p * 3 + c, none⟩ = some (.int .i64 (nth3 (Ks.getD p zeroK) c)) := by
  rw [cells_at h.obj]
  have := cellsK_get Ks p c (Ks.getD p zeroK) (by simp [List.getD, hp]) hc
  simpa using this
theorem ObjBox.marks {w : World} {hb ba : Nat} {v : Value} {B : Nat} {ty : TypeId} (h : ObjBox w hb ba v B (.cells (cellsB Ts).toArray ty)) {p : Nat} (hp : p < Ts.length) : w.cell? ⟨B, p, none⟩ = some (.bool (Ts.getD p false)) := by
  rw [cells_at h.obj]
  simp [cellsB, List.getD, hp]
/-- A key is set. -/
theorem setK {W : World} {B p : Nat} {ty : TypeId} (h : W.heap[B]? = some (.cells (cellsK Ks).toArray ty (0, 0))) (hp : p < Ks.length) (k : Key3) :
    (((W.setCell ⟨B, p * 3, none⟩ (.int .i64 k.time)).setCell ⟨B, p * 3 + 1, none⟩ (.int .i64 k.source)).setCell ⟨B, p * 3 + 2, none⟩ (.int .i64 k.seq)).heap[B]? = some (.cells (cellsK (Ks.set p k)).toArray ty (0, 0)) := by
  rw [cellsK_set Ks p k hp]
  simp [World.setCell, Array.getElem?_modify, h]
theorem setB {W : World} {B p : Nat} {ty : TypeId} (h : W.heap[B]? = some (.cells (cellsB Ts).toArray ty (0, 0))) (b : Bool) : (W.setCell ⟨B, p, none⟩ (.bool b)).heap[B]? = some (.cells (cellsB (Ts.set p b)).toArray ty (0, 0)) := by
  simp [World.setCell, Array.getElem?_modify, h, cellsB, List.map_set]

/-- A heap, the two arrays, and other objects. -/
structure St (w0 w : World) (hb ba : Nat) (v : Value) (L : List Ent) (Ks : List Key3) (Ts : List Bool) (kb tb : Nat) (E : List (Nat × Obj)) : Prop where
  own : Own w0 w hb ba v 24 L
  keys : ObjBox w hb ba v kb (.cells (cellsK Ks).toArray 27)
  marks : ObjBox w hb ba v tb (.cells (cellsB Ts).toArray 28)
  ne : kb ≠ tb
  k0 : w0.heap.size ≤ kb
  t0 : w0.heap.size ≤ tb
  ex : ∀ x ∈ E, ObjBox w hb ba v x.1 x.2 ∧ x.1 ≠ kb ∧ x.1 ≠ tb
section
variable {w0 w w' : World} {hb ba : Nat} {v : Value} {kb tb : Nat} {E : List (Nat × Obj)}
theorem St.later (h : St w0 w hb ba v L Ks Ts kb tb E) (hf : Fr0 none' w w') : St w0 w' hb ba v L Ks Ts kb tb E :=
  ⟨h.own.later hf, h.keys.later hf, h.marks.later hf, h.ne, h.k0, h.t0, fun x hx => ⟨(h.ex x hx).1.later hf, (h.ex x hx).2⟩⟩
theorem St.step {v' : Value} {L' : List Ent} (h : St w0 w hb ba v L Ks Ts kb tb E) (ho : Own w0 w' hb ba v' 24 L') (hs : Step hb ba v v' w w') : St w0 w' hb ba v' L' Ks Ts kb tb E :=
  ⟨ho, h.keys.step hs, h.marks.step hs, h.ne, h.k0, h.t0, fun x hx => ⟨(h.ex x hx).1.step hs, (h.ex x hx).2⟩⟩
theorem St.alloc (h : St w0 w hb ba v L Ks Ts kb tb E) (o : Obj) : St w0 (w.alloc o) hb ba v L Ks Ts kb tb ((w.heap.size, o) :: E) := by
  have hf : Fr0 none' w (w.alloc o) := ((Fr.refl none' w).alloc o).to0
  refine ⟨h.own.later hf, h.keys.later hf, h.marks.later hf, h.ne, h.k0, h.t0, fun x hx => ?_⟩
  rcases List.mem_cons.1 hx with rfl | hx
  · exact ⟨ObjBox.new h.own o, fun e => by have := h.keys.lt; simp only at e; omega, fun e => by have := h.marks.lt; simp only at e; omega⟩
  · exact ⟨(h.ex x hx).1.later hf, (h.ex x hx).2⟩
theorem St.less {F : List (Nat × Obj)} (h : St w0 w hb ba v L Ks Ts kb tb E) (hF : ∀ x ∈ F, x ∈ E) : St w0 w hb ba v L Ks Ts kb tb F := ⟨h.own, h.keys, h.marks, h.ne, h.k0, h.t0, fun x hx => h.ex x (hF x hx)⟩
theorem St.box {B : Nat} {o : Obj} (h : St w0 w hb ba v L Ks Ts kb tb E) (hm : (B, o) ∈ E) : w.heap[B]? = some o := (h.ex _ hm).1.obj
theorem St.setKey (h : St w0 w hb ba v L Ks Ts kb tb E) {p : Nat} (hp : p < Ks.length) (k : Key3) :
    St w0 (((w.setCell ⟨kb, p * 3, none⟩ (.int .i64 k.time)).setCell ⟨kb, p * 3 + 1, none⟩ (.int .i64 k.source)).setCell ⟨kb, p * 3 + 2, none⟩ (.int .i64 k.seq)) hb ba v L (Ks.set p k) Ts kb tb E := by
  have hf : Fr0 (fun b => b = kb) w (((w.setCell ⟨kb, p * 3, none⟩ (.int .i64 k.time)).setCell ⟨kb, p * 3 + 1, none⟩ (.int .i64 k.source)).setCell ⟨kb, p * 3 + 2, none⟩ (.int .i64 k.seq)) :=
    ((((Fr.refl (fun b => b = kb) w).setCell (fun _ => rfl) _).setCell (fun _ => rfl) _).setCell (fun _ => rfl) _).to0
  exact ⟨h.own.fr' hf (fun k hk e => by subst e; exact h.keys.out hk) (fun b hb hl => by have := h.k0; omega), ⟨setK h.keys.obj hp k, h.keys.out⟩, h.marks.fr hf (fun e => h.ne e.symm), h.ne, h.k0, h.t0, fun x hx => ⟨(h.ex x hx).1.fr hf (h.ex x hx).2.1, (h.ex x hx).2⟩⟩
theorem St.setMark (h : St w0 w hb ba v L Ks Ts kb tb E) (p : Nat) (b : Bool) : St w0 (w.setCell ⟨tb, p, none⟩ (.bool b)) hb ba v L Ks (Ts.set p b) kb tb E := by
  have hf : Fr0 (fun b => b = tb) w (w.setCell ⟨tb, p, none⟩ (.bool b)) := ((Fr.refl (fun b => b = tb) w).setCell (fun _ => rfl) _).to0
  exact ⟨h.own.fr' hf (fun k hk e => by subst e; exact h.marks.out hk) (fun b hb hl => by have := h.t0; omega), h.keys.fr hf h.ne, ⟨setB h.marks.obj b, h.marks.out⟩, h.ne, h.k0, h.t0, fun x hx => ⟨(h.ex x hx).1.fr hf (h.ex x hx).2.2, (h.ex x hx).2⟩⟩
theorem St.mark (h : St w0 w hb ba v L Ks Ts kb tb E) {p : Nat} (hp : p < Ts.length) : w.cell? ⟨tb, p, none⟩ = some (.bool (Ts.getD p false)) := h.marks.marks hp
theorem St.key (h : St w0 w hb ba v L Ks Ts kb tb E) {p : Nat} (hp : p < Ks.length) : w.cell? ⟨kb, p * 3, none⟩ = some (.int .i64 (Ks.getD p zeroK).time) ∧ w.cell? ⟨kb, p * 3 + 1, none⟩ = some (.int .i64 (Ks.getD p zeroK).source) ∧ w.cell? ⟨kb, p * 3 + 2, none⟩ = some (.int .i64 (Ks.getD p zeroK).seq) :=
  ⟨h.keys.keys hp 0 (by omega), h.keys.keys hp 1 (by omega), h.keys.keys hp 2 (by omega)⟩
theorem St.thawK (h : St w0 w hb ba v L Ks Ts kb tb E) (o : Nat) : w.frozen? ⟨kb, o, none⟩ = false := frozen_at h.keys.obj o
theorem St.thawB (h : St w0 w hb ba v L Ks Ts kb tb E) (o : Nat) : w.frozen? ⟨tb, o, none⟩ = false := frozen_at h.marks.obj o
theorem put_st (h : St w0 w hb ba v L Ks Ts kb tb E) (p : Int) (k : Key3) : Calls Try.prog 13 #[.pointer (some ⟨hb, 0, none⟩), .int .i64 p, keyV k] w fun e w' => e = .returned (.int .i64 (putE 24 L p)) ∧ ∃ v', St w0 w' hb ba v' (putL 24 L p k) Ks Ts kb tb E :=
  (put_own h.own p k).mono fun _ _ ⟨he, v', h1, h2⟩ => ⟨he, v', h.step h1 h2⟩
theorem rem_st (h : St w0 w hb ba v L Ks Ts kb tb E) (p : Int) : Calls Try.prog 16 #[.pointer (some ⟨hb, 0, none⟩), .int .i64 p] w fun e w' => e = .returned (.tuple #[keyV (keyP 24 L p), .int .i64 (errP 24 L p)]) ∧ ∃ v', St w0 w' hb ba v' (delP 24 L p) Ks Ts kb tb E :=
  (rem_own h.own p).mono fun _ _ ⟨he, v', h1, h2⟩ => ⟨he, v', h.step h1 h2⟩
theorem chg_st (h : St w0 w hb ba v L Ks Ts kb tb E) (p : Int) (k : Key3) : Calls Try.prog 15 #[.pointer (some ⟨hb, 0, none⟩), .int .i64 p, keyV k] w fun e w' => e = .returned (.tuple #[keyV (keyP 24 L p), .int .i64 (errP 24 L p)]) ∧ ∃ v', St w0 w' hb ba v' (chgL 24 L p k) Ks Ts kb tb E :=
  (chg_own h.own p k).mono fun _ _ ⟨he, v', h1, h2⟩ => ⟨he, v', h.step h1 h2⟩
theorem take_st (h : St w0 w hb ba v L Ks Ts kb tb E) : Calls Try.prog 17 #[.pointer (some ⟨hb, 0, none⟩)] w fun e w' => e = .returned (.tuple #[.int .i64 (leastP L), keyV (takeK L), .int .i64 (takeE L)]) ∧ ∃ v', St w0 w' hb ba v' L.tail Ks Ts kb tb E :=
  (take_own h.own).mono fun _ _ ⟨he, v', h1, h2⟩ => ⟨he, v', h.step h1 h2⟩
theorem of_st (h : St w0 w hb ba v L Ks Ts kb tb E) (x : Sm4) (hx : x.ok) : Calls Try.prog 14 #[smV x] w fun e w' => e = .returned (keyV (ofK x)) ∧ St w0 w' hb ba v L Ks Ts kb tb E :=
  (of_any x hx w).mono fun _ _ ⟨he, hf⟩ => ⟨he, h.later hf.to0⟩
end
end Go.Proofs.Ytbpmdhngobdilaa
