/- CalendarAlone: the statement: for any input the law returns true, and the arguments read as before; no condition. -/
import Derived.Test.YtmbjfmlicffclaaJb1
import Derived.Test.YtmbjfmlicffclaaJb2
import Derived.Test.YtmbjfmlicffclaaJa
set_option linter.unusedSimpArgs false
set_option linter.unusedVariables false

/-
  A slice of small acts among the arguments.
-/
namespace Go.Proofs.Ytmbjfmlicffclaa
open Go.ChangeShapes Go.WideShapes Go.ChangeAt Go.RowKit Go.Deep Go.Joins

set_option maxRecDepth 100000 in
theorem sm5_field {H : Type} {enc : TypeId × Value → H} {w : World} {n : Nat} {v0 v1 v2 v3 v4 : Value} {y : DataW H × List MemPlace} (h : DataW.trod enc Try.prog w 0 (fun _ => true) true n 74 [v0, v1, v2, v3, v4] = some y) : ∃ x : Sm5, x.ok ∧ v0 = .int .u8 x.t ∧ v1 = .int .u8 x.s ∧ v2 = .int .u8 x.q ∧ v3 = .int .u8 x.o ∧ v4 = .int .u8 x.l := by
 obtain ⟨ys, k, _, _, _, hyl, hfl⟩ := DataW.trod_struct Try.underlying74 h
 have hone : Try.prog.cellsOf 5 = 1 := by kernel_rfl
 have f0 : DataW.trod enc Try.prog w 0 (fun _ => true) true k 5 (([v0, v1, v2, v3, v4].drop 0).take (Try.prog.cellsOf 5)) = ys[0]? := hfl 0 _ rfl
 have f1 : DataW.trod enc Try.prog w 0 (fun _ => true) true k 5 (([v0, v1, v2, v3, v4].drop 1).take (Try.prog.cellsOf 5)) = ys[1]? := hfl 1 _ rfl
 have f2 : DataW.trod enc Try.prog w 0 (fun _ => true) true k 5 (([v0, v1, v2, v3, v4].drop 2).take (Try.prog.cellsOf 5)) = ys[2]? := hfl 2 _ rfl
 have f3 : DataW.trod enc Try.prog w 0 (fun _ => true) true k 5 (([v0, v1, v2, v3, v4].drop 3).take (Try.prog.cellsOf 5)) = ys[3]? := hfl 3 _ rfl
 have f4 : DataW.trod enc Try.prog w 0 (fun _ => true) true k 5 (([v0, v1, v2, v3, v4].drop 4).take (Try.prog.cellsOf 5)) = ys[4]? := hfl 4 _ rfl
 rw [hone] at f0 f1 f2 f3 f4
 have yl : ys.length = 5 := hyl
 have t0 : DataW.trod enc Try.prog w 0 (fun _ => true) true k 5 [v0] = some (ys[0]'(by omega)) := f0.trans (List.getElem?_eq_getElem _)
 have t1 : DataW.trod enc Try.prog w 0 (fun _ => true) true k 5 [v1] = some (ys[1]'(by omega)) := f1.trans (List.getElem?_eq_getElem _)
 have t2 : DataW.trod enc Try.prog w 0 (fun _ => true) true k 5 [v2] = some (ys[2]'(by omega)) := f2.trans (List.getElem?_eq_getElem _)
 have t3 : DataW.trod enc Try.prog w 0 (fun _ => true) true k 5 [v3] = some (ys[3]'(by omega)) := f3.trans (List.getElem?_eq_getElem _)
 have t4 : DataW.trod enc Try.prog w 0 (fun _ => true) true k 5 [v4] = some (ys[4]'(by omega)) := f4.trans (List.getElem?_eq_getElem _)
 obtain ⟨a0, rfl, l0, m0⟩ := smallC t0
 obtain ⟨a1, rfl, l1, m1⟩ := smallC t1
 obtain ⟨a2, rfl, l2, m2⟩ := smallC t2
 obtain ⟨a3, rfl, l3, m3⟩ := smallC t3
 obtain ⟨a4, rfl, l4, m4⟩ := smallC t4
 exact ⟨⟨a0, a1, a2, a3, a4⟩, ⟨⟨l0, m0⟩, ⟨l1, m1⟩, ⟨l2, m2⟩, ⟨l3, m3⟩, l4, m4⟩, rfl, rfl, rfl, rfl, rfl⟩
set_option maxRecDepth 100000 in
/-- A slice of small acts, opened. -/
theorem smcs_arg {base : Nat} {H : Type} {enc : TypeId × Value → H} {W : World} {v : Value} {d : DataW H} {ps : List MemPlace}
  (hval : Value.okWide Try.prog W .any base 37 v) (h : DataW.Trod enc Try.prog W 0 (fun _ => true) true 37 v d ps) : ∃ a n cap xs, v = .slice a n cap ∧ xs.length = n ∧ n ≤ cap ∧ SmcsIn W a xs := by
 obtain ⟨A, n, cap, rfl⟩ := okWide_slice Try.underlying37 hval
 obtain ⟨fuel, hf⟩ := h
 rcases open_slice Try.underlying37 hf with ⟨hcs, _⟩ | ⟨a, len, cap', m, _, D, Pl, hcs, _, hl, hm, hz, _, hi⟩
 ·simp [Value.cells] at hcs
  obtain ⟨rfl, rfl, rfl⟩ := hcs
  exact ⟨none, 0, 0, [], rfl, rfl, Nat.le_refl _, fun j x hj => by simp at hj⟩
 ·simp [Value.cells] at hcs
  obtain ⟨rfl, rfl, rfl⟩ := hcs
  have hmn : n ≤ m := by rw [hz]; split <;> omega
  have key : ∀ i, i < n → ∃ x : Smc, x.ok ∧ ∃ g o, a = ⟨g, o, none⟩ ∧ W.cell? ⟨g, o + i * 6, none⟩ = some (.int .u8 x.kind) ∧ W.cell? ⟨g, o + i * 6 + 1, none⟩ = some (.int .u8 x.x.t) ∧ W.cell? ⟨g, o + i * 6 + 2, none⟩ = some (.int .u8 x.x.s) ∧ W.cell? ⟨g, o + i * 6 + 3, none⟩ = some (.int .u8 x.x.q) ∧ W.cell? ⟨g, o + i * 6 + 4, none⟩ = some (.int .u8 x.x.o) ∧ W.cell? ⟨g, o + i * 6 + 5, none⟩ = some (.int .u8 x.x.l) := fun i hin => by
   obtain ⟨cs, hc, ht⟩ := hi i (by omega)
   rw [show Try.prog.cellsOf 85 = 6 by kernel_rfl] at hc
   obtain ⟨ys, k, _, _, _, hyl, hfl⟩ := DataW.trod_struct Try.underlying85 ht
   obtain ⟨_, hcl, hat⟩ := World.cells?_some hc
   have hone : Try.prog.cellsOf 5 = 1 := by kernel_rfl
   have hfive : Try.prog.cellsOf 74 = 5 := by kernel_rfl
   match cs, hcl with
   | [v0, v1, v2, v3, v4, v5], _ =>
   have c0 := hat 0 (by omega)
   have c1 := hat 1 (by omega)
   have c2 := hat 2 (by omega)
   have c3 := hat 3 (by omega)
   have c4 := hat 4 (by omega)
   have c5 := hat 5 (by omega)
   have f0 : DataW.trod enc Try.prog W 0 (fun _ => true) true k 5 (([v0, v1, v2, v3, v4, v5].drop 0).take (Try.prog.cellsOf 5)) = ys[0]? := hfl 0 _ rfl
   have f1 : DataW.trod enc Try.prog W 0 (fun _ => true) true k 74 (([v0, v1, v2, v3, v4, v5].drop 1).take (Try.prog.cellsOf 74)) = ys[1]? := hfl 1 _ rfl
   rw [hone] at f0
   rw [hfive] at f1
   have yl : ys.length = 2 := hyl
   have t0 : DataW.trod enc Try.prog W 0 (fun _ => true) true k 5 [v0] = some (ys[0]'(by omega)) := f0.trans (List.getElem?_eq_getElem _)
   have t1 : DataW.trod enc Try.prog W 0 (fun _ => true) true k 74 [v1, v2, v3, v4, v5] = some (ys[1]'(by omega)) := f1.trans (List.getElem?_eq_getElem _)
   obtain ⟨a0, rfl, l0, m0⟩ := smallC t0
   obtain ⟨x, hx, rfl, rfl, rfl, rfl, rfl⟩ := sm5_field t1
   obtain ⟨cs', hc', _⟩ := hi 0 (by omega)
   rw [show Try.prog.cellsOf 85 = 6 by kernel_rfl] at hc'
   obtain ⟨_, hcl', hat'⟩ := World.cells?_some hc'
   have z0 := hat' 0 (by omega)
   rw [List.getElem?_eq_getElem (by omega)] at z0
   obtain ⟨b, off, spot⟩ := a
   have hspot : spot = none := by simpa [Addr.add] using World.cell?_spot z0
   subst hspot
   rw [Addr.add_mid, Addr.add_mid] at c0 c1 c2 c3 c4 c5
   exact ⟨⟨a0, x⟩, ⟨⟨l0, m0⟩, hx⟩, b, off, rfl, c0, c1, c2, c3, c4, c5⟩
  obtain ⟨xs, hxl, hx⟩ := listC n key
  refine ⟨some a, n, cap, xs, rfl, hxl, by simpa using hl, fun j x hj => ?_⟩
  obtain ⟨hok, g, o, rfl, q0, q1, q2, q3, q4, q5⟩ := hx j x hj
  exact ⟨hok, g, o, rfl, q0, q1, q2, q3, q4, q5⟩
end Go.Proofs.Ytmbjfmlicffclaa

/-
  Calendars in plain words: what an act takes and leaves; acts of one name alone.
-/
namespace Go.Proofs.Ytmbjfmlicffclaa
open Go Go.RowKit

theorem doC_put {n : Nat} {E : List Ev} (h : GoodE n E) {a : Ca} (hk : a.kind = 1) : (doC n E a).2.evs = [] ∧ (((doC n E a).2.err = 0 ∧ (doC n E a).1.Perm (a.x :: E)) ∨ ((doC n E a).2.err ≠ 0 ∧ (doC n E a).1 = E)) := by
 unfold doC
 rw [if_pos hk]
 refine ⟨rfl, ?_⟩
 simp only
 rcases put_cases n E a.x h.le with ⟨_, e1, e2⟩ | ⟨_, _, e1, e2⟩ | ⟨_, _, _, e1, e2⟩ | ⟨_, _, _, e1, e2⟩
 ·exact .inr ⟨by rw [e1]; decide, e2⟩
 ·exact .inr ⟨by rw [e1]; decide, e2⟩
 ·exact .inr ⟨by rw [e1]; decide, e2⟩
 ·exact .inl ⟨e1, by rw [e2]; exact insE_perm _ _⟩
theorem cancel_perm {n : Nat} {E : List Ev} (h : GoodE n E) (p : Int × Int) : E.Perm ((cancelC p E).2.evs ++ (cancelC p E).1) ∧ ((cancelC p E).2.err ≠ 0 → (cancelC p E).2.evs = []) := by
 unfold cancelC
 cases hf : findE p E with
 | none => exact ⟨List.Perm.refl _, fun _ => rfl⟩
 | some y =>
  obtain ⟨h1, rfl⟩ := (findE_some h.once).1 hf
  exact ⟨delE_perm h.once h1, fun h => absurd rfl h⟩
theorem doC_out {n : Nat} {E : List Ev} (h : GoodE n E) {a : Ca} (hk : a.kind ≠ 1) : E.Perm ((doC n E a).2.evs ++ (doC n E a).1) ∧ ((doC n E a).2.err ≠ 0 → (doC n E a).2.evs = []) := by
 unfold doC
 rw [if_neg hk]
 split
 ·cases E with
  | nil => exact ⟨List.Perm.refl _, fun _ => rfl⟩
  | cons x r => exact ⟨List.Perm.refl _, fun h => absurd rfl h⟩
 ·split
  ·refine ⟨?_, fun h => absurd rfl h⟩
   simp only
   rw [← bef_aft h.asc]
  ·split
   ·exact cancel_perm h a.x.name
   ·exact ⟨by simp, fun h => absurd rfl h⟩

/-! ### Acts of one name -/
def mineE (p : Int × Int) (x : Ev) : Bool := x.name == p
def mineA (p : Int × Int) (a : Ca) : Bool := a.kind == 3 || mineE p a.x
theorem filter_bef (p : Int × Int) (t : Int) (E : List Ev) : befE t (E.filter (mineE p)) = (befE t E).filter (mineE p) ∧ aftE t (E.filter (mineE p)) = (aftE t E).filter (mineE p) := by
 unfold befE aftE
 simp only [List.filter_filter, Bool.and_comm, and_self]
theorem filter_ins {p : Int × Int} {x : Ev} (hx : x.name = p) {E : List Ev} (h : AscE E) (hn : ∀ y ∈ E, y.name ≠ x.name) : (insE x E).filter (mineE p) = insE x (E.filter (mineE p)) := by
 refine asc_ext (List.Pairwise.filter _ (insE_asc h hn)) (insE_asc (List.Pairwise.filter _ h) (fun y hy => hn y (List.mem_filter.1 hy).1)) ?_
 refine ((insE_perm x E).filter _).trans ?_
 rw [List.filter_cons_of_pos (by simp [mineE, hx])]
 exact (insE_perm x _).symm
theorem filter_ins_off {p : Int × Int} {x : Ev} (hx : x.name ≠ p) {E : List Ev} (h : AscE E) (hn : ∀ y ∈ E, y.name ≠ x.name) : (insE x E).filter (mineE p) = E.filter (mineE p) := by
 refine asc_ext (List.Pairwise.filter _ (insE_asc h hn)) (List.Pairwise.filter _ h) ?_
 refine ((insE_perm x E).filter _).trans ?_
 rw [List.filter_cons_of_neg (by simp [mineE, hx])]
theorem find_mine (p : Int × Int) (E : List Ev) : findE p (E.filter (mineE p)) = findE p E := by
 unfold findE mineE
 rw [List.find?_filter]
 congr 1
 funext x
 rw [Bool.eq_iff_iff]
 simp
theorem del_mine (p : Int × Int) (E : List Ev) : (delE p E).filter (mineE p) = delE p (E.filter (mineE p)) := by
 unfold delE
 rw [List.filter_filter, List.filter_filter]
 congr 1
 funext x
 exact Bool.and_comm _ _
theorem del_off {p q : Int × Int} (hq : q ≠ p) (E : List Ev) : (delE q E).filter (mineE p) = E.filter (mineE p) := by
 unfold delE mineE
 rw [List.filter_filter]
 refine List.filter_congr (fun x _ => ?_)
 by_cases h : x.name = p
 ·have : x.name ≠ q := fun e => hq (e.symm.trans h)
  simp [h]
  exact fun e => hq e.symm
 ·simp [h]
theorem alone_on {n : Nat} {E : List Ev} {p : Int × Int} (h : GoodE n E) (hl : E.length < n) {a : Ca} (hk : a.kind = 1 ∨ a.kind = 3 ∨ a.kind = 4) (hm : mineA p a = true) :
  (doC n (E.filter (mineE p)) a).1 = (doC n E a).1.filter (mineE p) ∧ (doC n (E.filter (mineE p)) a).2.err = (doC n E a).2.err ∧ (doC n (E.filter (mineE p)) a).2.evs = (doC n E a).2.evs.filter (mineE p) := by
 have hf : GoodE n (E.filter (mineE p)) := h.sub List.filter_sublist
 have hfl : (E.filter (mineE p)).length < n := Nat.lt_of_le_of_lt (List.length_filter_le _ _) hl
 unfold mineA at hm
 unfold doC
 rcases hk with hk | hk | hk
 ·have hx : a.x.name = p := by simpa [hk, mineE] using hm
  rw [if_pos hk, if_pos hk]
  rcases put_cases n E a.x h.le with ⟨g1, e1, e2⟩ | ⟨g1, ⟨y, hy, hyn⟩, e1, e2⟩ | ⟨_, _, g3, _, _⟩ | ⟨g1, g2, g3, e1, e2⟩
  ·rcases put_cases n (E.filter (mineE p)) a.x hf.le with ⟨_, d1, d2⟩ | ⟨k1, _⟩ | ⟨k1, _⟩ | ⟨k1, _⟩
   ·rw [e1, e2, d1, d2]; exact ⟨rfl, rfl, rfl⟩
   ·exact absurd k1 g1
   ·exact absurd k1 g1
   ·exact absurd k1 g1
  ·have hy' : y ∈ E.filter (mineE p) := List.mem_filter.2 ⟨hy, by simp [mineE, hyn, hx]⟩
   rcases put_cases n (E.filter (mineE p)) a.x hf.le with ⟨k1, _⟩ | ⟨_, _, d1, d2⟩ | ⟨_, k2, _⟩ | ⟨_, k2, _⟩
   ·exact absurd g1 k1
   ·rw [e1, e2, d1, d2]; exact ⟨rfl, rfl, rfl⟩
   ·exact absurd hyn (k2 y hy')
   ·exact absurd hyn (k2 y hy')
  ·omega
  ·rcases put_cases n (E.filter (mineE p)) a.x hf.le with ⟨k1, _⟩ | ⟨_, ⟨y, hy, hyn⟩, _⟩ | ⟨_, _, k3, _⟩ | ⟨_, _, _, d1, d2⟩
   ·exact absurd g1 k1
   ·exact absurd hyn (g2 y (List.mem_filter.1 hy).1)
   ·omega
   ·rw [e1, e2, d1, d2]; exact ⟨(filter_ins hx h.asc g2).symm, rfl, rfl⟩
 ·rw [if_neg (by omega), if_neg (by omega), if_pos hk, if_neg (by omega), if_neg (by omega), if_pos hk]
  exact ⟨(filter_bef p a.time E).2, rfl, (filter_bef p a.time E).1⟩
 ·have hx : a.x.name = p := by simpa [hk, mineE] using hm
  rw [if_neg (by omega), if_neg (by omega), if_neg (by omega), if_pos hk, if_neg (by omega), if_neg (by omega), if_neg (by omega), if_pos hk]
  unfold cancelC
  rw [hx, find_mine]
  cases hfd : findE p E with
  | none => exact ⟨rfl, rfl, rfl⟩
  | some y =>
   obtain ⟨_, hy⟩ := (findE_some h.once).1 hfd
   exact ⟨(del_mine p E).symm, rfl, by simp [mineE, hy]⟩
theorem alone_off {n : Nat} {E : List Ev} {p : Int × Int} (h : GoodE n E) {a : Ca} (hk : a.kind = 1 ∨ a.kind = 3 ∨ a.kind = 4) (hm : mineA p a = false) : (doC n E a).1.filter (mineE p) = E.filter (mineE p) := by
 unfold mineA mineE at hm
 simp only [Bool.or_eq_false_iff, beq_eq_false_iff_ne, ne_eq] at hm
 obtain ⟨h3, hx⟩ := hm
 unfold doC
 rcases hk with hk | hk | hk
 ·rw [if_pos hk]
  simp only
  rcases put_cases n E a.x h.le with ⟨_, _, e2⟩ | ⟨_, _, _, e2⟩ | ⟨_, _, _, _, e2⟩ | ⟨_, g2, _, _, e2⟩
  ·rw [e2]
  ·rw [e2]
  ·rw [e2]
  ·rw [e2]; exact filter_ins_off hx h.asc g2
 ·exact absurd hk h3
 ·rw [if_neg (by omega), if_neg (by omega), if_neg (by omega), if_pos hk]
  unfold cancelC
  cases hfd : findE a.x.name E with
  | none => rfl
  | some y => exact del_off hx E
theorem doC_grow {n : Nat} {E : List Ev} (h : GoodE n E) (a : Ca) : (doC n E a).1.length ≤ E.length + 1 := by
 by_cases hk : a.kind = 1
 ·rcases (doC_put h hk).2 with ⟨_, hp⟩ | ⟨_, e⟩
  ·have := hp.length_eq; rw [List.length_cons] at this; omega
  ·rw [e]; omega
 ·have := (doC_out h hk).1.length_eq
  rw [List.length_append] at this
  omega
/-- What the acts of a name make alone. -/
theorem alone_st {n : Nat} {p : Int × Int} : ∀ (A : List Ca) {E : List Ev}, GoodE n E → E.length + A.length ≤ n → (∀ a ∈ A, a.kind = 1 ∨ a.kind = 3 ∨ a.kind = 4) → stC n (E.filter (mineE p)) (A.filter (mineA p)) = (stC n E A).filter (mineE p)
 | [], _, _, _, _ => rfl
 | a :: r, E, h, hl, hk => by
  rw [List.length_cons] at hl
  have hka := hk a List.mem_cons_self
  have hr : ∀ b ∈ r, b.kind = 1 ∨ b.kind = 3 ∨ b.kind = 4 := fun b hb => hk b (List.mem_cons_of_mem _ hb)
  have hg := doC_grow h a
  rw [stC_cons]
  cases hm : mineA p a with
  | true =>
   rw [List.filter_cons_of_pos hm, stC_cons, (alone_on h (by omega) hka hm).1]
   exact alone_st r (h.act a) (by omega) hr
  | false =>
   rw [List.filter_cons_of_neg (by rw [hm]; decide), ← alone_off h hka hm]
   exact alone_st r (h.act a) (by omega) hr
theorem filter_take {α : Type} (f : α → Bool) (L : List α) (i : Nat) : (L.filter f).take ((L.take i).filter f).length = (L.take i).filter f := by
 conv => lhs; rw [← List.take_append_drop i L, List.filter_append]
 rw [List.take_append_drop, List.take_left']
 rfl
theorem filter_at {α : Type} {f : α → Bool} {L : List α} {i : Nat} {x : α} (hx : L[i]? = some x) (hf : f x = true) : (L.filter f)[((L.take i).filter f).length]? = some x := by
 have h1 : L = L.take i ++ x :: L.drop (i + 1) := by
  obtain ⟨hk, e⟩ := List.getElem?_eq_some_iff.1 hx
  rw [← e, List.getElem_cons_drop, List.take_append_drop]
 conv => lhs; rw [h1, List.filter_append, List.filter_cons_of_pos hf]
 have h2 : (L.take i ++ x :: L.drop (i + 1)).take i = L.take i := by rw [← h1]
 rw [h2, List.getElem?_append_right (Nat.le_refl _), Nat.sub_self]
 rfl
/-- What an act of a name tells alone. -/
theorem alone_tl {n : Nat} {p : Int × Int} {A : List Ca} (hl : A.length ≤ n) (hk : ∀ a ∈ A, a.kind = 1 ∨ a.kind = 3 ∨ a.kind = 4) {i : Nat} {a : Ca} (ha : A[i]? = some a) (hm : mineA p a = true) {t : Tl} (ht : (tlC n [] A)[i]? = some t) :
  (tlC n [] (A.filter (mineA p)))[((A.take i).filter (mineA p)).length]? = some ⟨t.err, t.evs.filter (mineE p)⟩ := by
 have hi := (List.getElem?_eq_some_iff.1 ha).1
 rw [tlC_at (filter_at ha hm), filter_take]
 rw [tlC_at ha] at ht
 have h1 := alone_st (p := p) (A.take i) (GoodE.nil n) (by rw [List.length_take]; simp; omega) (fun b hb => hk b (List.mem_of_mem_take hb))
 rw [List.filter_nil] at h1
 have hg : GoodE n (stC n [] (A.take i)) := GoodE.acts _ (GoodE.nil n)
 have hlen : ∀ (B : List Ca) {E : List Ev}, GoodE n E → (stC n E B).length ≤ E.length + B.length := by
  intro B
  induction B with
  | nil => intro E _; exact Nat.le_refl _
  | cons b r ih =>
   intro E h
   rw [stC_cons, List.length_cons]
   have := ih (h.act b)
   have := doC_grow h b
   omega
 have hE := hlen (A.take i) (GoodE.nil n)
 rw [List.length_take, List.length_nil] at hE
 obtain ⟨_, h3, h4⟩ := alone_on (p := p) hg (by omega) (hk a (List.mem_of_getElem? ha)) hm
 injection ht with ht
 rw [h1, ← ht, ← h3, ← h4]
end Go.Proofs.Ytmbjfmlicffclaa

/-
  slices.DeleteFunc at events.
-/
namespace Go.Proofs.Ytmbjfmlicffclaa
open Go Go.RowKit
attribute [local go_sem ↓] Go.wp_at_zero Go.wp_at_succ
attribute [local go_sem] Oper.semAt_some wide_fn wide_depth wide_fnR wide_depthR

theorem flatEv_setC {V : List Ev} {p : Nat} {y : Ev} (hy : V[p]? = some y) (t s q o v : Int) :
  (((((flatEv V).set (p * 5) (.int .i64 t)).set (p * 5 + 1) (.int .i64 s)).set (p * 5 + 2) (.int .i64 q)).set (p * 5 + 3) (.int .i64 o)).set (p * 5 + 4) (.int .i64 v) = flatEv (V.set p ⟨⟨t, s, q⟩, o, v⟩) := by
 have hl : p < V.length := (List.getElem?_eq_some_iff.1 hy).1
 have e0 := flat_set cev_len (x' := ⟨⟨t, y.key.source, y.key.seq⟩, y.to, y.value⟩) hy (j := 0) (by omega) (v := .int .i64 t) rfl
 have e1 := flat_set cev_len (P := V.set p ⟨⟨t, y.key.source, y.key.seq⟩, y.to, y.value⟩) (x' := ⟨⟨t, s, y.key.seq⟩, y.to, y.value⟩) (List.getElem?_set_self hl) (j := 1) (by omega) (v := .int .i64 s) rfl
 have e2 := flat_set cev_len (P := V.set p ⟨⟨t, s, y.key.seq⟩, y.to, y.value⟩) (x' := ⟨⟨t, s, q⟩, y.to, y.value⟩) (List.getElem?_set_self hl) (j := 2) (by omega) (v := .int .i64 q) rfl
 have e3 := flat_set cev_len (P := V.set p ⟨⟨t, s, q⟩, y.to, y.value⟩) (x' := ⟨⟨t, s, q⟩, o, y.value⟩) (List.getElem?_set_self hl) (j := 3) (by omega) (v := .int .i64 o) rfl
 have e4 := flat_set cev_len (P := V.set p ⟨⟨t, s, q⟩, o, y.value⟩) (x' := ⟨⟨t, s, q⟩, o, v⟩) (List.getElem?_set_self hl) (j := 4) (by omega) (v := .int .i64 v) rfl
 rw [List.set_set] at e1 e2 e3 e4
 unfold flatEv
 rw [Nat.add_zero] at e0
 rw [e0, e1, e2, e3, e4]
/-- A row of events in a block, spare places behind it. -/
def RowB (w : World) (g n cap : Nat) (Q : List Ev) : Prop := ∃ cu ty, w.heap[g]? = some (.cells cu ty (0, 0)) ∧ n ≤ cap ∧ cu.size = cap * 5 ∧ Q.length = n ∧ cu.toList.take (n * 5) = flatEv Q
theorem RowB.of_own {w : World} {base g n cap : Nat} {Q : List Ev} (h : w.ownsRow base 47 5 (.slice (some ⟨g, 0, none⟩) n cap) n (flatEv Q)) : RowB w g n cap Q := by
 obtain ⟨cur, hbg, hg, hnc, hcm, hs, hxl, htk⟩ := row_cells5 h
 exact ⟨cur, _, hg, hnc, hs, by rw [flatEv_length] at hxl; omega, htk⟩
theorem RowB.fr0 {S : Nat → Prop} {w w' : World} {g n cap : Nat} {Q : List Ev} (h : RowB w g n cap Q) (hf : Fr0 S w w') (hS : ¬ S g) : RowB w' g n cap Q := by
 obtain ⟨cu, ty, hg, r⟩ := h
 exact ⟨cu, ty, (hf.block g (Array.getElem?_eq_some_iff.1 hg).1 hS).trans hg, r⟩
theorem RowB.esIn {w : World} {g n cap : Nat} {Q : List Ev} (h : RowB w g n cap Q) : EsIn w (some ⟨g, 0, none⟩) Q := by
 obtain ⟨cu, ty, hg, _, _, _, ht⟩ := h
 exact EsIn.of_cells hg ht
theorem RowB.thaw {w : World} {g n cap : Nat} {Q : List Ev} (h : RowB w g n cap Q) (j : Nat) : w.frozen? ⟨g, j, none⟩ = false := by
 obtain ⟨cu, ty, hg, _⟩ := h
 exact thaw_in hg j
theorem RowB.put {w : World} {g n cap i : Nat} {Q : List Ev} (h : RowB w g n cap Q) (hi : i < n) (x : Ev) :
  RowB (((((w.setCell ⟨g, i * 5, none⟩ (.int .i64 x.key.time)).setCell ⟨g, i * 5 + 1, none⟩ (.int .i64 x.key.source)).setCell ⟨g, i * 5 + 2, none⟩ (.int .i64 x.key.seq)).setCell ⟨g, i * 5 + 3, none⟩ (.int .i64 x.to)).setCell ⟨g, i * 5 + 4, none⟩ (.int .i64 x.value)) g n cap (Q.set i x) := by
 obtain ⟨cu, ty, hg, hnc, hs, hl, ht⟩ := h
 obtain ⟨y, hy⟩ : ∃ y, Q[i]? = some y := ⟨_, List.getElem?_eq_getElem (by omega)⟩
 refine ⟨_, ty, heap_set_cell (heap_set_cell (heap_set_cell (heap_set_cell (heap_set_cell hg _) _) _) _) _, hnc, by simpa using hs, by rw [List.length_set]; exact hl, ?_⟩
 simp only [Array.toList_setIfInBounds]
 rw [List.take_set, List.take_set, List.take_set, List.take_set, List.take_set, ht]
 exact flatEv_setC hy _ _ _ _ _
theorem zero_evs (n : Nat) : (Builtin.zeroCells (Value.agg #[.int .i64 0, .int .i64 0, .int .i64 0, .int .i64 0, .int .i64 0]).cells n).toList.length = n * 5 := by
 rw [Array.length_toList, size_zeroCells]
 rfl
theorem zero_evs_one (n : Nat) : ∀ u ∈ (Builtin.zeroCells (Value.agg #[.int .i64 0, .int .i64 0, .int .i64 0, .int .i64 0, .int .i64 0]).cells n).toList, u.oneCell' = true := fun u hu => by
 unfold Builtin.zeroCells at hu
 rw [Array.mem_toList_iff, Array.mem_map] at hu
 obtain ⟨k, _, rfl⟩ := hu
 have h5 : k % 5 = 0 ∨ k % 5 = 1 ∨ k % 5 = 2 ∨ k % 5 = 3 ∨ k % 5 = 4 := by omega
 show (#[Value.int .i64 0, .int .i64 0, .int .i64 0, .int .i64 0, .int .i64 0] : Array Value)[k % 5]!.oneCell' = true
 rcases h5 with h | h | h | h | h <;> rw [h] <;> rfl
set_option maxRecDepth 100000 in
set_option maxHeartbeats 4000000 in
theorem DeleteFuncE {w : World} {g n cap : Nat} (P : List Ev) (hrow : RowB w g n cap P) (hn : n ≤ 100000) (gf : Nat) (lb : Array Value) (f : Ev → Bool)
  (eg : ∀ args w, (callFunc gf args).run Try.prog w = .ok (.enter gf args) w)
  (hf : ∀ x W, Fr0 (fun k => k = g) w W → Calls Try.prog gf (#[evV x] ++ lb) W fun e w' => e = .returned (.bool (f x)) ∧ Fr0 none' W w') :
  Calls Try.prog 21 #[.slice (some ⟨g, 0, none⟩) n cap, .func (.func gf) #[] lb] w fun e w' => e = .returned (.slice (some ⟨g, 0, none⟩) (P.filter (fun x => !f x)).length cap) ∧ EsIn w' (some ⟨g, 0, none⟩) (P.filter (fun x => !f x)) ∧ Fr0 (fun k => k = g) w w' := by
 have hPl : P.length = n := by obtain ⟨_, _, _, _, _, h, _⟩ := hrow; exact h
 have hnc : n ≤ cap := by obtain ⟨_, _, _, h, _⟩ := hrow; exact h
 have HI := Lib.hid (IndexE (cap := cap) P hrow.esIn hPl (by omega) gf lb f eg (fun x W h => hf x W (h.mono (fun _ _ h => h.elim))))
 have Hf := Lib.hid hf
 have HP := Lib.hid hPl
 have HR := Lib.hid hrow
 have hcs := idxI_cases f P
 obtain ⟨R, hR⟩ : ∃ R, idxI f P = R := ⟨_, rfl⟩
 rw [hR] at HI hcs
 clear hf hPl hrow hR
 rcases hcs with ⟨rfl, hall⟩ | ⟨k, rfl, hk, y0, hy0, hfy0, hpre⟩
 ·have hfl : P.filter (fun x => !f x) = P := List.filter_eq_self.2 (fun x hx => by rw [hall x hx]; rfl)
  rw [hfl, HP.out]
  clear hall hfl
  go_enter Try.func21, Try.ntmps21
  go_wp2_with fail
  refine HI.out.mono ?_
  rintro e w1 ⟨rfl, hf1⟩
  have F1 := Lib.hid hf1
  clear hf1
  go_wp2_with fail
  go_ret
  exact ⟨rfl, (HR.out.fr0 F1.out id).esIn, F1.out.mono (fun _ _ h => h.elim)⟩
 ·have hkn : k < n := by rw [← HP.out]; exact hk
  have h0 : (P.take k).filter (fun x => !f x) = P.take k := List.filter_eq_self.2 (fun x hx => by rw [hpre x hx]; rfl)
  have hk1 : P.take k = (P.take (k + 1)).filter (fun x => !f x) := by
   rw [List.take_add_one, hy0, List.filter_append, h0]
   simp [hfy0]
  have Hk1 := Lib.hid hk1
  have e1 : ((k : Int) == -1) = false := beq_eq_false_iff_ne.2 (by omega)
  clear hk hy0 hfy0 hpre h0 hk1
  go_enter Try.func21, Try.ntmps21
  go_wp2_with fail
  refine HI.out.mono ?_
  rintro e w1 ⟨rfl, hf1⟩
  have HR1 := Lib.hid (HR.out.fr0 hf1 id)
  have F1 := Lib.hid (hf1.mono (S' := fun k => k = g) (fun _ _ h => h.elim))
  clear hf1
  go_wp2_with fail
  go_loopw [5, 6, 7] (fun iv jv _ wr => ∃ (i j : Nat) (Q : List Ev), k ≤ i ∧ i < j ∧ j ≤ n ∧ iv = .int .i64 i ∧ jv = .int .i64 j ∧ Hid (RowB wr g n cap Q) ∧ Hid (Q.take i = (P.take j).filter (fun x => !f x)) ∧ Hid (Q.drop j = P.drop j) ∧ Hid (Fr0 (fun k => k = g) w wr)) (fun _ jv _ _ => n - (Go.RowKit.intOf jv).toNat)
  case atStart => exact ⟨k, k + 1, P, Nat.le_refl _, by omega, by omega, rfl, by go_num, HR1, Hk1, by unfold Hid; rfl, F1⟩
  case round =>
   obtain ⟨i, j, Q, hki, hij, hjn, rfl, rfl, hrw, htk, hdr, hfr⟩ := hrel
   have i1 : (0 : Int) ≤ (i : Int) := by omega
   have i2 : (i : Int) < (n : Int) := by omega
   by_cases hlt : j < n
   ·obtain ⟨x, hx⟩ : ∃ x, P[j]? = some x := ⟨_, List.getElem?_eq_getElem (by rw [HP.out]; exact hlt)⟩
    have hqx : Q[j]? = some x := by
     have := congrArg (fun l => l[0]?) hdr.out
     simp only [List.getElem?_drop, Nat.add_zero] at this
     rw [this, hx]
    have hes := hrw.out.esIn
    obtain ⟨g', o', e', x0, x1, x2, x3, x4⟩ := hes j x hqx
    injection e' with e'
    injection e' with e1' e2' _
    subst e1'
    subst e2'
    simp only [Nat.zero_add] at x0 x1 x2 x3 x4
    have j1 : (0 : Int) ≤ (j : Int) := by omega
    have j2 : (j : Int) < (n : Int) := by omega
    have Hx := Lib.hid hx
    obtain ⟨xb, hxb⟩ : ∃ b, wr.heap.size = b := ⟨_, rfl⟩
    obtain ⟨W2, hW2⟩ : ∃ V, wr.alloc (.cells #[.int .i64 x.key.time, .int .i64 x.key.source, .int .i64 x.key.seq, .int .i64 x.to, .int .i64 x.value] 47) = V := ⟨_, rfl⟩
    have f2 : Fr0 none' wr W2 := by rw [← hW2]; exact (Fr0.refl _ _).alloc _
    have b2 : W2.heap[xb]? = some (.cells #[.int .i64 x.key.time, .int .i64 x.key.source, .int .i64 x.key.seq, .int .i64 x.to, .int .i64 x.value] 47 (0, 0)) := by rw [← hW2, ← hxb]; exact World.alloc_heap_new _ _
    have c0 := cells_in b2 0
    have c1 := cells_in b2 1
    have c2 := cells_in b2 2
    have c3 := cells_in b2 3
    have c4 := cells_in b2 4
    simp at c0 c1 c2 c3 c4
    have FR := Lib.hid (hfr.out.trans (f2.mono (fun _ _ h => h.elim)))
    have HC := Lib.hid (Hf.out x W2 FR.out)
    obtain ⟨b, hb⟩ : ∃ b, f x = b := ⟨_, rfl⟩
    rw [hb] at HC
    unfold evV at HC
    have Hb := Lib.hid hb
    have HRW := Lib.hid (hrw.out.fr0 f2 id)
    have HB2 := Lib.hid b2
    have Hxbn := Lib.hid (show g ≠ xb by
     rw [← hxb]
     obtain ⟨cu, ty, hg, _⟩ := hrw.out
     have := (Array.getElem?_eq_some_iff.1 hg).1
     omega)
    clear hx hqx hes hb f2 b2 hrw hfr
    cases b with
    | true =>
     have hnx := Lib.hid (show Q.take i = (P.take (j + 1)).filter (fun x => !f x) by
      rw [List.take_add_one, Hx.out, List.filter_append, htk.out]
      simp [Hb.out])
     have hdn := Lib.hid (show Q.drop (j + 1) = P.drop (j + 1) by rw [← List.drop_drop, ← List.drop_drop, hdr.out])
     go_wp2_with fail
     refine HC.out.mono ?_
     rintro e w3 ⟨rfl, hf3⟩
     have HRW := Lib.hid (HRW.out.fr0 hf3 id)
     have FR := Lib.hid (FR.out.trans (hf3.mono (fun _ _ h => h.elim)))
     clear hf3 hW2 hxb
     go_wp2_with fail
     go_roundw
     case rel => exact ⟨i, j + 1, Q, by omega, by omega, by omega, rfl, by go_num, HRW, hnx, hdn, FR⟩
     case measure => simp [Go.RowKit.intOf]; omega
    | false =>
     have hil : i < Q.length := by obtain ⟨_, _, _, _, _, h, _⟩ := HRW.out; omega
     have hnx := Lib.hid (show (Q.set i x).take (i + 1) = (P.take (j + 1)).filter (fun x => !f x) by
      rw [List.take_add_one, List.getElem?_set_self hil, List.take_set, List.take_add_one, Hx.out, List.filter_append, htk.out]
      rw [List.set_eq_of_length_le (by rw [← htk.out, List.length_take]; omega)]
      simp [Hb.out])
     have hdn := Lib.hid (show (Q.set i x).drop (j + 1) = P.drop (j + 1) by rw [List.drop_set_of_lt (by omega), ← List.drop_drop, ← List.drop_drop, hdr.out])
     go_wp2_with fail
     refine HC.out.mono ?_
     rintro e w3 ⟨rfl, hf3⟩
     have hrw3 := HRW.out.fr0 hf3 id
     have hp := hrw3.put (i := i) (by omega) x
     have FR := Lib.hid (FR.out.trans (hf3.mono (fun _ _ h => h.elim)))
     have b3 := (hf3.block xb (Array.getElem?_eq_some_iff.1 HB2.out).1 id).trans HB2.out
     have c0 := cells_in b3 0
     have c1 := cells_in b3 1
     have c2 := cells_in b3 2
     have c3 := cells_in b3 3
     have c4 := cells_in b3 4
     simp at c0 c1 c2 c3 c4
     obtain ⟨q, hq⟩ : ∃ q, Q[i]? = some q := ⟨_, List.getElem?_eq_getElem hil⟩
     obtain ⟨g', o', e', z0, z1, z2, z3, z4⟩ := hrw3.esIn i q hq
     injection e' with e'
     injection e' with e1' e2' _
     subst e1'
     subst e2'
     simp only [Nat.zero_add] at z0 z1 z2 z3 z4
     have t0 := hrw3.thaw (i * 5)
     have t1 := hrw3.thaw (i * 5 + 1)
     have t2 := hrw3.thaw (i * 5 + 2)
     have t3 := hrw3.thaw (i * 5 + 3)
     have t4 := hrw3.thaw (i * 5 + 4)
     have f4 : Fr0 (fun k => k = g) w3 (((((w3.setCell ⟨g, i * 5, none⟩ (.int .i64 x.key.time)).setCell ⟨g, i * 5 + 1, none⟩ (.int .i64 x.key.source)).setCell ⟨g, i * 5 + 2, none⟩ (.int .i64 x.key.seq)).setCell ⟨g, i * 5 + 3, none⟩ (.int .i64 x.to)).setCell ⟨g, i * 5 + 4, none⟩ (.int .i64 x.value)) :=
      (((((Fr0.refl (fun k => k = g) w3).setCell (fun _ => rfl) _).setCell (fun _ => rfl) _).setCell (fun _ => rfl) _).setCell (fun _ => rfl) _).setCell (fun _ => rfl) _
     have FR := Lib.hid (FR.out.trans f4)
     have Hp := Lib.hid hp
     clear hf3 hW2 hxb hrw3 hp b3 f4 hq hil
     go_wp2_with fail
     go_roundw
     case rel => exact ⟨i + 1, j + 1, Q.set i x, by omega, by omega, by omega, by go_num, by go_num, Hp, hnx, hdn, FR⟩
     case measure => simp [Go.RowKit.intOf]; omega
   ·have hjn' : j = n := by omega
    have hfin : Q.take i = P.filter (fun x => !f x) := by
     have h1 := htk.out
     rwa [List.take_of_length_le (l := P) (by rw [HP.out]; omega)] at h1
    obtain ⟨cu, ty, hg, _, hs, hql, ht⟩ := hrw.out
    have hcl : ∀ ty, (Builtin.clear_ #[24] ty #[.slice (some ⟨g, i * 5, none⟩) (n - i) (cap - i)]).run Try.prog wr = .ok (.tuple #[]) (wr.setCells g (i * 5) (Builtin.zeroCells (Value.agg #[.int .i64 0, .int .i64 0, .int .i64 0, .int .i64 0, .int .i64 0]).cells (n - i)).toList) := fun ty' =>
     run_clear_k wr _ _ ty' _ Try.underlying24 zero_ev g _ _ _ _ rfl (fun u hu => by
      exact zero_evs_one (n - i) u hu) (by omega) (fun t h1 => by
      rw [zero_evs] at h1
      rw [cells_in hg, Array.getElem?_eq_getElem (by rw [hs]; omega)]; rfl) (fun t _ => thaw_in hg _)
    have hW := heap_setCells_at (Builtin.zeroCells (Value.agg #[.int .i64 0, .int .i64 0, .int .i64 0, .int .i64 0, .int .i64 0]).cells (n - i)).toList (i * 5) wr _ hg
    have hfw : Fr0 (fun k => k = g) wr (wr.setCells g (i * 5) (Builtin.zeroCells (Value.agg #[.int .i64 0, .int .i64 0, .int .i64 0, .int .i64 0, .int .i64 0]).cells (n - i)).toList) := below_setCells0 (S := fun k => k = g) rfl _ _ _ (Fr0.refl _ wr)
    have hes : EsIn (wr.setCells g (i * 5) (Builtin.zeroCells (Value.agg #[.int .i64 0, .int .i64 0, .int .i64 0, .int .i64 0, .int .i64 0]).cells (n - i)).toList) (some ⟨g, 0, none⟩) (Q.take i) := by
     refine EsIn.of_cells (n := i) hW ?_
     apply List.ext_getElem?
     intro t
     rw [flatEv_take, List.getElem?_take, List.getElem?_take]
     split
     ·rw [Array.getElem?_toList, over_get, if_neg (by omega), ← ht, List.getElem?_take, if_pos (by omega), Array.getElem?_toList]
     ·rfl
    have hlen : (P.filter (fun x => !f x)).length = i := by rw [← hfin, List.length_take]; omega
    rw [hfin] at hes
    have Hes := Lib.hid hes
    have Hfw := Lib.hid (hfr.out.trans hfw)
    have Hlen := Lib.hid hlen
    have hne : ¬ cap = i := by omega
    have i3 : (i : Int) ≤ (cap : Int) := by omega
    have i4 : (i : Int) ≤ (n : Int) := by omega
    clear hjn' hfin hg hs hql ht hW hfw hes hlen htk hdr hfr hrw
    go_wp2_with fail
    go_ret
    exact ⟨by rw [Hlen.out]; rfl, Hes.out, Hfw.out⟩
set_option maxRecDepth 100000 in
theorem DeleteFuncN {w : World} (gf : Nat) (lb : Array Value) (f : Ev → Bool) (eg : ∀ args w, (callFunc gf args).run Try.prog w = .ok (.enter gf args) w)
  (hf : ∀ x W, Fr0 none' w W → Calls Try.prog gf (#[evV x] ++ lb) W fun e w' => e = .returned (.bool (f x)) ∧ Fr0 none' W w') :
  Calls Try.prog 21 #[.slice none 0 0, .func (.func gf) #[] lb] w fun e w' => e = .returned (.slice none 0 0) ∧ Fr0 none' w w' := by
 have HI := Lib.hid (IndexE (w := w) (a := none) (n := 0) (cap := 0) [] (fun i x hx => by simp at hx) rfl (by omega) gf lb f eg hf)
 have h0 : idxI f [] = -1 := rfl
 rw [h0] at HI
 clear hf h0
 go_enter Try.func21, Try.ntmps21
 go_wp2_with fail
 refine HI.out.mono ?_
 rintro e w1 ⟨rfl, hf1⟩
 have F1 := Lib.hid hf1
 clear hf1
 go_wp2_with fail
 go_ret
 exact ⟨rfl, F1.out⟩
/-- DeleteFunc on an own row. -/
theorem DeleteFuncO {w : World} {base n : Nat} {v : Value} (P : List Ev) (hrow : w.ownsRow base 47 5 v n (flatEv P)) (hn : n ≤ 100000) (gf : Nat) (lb : Array Value) (f : Ev → Bool)
  (eg : ∀ args w, (callFunc gf args).run Try.prog w = .ok (.enter gf args) w)
  (hf : ∀ x W, Fr0 (fun k => v.ownBlock = some k) w W → Calls Try.prog gf (#[evV x] ++ lb) W fun e w' => e = .returned (.bool (f x)) ∧ Fr0 none' W w') :
  Calls Try.prog 21 #[v, .func (.func gf) #[] lb] w fun e w' => ∃ a c, e = .returned (.slice a (P.filter (fun x => !f x)).length c) ∧ EsIn w' a (P.filter (fun x => !f x)) ∧ Fr0 (fun k => v.ownBlock = some k) w w' := by
 rcases hrow.2 with ⟨rfl, h0⟩ | ⟨g, cap, cur, rfl, _⟩
 ·have hP : P = [] := List.eq_nil_of_length_eq_zero (by have := hrow.1; rw [flatEv_length] at this; omega)
  subst hP
  refine (DeleteFuncN gf lb f eg (fun x W h => hf x W (h.mono (fun _ _ h => h.elim)))).mono ?_
  rintro e w' ⟨rfl, h⟩
  exact ⟨none, 0, rfl, fun i x hx => by simp at hx, h.mono (fun _ _ h => h.elim)⟩
 ·have hS : ∀ k, (Value.slice (some ⟨g, 0, none⟩) n cap).ownBlock = some k ↔ k = g := fun k => ⟨fun h => by injection h with h; exact h.symm, fun h => by rw [h]; rfl⟩
  refine (DeleteFuncE P (RowB.of_own hrow) hn gf lb f eg (fun x W h => hf x W (h.mono (fun k _ h => (hS k).2 h)))).mono ?_
  rintro e w' ⟨rfl, h1, h2⟩
  exact ⟨_, _, rfl, h1, h2.mono (fun k _ h => (hS k).2 h)⟩
end Go.Proofs.Ytmbjfmlicffclaa

/-
  CalendarAlone.
-/
namespace Go.Proofs.Ytmbjfmlicffclaa
open Go Go.RowKit
attribute [local go_sem ↓] Go.wp_at_zero Go.wp_at_succ
attribute [local go_sem] Oper.semAt_some wide_fn wide_depth wide_fnR wide_depthR

theorem run_store_fnC {P : Program} {w : World} {a : Addr} {m : Mode} (fn : Fn) (first captured : Array Value) : (store a (.func fn first captured) m).run P w = stored P w a (.func fn first captured) m := run_store P w a _ m rfl
attribute [local go_sem] run_store_fnC
set_option maxRecDepth 100000 in
theorem mine_any {w : World} {sb qb : Nat} {s q : Int} (x : Ev) (hs : Box w sb (.int .u8 s)) (hq : Box w qb (.int .u8 q)) (h1 : 0 ≤ s ∧ s < 256) (h2 : 0 ≤ q ∧ q < 256) :
  Calls Try.prog 20 #[evV x, .pointer (some ⟨sb, 0, none⟩), .pointer (some ⟨qb, 0, none⟩)] w fun e w' => e = .returned (.bool (mineE (s % 5, q % 32) x)) ∧ Fr0 none' w w' := by
 have e0 : mineE (s % 5, q % 32) x = (x.key.source == s % 5 && x.key.seq == q % 32) := rfl
 rw [e0]
 obtain ⟨W, hW⟩ : ∃ W, w.alloc (.cells #[.int .i64 x.key.time, .int .i64 x.key.source, .int .i64 x.key.seq, .int .i64 x.to, .int .i64 x.value] 47) = W := ⟨_, rfl⟩
 have hf : Fr0 none' w W := by rw [← hW]; exact (Fr0.refl _ _).alloc _
 have c1 := (hs.fr0 hf id).cell
 have c2 := (hq.fr0 hf id).cell
 have HF := Lib.hid hf
 have t1 : Int.tmod s 5 = s % 5 := Int.tmod_eq_emod_of_nonneg h1.1
 have t2 : Int.tmod q 32 = q % 32 := Int.tmod_eq_emod_of_nonneg h2.1
 obtain ⟨s', hs'⟩ : ∃ s', s % 5 = s' := ⟨_, rfl⟩
 obtain ⟨q', hq'⟩ : ∃ q', q % 32 = q' := ⟨_, rfl⟩
 rw [hs'] at t1 ⊢
 rw [hq'] at t2 ⊢
 have b1 : 0 ≤ s' ∧ s' < 256 := by omega
 have b2 : 0 ≤ q' ∧ q' < 256 := by omega
 clear hs hq e0 hf hs' hq'
 unfold evV
 subst hW
 cases h1 : x.key.source == s'
 ·go_enter Try.func20, Try.ntmps20
  go_wp2_with fail
  go_ret
  exact ⟨rfl, HF.out⟩
 ·go_enter Try.func20, Try.ntmps20
  go_wp2_with fail
  go_ret
  exact ⟨rfl, HF.out⟩
def mineF (sb qb : Nat) : Value := .func (.func 20) #[] #[.pointer (some ⟨sb, 0, none⟩), .pointer (some ⟨qb, 0, none⟩)]
set_option maxRecDepth 100000 in
theorem notMine2_any {w : World} {mb sb qb : Nat} {s q : Int} (x : Ev) (hm : Box w mb (mineF sb qb)) (hs : Box w sb (.int .u8 s)) (hq : Box w qb (.int .u8 q)) (h1 : 0 ≤ s ∧ s < 256) (h2 : 0 ≤ q ∧ q < 256) :
  Calls Try.prog 23 #[evV x, .pointer (some ⟨mb, 0, none⟩)] w fun e w' => e = .returned (.bool (!mineE (s % 5, q % 32) x)) ∧ Fr0 none' w w' := by
 obtain ⟨W, hW⟩ : ∃ W, w.alloc (.cells #[.int .i64 x.key.time, .int .i64 x.key.source, .int .i64 x.key.seq, .int .i64 x.to, .int .i64 x.value] 47) = W := ⟨_, rfl⟩
 have hf : Fr0 none' w W := by rw [← hW]; exact (Fr0.refl _ _).alloc _
 have b0 : W.heap[w.heap.size]? = some (.cells #[.int .i64 x.key.time, .int .i64 x.key.source, .int .i64 x.key.seq, .int .i64 x.to, .int .i64 x.value] 47 (0, 0)) := by rw [← hW]; exact World.alloc_heap_new _ _
 have x0 := cells_in b0 0
 have x1 := cells_in b0 1
 have x2 := cells_in b0 2
 have x3 := cells_in b0 3
 have x4 := cells_in b0 4
 simp at x0 x1 x2 x3 x4
 have c1 := (hm.fr0 hf id).cell
 unfold mineF at c1
 have HC := Lib.hid (mine_any (w := W) x (hs.fr0 hf id) (hq.fr0 hf id) h1 h2)
 have HF := Lib.hid hf
 obtain ⟨b, hb⟩ : ∃ b, mineE (s % 5, q % 32) x = b := ⟨_, rfl⟩
 rw [hb] at HC ⊢
 clear hm hs hq hf hb b0
 unfold evV at HC ⊢
 go_enter Try.func23, Try.ntmps23
 go_wp2_with fail
 refine HC.out.mono ?_
 rintro e w2 ⟨rfl, hf2⟩
 have HF2 := Lib.hid (HF.out.trans hf2)
 clear hf2
 go_wp2_with fail
 go_ret
 exact ⟨rfl, HF2.out⟩
set_option maxRecDepth 100000 in
theorem notMine3_any {w : World} {mb sb qb : Nat} {s q : Int} (x : Ev) (hm : Box w mb (mineF sb qb)) (hs : Box w sb (.int .u8 s)) (hq : Box w qb (.int .u8 q)) (h1 : 0 ≤ s ∧ s < 256) (h2 : 0 ≤ q ∧ q < 256) :
  Calls Try.prog 25 #[evV x, .pointer (some ⟨mb, 0, none⟩)] w fun e w' => e = .returned (.bool (!mineE (s % 5, q % 32) x)) ∧ Fr0 none' w w' := by
 obtain ⟨W, hW⟩ : ∃ W, w.alloc (.cells #[.int .i64 x.key.time, .int .i64 x.key.source, .int .i64 x.key.seq, .int .i64 x.to, .int .i64 x.value] 47) = W := ⟨_, rfl⟩
 have hf : Fr0 none' w W := by rw [← hW]; exact (Fr0.refl _ _).alloc _
 have b0 : W.heap[w.heap.size]? = some (.cells #[.int .i64 x.key.time, .int .i64 x.key.source, .int .i64 x.key.seq, .int .i64 x.to, .int .i64 x.value] 47 (0, 0)) := by rw [← hW]; exact World.alloc_heap_new _ _
 have x0 := cells_in b0 0
 have x1 := cells_in b0 1
 have x2 := cells_in b0 2
 have x3 := cells_in b0 3
 have x4 := cells_in b0 4
 simp at x0 x1 x2 x3 x4
 have c1 := (hm.fr0 hf id).cell
 unfold mineF at c1
 have HC := Lib.hid (mine_any (w := W) x (hs.fr0 hf id) (hq.fr0 hf id) h1 h2)
 have HF := Lib.hid hf
 obtain ⟨b, hb⟩ : ∃ b, mineE (s % 5, q % 32) x = b := ⟨_, rfl⟩
 rw [hb] at HC ⊢
 clear hm hs hq hf hb b0
 unfold evV at HC ⊢
 go_enter Try.func25, Try.ntmps25
 go_wp2_with fail
 refine HC.out.mono ?_
 rintro e w2 ⟨rfl, hf2⟩
 have HF2 := Lib.hid (HF.out.trans hf2)
 clear hf2
 go_wp2_with fail
 go_ret
 exact ⟨rfl, HF2.out⟩
/-- Where a walk is made to stand. -/
def Stop (p : Prop) : Prop := p
theorem unstop {p : Prop} (h : Stop p) : p := h
theorem restart {p : Prop} (h : p) : Stop p := h
/-- Behind an append to one of two rows. -/
theorem app_after {w3 W1 W w4 : World} {N n1 n2 ab : Nat} {u v v' : Value} {xs ys zs : List Value} {o B : Obj} (hW : W = W1.alloc o)
  (hu : W1.ownsRow N 49 7 u n1 xs) (hv : W1.ownsRow N 49 7 v n2 ys) (hd : ∀ g, u.ownBlock = some g → v.ownBlock ≠ some g) (hab : W1.heap[ab]? = some B) (habu : ∀ g, u.ownBlock = some g → g < ab) (hf : Fr0 none' w3 W1) (hN : w3.heap.size = N)
  (hown' : w4.ownsRow N 49 7 v' (n1 + 1) zs) (hgrow : W.grownBy w4 u.ownBlock) (hob : v'.ownBlock = u.ownBlock ∨ v'.ownBlock = some W.heap.size) :
  ∃ g c, v' = .slice (some ⟨g, 0, none⟩) (n1 + 1) c ∧ w4.ownsRow N 49 7 (.slice (some ⟨g, 0, none⟩) (n1 + 1) c) (n1 + 1) zs ∧ w4.ownsRow N 49 7 v n2 ys ∧ (∀ g', (Value.slice (some ⟨g, 0, none⟩) (n1 + 1) c).ownBlock = some g' → v.ownBlock ≠ some g') ∧ Fr0 none' w3 w4 ∧ w4.heap[ab]? = some B := by
 subst hW
 obtain ⟨g, c, rfl⟩ := ownsRow_k_succ hown'
 have hv2 := hv.alloc o
 have hg : Fr0 (fun k => u.ownBlock = some k) (W1.alloc o) w4 := (Fr0.refl _ _).grown hgrow (fun k hk _ => hk)
 have hf2 : Fr0 none' w3 (W1.alloc o) := hf.alloc o
 have hb2 : (W1.alloc o).heap[ab]? = some B := (((Fr0.refl none' W1).alloc o).block ab (Array.getElem?_eq_some_iff.1 hab).1 id).trans hab
 refine ⟨g, c, rfl, hown', ownsRow_fr0 hv2 hg (fun k hk h => hd k h hk), fun g' hg' => ?_, hf2.trans' hg (fun k hk h => by exfalso; have := (hu.lt k h).1; omega), (hg.block ab (Array.getElem?_eq_some_iff.1 hb2).1 (fun h => by have := habu ab h; omega)).trans hb2⟩
 rcases hob with e | e
 ·rw [e] at hg'; exact hd g' hg'
 ·rw [e] at hg'
  injection hg' with hg'
  intro h
  have := (hv2.lt g' h).2
  omega
theorem DelMine {w0 w1 w : World} {n : Nat} {v : Value} {p : Int × Int} (P : List Ev) (hf : Fr0 none' w0 w1) (hrow : w.ownsRow w1.heap.size 47 5 v n (flatEv P)) (h1 : Fr0 none' w1 w) (hn : n ≤ 100000) (gf : Nat) (lb : Array Value)
  (eg : ∀ args w, (callFunc gf args).run Try.prog w = .ok (.enter gf args) w)
  (hc : ∀ x W, (∀ b u, Box w0 b u → Box W b u) → Calls Try.prog gf (#[evV x] ++ lb) W fun e w' => e = .returned (.bool (!mineE p x)) ∧ Fr0 none' W w') :
  Calls Try.prog 21 #[v, .func (.func gf) #[] lb] w fun e w' => ∃ a c, e = .returned (.slice a (P.filter (mineE p)).length c) ∧ EsIn w' a (P.filter (mineE p)) ∧ Fr0 none' w0 w' := by
 have e0 : P.filter (mineE p) = P.filter (fun x => !(fun x => !mineE p x) x) := List.filter_congr (fun x _ => by simp)
 rw [e0]
 refine (DeleteFuncO P hrow hn gf lb (fun x => !mineE p x) eg (fun x W h => hc x W (fun b u hb => ?_))).mono ?_
 ·have hl := hb.lt
  exact (hb.fr0 (hf.trans h1) id).fr0 h (fun h' => by have := (hrow.lt b h').1; have := hf.size; omega)
 ·rintro e w' ⟨a, c, rfl, he, hf2⟩
  exact ⟨a, c, rfl, he, (hf.trans h1).trans' hf2 (fun k hk h => by exfalso; have := (hrow.lt k h).1; have := hf.size; omega)⟩
theorem TdsIn.at2 {W : World} {a : Option Addr} {L : List Td} (h : TdsIn W a L) {j : Nat} {y : Td} (hy : L[j]? = some y) : ∃ g o, a = some ⟨g, o, none⟩ ∧ ∀ W', Fr0 none' W W' → W'.cell? ⟨g, o + j * 2, none⟩ = some (.int .i64 y.err) ∧ W'.cell? ⟨g, o + j * 2 + 1, none⟩ = some (.slice y.sa y.sn y.sc) := by
 obtain ⟨g, o, rfl, hc⟩ := h j y hy
 exact ⟨g, o, rfl, fun W' hf => hc.fr0 hf (fun h => h)⟩
/-- The acts that do not take what is least. -/
def keepA (a : Ca) : Bool := !(a.kind == 2 || a.kind == 5)
set_option maxRecDepth 100000 in
set_option maxHeartbeats 4000000 in
theorem CalendarAlone_any {w : World} {a : Option Addr} {m cap : Nat} {s q : Int} (l : List Smc) (h : SmcsIn w a l) (hl : l.length = m) (hc : m ≤ cap) (h1 : 0 ≤ s ∧ s < 256) (h2 : 0 ≤ q ∧ q < 256) :
  Calls Try.prog 7 #[.slice a m cap, .int .u8 s, .int .u8 q] w fun e w' => e = .returned (.bool true) ∧ Fr0 none' w w' := by
 have HA := Lib.hid (fun (W : World) => cawake_any W)
 have HX := Lib.hid (fun (W : World) (hf : Fr0 none' w W) => Acts_any (most := 100) l (h.later hf) hl hc (by omega))
 clear h hl hc
 go_enter Try.func7, Try.ntmps7
 obtain ⟨sb, hsb⟩ : ∃ b, w.heap.size = b := ⟨_, rfl⟩
 obtain ⟨W0, hW0⟩ : ∃ W, (w.alloc (.cells #[.int .u8 s] 5)).alloc (.cells #[.int .u8 q] 5) = W := ⟨_, rfl⟩
 have f0 : Fr0 none' w W0 := by rw [← hW0]; exact ((Fr0.refl _ _).alloc _).alloc _
 have hb0 : Box (w.alloc (.cells #[.int .u8 s] 5)) w.heap.size (.int .u8 s) := Box.new w _ _
 have hb1 : Box W0 w.heap.size (.int .u8 s) := by rw [← hW0]; exact hb0.fr0 ((Fr0.refl none' _).alloc _) id
 have hb2 := Box.new (w.alloc (.cells #[.int .u8 s] 5)) (.int .u8 q) 5
 rw [World.size_alloc, hW0] at hb2
 rw [hsb] at hb1 hb2
 have HS := Lib.hid hb1
 have HQ := Lib.hid hb2
 have F := Lib.hid f0
 have HW0 := Lib.hid hW0
 have HSB := Lib.hid hsb
 clear hb0 hb1 hb2 f0 hW0 hsb
 go_wp2_with fail
 rw [HW0.out]
 try simp only [HSB.out]
 refine (HA.out _).mono ?_
 rintro e w1 ⟨rfl, hf⟩
 have F := Lib.hid (F.out.trans hf)
 have HS := Lib.hid (HS.out.fr0 hf id)
 have HQ := Lib.hid (HQ.out.fr0 hf id)
 clear hf HA HW0
 obtain ⟨mb, hmb⟩ : ∃ b, w1.heap.size = b := ⟨_, rfl⟩
 obtain ⟨W1, hW1⟩ : ∃ W, w1.alloc (.cells #[.nilFunc] 55) = W := ⟨_, rfl⟩
 have b1 : W1.heap[mb]? = some (.cells #[.nilFunc] 55 (0, 0)) := by rw [← hW1, ← hmb]; exact World.alloc_heap_new _ _
 have f1 : Fr0 none' w1 W1 := by rw [← hW1]; exact (Fr0.refl _ _).alloc _
 have c0 := cells_in b1 0
 have t0 := thaw_in b1 0
 simp at c0
 obtain ⟨W2, hW2⟩ : ∃ W, W1.setCell ⟨mb, 0, none⟩ (mineF sb (sb + 1)) = W := ⟨_, rfl⟩
 have b2 : W2.heap[mb]? = some (.cells #[mineF sb (sb + 1)] 55 (0, 0)) := by rw [← hW2]; exact heap_set_cell (o := 0) b1 _
 have f2 : Fr0 none' w1 W2 := by rw [← hW2, ← hW1]; exact ((Fr0.refl none' w1).alloc _).setCell (fun h => by omega) _
 have HMB := Lib.hid (show Box W2 mb (mineF sb (sb + 1)) from ⟨_, b2⟩)
 have F2 := Lib.hid f2
 unfold mineF at hW2
 clear b1 f1 b2 f2
 go_wp2_with fail
 clear hmb hW1 hW2 c0 t0
 have F := Lib.hid (F.out.trans F2.out)
 have HS := Lib.hid (HS.out.fr0 F2.out id)
 have HQ := Lib.hid (HQ.out.fr0 F2.out id)
 refine (HX.out _ F.out).mono ?_
 rintro e w3 ⟨vr, rfl, hr, hf⟩
 obtain ⟨A, hA⟩ : ∃ A, (l.take 100).map actC = A := ⟨_, rfl⟩
 have hk : ∀ x ∈ A, 1 ≤ x.kind ∧ x.kind ≤ 5 := by rw [← hA]; exact kinds_acts _
 have hM : A.length ≤ 100 := by rw [← hA, List.length_map, List.length_take]; omega
 rw [hA] at hr
 obtain ⟨M, hMl⟩ : ∃ M, A.length = M := ⟨_, rfl⟩
 rw [hMl] at hr hM
 obtain ⟨aa, ac, rfl, _, hac, hin⟩ := CasIn.of_own hr
 have F := Lib.hid (F.out.trans hf)
 have HS := Lib.hid (HS.out.fr0 hf id)
 have HQ := Lib.hid (HQ.out.fr0 hf id)
 have HMB := Lib.hid (HMB.out.fr0 hf id)
 have HI := Lib.hid hin
 have HK := Lib.hid hk
 have Hl := Lib.hid hMl
 obtain ⟨p, hp⟩ : ∃ p : Int × Int, (s % 5, q % 32) = p := ⟨_, rfl⟩
 have HMine := Lib.hid (fun (x : Ev) (W : World) (hW : Fr0 none' w3 W) => mine_any (w := W) x (HS.out.fr0 hW id) (HQ.out.fr0 hW id) h1 h2)
 rw [hp] at HMine
 have Hp := Lib.hid hp
 obtain ⟨N, hN⟩ : ∃ N, w3.heap.size = N := ⟨_, rfl⟩
 have HN := Lib.hid hN
 obtain ⟨i0, hi, hz0, hz1, hz2⟩ := info_parts info_act0
 clear hA hk hr hMl hin hf HX hp hN F2
 go_wp2_with fail
 go_loopw [7, 8, 11, 30] (fun u v _ i wr => ∃ k : Nat, k ≤ M ∧ i = .int .i64 k ∧ Hid (wr.ownsRow N 49 7 u ((A.take k).filter keepA).length (flatCa ((A.take k).filter keepA))) ∧ Hid (wr.ownsRow N 49 7 v (((A.take k).filter keepA).filter (mineA p)).length (flatCa (((A.take k).filter keepA).filter (mineA p)))) ∧ Hid (∀ g, u.ownBlock = some g → v.ownBlock ≠ some g) ∧ Hid (Fr0 none' w3 wr)) (fun _ _ _ i _ => M - (Go.RowKit.intOf i).toNat)
 case atStart => exact ⟨0, Nat.zero_le _, rfl, World.ownsRow_nil _ _ _ _, World.ownsRow_nil _ _ _ _, (fun g hg => by cases hg), Fr0.refl _ _⟩
 case round =>
  obtain ⟨k, hk, rfl, hu, hv, hd, hfr⟩ := hrel
  by_cases hlt : k < M
  ·obtain ⟨x, hx⟩ : ∃ x, A[k]? = some x := ⟨_, List.getElem?_eq_getElem (by rw [Hl.out]; exact hlt)⟩
   have htk : A.take (k + 1) = A.take k ++ [x] := by rw [List.take_add_one, hx]; rfl
   have hlen : (A.take k).length ≤ 100 := by rw [List.length_take]; omega
   obtain ⟨A1, hA1⟩ : ∃ L, (A.take k).filter keepA = L := ⟨_, rfl⟩
   have hA1l : A1.length ≤ 100 := by rw [← hA1]; exact Nat.le_trans (List.length_filter_le _ _) hlen
   rw [hA1] at hu hv
   obtain ⟨A2, hA2⟩ : ∃ L, A1.filter (mineA p) = L := ⟨_, rfl⟩
   have hA2l : A2.length ≤ 100 := by rw [← hA2]; exact Nat.le_trans (List.length_filter_le _ _) hA1l
   rw [hA2] at hv
   obtain ⟨n1, hn1⟩ : ∃ n, A1.length = n := ⟨_, rfl⟩
   obtain ⟨n2, hn2⟩ : ∃ n, A2.length = n := ⟨_, rfl⟩
   rw [hn1] at hu hA1l
   rw [hn2] at hv hA2l
   have Htk := Lib.hid htk
   have HA1 := Lib.hid hA1
   have HA2 := Lib.hid hA2
   have Hn1 := Lib.hid hn1
   have Hn2 := Lib.hid hn2
   obtain ⟨g, o, rfl, hxc⟩ := (HI.out.later hfr.out) k x hx
   obtain ⟨x0, x1, x2, x3, x4, x5, x6⟩ := hxc
   have k1 : (0 : Int) ≤ (k : Int) := by omega
   have k2 : (k : Int) < (M : Int) := by omega
   have hkd := HK.out x (List.mem_of_getElem? hx)
   obtain ⟨ab, hab⟩ : ∃ b, wr.heap.size = b := ⟨_, rfl⟩
   obtain ⟨W1, hW1⟩ : ∃ V, wr.alloc (.cells #[.int .u8 x.kind, .int .i64 x.x.key.time, .int .i64 x.x.key.source, .int .i64 x.x.key.seq, .int .i64 x.x.to, .int .i64 x.x.value, .int .i64 x.time] 49) = V := ⟨_, rfl⟩
   have f1 : Fr0 none' wr W1 := by rw [← hW1]; exact (Fr0.refl _ _).alloc _
   have b1 : W1.heap[ab]? = some (.cells #[.int .u8 x.kind, .int .i64 x.x.key.time, .int .i64 x.x.key.source, .int .i64 x.x.key.seq, .int .i64 x.x.to, .int .i64 x.x.value, .int .i64 x.time] 49 (0, 0)) := by rw [← hW1, ← hab]; exact World.alloc_heap_new _ _
   have a0 := cells_in b1 0
   have a1 := cells_in b1 1
   have a2 := cells_in b1 2
   have a3 := cells_in b1 3
   have a4 := cells_in b1 4
   have a5 := cells_in b1 5
   have a6 := cells_in b1 6
   simp at a0 a1 a2 a3 a4 a5 a6
   have HAB := Lib.hid b1
   have FR := Lib.hid (hfr.out.trans f1)
   have Hab := Lib.hid hab
   clear b1
   have HU := Lib.hid (ownsRow_fr0 hu.out f1 (fun _ _ h => h))
   have HV := Lib.hid (ownsRow_fr0 hv.out f1 (fun _ _ h => h))
   have HD := hd
   have HUlt := Lib.hid (show ∀ g, u7.ownBlock = some g → g < ab from fun g hg => by rw [← hab]; exact (hu.out.lt g hg).2)
   have HVlt := Lib.hid (show ∀ g, u8.ownBlock = some g → g < ab from fun g hg => by rw [← hab]; exact (hv.out.lt g hg).2)
   obtain ⟨ua, uc, rfl⟩ : ∃ ua uc, u7 = .slice ua n1 uc := by
    rcases hu.out.2 with ⟨rfl, h0⟩ | ⟨g, cap, cur, rfl, _⟩
    ·exact ⟨none, 0, by rw [h0]⟩
    ·exact ⟨_, cap, rfl⟩
   obtain ⟨va, vc, rfl⟩ : ∃ va vc, u8 = .slice va n2 vc := by
    rcases hv.out.2 with ⟨rfl, h0⟩ | ⟨g, cap, cur, rfl, _⟩
    ·exact ⟨none, 0, by rw [h0]⟩
    ·exact ⟨_, cap, rfl⟩
   clear hx htk hlen hA1 hA2 hn1 hn2 hu hv hd hfr f1
   by_cases h25 : x.kind = 2 ∨ x.kind = 5
   ·have hka : keepA x = false := by unfold keepA; rcases h25 with h | h <;> simp [h]
    have hn : (A.take (k + 1)).filter keepA = A1 := by rw [Htk.out, List.filter_append, HA1.out]; simp [hka]
    have Hn := Lib.hid hn
    rcases h25 with h | h
    ·have d1 : (x.kind == 2) = true := by simp [h]
     clear h hka hn
     go_wp2_with fail
     go_roundw
     case rel => exact ⟨k + 1, by omega, by go_num, by rw [Hn.out, Hn1.out]; exact HU, by rw [Hn.out, HA2.out, Hn2.out]; exact HV, HD, FR⟩
     case measure => simp [Go.RowKit.intOf]; omega
    ·have d1 : (x.kind == 2) = false := by simp [h]
     have d2 : (x.kind == 5) = true := by simp [h]
     clear h hka hn
     go_wp2_with fail
     go_roundw
     case rel => exact ⟨k + 1, by omega, by go_num, by rw [Hn.out, Hn1.out]; exact HU, by rw [Hn.out, HA2.out, Hn2.out]; exact HV, HD, FR⟩
     case measure => simp [Go.RowKit.intOf]; omega
   ·have hka : keepA x = true := by
     unfold keepA
     have h2 : (x.kind == 2) = false := beq_eq_false_iff_ne.2 (fun h => h25 (.inl h))
     have h5 : (x.kind == 5) = false := beq_eq_false_iff_ne.2 (fun h => h25 (.inr h))
     rw [h2, h5]; rfl
    have hn : (A.take (k + 1)).filter keepA = A1 ++ [x] := by rw [Htk.out, List.filter_append, HA1.out]; simp [hka]
    have Hn := Lib.hid hn
    have d1 : (x.kind == 2) = false := beq_eq_false_iff_ne.2 (fun h => h25 (.inl h))
    have d2 : (x.kind == 5) = false := beq_eq_false_iff_ne.2 (fun h => h25 (.inr h))
    clear hka hn h25
    have hsrc := Src.newRow (P := Try.prog) (size := 7) (tx := 38) (ty := 49) W1 Try.underlying38 1 1 [.int .u8 x.kind, .int .i64 x.x.key.time, .int .i64 x.x.key.source, .int .i64 x.x.key.seq, .int .i64 x.x.to, .int .i64 x.x.value, .int .i64 x.time] rfl (by simp [Value.oneCell'])
    have Hsrc := Lib.hid hsrc
    have HU2 := Lib.hid (HU.out.alloc (.cells [Value.int .u8 x.kind, .int .i64 x.x.key.time, .int .i64 x.x.key.source, .int .i64 x.x.key.seq, .int .i64 x.x.to, .int .i64 x.x.value, .int .i64 x.time].toArray 49))
    have hNW : N ≤ W1.heap.size := by rw [← HN.out]; exact FR.out.size
    clear hsrc
    go_wp2_with (at_builtin; refine wpList_append_k rfl _ _ 38 38 rfl N 49 i0 (.agg #[.int .u8 0, .int .i64 0, .int .i64 0, .int .i64 0, .int .i64 0, .int .i64 0, .int .i64 0]) 7 56 Try.underlying38 hi hz0 hz1 hz2 rfl (by decide) _ n1 _ rfl HU2.out (.slice (some ⟨W1.heap.size, 0, none⟩) 1 1) 1 _ rfl Hsrc.out (by unfold maxLen; omega) (by omega) (by simp; omega) ?_; intro v' w4 hown' hgrow hdr hob; refine unstop ?_)
    refine restart ?_
    obtain ⟨g9, c9, rfl, hU4, hV4, hD4, hF4, hB4⟩ := app_after rfl HU.out HV.out HD.out HAB.out HUlt.out FR.out HN.out hown' hgrow hob
    have HU := Lib.hid hU4
    have HV := Lib.hid hV4
    have HD := Lib.hid hD4
    have FR := Lib.hid hF4
    have HAB := Lib.hid hB4
    have a0 := cells_in hB4 0
    have a1 := cells_in hB4 1
    have a2 := cells_in hB4 2
    have a3 := cells_in hB4 3
    have a4 := cells_in hB4 4
    have a5 := cells_in hB4 5
    have a6 := cells_in hB4 6
    simp at a0 a1 a2 a3 a4 a5 a6
    clear hU4 hV4 hD4 hF4 hB4 hown' hgrow hdr hob hW1 hab x0 x1 x2 x3 x4 x5 x6
    by_cases h3 : x.kind = 3
    ·have d3 : (x.kind == 3) = true := by simp [h3]
     have hma : mineA p x = true := by unfold mineA; rw [d3]; rfl
     clear h3
     have hsrc := Src.newRow (P := Try.prog) (size := 7) (tx := 38) (ty := 49) w4 Try.underlying38 1 1 [.int .u8 x.kind, .int .i64 x.x.key.time, .int .i64 x.x.key.source, .int .i64 x.x.key.seq, .int .i64 x.x.to, .int .i64 x.x.value, .int .i64 x.time] rfl (by simp [Value.oneCell'])
     have Hsrc := Lib.hid hsrc
     have HU2 := Lib.hid (HV.out.alloc (.cells [Value.int .u8 x.kind, .int .i64 x.x.key.time, .int .i64 x.x.key.source, .int .i64 x.x.key.seq, .int .i64 x.x.to, .int .i64 x.x.value, .int .i64 x.time].toArray 49))
     have hNW : N ≤ w4.heap.size := by rw [← HN.out]; exact FR.out.size
     clear hsrc
     go_wp2_with (at_builtin; refine wpList_append_k rfl _ _ 38 38 rfl N 49 i0 (.agg #[.int .u8 0, .int .i64 0, .int .i64 0, .int .i64 0, .int .i64 0, .int .i64 0, .int .i64 0]) 7 56 Try.underlying38 hi hz0 hz1 hz2 rfl (by decide) _ n2 _ rfl HU2.out (.slice (some ⟨w4.heap.size, 0, none⟩) 1 1) 1 _ rfl Hsrc.out (by unfold maxLen; omega) (by omega) (by simp; omega) ?_; intro v' w6 hown' hgrow hdr hob; refine unstop ?_)
     refine restart ?_
     obtain ⟨g9, c9, rfl, hU4, hV4, hD4, hF4, hB4⟩ := app_after rfl HV.out HU.out (fun g hg h => HD.out g h hg) HAB.out HVlt.out FR.out HN.out hown' hgrow hob
     have HV := Lib.hid hU4
     have HU := Lib.hid hV4
     have HD := Lib.hid (fun g hg h => hD4 g h hg)
     have FR := Lib.hid hF4
     have HAB := Lib.hid hB4
     have a0 := cells_in hB4 0
     have a1 := cells_in hB4 1
     have a2 := cells_in hB4 2
     have a3 := cells_in hB4 3
     have a4 := cells_in hB4 4
     have a5 := cells_in hB4 5
     have a6 := cells_in hB4 6
     simp at a0 a1 a2 a3 a4 a5 a6
     clear hU4 hV4 hD4 hF4 hB4 hown' hgrow hdr hob
     go_wp2_with fail
     go_roundw
     case rel => exact ⟨k + 1, by omega, by go_num, by rw [Hn.out, List.length_append, Hn1.out, flatCa_snoc]; exact HU, by rw [Hn.out, List.filter_append, HA2.out, List.filter_cons_of_pos hma, List.filter_nil, List.length_append, Hn2.out, flatCa_snoc]; exact HV, HD, FR⟩
     case measure => simp [Go.RowKit.intOf]; omega
    ·have d3 : (x.kind == 3) = false := beq_eq_false_iff_ne.2 h3
     have hma : mineA p x = mineE p x.x := by unfold mineA; rw [d3]; rfl
     have m0 := (HMB.out.fr0 FR.out id).cell
     unfold mineF at m0
     have HC := Lib.hid (HMine.out x.x w4 FR.out)
     unfold evV at HC
     obtain ⟨b, hb⟩ : ∃ b, mineE p x.x = b := ⟨_, rfl⟩
     rw [hb] at HC hma
     clear h3 hb
     go_wp2_with fail
     refine HC.out.mono ?_
     rintro e w5 ⟨rfl, hf5⟩
     have HU := Lib.hid (ownsRow_fr0 HU.out hf5 (fun _ _ h => h))
     have HV := Lib.hid (ownsRow_fr0 HV.out hf5 (fun _ _ h => h))
     have FR := Lib.hid (FR.out.trans hf5)
     have hB5 := (hf5.block ab (Array.getElem?_eq_some_iff.1 HAB.out).1 id).trans HAB.out
     have HAB := Lib.hid hB5
     have a0 := cells_in hB5 0
     have a1 := cells_in hB5 1
     have a2 := cells_in hB5 2
     have a3 := cells_in hB5 3
     have a4 := cells_in hB5 4
     have a5 := cells_in hB5 5
     have a6 := cells_in hB5 6
     simp at a0 a1 a2 a3 a4 a5 a6
     clear hf5 hB5 m0 HC
     cases b with
     | true =>
      have hsrc := Src.newRow (P := Try.prog) (size := 7) (tx := 38) (ty := 49) w5 Try.underlying38 1 1 [.int .u8 x.kind, .int .i64 x.x.key.time, .int .i64 x.x.key.source, .int .i64 x.x.key.seq, .int .i64 x.x.to, .int .i64 x.x.value, .int .i64 x.time] rfl (by simp [Value.oneCell'])
      have Hsrc := Lib.hid hsrc
      have HU2 := Lib.hid (HV.out.alloc (.cells [Value.int .u8 x.kind, .int .i64 x.x.key.time, .int .i64 x.x.key.source, .int .i64 x.x.key.seq, .int .i64 x.x.to, .int .i64 x.x.value, .int .i64 x.time].toArray 49))
      have hNW : N ≤ w5.heap.size := by rw [← HN.out]; exact FR.out.size
      clear hsrc
      go_wp2_with (at_builtin; refine wpList_append_k rfl _ _ 38 38 rfl N 49 i0 (.agg #[.int .u8 0, .int .i64 0, .int .i64 0, .int .i64 0, .int .i64 0, .int .i64 0, .int .i64 0]) 7 56 Try.underlying38 hi hz0 hz1 hz2 rfl (by decide) _ n2 _ rfl HU2.out (.slice (some ⟨w5.heap.size, 0, none⟩) 1 1) 1 _ rfl Hsrc.out (by unfold maxLen; omega) (by omega) (by simp; omega) ?_; intro v' w6 hown' hgrow hdr hob; refine unstop ?_)
      refine restart ?_
      obtain ⟨g9, c9, rfl, hU4, hV4, hD4, hF4, hB4⟩ := app_after rfl HV.out HU.out (fun g hg h => HD.out g h hg) HAB.out HVlt.out FR.out HN.out hown' hgrow hob
      have HV := Lib.hid hU4
      have HU := Lib.hid hV4
      have HD := Lib.hid (fun g hg h => hD4 g h hg)
      have FR := Lib.hid hF4
      have HAB := Lib.hid hB4
      have a0 := cells_in hB4 0
      have a1 := cells_in hB4 1
      have a2 := cells_in hB4 2
      have a3 := cells_in hB4 3
      have a4 := cells_in hB4 4
      have a5 := cells_in hB4 5
      have a6 := cells_in hB4 6
      simp at a0 a1 a2 a3 a4 a5 a6
      clear hU4 hV4 hD4 hF4 hB4 hown' hgrow hdr hob
      go_wp2_with fail
      go_roundw
      case rel => exact ⟨k + 1, by omega, by go_num, by rw [Hn.out, List.length_append, Hn1.out, flatCa_snoc]; exact HU, by rw [Hn.out, List.filter_append, HA2.out, List.filter_cons_of_pos hma, List.filter_nil, List.length_append, Hn2.out, flatCa_snoc]; exact HV, HD, FR⟩
      case measure => simp [Go.RowKit.intOf]; omega
     | false =>
      go_wp2_with fail
      go_roundw
      case rel => exact ⟨k + 1, by omega, by go_num, by rw [Hn.out, List.length_append, Hn1.out, flatCa_snoc]; exact HU, by rw [Hn.out, List.filter_append, HA2.out, List.filter_cons_of_neg (by rw [hma]; decide), List.filter_nil, List.append_nil, Hn2.out]; exact HV, HD, FR⟩
      case measure => simp [Go.RowKit.intOf]; omega
  ·have htA : A.take k = A := List.take_of_length_le (by rw [Hl.out]; omega)
   rw [htA] at hu hv
   obtain ⟨A1, hA1⟩ : ∃ L, A.filter keepA = L := ⟨_, rfl⟩
   rw [hA1] at hu hv
   have hk1 : ∀ x ∈ A1, x.kind = 1 ∨ x.kind = 3 ∨ x.kind = 4 := by
    intro x hx
    rw [← hA1] at hx
    obtain ⟨hm, hq⟩ := List.mem_filter.1 hx
    have := HK.out x hm
    unfold keepA at hq
    simp at hq
    omega
   have hA1l : A1.length ≤ 100 := by rw [← hA1]; exact Nat.le_trans (List.length_filter_le _ _) (by rw [Hl.out]; exact hM)
   obtain ⟨A2, hA2⟩ : ∃ L, A1.filter (mineA p) = L := ⟨_, rfl⟩
   rw [hA2] at hv
   have hA2l : A2.length ≤ 100 := by rw [← hA2]; exact Nat.le_trans (List.length_filter_le _ _) hA1l
   have hk2 : ∀ x ∈ A2, x.kind = 1 ∨ x.kind = 3 ∨ x.kind = 4 := fun x hx => by rw [← hA2] at hx; exact hk1 x (List.mem_filter.1 hx).1
   have HO2 := Lib.hid (show stC 100 [] A2 = (stC 100 [] A1).filter (mineE p) by
    rw [← hA2]
    have := alone_st (n := 100) (p := p) A1 (GoodE.nil 100) (by rw [List.length_nil]; omega) hk1
    rw [List.filter_nil] at this
    exact this)
   obtain ⟨n1, hn1⟩ : ∃ n, A1.length = n := ⟨_, rfl⟩
   obtain ⟨n2, hn2⟩ : ∃ n, A2.length = n := ⟨_, rfl⟩
   rw [hn1] at hu hA1l
   rw [hn2] at hv hA2l
   obtain ⟨ua, uc, rfl, _, huc, hui⟩ := CasIn.of_own hu.out
   obtain ⟨va, vc, rfl, _, hvc, hvi⟩ := CasIn.of_own hv.out
   have HU := Lib.hid hui
   have HV := Lib.hid hvi
   have HK1 := Lib.hid hk1
   have HK2 := Lib.hid hk2
   have HA2 := Lib.hid hA2
   have Hn1 := Lib.hid hn1
   have Hn2 := Lib.hid hn2
   have HS := Lib.hid (HS.out.fr0 hfr.out id)
   have HQ := Lib.hid (HQ.out.fr0 hfr.out id)
   have HMB := Lib.hid (HMB.out.fr0 hfr.out id)
   have F := Lib.hid (F.out.trans hfr.out)
   have hKK1 : ∀ x ∈ A1, 1 ≤ x.kind ∧ x.kind ≤ 5 := fun x hx => by have := HK1.out x hx; omega
   have hKK2 : ∀ x ∈ A2, 1 ≤ x.kind ∧ x.kind ≤ 5 := fun x hx => by have := HK2.out x hx; omega
   have HKK1 := Lib.hid hKK1
   have HKK2 := Lib.hid hKK2
   clear htA hA1 hk1 hk2 hA2 hn1 hn2 hu hv hui hvi hfr hd hKK1 hKK2 HMine HI HK
   go_wp2_with fail
   have HP := Play_told (c := 100) (n := 0) (cap := 0) (m := n1) (ca := uc) (playC_ok (n := 100) (GoodE.nil 100) (by omega) HKK1.out) (esIn_nilC wr none) rfl (by omega) (by omega) HU.out Hn1.out (by omega) (kinds_wide HKK1.out)
   refine HP.mono ?_
   clear HP
   rintro e w5 ⟨oa, oc, la, lc, ys, rfl, hoc, ho, hys, hyt, hye, hf⟩
   obtain ⟨O, hO⟩ : ∃ O, stC 100 [] A1 = O := ⟨_, rfl⟩
   have hOl : O.length ≤ 100 := by rw [← hO]; exact (GoodE.acts A1 (GoodE.nil 100)).le
   rw [hO] at ho hoc
   obtain ⟨N1, hN1⟩ : ∃ N, O.length = N := ⟨_, rfl⟩
   rw [hN1] at hOl
   rw [hO, hN1, tlC_length, Hn1.out]
   have HO := Lib.hid ho
   have HOE := Lib.hid hO
   have HON := Lib.hid hN1
   have HY := Lib.hid hys
   have HYT := Lib.hid hyt
   have HYE := Lib.hid (TdEv.of_told hyt hye (by omega) (tlC_le A1 (GoodE.nil 100)))
   have HYL := Lib.hid (show ys.length = n1 by rw [← Hn1.out, ← tlC_length 100 A1 [], ← hyt, List.length_map])
   have HU := Lib.hid (HU.out.later hf)
   have HV := Lib.hid (HV.out.later hf)
   have HS := Lib.hid (HS.out.fr0 hf id)
   have HQ := Lib.hid (HQ.out.fr0 hf id)
   have HMB := Lib.hid (HMB.out.fr0 hf id)
   have F := Lib.hid (F.out.trans hf)
   clear ho hO hN1 hys hyt hye hf
   go_wp2_with fail
   have HP := Play_told (c := 100) (n := 0) (cap := 0) (m := n2) (ca := vc) (playC_ok (n := 100) (GoodE.nil 100) (by omega) HKK2.out) (esIn_nilC w5 none) rfl (by omega) (by omega) HV.out Hn2.out (by omega) (kinds_wide HKK2.out)
   refine HP.mono ?_
   clear HP
   rintro e w6 ⟨pa, pc, lb, lbc, zs, rfl, hpc, hp1, hzs, hzt, hze, hf⟩
   rw [HO2.out, HOE.out] at hp1 hpc
   rw [HO2.out, HOE.out, tlC_length, Hn2.out]
   obtain ⟨N2, hN2⟩ : ∃ N, (O.filter (mineE p)).length = N := ⟨_, rfl⟩
   have hN2l : N2 ≤ 100 := by rw [← hN2]; exact Nat.le_trans (List.length_filter_le _ _) (by rw [HON.out]; exact hOl)
   rw [hN2]
   have HN2 := Lib.hid hN2
   have HP := Lib.hid hp1
   have HZ := Lib.hid hzs
   have HZT := Lib.hid hzt
   have HZE := Lib.hid (TdEv.of_told hzt hze (by omega) (tlC_le A2 (GoodE.nil 100)))
   have HZL := Lib.hid (show zs.length = n2 by rw [← Hn2.out, ← tlC_length 100 A2 [], ← hzt, List.length_map])
   have HU := Lib.hid (HU.out.later hf)
   have HO := Lib.hid (HO.out.later hf)
   have HY := Lib.hid (HY.out.later hf)
   have HYE := Lib.hid (HYE.out.later hf)
   have HS := Lib.hid (HS.out.fr0 hf id)
   have HQ := Lib.hid (HQ.out.fr0 hf id)
   have HMB := Lib.hid (HMB.out.fr0 hf id)
   have F := Lib.hid (F.out.trans hf)
   clear hp1 hpc hN2 hzs hzt hze hf
   have s1 : ((n1 : Int) != (n1 : Int)) = false := by simp
   have s2 : ((n2 : Int) != (n2 : Int)) = false := by simp
   go_wp2_with fail
   have HMine := Lib.hid (fun (x : Ev) (W : World) (hW : Fr0 none' w6 W) => mine_any (w := W) x (HS.out.fr0 hW id) (HQ.out.fr0 hW id) h1 h2)
   have HMine2 := Lib.hid (fun (x : Ev) (W : World) (hW : ∀ b u, Box w6 b u → Box W b u) => notMine2_any (w := W) x (hW _ _ HMB.out) (hW _ _ HS.out) (hW _ _ HQ.out) h1 h2)
   have HMine3 := Lib.hid (fun (x : Ev) (W : World) (hW : ∀ b u, Box w6 b u → Box W b u) => notMine3_any (w := W) x (hW _ _ HMB.out) (hW _ _ HS.out) (hW _ _ HQ.out) h1 h2)
   rw [Hp.out] at HMine HMine2 HMine3
   have F0 := Lib.hid (Fr0.refl none' w6)
   go_loopw [20, 21, 22, 23, 94] (fun kk _ _ _ i wr => ∃ j k2 : Nat, j ≤ n1 ∧ i = .int .i64 j ∧ kk = .int .i64 k2 ∧ k2 ≤ 100 ∧ Hid (((A1.take j).filter (mineA p)).length = k2) ∧ Hid (Fr0 none' w6 wr)) (fun _ _ _ _ i _ => n1 - (Go.RowKit.intOf i).toNat)
   case atStart => exact ⟨0, 0, Nat.zero_le _, rfl, rfl, by omega, rfl, Fr0.refl _ _⟩
   case round =>
    obtain ⟨j, k2, hj, rfl, rfl, hk2, hk2l, hfr⟩ := hrel
    by_cases hlt : j < n1
    ·obtain ⟨x, hx⟩ : ∃ x, A1[j]? = some x := ⟨_, List.getElem?_eq_getElem (by rw [Hn1.out]; exact hlt)⟩
     obtain ⟨y, hy⟩ : ∃ y, ys[j]? = some y := ⟨_, List.getElem?_eq_getElem (by rw [HYL.out]; exact hlt)⟩
     have hty : (tlC 100 [] A1)[j]? = some y.tl := by rw [← HYT.out, List.getElem?_map, hy]; rfl
     have htk : A1.take (j + 1) = A1.take j ++ [x] := by rw [List.take_add_one, hx]; rfl
     have Htk := Lib.hid htk
     have Hx := Lib.hid hx
     have Hy := Lib.hid hy
     have Hty := Lib.hid hty
     obtain ⟨g1, o1, rfl, hxc⟩ := (HU.out.later hfr.out) j x hx
     obtain ⟨x0, x1, x2, x3, x4, x5, x6⟩ := hxc
     have j1 : (0 : Int) ≤ (j : Int) := by omega
     have j2 : (j : Int) < (n1 : Int) := by omega
     have hkd := HK1.out x (List.mem_of_getElem? hx)
     obtain ⟨ab, hab⟩ : ∃ b, wr.heap.size = b := ⟨_, rfl⟩
     obtain ⟨W1, hW1⟩ : ∃ V, wr.alloc (.cells #[.int .u8 x.kind, .int .i64 x.x.key.time, .int .i64 x.x.key.source, .int .i64 x.x.key.seq, .int .i64 x.x.to, .int .i64 x.x.value, .int .i64 x.time] 49) = V := ⟨_, rfl⟩
     have f1 : Fr0 none' wr W1 := by rw [← hW1]; exact (Fr0.refl _ _).alloc _
     have b1 : W1.heap[ab]? = some (.cells #[.int .u8 x.kind, .int .i64 x.x.key.time, .int .i64 x.x.key.source, .int .i64 x.x.key.seq, .int .i64 x.x.to, .int .i64 x.x.value, .int .i64 x.time] 49 (0, 0)) := by rw [← hW1, ← hab]; exact World.alloc_heap_new _ _
     have a0 := cells_in b1 0
     have a1 := cells_in b1 1
     have a2 := cells_in b1 2
     have a3 := cells_in b1 3
     have a4 := cells_in b1 4
     have a5 := cells_in b1 5
     have a6 := cells_in b1 6
     simp at a0 a1 a2 a3 a4 a5 a6
     have HAB := Lib.hid b1
     have FR := Lib.hid (hfr.out.trans f1)
     have Hab := Lib.hid hab
     clear b1
     clear hx hy hty htk f1 hfr
     by_cases h3 : x.kind = 3
     ·have d3 : (x.kind == 3) = true := by simp [h3]
      have d4 : (x.kind != 3) = false := by simp [h3]
      have hma : mineA p x = true := by unfold mineA; rw [d3]; rfl
      have Hma := Lib.hid hma
      clear h3 hma
      have hz' := alone_tl (p := p) (n := 100) (by rw [Hn1.out]; omega) HK1.out Hx.out Hma.out Hty.out
      rw [hk2l.out, HA2.out, ← HZT.out, List.getElem?_map] at hz'
      obtain ⟨z, hz, hzt⟩ := Option.map_eq_some_iff.1 hz'
      have hze : z.err = y.err := congrArg Tl.err hzt
      have hzv : z.evs = y.evs.filter (mineE p) := congrArg Tl.evs hzt
      have hkn : k2 < n2 := by have := (List.getElem?_eq_some_iff.1 hz).1; rw [HZL.out] at this; exact this
      have HYk := Lib.hid ((HYE.out.later FR.out) y (List.mem_of_getElem? Hy.out))
      have HZk := Lib.hid ((HZE.out.later FR.out) z (List.mem_of_getElem? hz))
      obtain ⟨g2, o2, rfl, hcy⟩ := (HY.out.later FR.out).at2 Hy.out
      obtain ⟨g3, o3, rfl, hcz⟩ := (HZ.out.later FR.out).at2 hz
      have Hcy := Lib.hid hcy
      have Hcz := Lib.hid hcz
      have Hzv := Lib.hid hzv
      have Hze := Lib.hid hze
      have Hz := Lib.hid hz
      have k1' : (0 : Int) ≤ (k2 : Int) := by omega
      have k2' : (k2 : Int) < (n2 : Int) := by omega
      have k3' : decide ((k2 : Int) ≥ (n2 : Int)) = false := decide_eq_false (by omega)
      have k4' : decide ((n2 : Int) ≤ (k2 : Int)) = false := decide_eq_false (by omega)
      have k5' : decide (n2 ≤ k2) = false := decide_eq_false (by omega)
      have k6' : ¬ (n2 ≤ k2) := by omega
      clear hz' hz hzt hze hzv hcy hcz
      have y0 := (Hcy.out _ (Fr0.refl _ _)).1
      have y1 := (Hcy.out _ (Fr0.refl _ _)).2
      go_wp2_with fail
      try (refine HC.out.mono ?_; rintro e w7 ⟨rfl, hf7⟩; have FR := Lib.hid (FR.out.trans hf7); have HYk := Lib.hid (show EsIn w7 y.sa y.evs ∧ y.evs.length = y.sn ∧ y.sn ≤ 10000 from ⟨HYk.out.1.later hf7, HYk.out.2⟩); have HZk := Lib.hid (show EsIn w7 z.sa z.evs ∧ z.evs.length = z.sn ∧ z.sn ≤ 10000 from ⟨HZk.out.1.later hf7, HZk.out.2⟩); have Hcy := Lib.hid (fun W' h => Hcy.out W' (hf7.trans h)); have Hcz := Lib.hid (fun W' h => Hcz.out W' (hf7.trans h)); have y0 := (Hcy.out _ (Fr0.refl _ _)).1; have y1 := (Hcy.out _ (Fr0.refl _ _)).2; clear hf7; go_wp2_with fail)
      refine (CloneE (cap := y.sc) y.evs HYk.out.1 HYk.out.2.1 (by have := HYk.out.2.2; omega)).mono ?_
      rintro e w8 ⟨v8, rfl, hv8, hf8⟩
      have HD := Lib.hid (DelMine (w0 := w6) (p := p) y.evs FR.out hv8 hf8 (by have := HYk.out.2.2; omega) 23 #[.pointer (some ⟨mb, 0, none⟩)] (fun _ _ => rfl) (fun x W h => HMine2.out x W h))
      have F8 := Lib.hid hf8
      clear hv8 hf8 y0 y1
      go_wp2_with fail
      refine HD.out.mono ?_
      rintro e w9 ⟨da, dc, rfl, hd9, hf9⟩
      rw [← Hzv.out] at hd9 ⊢
      rw [HZk.out.2.1]
      have HD9 := Lib.hid hd9
      have FR := Lib.hid hf9
      obtain ⟨_, _, e', yq⟩ := (HY.out.later FR.out).at2 Hy.out
      injection e' with e'
      injection e' with e1' e2' _
      subst e1'
      subst e2'
      obtain ⟨_, _, e', zq⟩ := (HZ.out.later FR.out).at2 Hz.out
      injection e' with e'
      injection e' with e1' e2' _
      subst e1'
      subst e2'
      have HL := Lib.hid (fun (W' : World) (hf : Fr0 none' w9 W') => And.intro (yq W' hf).1 (zq W' hf))
      rw [Hze.out] at HL
      have HZk := Lib.hid ((HZE.out.later FR.out) z (List.mem_of_getElem? Hz.out))
      clear hd9 hf9 HD yq zq
      go_wp2_with fail
      refine wp_region_held_drew (S := fun W' => Fr0 none' w9 W') (by kernel_rfl) ((Fr0.refl none' w9).drew) (fun hHeld => ?_)
      refine tkn (i := 0) (v := .int .i64 (k2 : Int)) (fun W' hSW => ?_) ?_
      ·obtain ⟨t0, t1, t2⟩ := HL.out W' hSW
       first | (go_simp; done) | exact rfl | (go_simp; rfl) | (go_simp; omega)
      try simp only [pUt, pUn, sEt, sEz, sEs]
      refine tkn (i := 1) (v := .slice (some ⟨g3, o3, none⟩) n2 lbc) (fun W' hSW => ?_) ?_
      ·obtain ⟨t0, t1, t2⟩ := HL.out W' hSW
       first | (go_simp; done) | exact rfl | (go_simp; rfl) | (go_simp; omega)
      try simp only [pUt, pUn, sEt, sEz, sEs]
      refine tkn (i := 2) (v := .int .i64 (n2 : Int)) (fun W' hSW => ?_) ?_
      ·obtain ⟨t0, t1, t2⟩ := HL.out W' hSW
       first | (go_simp; done) | exact rfl | (go_simp; rfl) | (go_simp; omega)
      try simp only [pUt, pUn, sEt, sEz, sEs]
      refine tkn (i := 3) (v := .bool false) (fun W' hSW => ?_) ?_
      ·obtain ⟨t0, t1, t2⟩ := HL.out W' hSW
       first | (go_simp; done) | exact rfl | (go_simp; rfl) | (go_simp; omega)
      try simp only [pUt, pUn, sEt, sEz, sEs]
      refine tkn (i := 4) (v := .bool false) (fun W' hSW => ?_) ?_
      ·obtain ⟨t0, t1, t2⟩ := HL.out W' hSW
       first | (go_simp; done) | exact rfl | (go_simp; rfl) | (go_simp; omega)
      try simp only [pUt, pUn, sEt, sEz, sEs]
      refine tkn (i := 5) (v := .slice (some ⟨g2, o2, none⟩) n1 lc) (fun W' hSW => ?_) ?_
      ·obtain ⟨t0, t1, t2⟩ := HL.out W' hSW
       first | (go_simp; done) | exact rfl | (go_simp; rfl) | (go_simp; omega)
      try simp only [pUt, pUn, sEt, sEz, sEs]
      refine tkn (i := 6) (v := .int .i64 (j : Int)) (fun W' hSW => ?_) ?_
      ·obtain ⟨t0, t1, t2⟩ := HL.out W' hSW
       first | (go_simp; done) | exact rfl | (go_simp; rfl) | (go_simp; omega)
      try simp only [pUt, pUn, sEt, sEz, sEs]
      refine tkn (i := 7) (v := .pointer (some ⟨g2, o2 + j * 2, none⟩)) (fun W' hSW => ?_) ?_
      ·obtain ⟨t0, t1, t2⟩ := HL.out W' hSW
       first | (go_simp; done) | exact rfl | (go_simp; rfl) | (go_simp; omega)
      try simp only [pUt, pUn, sEt, sEz, sEs]
      refine tkn (i := 8) (v := .pointer (some ⟨g2, o2 + j * 2, none⟩)) (fun W' hSW => ?_) ?_
      ·obtain ⟨t0, t1, t2⟩ := HL.out W' hSW
       first | (go_simp; done) | exact rfl | (go_simp; rfl) | (go_simp; omega)
      try simp only [pUt, pUn, sEt, sEz, sEs]
      refine tkn (i := 9) (v := .int .i64 y.err) (fun W' hSW => ?_) ?_
      ·obtain ⟨t0, t1, t2⟩ := HL.out W' hSW
       first | (go_simp; done) | exact rfl | (go_simp; rfl) | (go_simp; omega)
      try simp only [pUt, pUn, sEt, sEz, sEs]
      refine tkn (i := 10) (v := .slice (some ⟨g3, o3, none⟩) n2 lbc) (fun W' hSW => ?_) ?_
      ·obtain ⟨t0, t1, t2⟩ := HL.out W' hSW
       first | (go_simp; done) | exact rfl | (go_simp; rfl) | (go_simp; omega)
      try simp only [pUt, pUn, sEt, sEz, sEs]
      refine tkn (i := 11) (v := .int .i64 (k2 : Int)) (fun W' hSW => ?_) ?_
      ·obtain ⟨t0, t1, t2⟩ := HL.out W' hSW
       first | (go_simp; done) | exact rfl | (go_simp; rfl) | (go_simp; omega)
      try simp only [pUt, pUn, sEt, sEz, sEs]
      refine tkn (i := 12) (v := .pointer (some ⟨g3, o3 + k2 * 2, none⟩)) (fun W' hSW => ?_) ?_
      ·obtain ⟨t0, t1, t2⟩ := HL.out W' hSW
       first | (go_simp; done) | exact rfl | (go_simp; rfl) | (go_simp; omega)
      try simp only [pUt, pUn, sEt, sEz, sEs]
      refine tkn (i := 13) (v := .pointer (some ⟨g3, o3 + k2 * 2, none⟩)) (fun W' hSW => ?_) ?_
      ·obtain ⟨t0, t1, t2⟩ := HL.out W' hSW
       first | (go_simp; done) | exact rfl | (go_simp; rfl) | (go_simp; omega)
      try simp only [pUt, pUn, sEt, sEz, sEs]
      refine tkn (i := 14) (v := .int .i64 y.err) (fun W' hSW => ?_) ?_
      ·obtain ⟨t0, t1, t2⟩ := HL.out W' hSW
       first | (go_simp; done) | exact rfl | (go_simp; rfl) | (go_simp; omega)
      try simp only [pUt, pUn, sEt, sEz, sEs]
      refine tkn (i := 15) (v := .bool false) (fun W' hSW => ?_) ?_
      ·obtain ⟨t0, t1, t2⟩ := HL.out W' hSW
       first | (go_simp; done) | exact rfl | (go_simp; rfl) | (go_simp; omega)
      try simp only [pUt, pUn, sEt, sEz, sEs]
      refine tkn (i := 16) (v := .bool false) (fun W' hSW => ?_) ?_
      ·obtain ⟨t0, t1, t2⟩ := HL.out W' hSW
       first | (go_simp; done) | exact rfl | (go_simp; rfl) | (go_simp; omega)
      try simp only [pUt, pUn, sEt, sEz, sEs]
      refine tkn (i := 17) (v := .bool false) (fun W' hSW => ?_) ?_
      ·obtain ⟨t0, t1, t2⟩ := HL.out W' hSW
       first | (go_simp; done) | exact rfl | (go_simp; rfl) | (go_simp; omega)
      try simp only [pUt, pUn, sEt, sEz, sEs]
      refine tkn (i := 18) (v := .slice da z.sn dc) (fun W' hSW => ?_) ?_
      ·obtain ⟨t0, t1, t2⟩ := HL.out W' hSW
       first | (go_simp; done) | exact rfl | (go_simp; rfl) | (go_simp; omega)
      try simp only [pUt, pUn, sEt, sEz, sEs]
      refine tkn (i := 19) (v := .slice (some ⟨g3, o3, none⟩) n2 lbc) (fun W' hSW => ?_) ?_
      ·obtain ⟨t0, t1, t2⟩ := HL.out W' hSW
       first | (go_simp; done) | exact rfl | (go_simp; rfl) | (go_simp; omega)
      try simp only [pUt, pUn, sEt, sEz, sEs]
      refine tkn (i := 20) (v := .int .i64 (k2 : Int)) (fun W' hSW => ?_) ?_
      ·obtain ⟨t0, t1, t2⟩ := HL.out W' hSW
       first | (go_simp; done) | exact rfl | (go_simp; rfl) | (go_simp; omega)
      try simp only [pUt, pUn, sEt, sEz, sEs]
      refine tkn (i := 21) (v := .pointer (some ⟨g3, o3 + k2 * 2, none⟩)) (fun W' hSW => ?_) ?_
      ·obtain ⟨t0, t1, t2⟩ := HL.out W' hSW
       first | (go_simp; done) | exact rfl | (go_simp; rfl) | (go_simp; omega)
      try simp only [pUt, pUn, sEt, sEz, sEs]
      refine tkn (i := 22) (v := .pointer (some ⟨g3, o3 + k2 * 2 + 1, none⟩)) (fun W' hSW => ?_) ?_
      ·obtain ⟨t0, t1, t2⟩ := HL.out W' hSW
       first | (go_simp; done) | exact rfl | (go_simp; rfl) | (go_simp; omega)
      try simp only [pUt, pUn, sEt, sEz, sEs]
      refine tkn (i := 23) (v := .slice z.sa z.sn z.sc) (fun W' hSW => ?_) ?_
      ·obtain ⟨t0, t1, t2⟩ := HL.out W' hSW
       first | (go_simp; done) | exact rfl | (go_simp; rfl) | (go_simp; omega)
      try simp only [pUt, pUn, sEt, sEz, sEs]
      refine take_call (i := 24) rfl (by kernel_rfl) (by kernel_rfl) (fun K hK => ?_)
      go_simp
      have HSm := Same_any da z.sa z.sn z.sn dc z.sc _ _ w9.drew HZk.out.2.1 HZk.out.2.1 (by have := HZk.out.2.2; omega) (by have := HZk.out.2.2; omega) (HD9.out.later hHeld) (HZk.out.1.later hHeld)
      rw [decide_eq_true rfl] at HSm
      refine HSm.mono ?_
      clear HSm
      rintro e w10 ⟨rfl, hf10⟩
      have hHeld := hHeld.trans hf10
      clear hf10
      go_wp2_with fail
      refine hK.out _ _ hHeld (fun hS => ?_)
      clear hK K
      try simp only [pUt, pUn, sEt, sEz, sEs]
      refine tkn (i := 25) (v := .bool false) (fun W' hSW => ?_) ?_
      ·obtain ⟨t0, t1, t2⟩ := HL.out W' hSW
       first | (go_simp; done) | exact rfl | (go_simp; rfl) | (go_simp; omega)
      try simp only [pUt, pUn, sEt, sEz, sEs]
      refine tkn (i := 26) (v := .bool false) (fun W' hSW => ?_) ?_
      ·obtain ⟨t0, t1, t2⟩ := HL.out W' hSW
       first | (go_simp; done) | exact rfl | (go_simp; rfl) | (go_simp; omega)
      try simp only [pUt, pUn, sEt, sEz, sEs]
      refine wpAnyH_done (by kernel_rfl) ?_ _
      have FR := Lib.hid (FR.out.trans hHeld)
      clear hS hHeld
      go_wp2_with fail
      go_roundw
      case rel => exact ⟨j + 1, k2 + 1, by omega, by go_num, by go_num, by omega, by rw [Htk.out, List.filter_append, List.filter_cons_of_pos Hma.out, List.filter_nil, List.length_append, hk2l.out]; rfl, FR⟩
      case measure => simp [Go.RowKit.intOf]; omega
     ·have d3 : (x.kind == 3) = false := beq_eq_false_iff_ne.2 h3
      have d4 : (x.kind != 3) = true := by simp [h3]
      have hma : mineA p x = mineE p x.x := by unfold mineA; rw [d3]; rfl
      have m0 := (HMB.out.fr0 FR.out id).cell
      unfold mineF at m0
      have HC := Lib.hid (HMine.out x.x W1 FR.out)
      unfold evV at HC
      obtain ⟨b, hb⟩ : ∃ b, mineE p x.x = b := ⟨_, rfl⟩
      rw [hb] at HC hma
      have Hma := Lib.hid hma
      clear h3 hb hma
      cases b with
      | false =>
       go_wp2_with fail
       refine HC.out.mono ?_
       rintro e w7 ⟨rfl, hf7⟩
       have FR := Lib.hid (FR.out.trans hf7)
       clear hf7 m0 HC
       go_wp2_with fail
       go_roundw
       case rel => exact ⟨j + 1, k2, by omega, by go_num, rfl, hk2, by rw [Htk.out, List.filter_append, List.filter_cons_of_neg (by rw [Hma.out]; decide), List.filter_nil, List.append_nil]; exact hk2l, FR⟩
       case measure => simp [Go.RowKit.intOf]; omega
      | true =>
       have HCC := HC
       have d5 : (x.kind == 3) = false := d3
       have hz' := alone_tl (p := p) (n := 100) (by rw [Hn1.out]; omega) HK1.out Hx.out Hma.out Hty.out
       rw [hk2l.out, HA2.out, ← HZT.out, List.getElem?_map] at hz'
       obtain ⟨z, hz, hzt⟩ := Option.map_eq_some_iff.1 hz'
       have hze : z.err = y.err := congrArg Tl.err hzt
       have hzv : z.evs = y.evs.filter (mineE p) := congrArg Tl.evs hzt
       have hkn : k2 < n2 := by have := (List.getElem?_eq_some_iff.1 hz).1; rw [HZL.out] at this; exact this
       have HYk := Lib.hid ((HYE.out.later FR.out) y (List.mem_of_getElem? Hy.out))
       have HZk := Lib.hid ((HZE.out.later FR.out) z (List.mem_of_getElem? hz))
       obtain ⟨g2, o2, rfl, hcy⟩ := (HY.out.later FR.out).at2 Hy.out
       obtain ⟨g3, o3, rfl, hcz⟩ := (HZ.out.later FR.out).at2 hz
       have Hcy := Lib.hid hcy
       have Hcz := Lib.hid hcz
       have Hzv := Lib.hid hzv
       have Hze := Lib.hid hze
       have Hz := Lib.hid hz
       have k1' : (0 : Int) ≤ (k2 : Int) := by omega
       have k2' : (k2 : Int) < (n2 : Int) := by omega
       have k3' : decide ((k2 : Int) ≥ (n2 : Int)) = false := decide_eq_false (by omega)
       have k4' : decide ((n2 : Int) ≤ (k2 : Int)) = false := decide_eq_false (by omega)
       have k5' : decide (n2 ≤ k2) = false := decide_eq_false (by omega)
       have k6' : ¬ (n2 ≤ k2) := by omega
       clear hz' hz hzt hze hzv hcy hcz
       have y0 := (Hcy.out _ (Fr0.refl _ _)).1
       have y1 := (Hcy.out _ (Fr0.refl _ _)).2
       go_wp2_with fail
       try (refine HC.out.mono ?_; rintro e w7 ⟨rfl, hf7⟩; have FR := Lib.hid (FR.out.trans hf7); have HYk := Lib.hid (show EsIn w7 y.sa y.evs ∧ y.evs.length = y.sn ∧ y.sn ≤ 10000 from ⟨HYk.out.1.later hf7, HYk.out.2⟩); have HZk := Lib.hid (show EsIn w7 z.sa z.evs ∧ z.evs.length = z.sn ∧ z.sn ≤ 10000 from ⟨HZk.out.1.later hf7, HZk.out.2⟩); have Hcy := Lib.hid (fun W' h => Hcy.out W' (hf7.trans h)); have Hcz := Lib.hid (fun W' h => Hcz.out W' (hf7.trans h)); have y0 := (Hcy.out _ (Fr0.refl _ _)).1; have y1 := (Hcy.out _ (Fr0.refl _ _)).2; clear hf7; go_wp2_with fail)
       refine (CloneE (cap := y.sc) y.evs HYk.out.1 HYk.out.2.1 (by have := HYk.out.2.2; omega)).mono ?_
       rintro e w8 ⟨v8, rfl, hv8, hf8⟩
       have HD := Lib.hid (DelMine (w0 := w6) (p := p) y.evs FR.out hv8 hf8 (by have := HYk.out.2.2; omega) 23 #[.pointer (some ⟨mb, 0, none⟩)] (fun _ _ => rfl) (fun x W h => HMine2.out x W h))
       have F8 := Lib.hid hf8
       clear hv8 hf8 y0 y1
       go_wp2_with fail
       refine HD.out.mono ?_
       rintro e w9 ⟨da, dc, rfl, hd9, hf9⟩
       rw [← Hzv.out] at hd9 ⊢
       rw [HZk.out.2.1]
       have HD9 := Lib.hid hd9
       have FR := Lib.hid hf9
       obtain ⟨_, _, e', yq⟩ := (HY.out.later FR.out).at2 Hy.out
       injection e' with e'
       injection e' with e1' e2' _
       subst e1'
       subst e2'
       obtain ⟨_, _, e', zq⟩ := (HZ.out.later FR.out).at2 Hz.out
       injection e' with e'
       injection e' with e1' e2' _
       subst e1'
       subst e2'
       have HL := Lib.hid (fun (W' : World) (hf : Fr0 none' w9 W') => And.intro (yq W' hf).1 (zq W' hf))
       rw [Hze.out] at HL
       have HZk := Lib.hid ((HZE.out.later FR.out) z (List.mem_of_getElem? Hz.out))
       clear hd9 hf9 HD yq zq
       go_wp2_with fail
       refine wp_region_held_drew (S := fun W' => Fr0 none' w9 W') (by kernel_rfl) ((Fr0.refl none' w9).drew) (fun hHeld => ?_)
       refine tkn (i := 0) (v := .int .i64 (k2 : Int)) (fun W' hSW => ?_) ?_
       ·obtain ⟨t0, t1, t2⟩ := HL.out W' hSW
        first | (go_simp; done) | exact rfl | (go_simp; rfl) | (go_simp; omega)
       try simp only [pUt, pUn, sEt, sEz, sEs]
       refine tkn (i := 1) (v := .slice (some ⟨g3, o3, none⟩) n2 lbc) (fun W' hSW => ?_) ?_
       ·obtain ⟨t0, t1, t2⟩ := HL.out W' hSW
        first | (go_simp; done) | exact rfl | (go_simp; rfl) | (go_simp; omega)
       try simp only [pUt, pUn, sEt, sEz, sEs]
       refine tkn (i := 2) (v := .int .i64 (n2 : Int)) (fun W' hSW => ?_) ?_
       ·obtain ⟨t0, t1, t2⟩ := HL.out W' hSW
        first | (go_simp; done) | exact rfl | (go_simp; rfl) | (go_simp; omega)
       try simp only [pUt, pUn, sEt, sEz, sEs]
       refine tkn (i := 3) (v := .bool false) (fun W' hSW => ?_) ?_
       ·obtain ⟨t0, t1, t2⟩ := HL.out W' hSW
        first | (go_simp; done) | exact rfl | (go_simp; rfl) | (go_simp; omega)
       try simp only [pUt, pUn, sEt, sEz, sEs]
       refine tkn (i := 4) (v := .bool false) (fun W' hSW => ?_) ?_
       ·obtain ⟨t0, t1, t2⟩ := HL.out W' hSW
        first | (go_simp; done) | exact rfl | (go_simp; rfl) | (go_simp; omega)
       try simp only [pUt, pUn, sEt, sEz, sEs]
       refine tkn (i := 5) (v := .slice (some ⟨g2, o2, none⟩) n1 lc) (fun W' hSW => ?_) ?_
       ·obtain ⟨t0, t1, t2⟩ := HL.out W' hSW
        first | (go_simp; done) | exact rfl | (go_simp; rfl) | (go_simp; omega)
       try simp only [pUt, pUn, sEt, sEz, sEs]
       refine tkn (i := 6) (v := .int .i64 (j : Int)) (fun W' hSW => ?_) ?_
       ·obtain ⟨t0, t1, t2⟩ := HL.out W' hSW
        first | (go_simp; done) | exact rfl | (go_simp; rfl) | (go_simp; omega)
       try simp only [pUt, pUn, sEt, sEz, sEs]
       refine tkn (i := 7) (v := .pointer (some ⟨g2, o2 + j * 2, none⟩)) (fun W' hSW => ?_) ?_
       ·obtain ⟨t0, t1, t2⟩ := HL.out W' hSW
        first | (go_simp; done) | exact rfl | (go_simp; rfl) | (go_simp; omega)
       try simp only [pUt, pUn, sEt, sEz, sEs]
       refine tkn (i := 8) (v := .pointer (some ⟨g2, o2 + j * 2, none⟩)) (fun W' hSW => ?_) ?_
       ·obtain ⟨t0, t1, t2⟩ := HL.out W' hSW
        first | (go_simp; done) | exact rfl | (go_simp; rfl) | (go_simp; omega)
       try simp only [pUt, pUn, sEt, sEz, sEs]
       refine tkn (i := 9) (v := .int .i64 y.err) (fun W' hSW => ?_) ?_
       ·obtain ⟨t0, t1, t2⟩ := HL.out W' hSW
        first | (go_simp; done) | exact rfl | (go_simp; rfl) | (go_simp; omega)
       try simp only [pUt, pUn, sEt, sEz, sEs]
       refine tkn (i := 10) (v := .slice (some ⟨g3, o3, none⟩) n2 lbc) (fun W' hSW => ?_) ?_
       ·obtain ⟨t0, t1, t2⟩ := HL.out W' hSW
        first | (go_simp; done) | exact rfl | (go_simp; rfl) | (go_simp; omega)
       try simp only [pUt, pUn, sEt, sEz, sEs]
       refine tkn (i := 11) (v := .int .i64 (k2 : Int)) (fun W' hSW => ?_) ?_
       ·obtain ⟨t0, t1, t2⟩ := HL.out W' hSW
        first | (go_simp; done) | exact rfl | (go_simp; rfl) | (go_simp; omega)
       try simp only [pUt, pUn, sEt, sEz, sEs]
       refine tkn (i := 12) (v := .pointer (some ⟨g3, o3 + k2 * 2, none⟩)) (fun W' hSW => ?_) ?_
       ·obtain ⟨t0, t1, t2⟩ := HL.out W' hSW
        first | (go_simp; done) | exact rfl | (go_simp; rfl) | (go_simp; omega)
       try simp only [pUt, pUn, sEt, sEz, sEs]
       refine tkn (i := 13) (v := .pointer (some ⟨g3, o3 + k2 * 2, none⟩)) (fun W' hSW => ?_) ?_
       ·obtain ⟨t0, t1, t2⟩ := HL.out W' hSW
        first | (go_simp; done) | exact rfl | (go_simp; rfl) | (go_simp; omega)
       try simp only [pUt, pUn, sEt, sEz, sEs]
       refine tkn (i := 14) (v := .int .i64 y.err) (fun W' hSW => ?_) ?_
       ·obtain ⟨t0, t1, t2⟩ := HL.out W' hSW
        first | (go_simp; done) | exact rfl | (go_simp; rfl) | (go_simp; omega)
       try simp only [pUt, pUn, sEt, sEz, sEs]
       refine tkn (i := 15) (v := .bool false) (fun W' hSW => ?_) ?_
       ·obtain ⟨t0, t1, t2⟩ := HL.out W' hSW
        first | (go_simp; done) | exact rfl | (go_simp; rfl) | (go_simp; omega)
       try simp only [pUt, pUn, sEt, sEz, sEs]
       refine tkn (i := 16) (v := .bool false) (fun W' hSW => ?_) ?_
       ·obtain ⟨t0, t1, t2⟩ := HL.out W' hSW
        first | (go_simp; done) | exact rfl | (go_simp; rfl) | (go_simp; omega)
       try simp only [pUt, pUn, sEt, sEz, sEs]
       refine tkn (i := 17) (v := .bool false) (fun W' hSW => ?_) ?_
       ·obtain ⟨t0, t1, t2⟩ := HL.out W' hSW
        first | (go_simp; done) | exact rfl | (go_simp; rfl) | (go_simp; omega)
       try simp only [pUt, pUn, sEt, sEz, sEs]
       refine tkn (i := 18) (v := .slice da z.sn dc) (fun W' hSW => ?_) ?_
       ·obtain ⟨t0, t1, t2⟩ := HL.out W' hSW
        first | (go_simp; done) | exact rfl | (go_simp; rfl) | (go_simp; omega)
       try simp only [pUt, pUn, sEt, sEz, sEs]
       refine tkn (i := 19) (v := .slice (some ⟨g3, o3, none⟩) n2 lbc) (fun W' hSW => ?_) ?_
       ·obtain ⟨t0, t1, t2⟩ := HL.out W' hSW
        first | (go_simp; done) | exact rfl | (go_simp; rfl) | (go_simp; omega)
       try simp only [pUt, pUn, sEt, sEz, sEs]
       refine tkn (i := 20) (v := .int .i64 (k2 : Int)) (fun W' hSW => ?_) ?_
       ·obtain ⟨t0, t1, t2⟩ := HL.out W' hSW
        first | (go_simp; done) | exact rfl | (go_simp; rfl) | (go_simp; omega)
       try simp only [pUt, pUn, sEt, sEz, sEs]
       refine tkn (i := 21) (v := .pointer (some ⟨g3, o3 + k2 * 2, none⟩)) (fun W' hSW => ?_) ?_
       ·obtain ⟨t0, t1, t2⟩ := HL.out W' hSW
        first | (go_simp; done) | exact rfl | (go_simp; rfl) | (go_simp; omega)
       try simp only [pUt, pUn, sEt, sEz, sEs]
       refine tkn (i := 22) (v := .pointer (some ⟨g3, o3 + k2 * 2 + 1, none⟩)) (fun W' hSW => ?_) ?_
       ·obtain ⟨t0, t1, t2⟩ := HL.out W' hSW
        first | (go_simp; done) | exact rfl | (go_simp; rfl) | (go_simp; omega)
       try simp only [pUt, pUn, sEt, sEz, sEs]
       refine tkn (i := 23) (v := .slice z.sa z.sn z.sc) (fun W' hSW => ?_) ?_
       ·obtain ⟨t0, t1, t2⟩ := HL.out W' hSW
        first | (go_simp; done) | exact rfl | (go_simp; rfl) | (go_simp; omega)
       try simp only [pUt, pUn, sEt, sEz, sEs]
       refine take_call (i := 24) rfl (by kernel_rfl) (by kernel_rfl) (fun K hK => ?_)
       go_simp
       have HSm := Same_any da z.sa z.sn z.sn dc z.sc _ _ w9.drew HZk.out.2.1 HZk.out.2.1 (by have := HZk.out.2.2; omega) (by have := HZk.out.2.2; omega) (HD9.out.later hHeld) (HZk.out.1.later hHeld)
       rw [decide_eq_true rfl] at HSm
       refine HSm.mono ?_
       clear HSm
       rintro e w10 ⟨rfl, hf10⟩
       have hHeld := hHeld.trans hf10
       clear hf10
       go_wp2_with fail
       refine hK.out _ _ hHeld (fun hS => ?_)
       clear hK K
       try simp only [pUt, pUn, sEt, sEz, sEs]
       refine tkn (i := 25) (v := .bool false) (fun W' hSW => ?_) ?_
       ·obtain ⟨t0, t1, t2⟩ := HL.out W' hSW
        first | (go_simp; done) | exact rfl | (go_simp; rfl) | (go_simp; omega)
       try simp only [pUt, pUn, sEt, sEz, sEs]
       refine tkn (i := 26) (v := .bool false) (fun W' hSW => ?_) ?_
       ·obtain ⟨t0, t1, t2⟩ := HL.out W' hSW
        first | (go_simp; done) | exact rfl | (go_simp; rfl) | (go_simp; omega)
       try simp only [pUt, pUn, sEt, sEz, sEs]
       refine wpAnyH_done (by kernel_rfl) ?_ _
       have FR := Lib.hid (FR.out.trans hHeld)
       clear hS hHeld
       go_wp2_with fail
       go_roundw
       case rel => exact ⟨j + 1, k2 + 1, by omega, by go_num, by go_num, by omega, by rw [Htk.out, List.filter_append, List.filter_cons_of_pos Hma.out, List.filter_nil, List.length_append, hk2l.out]; rfl, FR⟩
       case measure => simp [Go.RowKit.intOf]; omega
    ·go_wp2_with fail
     have hjn : A1.take j = A1 := List.take_of_length_le (by rw [Hn1.out]; omega)
     refine (CloneE (cap := oc) O (HO.out.later hfr.out) HON.out (by omega)).mono ?_
     rintro e w7 ⟨v7, rfl, hv7, hf7⟩
     have HD := DelMine (w0 := w6) (w1 := wr) (n := N1) (p := p) O hfr.out hv7 hf7 (by omega) 25 #[.pointer (some ⟨mb, 0, none⟩)] (fun _ _ => rfl) (fun x W h => HMine3.out x W h)
     have FR := Lib.hid (hfr.out.trans hf7)
     have HD := Lib.hid HD
     clear hv7 hf7 hfr hjn
     go_wp2_with fail
     refine HD.out.mono ?_
     rintro e w8 ⟨da, dc, rfl, hd8, hf8⟩
     have HD8 := Lib.hid hd8
     rw [HN2.out]
     have FR := Lib.hid hf8
     clear hd8 hf8 HD
     go_wp2_with fail
     have HSm := Same_any da pa N2 N2 dc pc _ _ w8 HN2.out HN2.out (by omega) (by omega) HD8.out (HP.out.later FR.out)
     rw [decide_eq_true rfl] at HSm
     refine HSm.mono ?_
     rintro e w9 ⟨rfl, hf9⟩
     have F := Lib.hid (F.out.trans (FR.out.trans hf9))
     clear hf9 HSm
     go_wp2_with fail
     go_ret
     exact ⟨rfl, F.out⟩
end Go.Proofs.Ytmbjfmlicffclaa

namespace Go.Proofs.Ytmbjfmlicffclaa.calendarAlone
open Go.ChangeShapes Go.WideShapes Go.ChangeAt Go.RowKit Go.Proofs.Ytmbjfmlicffclaa

set_option maxRecDepth 100000 in
theorem lifted (os : Os) (started : os.Started) (H : Type) (enc : TypeId × Value → H) :
  ReturnsInHanded {} Try.checked os 7 .any (Rows.calendarAloneSpec.pre6 enc Try.prog Try.f7 Rows.calendarAloneRow.domain false) (Rows.calendarAloneSpec.post enc Try.prog Try.f7 false true false false) := by
 refine returnsInHanded_of_change (C := Try.checked) knobC started (by kernel_rfl) Try.func7
  (ChangeSpec.witness6 (enc := enc) (C := Try.checked) false ⟨#[], #[.slice none 0 0, .int .u8 0, .int .u8 0], []⟩ 8 (by kernel_rfl) (by kernel_rfl) (by kernel_rfl) (by kernel_rfl)) ?_
 intro W base args ds gs before hval0 hW hcnd _
 have hval : ∀ (j : Nat) t v, Try.f7.params[j]? = some t → args[j]? = some v → Value.okWide Try.prog W .any base t v := hval0
 have hW' := hW
 obtain ⟨p, q, hA0, hV, rfl, hfz, hnd⟩ := hW
 have hA : DataW.TrodAll enc Try.prog W 0 (fun _ => true) true Try.f7.params.toList args.toList ds p := hA0
 rw [Try.params7] at hA hval
 obtain ⟨v0, vs0, d0, ds0, p0, q0, hargs, rfl, rfl, h0, r0⟩ := trodAll_cons hA
 obtain ⟨v1, vs1, d1, ds1, p1, q1, rfl, rfl, rfl, h1, r1⟩ := trodAll_cons r0
 obtain ⟨v2, vs2, d2, ds2, p2, q2, rfl, rfl, rfl, h2, r2⟩ := trodAll_cons r1
 obtain ⟨rfl, rfl, rfl⟩ := trodAll_nil r2
 obtain rfl : args = #[v0, v1, v2] := by cases args; simp_all
 obtain ⟨rfl, rfl⟩ := trodVars_none hV
 clear hA0 hval0
 simp only [List.append_nil] at hW'
 have l0 : ∀ x ∈ p0, x.block < W.heap.size := fun x hx => hW'.lt x (by simp [hx])
 have t0 := fun W' (hb : Below W.heap.size W W') => Below.trod laidC (by kernel_rfl) (of_decide_eq_true (by kernel_rfl)) h0 hb l0
 have l1 : ∀ x ∈ p1, x.block < W.heap.size := fun x hx => hW'.lt x (by simp [hx])
 have t1 := fun W' (hb : Below W.heap.size W W') => Below.trod laidC (by kernel_rfl) (of_decide_eq_true (by kernel_rfl)) h1 hb l1
 have l2 : ∀ x ∈ p2, x.block < W.heap.size := fun x hx => hW'.lt x (by simp [hx])
 have t2 := fun W' (hb : Below W.heap.size W W') => Below.trod laidC (by kernel_rfl) (of_decide_eq_true (by kernel_rfl)) h2 hb l2
 obtain ⟨a0, n0, c0, xs0, rfl, hl0, hc0, hx0⟩ := smcs_arg (hval 0 37 v0 rfl rfl) h0
 obtain ⟨a1, rfl, _, _, w1⟩ := open_int Try.underlying5 (hval 1 5 v1 rfl rfl) h1
 have b1 : 0 ≤ a1 ∧ a1 < 256 := by
  have := bounds_u8 w1
  omega
 obtain ⟨a2, rfl, _, _, w2⟩ := open_int Try.underlying5 (hval 2 5 v2 rfl rfl) h2
 have b2 : 0 ≤ a2 ∧ a2 < 256 := by
  have := bounds_u8 w2
  omega
 refine (CalendarAlone_any xs0 hx0 hl0 hc0 b1 b2).mono fun e W' ⟨he, hf⟩ => ?_
 have hg : Below W.heap.size W W' := hf.below (Nat.le_refl _) (fun _ _ h => h)
 subst he
 exact ⟨_, rfl, post_belowC (pa := p0 ++ (p1 ++ (p2 ++ ([])))) (pv := []) hW' (fun _ _ _ => (trodAll_cons_mk (shut_bool Try.underlying4 _) trodAll_mk0)) (trodAll_cons_mk (t0 _ hg) (trodAll_cons_mk (t1 _ hg) (trodAll_cons_mk (t2 _ hg) trodAll_mk0))) (fun _ _ => rfl) hg⟩

theorem over : Rows.calendarAloneRow.holds Try.pinned (OpenSpec.ofChange Rows.calendarAloneSpec) :=
 OpenClaim.holds_of_wide 7 Try.f7 rfl rfl rfl rfl rfl rfl rfl ⟨rfl, rfl, rfl, rfl, rfl⟩ rfl rfl rfl rfl rfl (by kernel_rfl) Try.func7 (by kernel_rfl)
  (of_decide_eq_true (by kernel_rfl)) (by unfold Func.isWrapper; first | (rw [if_pos (by decide +kernel)]; kernel_rfl) | (rw [if_neg (by decide +kernel)]; exact ⟨rfl, rfl⟩))
  (fun os started H enc _ => lifted os started H enc)

theorem proved : Rows.CalendarAloneSaid := over
#print axioms proved
end Go.Proofs.Ytmbjfmlicffclaa.calendarAlone
