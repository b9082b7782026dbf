/-
  Spaces: what each function of the package does, and what the laws make of it.
-/
import Derived.Test.YtieeloealklkgaaGreatDoorJa1
import Derived.Maps.Ext
import Derived.Maps.OwnSet
import Derived.Lib.SlKeysI
import Derived.WalkKit
import Derived.Deep.WholeRow
import Derived.Deep.QuietTactic
import Derived.BigQuiet
import Derived.OwnWalkIn
import Derived.TacticsInMore
import Derived.LoopNIn
import Derived.LoopIn
import Derived.BigFrameIn
import Derived.WalkMore
import Derived.WalkSpells
import Derived.Maps.AppendAt
import Derived.Test.YtieeloealklkgaaGreatDoorShelf
import Derived.Shelf.SlIterI.Sorted
import Derived.Shelf.SlIterI.Collect
import Derived.Shelf.SlIterI.Keys
import Derived.Shelf.SortM.Plain
import Derived.Shelf.SortM.SortNone
import Derived.Test.YtieeloealklkgaaGreatDoorJa2
import Derived.WideKeyEntry
import Derived.Maps.Views
import Derived.Deep.RegionHeld3
import Derived.Deep.DrawnRows
import Derived.Shelf.SlicesQ.IndexFunc
set_option linter.unusedSimpArgs false
set_option linter.unusedVariables false

/-
  Ports in the order of their numbers, as a map's datum: plain Lean.
-/
namespace Go.Proofs.YtieeloealklkgaaGreatDoor
open Go.RowKit Go.Maps

/-- A port. -/
structure Pt where
  number : Int
  name : Bs
  process : Int
  deriving DecidableEq, Inhabited
def ptD (p : Pt) : DataW Unit := .agg [.lit (.int .i64 p.number), .lit (.string p.name), .lit (.int .i64 p.process)]
theorem ptD_inj {p q : Pt} (h : ptD p = ptD q) : p = q := by
  obtain ⟨a, b, c⟩ := p
  obtain ⟨a', b', c'⟩ := q
  simp only [ptD, DataW.agg.injEq, List.cons.injEq, DataW.lit.injEq, Lit.int.injEq, Lit.string.injEq, true_and, and_true] at h
  obtain ⟨h1, h2, h3⟩ := h
  subst h1; subst h2; subst h3; rfl
def datP (L : List Pt) : DataW Unit := .map (L.map fun p => (.int .i64 p.number, ptD p))
/-- In the order of their numbers, each once. -/
def OrdP (L : List Pt) : Prop := L.Pairwise (fun p q => p.number < q.number)
def atP (L : List Pt) (n : Int) : Option Pt := L.find? (fun p => p.number == n)
def delP (L : List Pt) (n : Int) : List Pt := L.filter (fun p => p.number != n)
/-- A port gets another name. -/
def renP (L : List Pt) (n : Int) (s : Bs) : List Pt := L.map (fun p => if p.number = n then { p with name := s } else p)
def namesP (L : List Pt) : List Bs := ofB (L.map (·.name))
def nameP (L : List Pt) (s : Bs) : Option Pt := L.find? (fun p => p.name == s)

theorem same_int (a b : Int) : (Lit.int .i64 a).sameKey (.int .i64 b) = decide (a = b) := by simp [Lit.sameKey]
theorem filter_dat (L : List Pt) (n : Int) : (L.map fun p => ((Lit.int .i64 p.number, ptD p) : Lit × DataW Unit)).filter (fun p => !p.1.sameKey (.int .i64 n)) = (delP L n).map fun p => (.int .i64 p.number, ptD p) := by
  rw [List.filter_map]
  congr 1
  unfold delP
  refine List.filter_congr (fun p _ => ?_)
  by_cases h : p.number = n <;> simp [same_int, h]
theorem datP_del (L : List Pt) (n : Int) : (datP L).del (.int .i64 n) = datP (delP L n) := by
  simp only [datP, DataW.del, filter_dat]
theorem insert_last (x : Lit × DataW Unit) (l : List (Lit × DataW Unit)) (h : ∀ y ∈ l, x.1.before y.1 = false) : DataW.insert x l = l ++ [x] := by
  induction l with
  | nil => rfl
  | cons y r ih =>
    rw [DataW.insert, if_neg (by rw [h y (by simp)]; simp), ih (fun z hz => h z (by simp [hz]))]; rfl
theorem delP_none {L : List Pt} {n : Int} (h : ∀ p ∈ L, p.number ≠ n) : delP L n = L := List.filter_eq_self.2 (fun p hp => by simpa using h p hp)
theorem datP_new (L : List Pt) (q : Pt) (h : ∀ p ∈ L, p.number < q.number) : (datP L).put (.int .i64 q.number) (ptD q) = datP (L ++ [q]) := by
  simp only [datP, DataW.put, filter_dat]
  rw [delP_none (fun p hp => by have := h p hp; omega), insert_last, List.map_append]
  · rfl
  · intro y hy
    obtain ⟨p, hp, rfl⟩ := List.mem_map.1 hy
    have := h p hp
    simp [Lit.before]; omega
theorem renP_number (L : List Pt) (n : Int) (s : Bs) : (renP L n s).map (·.number) = L.map (·.number) := by
  simp only [renP, List.map_map]
  refine List.map_congr_left (fun p _ => ?_)
  simp only [Function.comp]; split <;> rfl
theorem datP_ren (L : List Pt) (hL : OrdP L) (p : Pt) (hp : p ∈ L) (s : Bs) : (datP L).put (.int .i64 p.number) (ptD { p with name := s }) = datP (renP L p.number s) := by
  simp only [datP, DataW.put, filter_dat]
  congr 1
  induction L with
  | nil => cases hp
  | cons y r ih =>
    obtain ⟨h1, h2⟩ := List.pairwise_cons.1 hL
    by_cases hy : y.number = p.number
    · have hyp : p = y := by
        rcases List.mem_cons.1 hp with h | h
        · exact h
        · have := h1 p h; omega
      subst hyp
      have e1 : delP (p :: r) p.number = r := by
        unfold delP
        rw [List.filter_cons_of_neg (by simp)]
        exact List.filter_eq_self.2 (fun z hz => by have := h1 z hz; simp; omega)
      have e2 : renP (p :: r) p.number s = { p with name := s } :: r := by
        unfold renP
        rw [List.map_cons, if_pos rfl]
        congr 1
        conv => rhs; rw [← List.map_id r]
        refine List.map_congr_left (fun z hz => ?_)
        have := h1 z hz
        rw [if_neg (by omega)]; rfl
      rw [e1, e2, List.map_cons]
      cases r with
      | nil => rfl
      | cons z t =>
        have := h1 z (by simp)
        rw [List.map_cons, DataW.insert, if_pos (by simp [Lit.before]; exact this)]
    · have hpr : p ∈ r := by
        rcases List.mem_cons.1 hp with h | h
        · subst h; exact absurd rfl hy
        · exact h
      have hlt := h1 p hpr
      have e1 : delP (y :: r) p.number = y :: delP r p.number := by
        unfold delP
        rw [List.filter_cons_of_pos (by simpa using hy)]
      have e2 : renP (y :: r) p.number s = y :: renP r p.number s := by
        unfold renP
        rw [List.map_cons, if_neg hy]
      rw [e1, e2, List.map_cons, List.map_cons, DataW.insert, if_neg (by simp [Lit.before]; omega), ih h2 hpr]
theorem has_dat (L : List Pt) (n : Int) : Maps.has (datP L) (.int .i64 n) = (atP L n).isSome := by
  show (L.map _).any _ = _
  rw [List.any_map]
  induction L with
  | nil => rfl
  | cons y r ih => by_cases h : y.number = n <;> simp_all [atP, List.find?_cons, same_int, Function.comp_def]
theorem at_dat (L : List Pt) (n : Int) (zd : DataW Unit) : (datP L).atKey (.int .i64 n) zd = (atP L n).elim zd ptD := by
  unfold datP DataW.atKey
  simp only
  induction L with
  | nil => rfl
  | cons y r ih => by_cases h : y.number = n <;> simp_all [atP, List.find?_cons, same_int]
theorem size_dat (L : List Pt) : Maps.size (datP L) = L.length := by simp [datP, Maps.size]
theorem keys_dat (L : List Pt) : intKeys (datP L) = L.map (·.number) := by simp [datP, intKeys, Go.intOf]
theorem sort_dat {L : List Pt} (h : OrdP L) : (intKeys (datP L)).mergeSort (fun x y => decide (x ≤ y)) = L.map (·.number) := by
  rw [keys_dat]
  refine List.mergeSort_of_pairwise ?_
  refine List.pairwise_map.2 (List.Pairwise.imp (fun {a b} hab => ?_) h)
  simp; omega

theorem atP_some {L : List Pt} (h : OrdP L) {n : Int} {p : Pt} : atP L n = some p ↔ p ∈ L ∧ p.number = n := by
  unfold atP
  constructor
  · intro e
    exact ⟨List.mem_of_find?_eq_some e, by simpa using List.find?_some e⟩
  · rintro ⟨h1, rfl⟩
    induction L with
    | nil => cases h1
    | cons y r ih =>
      obtain ⟨h2, h3⟩ := List.pairwise_cons.1 h
      rcases List.mem_cons.1 h1 with rfl | h1
      · simp
      · have := h2 p h1
        rw [List.find?_cons_of_neg (by simp; omega)]
        exact ih h3 h1
theorem atP_none {L : List Pt} {n : Int} : atP L n = none ↔ ∀ p ∈ L, p.number ≠ n := by
  unfold atP; rw [List.find?_eq_none]; simp
theorem atP_mem {L : List Pt} {n : Int} {p : Pt} (h : atP L n = some p) : p ∈ L ∧ p.number = n := ⟨List.mem_of_find?_eq_some h, by simpa using List.find?_some h⟩
theorem nameP_some {L : List Pt} (h : (L.map (·.name)).Nodup) {s : Bs} {p : Pt} : nameP L s = some p ↔ p ∈ L ∧ p.name = s := by
  unfold nameP
  constructor
  · intro e
    exact ⟨List.mem_of_find?_eq_some e, by simpa using List.find?_some e⟩
  · rintro ⟨h1, rfl⟩
    induction L with
    | nil => cases h1
    | cons y r ih =>
      obtain ⟨h2, h3⟩ := List.nodup_cons.1 h
      rcases List.mem_cons.1 h1 with rfl | h1
      · simp
      · rw [List.find?_cons_of_neg (by
          simp only [beq_iff_eq]
          exact fun e => h2 (List.mem_map.2 ⟨p, h1, e.symm⟩))]
        exact ih h3 h1
theorem nameP_none {L : List Pt} {s : Bs} : nameP L s = none ↔ ∀ p ∈ L, p.name ≠ s := by
  unfold nameP; rw [List.find?_eq_none]; simp
theorem namesP_mem (L : List Pt) (s : Bs) : s ∈ namesP L ↔ ∃ p ∈ L, p.name = s := by
  unfold namesP; rw [ofB_mem, List.mem_map]
theorem namesP_has (L : List Pt) (s : Bs) : s ∈ namesP L ↔ (nameP L s).isSome = true := by
  rw [namesP_mem]
  cases h : nameP L s with
  | none => simp; exact nameP_none.1 h
  | some p => simp; exact ⟨p, List.mem_of_find?_eq_some h, by simpa using List.find?_some h⟩
theorem namesP_sorted (L : List Pt) : SortedL (namesP L) := ofB_sorted _

/-- A space that is right: the limit, the next number, the ports. -/
structure SpOK (lim nx : Int) (L : List Pt) : Prop where
  ord : OrdP L
  names : (L.map (·.name)).Nodup
  right : ∀ p ∈ L, rightB p.name = true
  lo : ∀ p ∈ L, 1 ≤ p.number ∧ p.number < nx
  proc : ∀ p ∈ L, 1 ≤ p.process ∧ p.process ≤ 16
  bnd : 0 ≤ lim ∧ lim ≤ 64
  len : (L.length : Int) ≤ lim
  nxt : 1 ≤ nx ∧ nx ≤ 4294967296
theorem insB_length (x : Bs) (L : List Bs) : (insB x L).length ≤ L.length + 1 := by
  induction L with
  | nil => simp [insB]
  | cons y r ih => rw [insB]; split <;> (try split) <;> simp <;> omega
theorem ofB_length (xs : List Bs) : (ofB xs).length ≤ xs.length := by
  have : ∀ (xs L : List Bs), (xs.foldl (fun L x => insB x L) L).length ≤ L.length + xs.length := by
    intro xs
    induction xs with
    | nil => intro L; simp
    | cons x r ih => intro L; have := ih (insB x L); have := insB_length x L; simp; omega
  have := this xs []
  unfold ofB; simpa using this
theorem nodup_length {L M : List Bs} (h : L.Nodup) (hm : ∀ z ∈ L, z ∈ M) : L.length ≤ M.length := by
  induction L generalizing M with
  | nil => simp
  | cons x r ih =>
    obtain ⟨h1, h2⟩ := List.nodup_cons.1 h
    obtain ⟨a, b, rfl⟩ := List.append_of_mem (hm x (by simp))
    have := ih h2 (M := a ++ b) (fun z hz => by
      have hz' := hm z (by simp [hz])
      have hne : z ≠ x := fun e => h1 (e ▸ hz)
      rcases List.mem_append.1 hz' with h | h
      · exact List.mem_append.2 (.inl h)
      · rcases List.mem_cons.1 h with h | h
        · exact absurd h hne
        · exact List.mem_append.2 (.inr h))
    simp at this ⊢; omega
theorem SpOK.names_length {lim nx : Int} {L : List Pt} (h : SpOK lim nx L) : (namesP L).length = L.length := by
  have h1 := ofB_length (L.map (·.name))
  have h2 := nodup_length h.names (fun z hz => (ofB_mem _ z).2 hz)
  rw [List.length_map] at h1 h2
  unfold namesP; omega
theorem SpOK.small {lim nx : Int} {L : List Pt} (h : SpOK lim nx L) : L.length ≤ 64 := by have := h.len; have := h.bnd; omega
theorem SpOK.name_inj {lim nx : Int} {L : List Pt} (h : SpOK lim nx L) {p q : Pt} (hp : p ∈ L) (hq : q ∈ L) (e : p.name = q.name) : p = q := by
  have h1 := (nameP_some h.names).2 ⟨hp, rfl⟩
  have h2 := (nameP_some h.names).2 ⟨hq, rfl⟩
  rw [e, h2] at h1; injection h1 with h1; exact h1.symm
theorem SpOK.num_inj {lim nx : Int} {L : List Pt} (h : SpOK lim nx L) {p q : Pt} (hp : p ∈ L) (hq : q ∈ L) (e : p.number = q.number) : p = q := by
  have h1 := (atP_some h.ord).2 ⟨hp, rfl⟩
  have h2 := (atP_some h.ord).2 ⟨hq, rfl⟩
  rw [e, h2] at h1; injection h1 with h1; exact h1.symm

/-- Open. -/
def openE (lim nx : Int) (L : List Pt) (s : Bs) (p : Int) : Int :=
  if rightB s = false then 40 else if p < 1 ∨ 16 < p then 2 else if (nameP L s).isSome = true then 240 else if lim ≤ (L.length : Int) then 5 else if 4294967295 < nx then 4 else 0
theorem SpOK.open' {lim nx : Int} {L : List Pt} (h : SpOK lim nx L) {s : Bs} {p : Int} (h1 : rightB s = true) (h2 : 1 ≤ p ∧ p ≤ 16) (h3 : nameP L s = none) (h4 : (L.length : Int) < lim) (h5 : nx ≤ 4294967295) : SpOK lim (nx + 1) (L ++ [⟨nx, s, p⟩]) := by
  have hn := nameP_none.1 h3
  have hnx := h.nxt
  refine ⟨List.pairwise_append.2 ⟨h.ord, by simp, fun a ha b hb => ?_⟩, ?_, fun q hq => ?_, fun q hq => ?_, fun q hq => ?_, h.bnd, by simp; omega, by omega⟩
  · simp only [List.mem_singleton] at hb; subst hb; exact (h.lo a ha).2
  · rw [List.map_append, List.nodup_append]
    refine ⟨h.names, by simp, fun a ha b hb => ?_⟩
    obtain ⟨q, hq, rfl⟩ := List.mem_map.1 ha
    simp at hb; subst hb; exact hn q hq
  · rcases List.mem_append.1 hq with hq | hq
    · exact h.right q hq
    · simp at hq; subst hq; exact h1
  · rcases List.mem_append.1 hq with hq | hq
    · have := h.lo q hq; omega
    · simp at hq; subst hq; simp; omega
  · rcases List.mem_append.1 hq with hq | hq
    · exact h.proc q hq
    · simp at hq; subst hq; exact h2
theorem namesP_open (L : List Pt) (q : Pt) : namesP (L ++ [q]) = insB q.name (namesP L) := by simp [namesP, ofB, List.foldl_append]
theorem SpOK.del {lim nx : Int} {L : List Pt} (h : SpOK lim nx L) (n : Int) : SpOK lim nx (delP L n) := by
  have hs : (delP L n).Sublist L := List.filter_sublist
  have hl := hs.length_le
  have := h.len
  exact ⟨h.ord.sublist hs, h.names.sublist (hs.map _), fun p hp => h.right p (hs.subset hp), fun p hp => h.lo p (hs.subset hp), fun p hp => h.proc p (hs.subset hp), h.bnd, by omega, h.nxt⟩
theorem delP_mem {L : List Pt} {n : Int} {p : Pt} : p ∈ delP L n ↔ p ∈ L ∧ p.number ≠ n := by simp [delP]
theorem renP_mem {L : List Pt} {n : Int} {s : Bs} {q : Pt} : q ∈ renP L n s ↔ (q ∈ L ∧ q.number ≠ n) ∨ ∃ p ∈ L, p.number = n ∧ q = { p with name := s } := by
  unfold renP
  rw [List.mem_map]
  constructor
  · rintro ⟨p, hp, rfl⟩
    by_cases e : p.number = n
    · rw [if_pos e]; exact .inr ⟨p, hp, e, rfl⟩
    · rw [if_neg e]; exact .inl ⟨hp, e⟩
  · rintro (⟨h1, h2⟩ | ⟨p, hp, e, rfl⟩)
    · exact ⟨q, h1, if_neg h2⟩
    · exact ⟨p, hp, if_pos e⟩
theorem renP_length (L : List Pt) (n : Int) (s : Bs) : (renP L n s).length = L.length := by simp [renP]
theorem SpOK.ren {lim nx : Int} {L : List Pt} (h : SpOK lim nx L) {p : Pt} (hp : p ∈ L) {s : Bs} (hs : rightB s = true) (hn : ∀ q ∈ L, q.name = s → q = p) : SpOK lim nx (renP L p.number s) := by
  refine ⟨?_, ?_, fun q hq => ?_, fun q hq => ?_, fun q hq => ?_, h.bnd, by rw [renP_length]; exact h.len, h.nxt⟩
  · have h1 : ((renP L p.number s).map (·.number)).Pairwise (· < ·) := by
      rw [renP_number]; exact List.pairwise_map.2 h.ord
    exact List.pairwise_map.1 h1
  · have h1 := h.names
    have h2 := h.ord
    have key : ∀ (M : List Pt), (∀ q ∈ M, q ∈ L) → (M.map (·.name)).Nodup → OrdP M → ((renP M p.number s).map (·.name)).Nodup := by
      intro M
      induction M with
      | nil => intro _ _ _; exact List.nodup_nil
      | cons y r ih =>
        intro hM hn1 ho
        obtain ⟨g1, g2⟩ := List.nodup_cons.1 hn1
        obtain ⟨o1, o2⟩ := List.pairwise_cons.1 ho
        have hr := ih (fun q hq => hM q (List.mem_cons_of_mem _ hq)) g2 o2
        have e : renP (y :: r) p.number s = (if y.number = p.number then { y with name := s } else y) :: renP r p.number s := rfl
        rw [e, List.map_cons, List.nodup_cons]
        refine ⟨fun hm => ?_, hr⟩
        obtain ⟨q, hq, he⟩ := List.mem_map.1 hm
        rcases renP_mem.1 hq with ⟨q1, q2⟩ | ⟨x, q1, q2, rfl⟩
        · by_cases ey : y.number = p.number
          · rw [if_pos ey] at he
            have := hn q (hM q (List.mem_cons_of_mem _ q1)) he
            subst this; exact q2 rfl
          · rw [if_neg ey] at he
            exact g1 (List.mem_map.2 ⟨q, q1, he⟩)
        · by_cases ey : y.number = p.number
          · have := o1 x q1; omega
          · rw [if_neg ey] at he
            have hyp := hn y (hM y List.mem_cons_self) he.symm
            subst hyp; exact ey rfl
    exact key L (fun _ h => h) h1 h2
  · rcases renP_mem.1 hq with ⟨q1, q2⟩ | ⟨x, q1, q2, rfl⟩
    · exact h.right q q1
    · exact hs
  · rcases renP_mem.1 hq with ⟨q1, q2⟩ | ⟨x, q1, q2, rfl⟩
    · exact h.lo q q1
    · exact h.lo x q1
  · rcases renP_mem.1 hq with ⟨q1, q2⟩ | ⟨x, q1, q2, rfl⟩
    · exact h.proc q q1
    · exact h.proc x q1
end Go.Proofs.YtieeloealklkgaaGreatDoor

/-
  Frames without the count of draws.
-/
namespace Go.Proofs.YtieeloealklkgaaGreatDoor
open Go.RowKit

/-- Of the blocks that were there only those in S may have turned; nothing is said of the count of draws. -/
structure Fr0 (S : Nat → Prop) (w w' : World) : Prop where
  os : w'.os = w.os
  tape : w'.tape = w.tape
  output : w'.output = w.output
  size : w.heap.size ≤ w'.heap.size
  block : ∀ k, k < w.heap.size → ¬ S k → w'.heap[k]? = w.heap[k]?
theorem Fr0.refl (S : Nat → Prop) (w : World) : Fr0 S w w := ⟨rfl, rfl, rfl, Nat.le_refl _, fun _ _ _ => rfl⟩
theorem below_to0 {w w' : World} (h : Below w.heap.size w w') : Fr0 none' w w' := ⟨h.os, h.tape, h.output, h.size, fun k hk _ => h.block k hk⟩
theorem Fr0.trans' {S S' : Nat → Prop} {a b c : World} (h : Fr0 S a b) (k : Fr0 S' b c) (hS : ∀ k, k < a.heap.size → S' k → S k) : Fr0 S a c :=
  ⟨k.os.trans h.os, k.tape.trans h.tape, k.output.trans h.output, Nat.le_trans h.size k.size, fun i hi hs => (k.block i (Nat.lt_of_lt_of_le hi h.size) (fun x => hs (hS i hi x))).trans (h.block i hi hs)⟩
theorem Fr0.trans {S : Nat → Prop} {a b c : World} (h : Fr0 S a b) (k : Fr0 S b c) : Fr0 S a c := h.trans' k (fun _ _ h => h)
theorem Fr0.mono {S S' : Nat → Prop} {a b : World} (h : Fr0 S a b) (hS : ∀ k, k < a.heap.size → S k → S' k) : Fr0 S' a b := ⟨h.os, h.tape, h.output, h.size, fun k hk hs => h.block k hk (fun x => hs (hS k hk x))⟩
theorem Fr0.below {S : Nat → Prop} {B : Nat} {w w' : World} (h : Fr0 S w w') (hB : B ≤ w.heap.size) (hS : ∀ k, k < B → ¬ S k) : Below B w w' :=
  ⟨h.os, h.tape, h.output, h.size, fun k hk => h.block k (Nat.lt_of_lt_of_le hk hB) (hS k hk)⟩
theorem Fr0.cell {S : Nat → Prop} {w w' : World} (h : Fr0 S w w') {p : Addr} (hp : p.block < w.heap.size) (hs : ¬ S p.block) : w'.cell? p = w.cell? p := World.cell?_of_block (w := w) (h.block p.block hp hs)
theorem Fr0.later {w w' : World} (h : Fr0 none' w w') {p : Addr} {v : Value} (hc : w.cell? p = some v) : w'.cell? p = some v := by
  rw [h.cell (World.block_lt_of_cell? _ _ hc) id]; exact hc
theorem Box.fr0 {S : Nat → Prop} {w w' : World} {b : Nat} {v : Value} (h : Box w b v) (hf : Fr0 S w w') (hs : ¬ S b) : Box w' b v := h.of_block (hf.block b h.lt hs)
theorem ownsRow_fr0 {S : Nat → Prop} {w w' : World} {base : Nat} {e : TypeId} {size : Nat} {v : Value} {n : Nat} {xs : List Value} (h : w.ownsRow base e size v n xs) (hf : Fr0 S w w')
    (hs : ∀ g, v.ownBlock = some g → ¬ S g) : w'.ownsRow base e size v n xs := by
  obtain ⟨h1, h2⟩ := h
  refine ⟨h1, ?_⟩
  rcases h2 with h2 | ⟨g, cap, cur, hv, hg, hh, r⟩
  · exact Or.inl h2
  · refine Or.inr ⟨g, cap, cur, hv, hg, ?_, r⟩
    rw [hf.block g (Array.getElem?_eq_some_iff.1 hh).1 (hs g (by rw [hv]; rfl))]; exact hh
theorem Fr0.drew {S : Nat → Prop} {a w : World} (h : Fr0 S a w) : Fr0 S a w.drew := ⟨h.os, h.tape, h.output, h.size, h.block⟩
theorem Fr0.alloc {S : Nat → Prop} {a w : World} (h : Fr0 S a w) (o : Obj) : Fr0 S a (w.alloc o) :=
  ⟨h.os, h.tape, h.output, by have := h.size; simp; omega, fun k hk hs => (Below.heap_alloc w o k (Nat.lt_of_lt_of_le hk h.size)).trans (h.block k hk hs)⟩
theorem Fr0.setCell {S : Nat → Prop} {a w : World} (h : Fr0 S a w) {b o : Nat} (hp : b < a.heap.size → S b) (u : Value) : Fr0 S a (w.setCell ⟨b, o, none⟩ u) :=
  ⟨h.os, h.tape, h.output, by have := h.size; simp [World.setCell]; omega, fun k hk hs => (Below.heap_setCell w ⟨b, o, none⟩ u k (fun e => hs (by subst e; exact hp hk))).trans (h.block k hk hs)⟩
theorem Fr0.grown {S : Nat → Prop} {a w w' : World} {row : Option Nat} (h : Fr0 S a w) (hg : w.grownBy w' row) (hr : ∀ k, row = some k → k < a.heap.size → S k) : Fr0 S a w' :=
  ⟨hg.os.trans h.os, hg.tape.trans h.tape, hg.output.trans h.output, Nat.le_trans h.size hg.size, fun k hk hs => (hg.block k (Nat.lt_of_lt_of_le hk h.size) (fun e => hs (hr k e.symm hk))).trans (h.block k hk hs)⟩
theorem Fr0.of_below {S : Nat → Prop} {a w w' : World} (h : Fr0 S a w) (hb : Below w.heap.size w w') : Fr0 S a w' := h.trans' (below_to0 hb) (fun _ _ h => h.elim)
theorem Fr0.putObj {S : Nat → Prop} {a w : World} (h : Fr0 S a w) {r : Nat} (hp : r < a.heap.size → S r) (o : Obj) : Fr0 S a (w.putObj r o) :=
  ⟨h.os, h.tape, h.output, by have := h.size; simp [World.putObj]; omega, fun k hk hs => (World.putObj_heap_other (fun e => hs (by subst e; exact hp hk))).trans (h.block k hk hs)⟩
end Go.Proofs.YtieeloealklkgaaGreatDoor

/-
  Ranges over functions, with frames that do not speak of the count of draws.
-/
namespace Go.Proofs.YtieeloealklkgaaGreatDoor
open Go.RowKit

theorem Fr0.keep {S R : Nat → Prop} {w w' : World} (h : Fr0 S w w') (hR : ∀ k, R k → k < w.heap.size ∧ ¬ S k) : Keep R w w' := ⟨h.size, fun k hk => h.block k (hR k hk).1 (hR k hk).2⟩
theorem Fr0.putNew {a : World} {S : Nat → Prop} (r : Nat) (o : Obj) (hp : S r) : Fr0 S a (a.putObj r o) := (Fr0.refl S a).putObj (fun _ => hp) o

/-- Like Iter; the iterator may have blocks of its own, X, made since it was called; the body keeps them. -/
def IterX0 {α : Type} (P : Program) (gf : Nat) (lb : Array Value) (encs : α → Array Value) (xs : List α) (own rd : Nat → Prop) (w : World) : Prop :=
  ∀ (l : Nat) (J : Nat → (Nat → Prop) → World → Prop) (Jx : World → Prop) (W : World), Keep rd w W →
    (∀ i X Y W1 W2, J i X W1 → Fr0 (fun k => own k ∨ X k) W1 W2 → (∀ k, Y k → X k ∨ (W1.heap.size ≤ k ∧ k < W2.heap.size)) → J i Y W2) →
    (∀ W1 W2, Jx W1 → Fr0 own W1 W2 → Jx W2) →
    (∀ i x X W1, xs[i]? = some x → J i X W1 → YieldAt Fence.wide 0 P l (encs x) W1 fun e W2 =>
      (e = .returned (.bool true) ∧ J (i + 1) X W2 ∧ Keep (fun k => rd k ∨ X k) W1 W2) ∨ (e = .returned (.bool false) ∧ Jx W2)) →
    J 0 none' W →
    CallsIn Fence.wide 0 P gf (#[.func (.yield l) #[] #[]] ++ lb) W fun e W' => (∃ v, e = .returned v) ∧ ((∃ X, J xs.length X W') ∨ Jx W')
/-- How a round's body may be left. -/
def iterPost0 (S : Nat → Prop) (I : Nat → World → Prop) (Ix : Code → World → Prop) (i : Nat) (W : World) : Exit → Act → World → Prop
  | .normal, _, W' => ∃ S', Fr0 S' W W' ∧ (∀ k, S' k → S k → False) ∧ I i W'
  | .ret, _, W' => ∃ S', Fr0 S' W W' ∧ (∀ k, S' k → S k → False) ∧ Ix .ret W'
  | .exit id, _, W' => ∃ S', Fr0 S' W W' ∧ (∀ k, S' k → S k → False) ∧ Ix (.exit id) W'
  | .goto t, _, W' => ∃ S', Fr0 S' W W' ∧ (∀ k, S' k → S k → False) ∧ Ix (.goto t) W'
  | .panic _, _, _ => False
  | .outgrown, _, _ => False

/-- How a round's body may be left: it turns the footprint alone, and the footprint grows by new blocks alone. -/
def statePost0 {σ : Type} (Inv : Nat → σ → World → Prop) (foot : σ → Nat → Prop) (Ix : Code → World → Prop) (i : Nat) (s : σ) (W : World) : Exit → Act → World → Prop
  | .normal, _, W' => ∃ s', Inv (i + 1) s' W' ∧ Fr0 (foot s) W W' ∧ ∀ k, foot s' k → foot s k ∨ W.heap.size ≤ k
  | .ret, _, W' => Fr0 (foot s) W W' ∧ Ix .ret W'
  | .exit id, _, W' => Fr0 (foot s) W W' ∧ Ix (.exit id) W'
  | .goto t, _, W' => Fr0 (foot s) W W' ∧ Ix (.goto t) W'
  | .panic _, _, _ => False
  | .outgrown, _, _ => False

variable {P : Program}

/-- THE LAW. 'I i W': i values have come. It must outlive turns of 'own' and of the loop's two blocks. The body must turn none of 'rd' and none of the loop's two blocks. -/
theorem wpIn_iterX0 {α : Type} {g : Operand} {ps : Array Tmp} {assign body : Code} {Q : Exit → Act → World → Prop} {a : Act} {w : World}
    {gf : Nat} {lb : Array Value} (hg : a.eval g = .func (.func gf) #[] lb) (eg : ∀ args w, (callFunc gf args).run P w = .ok (.enter gf args) w)
    {encs : α → Array Value} {xs : List α} {own rd : Nat → Prop} {w0 : World} (hseq : IterX0 P gf lb encs xs own rd w0) (hb0 : Keep rd w0 w) (hps : ∀ x, (encs x).size = ps.size)
    (hown : ∀ k, own k → k < w.heap.size) (hrd : ∀ k, rd k → k < w.heap.size)
    (I : Nat → (Nat → Prop) → World → Prop) (Ix : Code → World → Prop)
    (hI : ∀ i X Y W1 W2, I i X W1 → (∀ k, X k → w.heap.size + 1 < k ∧ k < W1.heap.size) → Fr0 (fun k => own k ∨ X k ∨ k = w.heap.size ∨ k = w.heap.size + 1) W1 W2 → (∀ k, Y k → X k ∨ (W1.heap.size ≤ k ∧ k < W2.heap.size)) → I i Y W2)
    (hIx : ∀ c W1 W2, Ix c W1 → Fr0 (fun k => own k ∨ k = w.heap.size ∨ k = w.heap.size + 1) W1 W2 → Ix c W2) (h0 : I 0 none' w) (a₁ : α → World → Act → Prop)
    (hassign : ∀ (l : Nat) (x : α) (W : World) (K : Act → World → Prop), w.heap.size + 1 < W.heap.size → (∀ a' W', a₁ x W' a' → Fr0 none' W W' → K a' W') →
      assign.wpIn (Fence.wide.inRound l) 0 P (Exit.then K (fun _ _ _ => False)) { tmps := (ps.zip (encs x)).foldl (fun t (p, v) => t.setIfInBounds p v) a.tmps, defers := [] } W)
    (ha₁ : ∀ x W1 W2 a', a₁ x W1 a' → Fr0 (fun k => k = w.heap.size + 1) W1 W2 → a₁ x W2 a')
    (hbody : ∀ (l i : Nat) (x : α) (X : Nat → Prop) (W : World) (a' : Act) (r : Loop), xs[i]? = some x → I i X W → (∀ k, X k → w.heap.size + 1 < k ∧ k < W.heap.size) → a₁ x W a' → W.heap[w.heap.size]? = some (.deferred (some [])) → W.heap[w.heap.size + 1]? = some (.loop r) →
      body.wpIn (Fence.wide.inRound l) 0 P (iterPost0 (fun k => rd k ∨ X k ∨ k = w.heap.size ∨ k = w.heap.size + 1) (fun i => I i X) Ix (i + 1) W) a' W)
    (hdone : ∀ (D : Nat) (X : Nat → Prop) (W : World), D = w.heap.size → I xs.length X W → W.heap[D]? = some (.deferred (some [])) → Q .normal { a with defers := { target := .collected D, args := #[] } :: a.defers } W)
    (hstop : ∀ (D : Nat) (c : Code) (W : World), D = w.heap.size → Ix c W → W.heap[D]? = some (.deferred (some [])) → c.wpIn Fence.wide 0 P Q { a with defers := { target := .collected D, args := #[] } :: a.defers } W) :
    (Code.rangeFunc g ps assign body).wpIn Fence.wide 0 P Q a w := by
  refine wpIn_rangeFunc ?_
  intro fn hfn
  obtain ⟨rec, hrec⟩ : ∃ rec : LoopState → Option Code → Loop, rec = fun st pe => { state := st, pending := pe, fn, tmps := a.tmps, params := ps, assign, body, defers := w.heap.size } := ⟨_, rfl⟩
  obtain ⟨B, hB⟩ : ∃ B, w.heap.size = B := ⟨_, rfl⟩
  obtain ⟨W1, hW1⟩ : ∃ W1, (w.alloc (.deferred (some []))).alloc (.loop (rec .ready none)) = W1 := ⟨_, rfl⟩
  have hf1 : Fr0 none' w W1 := by rw [← hW1]; exact ((Fr0.refl _ _).alloc _).alloc _
  have hL1 : W1.heap[B + 1]? = some (.loop (rec .ready none)) := by
    rw [← hW1, ← hB]; have := World.alloc_heap_new (w.alloc (.deferred (some []))) (.loop (rec .ready none)); rwa [World.size_alloc] at this
  have hK1 : W1.heap[B]? = some (.deferred (some [])) := by
    rw [← hW1, ← hB]; exact (Below.heap_alloc _ _ _ (by simp)).trans (World.alloc_heap_new w _)
  rw [hB] at hI hIx hbody hdone hstop hassign ha₁ hown hrd
  have hI1 : I 0 none' W1 := hI _ _ none' _ _ h0 (fun k h => h.elim) (hf1.mono (fun k _ h => h.elim)) (fun k h => h.elim)
  refine ⟨B + 1, [{ target := .collected B, args := #[] }], W1, { target := .fn (.func gf) lb, args := #[.func (.yield (B + 1)) #[] #[]] }, W1, gf,
    #[.func (.yield (B + 1)) #[] #[]] ++ lb, W1, ?_, ?_, fun _ _ => trivial, ?_, fun h => by simp [Fence.wide] at h, ?_⟩
  · have := run_enterLoop_outer (P := P) (w := w) fn a.tmps ps assign body
    rw [← hW1, hrec]
    simp only [hB] at this ⊢
    exact this
  · simp only [resolve, hg]
    simp [go_sem]
  · simp [invoke, go_sem, eg]
  · refine CallsIn.mono ((hseq (B + 1)
      (fun i X W => I i X W ∧ (∀ k, X k → B + 1 < k ∧ k < W.heap.size) ∧ W.heap[B + 1]? = some (.loop (rec .ready none)) ∧ W.heap[B]? = some (.deferred (some [])))
      (fun W => ∃ c, Ix c W ∧ W.heap[B + 1]? = some (.loop (rec .done (some c))) ∧ W.heap[B]? = some (.deferred (some [])))
      W1 (hb0.trans (hf1.keep (fun k hk => ⟨by rw [hB]; exact hrd k hk, id⟩)))
      ?_ ?_ ?_ ⟨hI1, fun k h => h.elim, hL1, hK1⟩)) ?_
    · rintro i X Y A C ⟨hi, hX, hl, hk⟩ hf hY
      have l1 := (Array.getElem?_eq_some_iff.1 hl).1
      have l2 := hf.size
      refine ⟨hI i X Y A C hi hX (hf.mono (fun k _ h => h.elim .inl (fun h => .inr (.inl h)))) hY, fun k hk => ?_, (hf.block _ l1 (fun h => ?_)).trans hl, (hf.block _ (by omega) (fun h => ?_)).trans hk⟩
      · rcases hY k hk with h | h
        · have := hX k h; omega
        · omega
      · rcases h with h | h
        · have := hown _ h; omega
        · have := hX _ h; omega
      · rcases h with h | h
        · have := hown _ h; omega
        · have := hX _ h; omega
    · rintro A C ⟨c, hi, hl, hk⟩ hf
      have l1 := (Array.getElem?_eq_some_iff.1 hl).1
      exact ⟨c, hIx c A C hi (hf.mono (fun k _ h => .inl h)), (hf.block _ l1 (fun h => by have := hown _ h; omega)).trans hl, (hf.block _ (by omega) (fun h => by have := hown _ h; omega)).trans hk⟩
    · rintro i x X W hx ⟨hi, hX, hl, hk⟩
      have hlt : B + 1 < W.heap.size := (Array.getElem?_eq_some_iff.1 hl).1
      have hy := run_yield (P := P) (args := encs x) hl (by rw [hrec]; exact hps x)
      rw [hrec] at hy
      refine ⟨fn, _, assign, body, hy, roundIn_of_wpIn (n := 0) hfn (hassign _ x W _ hlt ?_)⟩
      intro a' W' ha' hf'
      have hl' : W'.heap[B + 1]? = some (.loop (rec .ready none)) := (hf'.block _ hlt id).trans hl
      have hk' : W'.heap[B]? = some (.deferred (some [])) := (hf'.block _ (by omega) id).trans hk
      have hlt' : B + 1 < W'.heap.size := (Array.getElem?_eq_some_iff.1 hl').1
      refine ⟨_, run_beginRound hl' (by rw [hrec]), ?_⟩
      obtain ⟨W2, hW2⟩ : ∃ W2, W'.putObj (B + 1) (.loop { rec .ready none with state := .busy }) = W2 := ⟨_, rfl⟩
      have hf2 : Fr0 (fun k => k = B + 1) W' W2 := by rw [← hW2]; exact Fr0.putNew _ _ rfl
      have hl2 : W2.heap[B + 1]? = some (.loop { rec .ready none with state := .busy }) := by rw [← hW2]; exact World.putObj_heap_same hlt'
      have hk2 : W2.heap[B]? = some (.deferred (some [])) := (hf2.block _ (by omega) (by omega)).trans hk'
      rw [hW2]
      have hX' : ∀ k, X k → B + 1 < k ∧ k < W'.heap.size := fun k hk => ⟨(hX k hk).1, Nat.lt_of_lt_of_le (hX k hk).2 hf'.size⟩
      have hX2 : ∀ k, X k → B + 1 < k ∧ k < W2.heap.size := fun k hk => ⟨(hX k hk).1, Nat.lt_of_lt_of_le (hX' k hk).2 hf2.size⟩
      have hi2 : I i X W2 := hI _ _ _ _ _ (hI _ _ _ _ _ hi hX (hf'.mono (fun k _ h => h.elim)) (fun k h => .inl h)) hX' (hf2.mono (fun k _ h => .inr (.inr (.inr h)))) (fun k h => .inl h)
      have hrx : ∀ k, (rd k ∨ X k) → k < W.heap.size ∧ k ≠ B ∧ k ≠ B + 1 := fun k h => by
        rcases h with h | h
        · have := hrd k h; omega
        · have := hX k h; omega
      have z1 := hf'.size
      have z2 := hf2.size
      have kW2 : Keep (fun k => rd k ∨ X k) W W2 := (hf'.keep (fun k hk => ⟨(hrx k hk).1, id⟩)).trans (hf2.keep (fun k hk => ⟨by have := hrx k hk; omega, (hrx k hk).2.2⟩))
      refine wpIn_mono (hbody _ i x X W2 a' _ hx hi2 hX2 (ha₁ _ _ _ _ ha' hf2) hk2 hl2) ?_
      have fin : ∀ (jump : Option Code) (W3 : World) (S' : Nat → Prop), Fr0 S' W2 W3 → (∀ k, S' k → (rd k ∨ X k ∨ k = B ∨ k = B + 1) → False) →
          (Instr.endRound (B + 1) jump).run P W3 = .ok (.bool jump.isNone) (W3.putObj (B + 1) (.loop (rec (if jump.isNone then .ready else .done) jump))) ∧
          (W3.putObj (B + 1) (.loop (rec (if jump.isNone then .ready else .done) jump))).heap[B + 1]? = some (.loop (rec (if jump.isNone then .ready else .done) jump)) ∧
          (W3.putObj (B + 1) (.loop (rec (if jump.isNone then .ready else .done) jump))).heap[B]? = some (.deferred (some [])) ∧
          Fr0 (fun k => own k ∨ k = B ∨ k = B + 1) W3 (W3.putObj (B + 1) (.loop (rec (if jump.isNone then .ready else .done) jump))) ∧
          Keep (fun k => rd k ∨ X k) W (W3.putObj (B + 1) (.loop (rec (if jump.isNone then .ready else .done) jump))) := by
        intro jump W3 S' hf3 hS'
        have l2 := (Array.getElem?_eq_some_iff.1 hl2).1
        have hl3 := (hf3.block _ l2 (fun h => hS' _ h (.inr (.inr (.inr rfl))))).trans hl2
        have hk3 := (hf3.block _ (by omega) (fun h => hS' _ h (.inr (.inr (.inl rfl))))).trans hk2
        have l3 := (Array.getElem?_eq_some_iff.1 hl3).1
        have := run_endRound (P := P) jump hl3
        rw [hrec] at this ⊢
        refine ⟨this, World.putObj_heap_same l3, (World.putObj_heap_other (by omega)).trans hk3, Fr0.putNew _ _ (.inr (.inr rfl)), ?_⟩
        have z3 := hf3.size
        refine (kW2.trans (hf3.keep (fun k hk => ⟨by have := hrx k hk; omega, fun h => hS' _ h (hk.elim .inl (fun h => .inr (.inl h)))⟩))).trans ?_
        exact (Fr0.putNew (S := fun k => k = B + 1) _ _ rfl).keep (fun k hk => ⟨by have := hrx k hk; omega, (hrx k hk).2.2⟩)
      rintro e a3 W3 hp
      cases e with
      | normal =>
        obtain ⟨S', hf3, hS', hi3⟩ := hp
        obtain ⟨hr, hl4, hk4, hf4, hk5⟩ := fin none W3 S' hf3 hS'
        have z3 := hf3.size
        have z4 := hf4.size
        exact ⟨_, _, hr, .inl ⟨rfl, ⟨hI _ _ _ _ _ hi3 (fun k hk => ⟨(hX k hk).1, by have := hX2 k hk; omega⟩) (hf4.mono (fun k _ h => h.elim .inl (fun h => .inr (.inr h)))) (fun k h => .inl h), fun k hk => ⟨(hX k hk).1, by have := hX2 k hk; omega⟩, hl4, hk4⟩, hk5⟩⟩
      | ret =>
        obtain ⟨S', hf3, hS', hi3⟩ := hp
        obtain ⟨hr, hl4, hk4, hf4, hk5⟩ := fin (some .ret) W3 S' hf3 hS'
        exact ⟨_, _, hr, .inr ⟨rfl, .ret, hIx _ _ _ hi3 hf4, hl4, hk4⟩⟩
      | exit id =>
        obtain ⟨S', hf3, hS', hi3⟩ := hp
        obtain ⟨hr, hl4, hk4, hf4, hk5⟩ := fin (some (.exit id)) W3 S' hf3 hS'
        exact ⟨_, _, hr, .inr ⟨rfl, .exit id, hIx _ _ _ hi3 hf4, hl4, hk4⟩⟩
      | goto t =>
        obtain ⟨S', hf3, hS', hi3⟩ := hp
        obtain ⟨hr, hl4, hk4, hf4, hk5⟩ := fin (some (.goto t)) W3 S' hf3 hS'
        exact ⟨_, _, hr, .inr ⟨rfl, .goto t, hIx _ _ _ hi3 hf4, hl4, hk4⟩⟩
      | panic ch => exact hp.elim
      | outgrown => exact hp.elim
    · rintro e W2 ⟨⟨v, rfl⟩, (⟨X, hi, hX, hl, hk⟩ | ⟨c, hi, hl, hk⟩)⟩
      · exact ⟨none, _, by have := run_endLoop (P := P) hl (by rw [hrec]; simp); rw [hrec] at this; exact this, hdone _ X _ rfl (hI _ _ _ _ _ hi hX (Fr0.putNew _ _ (.inr (.inr (.inr rfl)))) (fun k h => .inl h)) ((World.putObj_heap_other (by omega)).trans hk)⟩
      · exact ⟨some c, _, by have := run_endLoop (P := P) hl (by rw [hrec]; simp); rw [hrec] at this; exact this, hstop _ c _ rfl (hIx c _ _ hi (Fr0.putNew _ _ (.inr (.inr rfl)))) ((World.putObj_heap_other (by omega)).trans hk)⟩

theorem wpIn_iterS0 {α σ : Type} {g : Operand} {ps : Array Tmp} {assign body : Code} {Q : Exit → Act → World → Prop} {a : Act} {w : World}
    {gf : Nat} {lb : Array Value} (hg : a.eval g = .func (.func gf) #[] lb) (eg : ∀ args w, (callFunc gf args).run P w = .ok (.enter gf args) w)
    {encs : α → Array Value} {xs : List α} {own rd : Nat → Prop} {w0 : World} (hseq : IterX0 P gf lb encs xs own rd w0) (hb0 : Keep rd w0 w) (hps : ∀ x, (encs x).size = ps.size)
    (hown : ∀ k, own k → k < w.heap.size) (hrd : ∀ k, rd k → k < w.heap.size)
    (Inv : Nat → σ → World → Prop) (foot : σ → Nat → Prop) (Ix : Code → World → Prop)
    (hInv : ∀ i s W1 W2, Inv i s W1 → Fr0 (fun k => (own k ∨ w.heap.size ≤ k) ∧ ¬ foot s k) W1 W2 → Inv i s W2)
    (hlt : ∀ i s W k, Inv i s W → foot s k → k < W.heap.size)
    (hIx : ∀ c W1 W2, Ix c W1 → Fr0 (fun k => own k ∨ k = w.heap.size ∨ k = w.heap.size + 1) W1 W2 → Ix c W2)
    (s0 : σ) (h0 : Inv 0 s0 w) (hf0 : ∀ k, foot s0 k → ¬ own k ∧ ¬ rd k) (a₁ : α → World → Act → Prop)
    (hassign : ∀ (l : Nat) (x : α) (W : World) (K : Act → World → Prop), w.heap.size + 1 < W.heap.size → (∀ a' W', a₁ x W' a' → Fr0 none' W W' → K a' W') →
      assign.wpIn (Fence.wide.inRound l) 0 P (Exit.then K (fun _ _ _ => False)) { tmps := (ps.zip (encs x)).foldl (fun t (p, v) => t.setIfInBounds p v) a.tmps, defers := [] } W)
    (ha₁ : ∀ x W1 W2 a', a₁ x W1 a' → Fr0 (fun k => k = w.heap.size + 1) W1 W2 → a₁ x W2 a')
    (hbody : ∀ (l i : Nat) (x : α) (s : σ) (W : World) (a' : Act), xs[i]? = some x → Inv i s W → (∀ k, foot s k → ¬ own k ∧ ¬ rd k ∧ k ≠ w.heap.size ∧ k ≠ w.heap.size + 1) → w.heap.size + 1 < W.heap.size → a₁ x W a' →
      body.wpIn (Fence.wide.inRound l) 0 P (statePost0 Inv foot Ix i s W) a' W)
    (hdone : ∀ (D : Nat) (s : σ) (W : World), D = w.heap.size → Inv xs.length s W → (∀ k, foot s k → k ≠ D) → W.heap[D]? = some (.deferred (some [])) → Q .normal { a with defers := { target := .collected D, args := #[] } :: a.defers } W)
    (hstop : ∀ (D : Nat) (c : Code) (W : World), D = w.heap.size → Ix c W → W.heap[D]? = some (.deferred (some [])) → c.wpIn Fence.wide 0 P Q { a with defers := { target := .collected D, args := #[] } :: a.defers } W) :
    (Code.rangeFunc g ps assign body).wpIn Fence.wide 0 P Q a w := by
  refine wpIn_iterX0 hg eg hseq hb0 hps hown hrd
    (fun i X W => ∃ s, Inv i s W ∧ (∀ k, foot s k → ¬ own k ∧ ¬ rd k ∧ k ≠ w.heap.size ∧ k ≠ w.heap.size + 1) ∧ ∀ k, foot s k → ¬ X k) Ix ?hI hIx ?h0 a₁ hassign ha₁ ?body ?done hstop
  case hI =>
    rintro i X Y W1 W2 ⟨s, h1, h2, h3⟩ hX hf hY
    refine ⟨s, hInv i s W1 W2 h1 (hf.mono (fun k _ h => ?_)), h2, fun k hk hy => ?_⟩
    · rcases h with h | h | h | h
      · exact ⟨.inl h, fun hk => (h2 k hk).1 h⟩
      · exact ⟨.inr (by have := hX k h; omega), fun hk => h3 k hk h⟩
      · exact ⟨.inr (by omega), fun hk => (h2 k hk).2.2.1 h⟩
      · exact ⟨.inr (by omega), fun hk => (h2 k hk).2.2.2 h⟩
    · rcases hY k hy with h | h
      · exact h3 k hk h
      · have := hlt i s W1 k h1 hk; omega
  case h0 =>
    refine ⟨s0, h0, fun k hk => ?_, fun k _ h => h⟩
    have := hlt 0 s0 w k h0 hk
    exact ⟨(hf0 k hk).1, (hf0 k hk).2, by omega, by omega⟩
  case body =>
    rintro l i x X W a' r hx ⟨s, h1, h2, h3⟩ hX ha hD hL
    have hsz : w.heap.size + 1 < W.heap.size := (Array.getElem?_eq_some_iff.1 hL).1
    refine wpIn_mono (hbody l i x s W a' hx h1 h2 hsz ha) ?_
    have hdis : ∀ k, foot s k → (rd k ∨ X k ∨ k = w.heap.size ∨ k = w.heap.size + 1) → False := fun k hk h => by
      rcases h with h | h | h | h
      · exact (h2 k hk).2.1 h
      · exact h3 k hk h
      · exact (h2 k hk).2.2.1 h
      · exact (h2 k hk).2.2.2 h
    rintro e a3 W3 hp
    cases e with
    | normal =>
      obtain ⟨s', h4, h5, h6⟩ := hp
      refine ⟨foot s, h5, hdis, s', h4, fun k hk => ?_, fun k hk hx => ?_⟩
      · rcases h6 k hk with h | h
        · exact h2 k h
        · exact ⟨fun ho => by have := hown k ho; omega, fun hr => by have := hrd k hr; omega, by omega, by omega⟩
      · rcases h6 k hk with h | h
        · exact h3 k h hx
        · have := hX k hx; omega
    | ret => exact ⟨foot s, hp.1, hdis, hp.2⟩
    | exit id => exact ⟨foot s, hp.1, hdis, hp.2⟩
    | goto t => exact ⟨foot s, hp.1, hdis, hp.2⟩
    | panic ch => exact hp.elim
    | outgrown => exact hp.elim
  case done =>
    rintro D X W hD ⟨s, h1, h2, h3⟩ hd
    exact hdone D s W hD h1 (fun k hk => by rw [hD]; exact (h2 k hk).2.2.1) hd
theorem Marks.fr0 {B : Nat} {ds : List Deferred} {S : Nat → Prop} {w w' : World} (h : Marks B ds w) (hf : Fr0 S w w') (hS : ∀ k, S k → k < w.heap.size → k < B) : Marks B ds w' := by
  obtain ⟨Ds, h1, h2, h3⟩ := h
  refine ⟨Ds, h1, h2, fun D hD => ⟨(h3 D hD).1, ?_⟩⟩
  have hlt := (Array.getElem?_eq_some_iff.1 (h3 D hD).2).1
  exact (hf.block D hlt (fun hs => by have := hS D hs hlt; have := (h3 D hD).1; omega)).trans (h3 D hD).2
end Go.Proofs.YtieeloealklkgaaGreatDoor

/-
  A space in memory; New, Len, Limit, Next.
-/
namespace Go.Proofs.YtieeloealklkgaaGreatDoor
open Go.RowKit Go.Maps
attribute [local go_sem ↓] Go.wp_at_zero Go.wp_at_succ

theorem cells_in {w : World} {b : Nat} {cu : Array Value} {ty : TypeId} (h : w.heap[b]? = some (.cells cu ty (0, 0))) (o : Nat) : w.cell? ⟨b, o, none⟩ = cu[o]? := by simp [World.cell?, h]
theorem thaw_in {w : World} {b : Nat} {cu : Array Value} {ty : TypeId} (h : w.heap[b]? = some (.cells cu ty (0, 0))) (o : Nat) : w.frozen? ⟨b, o, none⟩ = false := by simp [World.frozen?, h]

/-- A port as a value. -/
def ptV (p : Pt) : Value := .agg #[.int .i64 p.number, .string (bs p.name), .int .i64 p.process]
def ptC (p : Pt) : List Value := [.int .i64 p.number, .string (bs p.name), .int .i64 p.process]
def ptR : Value → Option (DataW Unit × List MemPlace)
  | .agg c => match c.toList with
    | [.int .i64 a, .string s, .int .i64 c] => some (ptD ⟨a, s.data.toList, c⟩, [])
    | _ => none
  | _ => none
theorem ptR_ptV (p : Pt) : ptR (ptV p) = some (ptD p, []) := rfl
theorem ptR_inv {v : Value} {p : Pt} {ps : List MemPlace} (h : ptR v = some (ptD p, ps)) : v = ptV p := by
  unfold ptR at h
  split at h
  · next cs =>
    split at h
    · next a s c e =>
      simp only [Option.some.injEq, Prod.mk.injEq] at h
      have := ptD_inj h.1
      subst this
      obtain ⟨l⟩ := cs
      simp only at e
      subst e
      rfl
    · cases h
  · cases h
theorem intK : Keyed Tryz.prog 3 := int_keyed Tryz.underlying3
theorem key_int {n : Int} (h : -9223372036854775808 ≤ n ∧ n ≤ 9223372036854775807) : keyOf Tryz.prog 3 (.int .i64 n) = some (.int .i64 n) :=
  keyOf_int_mk Tryz.underlying3 (by simp [Lit.wf, show IntKind.i64.min = -9223372036854775808 from by decide, show IntKind.i64.max = 9223372036854775807 from by decide]; omega)
theorem info_pt : (Tryz.prog.info? 43).map (fun i => (i.zero, i.size)) = some (some (.agg #[.int .i64 0, .string ⟨#[]⟩, .int .i64 0]), 3) := by kernel_rfl
theorem zero_pt (w : World) : (zeroValue 43).run Tryz.prog w = .ok (.agg #[.int .i64 0, .string ⟨#[]⟩, .int .i64 0]) w := (zero_of_info info_pt).1 w
def noPt : Pt := ⟨0, [], 0⟩

/-- A space in memory: its block, its map's block, the slice of its names. -/
structure SpaceIs (w : World) (sb mb : Nat) (nv : Value) (lim nx : Int) (L : List Pt) : Prop where
  hd : w.heap[sb]? = some (.cells #[.bool true, .int .i64 lim, .int .i64 nx, .map (some mb), nv] 40 (0, 0))
  mp : w.ownsMap Tryz.prog 3 ptR mb L.length (datP L)
  nm : w.ownsRow 0 9 1 nv L.length ((namesP L).map strV)
  ok : SpOK lim nx L
  ne : sb ≠ mb ∧ (∀ g, nv.ownBlock = some g → g ≠ sb ∧ g ≠ mb)
def sfoot (sb mb : Nat) (nv : Value) : Nat → Prop := fun k => k = sb ∨ k = mb ∨ nv.ownBlock = some k
theorem ownsMap_fr0 {S : Nat → Prop} {w w' : World} {b n : Nat} {D : DataW Unit} (h : w.ownsMap Tryz.prog 3 ptR b n D) (hf : Fr0 S w w') (hs : ¬ S b) : w'.ownsMap Tryz.prog 3 ptR b n D := by
  obtain ⟨es, clock, hb, r⟩ := h
  exact ⟨es, clock, (hf.block b (Array.getElem?_eq_some_iff.1 hb).1 hs).trans hb, r⟩
variable {w w' : World} {sb mb : Nat} {nv : Value} {lim nx : Int} {L : List Pt}
theorem SpaceIs.lt (h : SpaceIs w sb mb nv lim nx L) : ∀ k, sfoot sb mb nv k → k < w.heap.size := by
  rintro k (rfl | rfl | hk)
  · exact (Array.getElem?_eq_some_iff.1 h.hd).1
  · exact h.mp.lt
  · exact (h.nm.lt k hk).2
theorem SpaceIs.fr0 {S : Nat → Prop} (h : SpaceIs w sb mb nv lim nx L) (hf : Fr0 S w w') (hs : ∀ k, sfoot sb mb nv k → ¬ S k) : SpaceIs w' sb mb nv lim nx L :=
  ⟨(hf.block _ (h.lt _ (.inl rfl)) (hs _ (.inl rfl))).trans h.hd, ownsMap_fr0 h.mp hf (hs _ (.inr (.inl rfl))), ownsRow_fr0 h.nm hf (fun g hg => hs g (.inr (.inr hg))), h.ok, h.ne⟩
theorem SpaceIs.later (h : SpaceIs w sb mb nv lim nx L) (hf : Fr0 none' w w') : SpaceIs w' sb mb nv lim nx L := h.fr0 hf (fun _ _ h => h)

set_option maxRecDepth 100000 in
theorem sis_nil (w : World) : Calls Tryz.prog 32 #[.pointer none] w fun e w' => e = .returned (.bool false) ∧ w = w' := by
  go_enter Tryz.func32, Tryz.ntmps32
  go_wp2
  go_ret
  exact ⟨rfl, rfl⟩
set_option maxRecDepth 100000 in
theorem sis_made (sb : Nat) (b : Bool) (w : World) (h0 : w.cell? ⟨sb, 0, none⟩ = some (.bool b)) : Calls Tryz.prog 32 #[.pointer (some ⟨sb, 0, none⟩)] w fun e w' => e = .returned (.bool b) ∧ w = w' := by
  go_enter Tryz.func32, Tryz.ntmps32
  go_wp2
  go_ret
  exact ⟨rfl, rfl⟩
theorem SpaceIs.is (h : SpaceIs w sb mb nv lim nx L) : Calls Tryz.prog 32 #[.pointer (some ⟨sb, 0, none⟩)] w fun e w' => e = .returned (.bool true) ∧ w = w' :=
  sis_made sb true w (by rw [cells_in h.hd]; rfl)

/-- A space that has just been made. -/
def SNewPost (lim nx : Int) (w : World) (e : Ending) (w' : World) : Prop := ∃ sb mb, e = .returned (.tuple #[.pointer (some ⟨sb, 0, none⟩), .int .i64 0]) ∧ SpaceIs w' sb mb (.slice none 0 0) lim nx [] ∧ Fr0 none' w w' ∧ ∀ k, sfoot sb mb (.slice none 0 0) k → w.heap.size ≤ k
set_option maxRecDepth 100000 in
set_option maxHeartbeats 1000000 in
theorem SNew_ok (lim nx : Int) (w : World) (h1 : 0 ≤ lim) (h2 : lim ≤ 64) (h3 : 1 ≤ nx) (h4 : nx ≤ 4294967295) :
    Calls Tryz.prog 6 #[.int .i64 lim, .int .i64 nx] w (SNewPost lim nx w) := by
  have hmm := @run_makeMap Tryz.prog
  go_enter Tryz.func6, Tryz.ntmps6
  go_wp2
  go_ret2
  refine ⟨w.heap.size + 1, w.heap.size, rfl, ⟨?_, ?_, World.ownsRow_nil _ _ _ _, ⟨List.Pairwise.nil, List.nodup_nil, (fun p h => by cases h), (fun p h => by cases h), (fun p h => by cases h), ⟨h1, h2⟩, h1, by omega⟩, ⟨by omega, fun g h => by cases h⟩⟩, ((Fr0.refl _ _).alloc _).alloc _, fun k hk => ?_⟩
  · have := World.alloc_heap_new (w.alloc (.map #[] 0)) (.cells #[.bool true, .int .i64 lim, .int .i64 nx, .map (some w.heap.size), .slice none 0 0] 40)
    rwa [World.size_alloc] at this
  · exact (World.ownsMap_made w Tryz.prog 3 ptR).alloc _
  · rcases hk with rfl | rfl | h
    · omega
    · omega
    · cases h
set_option maxRecDepth 100000 in
set_option maxHeartbeats 1000000 in
theorem SNew_no (lim nx : Int) (w : World) (h : lim < 0 ∨ 64 < lim ∨ nx < 1 ∨ 4294967295 < nx) :
    Calls Tryz.prog 6 #[.int .i64 lim, .int .i64 nx] w fun e w' => e = .returned (.tuple #[.pointer none, .int .i64 2]) ∧ w = w' := by
  go_enter Tryz.func6, Tryz.ntmps6
  by_cases h1 : lim < 0
  · go_wp2
    go_ret2
    exact ⟨rfl, rfl⟩
  · by_cases h2 : 64 < lim
    · go_wp2
      go_ret2
      exact ⟨rfl, rfl⟩
    · by_cases h3 : nx < 1
      · go_wp2
        go_ret2
        exact ⟨rfl, rfl⟩
      · have h4 : 4294967295 < nx := by omega
        go_wp2
        go_ret2
        exact ⟨rfl, rfl⟩

set_option maxRecDepth 100000 in
set_option maxHeartbeats 1000000 in
theorem SLen_is (h : SpaceIs w sb mb nv lim nx L) : Calls Tryz.prog 17 #[.pointer (some ⟨sb, 0, none⟩)] w fun e w' => e = .returned (.int .i64 L.length) ∧ w = w' := by
  have hl := h.mp.len Tryz.underlying38
  rw [size_dat] at hl
  have k3 : w.cell? ⟨sb, 3, none⟩ = some (.map (some mb)) := by rw [cells_in h.hd]; rfl
  have H := Lib.hid h
  clear h
  go_enter Tryz.func17, Tryz.ntmps17
  go_wp2_with (go_at_call 32; refine H.out.is.mono ?_; rintro e w' ⟨rfl, rfl⟩)
  go_ret
  exact ⟨rfl, rfl⟩
set_option maxRecDepth 100000 in
set_option maxHeartbeats 1000000 in
theorem SLimit_is (h : SpaceIs w sb mb nv lim nx L) : Calls Tryz.prog 18 #[.pointer (some ⟨sb, 0, none⟩)] w fun e w' => e = .returned (.int .i64 lim) ∧ w = w' := by
  have k1 : w.cell? ⟨sb, 1, none⟩ = some (.int .i64 lim) := by rw [cells_in h.hd]; rfl
  have H := Lib.hid h
  clear h
  go_enter Tryz.func18, Tryz.ntmps18
  go_wp2_with (go_at_call 32; refine H.out.is.mono ?_; rintro e w' ⟨rfl, rfl⟩)
  go_ret
  exact ⟨rfl, rfl⟩
set_option maxRecDepth 100000 in
set_option maxHeartbeats 1000000 in
theorem SNext_is (h : SpaceIs w sb mb nv lim nx L) : Calls Tryz.prog 19 #[.pointer (some ⟨sb, 0, none⟩)] w fun e w' => e = .returned (.int .i64 nx) ∧ w = w' := by
  have k2 : w.cell? ⟨sb, 2, none⟩ = some (.int .i64 nx) := by rw [cells_in h.hd]; rfl
  have H := Lib.hid h
  clear h
  go_enter Tryz.func19, Tryz.ntmps19
  go_wp2_with (go_at_call 32; refine H.out.is.mono ?_; rintro e w' ⟨rfl, rfl⟩)
  go_ret
  exact ⟨rfl, rfl⟩
end Go.Proofs.YtieeloealklkgaaGreatDoor

/-
  The iterator over a space's ports, in the order of their numbers.
-/
namespace Go.Proofs.YtieeloealklkgaaGreatDoor
open Go.RowKit Go.Maps
attribute [local go_sem ↓] Go.wp_at_zero Go.wp_at_succ
attribute [local go_sem] Oper.semAt_some wide_fn wide_depth wide_fnR wide_depthR

/-- What maps.Keys and slices.Sorted do. -/
def KeysDoes : Prop := ∀ (mb : Option Nat) (W : World), Calls Tryz.prog 88 #[.map mb] W fun e w' =>
  e = .returned (.func (.func 118) #[] #[.pointer (some ⟨W.heap.size, 0, none⟩)]) ∧ w' = W.alloc (.cells #[.map mb] 38)
def numsP (L : List Pt) : List Value := L.map (fun p => Value.int .i64 p.number)
def SortedDoes : Prop := ∀ (b : Nat) (L : List Pt) (w : World), OrdP L → L.length ≤ 1000 → w.ownsMap Tryz.prog 3 ptR b L.length (datP L) →
  Calls Tryz.prog 87 #[.func (.func 118) #[] #[.pointer (some ⟨w.heap.size, 0, none⟩)]] (w.alloc (.cells #[.map (some b)] 38)) fun e w' =>
    ∃ v, e = .returned v ∧ w'.ownsRow (w.heap.size + 1) 3 1 v L.length (numsP L) ∧ Below (w.heap.size + 1) (w.alloc (.cells #[.map (some b)] 38)) w'

/-- What is asked of a closure that says which ports suit. -/
def Suits (gf : Nat) (lb : Array Value) (L : List Pt) (f : Pt → Bool) (rdf : Nat → Prop) (w : World) : Prop :=
  ∀ p ∈ L, ∀ W, Keep rdf w W → Calls Tryz.prog gf (#[ptV p] ++ lb) W fun e w' => e = .returned (.bool (f p)) ∧ Fr0 none' W w'
theorem ints_at {w : World} {base : Nat} {v : Value} {n : Nat} {xs : List Value} (h : w.ownsRow base 3 1 v n xs) {k : Nat} {x : Value} (hk : xs[k]? = some x) : ∃ g cap, v = .slice (some ⟨g, 0, none⟩) n cap ∧ base ≤ g ∧ g < w.heap.size ∧ w.cell? ⟨g, k, none⟩ = some x := by
  have hl := h.1
  rcases h.2 with ⟨rfl, h0⟩ | ⟨g, cap, cur, rfl, hb, hg, hn, hcm, hs, ht⟩
  · have e : xs = [] := List.eq_nil_of_length_eq_zero (by rw [hl, h0])
    rw [e] at hk; simp at hk
  · refine ⟨g, cap, rfl, hb, (Array.getElem?_eq_some_iff.1 hg).1, ?_⟩
    have hlt : k < n * 1 := by rw [← hl]; exact (List.getElem?_eq_some_iff.1 hk).1
    rw [cells_in hg, ← Array.getElem?_toList, ← hk, ← ht, List.getElem?_take_of_lt hlt]
theorem filter_take (f : Pt → Bool) (L : List Pt) (k : Nat) (p : Pt) (hp : L[k]? = some p) : (L.take (k + 1)).filter f = (L.take k).filter f ++ (if f p then [p] else []) := by
  rw [List.take_add_one, List.filter_append, hp]
  cases h : f p <;> simp [h]
theorem filter_at (f : Pt → Bool) (L : List Pt) (k : Nat) (p : Pt) (hp : L[k]? = some p) (hf : f p = true) : (L.filter f)[((L.take k).filter f).length]? = some p := by
  obtain ⟨hk, e⟩ := List.getElem?_eq_some_iff.1 hp
  have e1 : L = L.take k ++ p :: L.drop (k + 1) := by rw [← e, ← List.drop_eq_getElem_cons hk, List.take_append_drop]
  have e2 : L.filter f = (L.take k).filter f ++ p :: (L.drop (k + 1)).filter f := by
    conv => lhs; rw [e1]
    rw [List.filter_append, List.filter_cons_of_pos hf]
  rw [e2]; simp

set_option maxRecDepth 100000 in
set_option maxHeartbeats 4000000 in
theorem each_iter (HK : KeysDoes) (HS : SortedDoes) {w : World} {sb mb : Nat} {nv : Value} {lim nx : Int} {L : List Pt} (h : SpaceIs w sb mb nv lim nx L) (sx fx : Nat) (gf : Nat) (lb : Array Value) (f : Pt → Bool) (rdf : Nat → Prop)
    (hsx : Box w sx (.pointer (some ⟨sb, 0, none⟩))) (hfx : Box w fx (.func (.func gf) #[] lb)) (eg : ∀ args w, (callFunc gf args).run Tryz.prog w = .ok (.enter gf args) w) (hrd : ∀ k, rdf k → k < w.heap.size) (hsu : Suits gf lb L f rdf w) :
    IterX0 Tryz.prog 86 #[.pointer (some ⟨sx, 0, none⟩), .pointer (some ⟨fx, 0, none⟩)] (fun p : Pt => #[ptV p]) (L.filter f) none' (fun k => k = sb ∨ k = mb ∨ k = sx ∨ k = fx ∨ rdf k) w := by
  intro l J Jx W hK hJ hJx hY h0
  have hsxW : Box W sx (.pointer (some ⟨sb, 0, none⟩)) := hsx.of_block (hK.2 sx (.inr (.inr (.inl rfl))))
  have hfxW : Box W fx (.func (.func gf) #[] lb) := hfx.of_block (hK.2 fx (.inr (.inr (.inr (.inl rfl)))))
  have hdW : W.heap[sb]? = some (.cells #[.bool true, .int .i64 lim, .int .i64 nx, .map (some mb), nv] 40 (0, 0)) := (hK.2 sb (.inl rfl)).trans h.hd
  have hmW : W.ownsMap Tryz.prog 3 ptR mb L.length (datP L) := by
    obtain ⟨es, clock, hb, r⟩ := h.mp
    exact ⟨es, clock, (hK.2 mb (.inr (.inl rfl))).trans hb, r⟩
  have hrdW : ∀ k, (k = sb ∨ k = mb ∨ k = sx ∨ k = fx ∨ rdf k) → k < W.heap.size := fun k hk => by
    have hl := hK.1
    rcases hk with rfl | rfl | rfl | rfl | hk
    · exact (Array.getElem?_eq_some_iff.1 hdW).1
    · exact hmW.lt
    · exact hsxW.lt
    · exact hfxW.lt
    · have := hrd k hk; omega
  have Ok := Lib.hid h.ok
  have HKp := Lib.hid hK
  have HJ := Lib.hid hJ
  have HJx := Lib.hid hJx
  have HY := Lib.hid hY
  have Hdw := Lib.hid hdW
  have Hmw := Lib.hid hmW
  have Hrd := Lib.hid hrdW
  have Hsu := Lib.hid hsu
  have Hsx := Lib.hid hsxW
  have Hfx := Lib.hid hfxW
  have s1 := hsxW.cell
  have d0 : W.cell? ⟨sb, 0, none⟩ = some (.bool true) := by rw [cells_in hdW]; rfl
  have d3 : W.cell? ⟨sb, 3, none⟩ = some (.map (some mb)) := by rw [cells_in hdW]; rfl
  have hm64 : L.length ≤ 64 := h.ok.small
  obtain ⟨m, hm⟩ : ∃ m, L.length = m := ⟨_, rfl⟩
  rw [hm] at hm64
  have Hm := Lib.hid hm
  clear hJ hJx hY hK hdW hmW hrdW hsu hsxW hfxW hsx hfx h hm hrd
  refine callsIn_of_wp Tryz.func86 rfl trivial ?_ rfl
  simp only [Tryz.ntmps86, List.size_toArray, List.length_cons, List.length_nil, Nat.reduceAdd, Nat.reduceSub, Array.replicate_succ, Array.replicate_zero, List.push_toArray, List.append_toArray, List.nil_append, List.cons_append]
  gi_wp2_with fail
  refine (callsIn_wide.2 (sis_made sb true _ d0)).mono ?_
  rintro e w1 ⟨rfl, rfl⟩
  gi_wp2_with fail
  refine (callsIn_wide.2 (HK (some mb) _)).mono ?_
  rintro e w1 ⟨rfl, rfl⟩
  gi_wp2_with fail
  refine (callsIn_wide.2 (HS mb L W Ok.out.ord (by have := Ok.out.small; omega) Hmw.out)).mono ?_
  rintro e W1 ⟨v, rfl, hrow, hbe⟩
  have f1 : Fr0 none' W W1 := (((Fr0.refl none' W).alloc _).trans' (S' := none') (S := none') ⟨hbe.os, hbe.tape, hbe.output, hbe.size, fun k hk _ => hbe.block k (by simpa using hk)⟩ (fun _ _ h => h))
  obtain ⟨cap, av, rfl⟩ : ∃ cap av, v = .slice av L.length cap := by
    rcases hrow.2 with ⟨rfl, h0⟩ | ⟨g, cap, cur, rfl, _⟩
    · exact ⟨0, none, by rw [h0]⟩
    · exact ⟨cap, _, rfl⟩
  rw [Hm.out] at hrow ⊢
  have hj1 : J 0 (fun k => (Value.slice av m cap).ownBlock = some k) W1 := HJ.out 0 none' _ W W1 h0 (f1.mono (fun k _ h => h.elim)) (fun k hk => .inr (by have := hrow.lt k hk; omega))
  have Hrow := Lib.hid hrow
  have F1 := Lib.hid f1
  clear hrow hbe f1 s1 d0 d3 h0
  obtain ⟨X, hX⟩ : ∃ X : Nat → Prop, (fun k => (Value.slice av m cap).ownBlock = some k) = X := ⟨_, rfl⟩
  have HXe := Lib.hid (show ∀ g, (Value.slice av m cap).ownBlock = some g → X g from fun g hg => by rw [← hX]; exact hg)
  have HXl := Lib.hid (show ∀ k, X k → W.heap.size < k ∧ k < W1.heap.size from fun k hk => by rw [← hX] at hk; have := Hrow.out.lt k hk; omega)
  rw [hX] at hj1
  clear hX
  gi_wp2_with fail
  gi_loopw [17] (fun i wr => ∃ (k q : Nat), k ≤ m ∧ i = .int .i64 k ∧ q = ((L.take k).filter f).length ∧ J q X wr ∧ Hid (Keep (fun k => (k = sb ∨ k = mb ∨ k = sx ∨ k = fx ∨ rdf k) ∨ X k) W1 wr)) (fun i _ => m - (Go.RowKit.intOf i).toNat)
  case atStart => exact ⟨0, 0, Nat.zero_le _, rfl, rfl, hj1, Keep.refl _ _⟩
  case round =>
    obtain ⟨k, q, hk, rfl, hq, hj, hkp⟩ := hrel
    by_cases hlt : k < m
    · obtain ⟨p, hp⟩ : ∃ p, L[k]? = some p := ⟨_, List.getElem?_eq_getElem (by rw [Hm.out]; exact hlt)⟩
      have hpL : p ∈ L := List.mem_of_getElem? hp
      obtain ⟨g, cap', he, hg1, hg2, hgc⟩ := ints_at Hrow.out (k := k) (x := .int .i64 p.number) (by simp [numsP, hp])
      simp only [Value.slice.injEq] at he
      obtain ⟨rfl, _, rfl⟩ := he
      have hXg : X g := HXe.out g rfl
      have hkeep : ∀ b, (b = sb ∨ b = mb ∨ b = sx ∨ b = fx ∨ rdf b) → wr.heap[b]? = W.heap[b]? := fun b hb => (hkp.out.2 b (.inl hb)).trans (F1.out.block b (Hrd.out b hb) id)
      have c1 : wr.cell? ⟨g, k, none⟩ = some (.int .i64 p.number) := (World.cell?_of_block (w := W1) (hkp.out.2 g (.inr hXg))).trans hgc
      have hsx' : Box wr sx (.pointer (some ⟨sb, 0, none⟩)) := Hsx.out.of_block (hkeep sx (.inr (.inr (.inl rfl))))
      have hfx' : Box wr fx (.func (.func gf) #[] lb) := Hfx.out.of_block (hkeep fx (.inr (.inr (.inr (.inl rfl)))))
      have hd' := (hkeep sb (.inl rfl)).trans Hdw.out
      have hm' : wr.ownsMap Tryz.prog 3 ptR mb L.length (datP L) := by
        obtain ⟨es, clock, hb, r⟩ := Hmw.out
        exact ⟨es, clock, (hkeep mb (.inr (.inl rfl))).trans hb, r⟩
      have hnum := Ok.out.lo p hpL
      have hnxt := Ok.out.nxt
      obtain ⟨vv, ps, hrun, hvv⟩ := hm'.lookup intK Tryz.underlying38 (zero_pt wr) (ptR_ptV noPt) (key_int (n := p.number) (by omega))
      rw [at_dat, (atP_some Ok.out.ord).2 ⟨hpL, rfl⟩] at hvv
      obtain rfl := ptR_inv hvv
      have s1 := hsx'.cell
      have s2 := hfx'.cell
      have d3 : wr.cell? ⟨sb, 3, none⟩ = some (.map (some mb)) := by rw [cells_in hd']; rfl
      have z1 : (0 : Int) ≤ (k : Int) := by omega
      have z2 : (k : Int) < (m : Int) := by omega
      have z3 : IntKind.i64.wrap ((k : Int) + 1) = (k : Int) + 1 := IntWalk.i64_in _ (by omega)
      have Hp := Lib.hid hp
      have Hpl := Lib.hid hpL
      have Hq := Lib.hid hq
      have Hhk := Lib.hid hkeep
      have Hd' := Lib.hid hd'
      have Hxg := Lib.hid hXg
      have Hg2 := Lib.hid hg2
      clear hp hpL hq hkeep hd' hm' hnum hnxt hvv hgc hg1 hg2 hXg
      have hfl := hfx'.lt
      simp only [ptV] at hrun
      have HSu := Hsu.out p Hpl.out (wr.alloc (.cells #[.int .i64 p.number, .string (bs p.name), .int .i64 p.process] 43)) (by
        refine ⟨?_, fun k hk => ?_⟩
        · have h1 := HKp.out.1
          have h2 := F1.out.size
          have h3 := hkp.out.1
          rw [World.size_alloc]; omega
        · have h1 := Hrd.out k (.inr (.inr (.inr (.inr hk))))
          have h2 := Hhk.out k (.inr (.inr (.inr (.inr hk))))
          have h3 : k < wr.heap.size := by have := F1.out.size; have := hkp.out.1; omega
          exact (Below.heap_alloc wr _ k h3).trans (h2.trans (HKp.out.2 k (.inr (.inr (.inr (.inr hk))))))) 
      simp only [ptV] at HSu
      have HSu := Lib.hid HSu
      gi_wp2_with fail
      clear hrun
      refine (callsIn_wide.2 HSu.out).mono ?_
      rintro e w2 ⟨rfl, hf2⟩
      have hbx : w2.heap[wr.heap.size]? = some (.cells #[.int .i64 p.number, .string (bs p.name), .int .i64 p.process] 43) := (hf2.block _ (by simp) id).trans (World.alloc_heap_new wr _)
      have b0 := cells_in hbx 0
      have b1 := cells_in hbx 1
      have b2 := cells_in hbx 2
      simp at b0 b1 b2
      have fr2 : Fr0 none' wr w2 := ((Fr0.refl none' wr).alloc _).trans hf2
      have hj2 : J q X w2 := HJ.out q X X wr w2 hj (fr2.mono (fun k _ h => h.elim)) (fun k hk => .inl hk)
      have hkp2 : Keep (fun k => (k = sb ∨ k = mb ∨ k = sx ∨ k = fx ∨ rdf k) ∨ X k) W1 w2 := hkp.out.trans (fr2.keep (fun k hk => ⟨by
        rcases hk with hk | hk
        · have := Hrd.out k hk; have := F1.out.size; have := hkp.out.1; omega
        · have := HXl.out k hk; have := hkp.out.1; omega, id⟩))
      have Hkp2 := Lib.hid hkp2
      have Fr2 := Lib.hid fr2
      clear hf2 hbx fr2 hkp2 HSu s1 s2 d3 hsx' hfx' c1 hfl
      by_cases hfp : f p = true
      · rw [hfp]
        have hy := HY.out q p X w2 (by rw [Hq.out]; exact filter_at f L k p Hp.out hfp) hj2
        simp only [ptV] at hy
        obtain ⟨fn, tmps, assign, body, hy, hR⟩ := hy
        have HR := Lib.hid hR
        have Hfp := Lib.hid hfp
        clear hR hfp hj2 hj
        gi_wp2
        refine HR.out.mono ?_
        rintro e W3 (⟨rfl, hJ3, hk3⟩ | ⟨rfl, hJx3⟩)
        · gi_wp2
          go_roundw
          case rel => exact ⟨k + 1, q + 1, by omega, by go_num, by rw [filter_take f L k p Hp.out, Hfp.out, List.length_append, Hq.out]; rfl, hJ3, Hkp2.out.trans hk3⟩
          case measure => simp [Go.RowKit.intOf]; omega
        · gi_wp2
          refine bodyPost_ret (results_none rfl _ _ _) rfl ?_
          exact ⟨⟨_, rfl⟩, .inr hJx3⟩
      · have hfp' : f p = false := by simpa using hfp
        rw [hfp']
        have Hfp := Lib.hid hfp'
        clear hfp hfp'
        gi_wp2
        go_roundw
        case rel => exact ⟨k + 1, q, by omega, by go_num, by rw [filter_take f L k p Hp.out, Hfp.out, List.length_append, Hq.out]; simp, hj2, Hkp2.out⟩
        case measure => simp [Go.RowKit.intOf]; omega
    · have hkm : k = m := by omega
      have hqq : q = (L.filter f).length := by rw [hq, hkm, ← Hm.out, List.take_length]
      rw [hqq] at hj
      clear hq hqq
      subst hkm
      gi_wp2
      go_end0
      exact ⟨⟨_, rfl⟩, .inl ⟨X, hj⟩⟩
end Go.Proofs.YtieeloealklkgaaGreatDoor

/-
  Collecting ports; All, Of.
-/
namespace Go.Proofs.YtieeloealklkgaaGreatDoor
open Go.RowKit Go.Maps
attribute [local go_sem ↓] Go.wp_at_zero Go.wp_at_succ
attribute [local go_sem] Oper.semAt_some wide_fn wide_depth wide_fnR wide_depthR

theorem info_pt3 : (Tryz.prog.info? 43).map (fun i => (i.zero, i.size, i.bytes)) = some (some (.agg #[.int .i64 0, .string ⟨#[]⟩, .int .i64 0]), 3, 32) := by kernel_rfl
def flatP (l : List Pt) : List Value := l.flatMap ptC
theorem flatP_snoc (l : List Pt) (p : Pt) : flatP (l ++ [p]) = flatP l ++ ptC p := by simp [flatP]
theorem flatP_length (l : List Pt) : (flatP l).length = l.length * 3 := by
  induction l with
  | nil => rfl
  | cons x r ih => rw [flatP, List.flatMap_cons, List.length_append]; unfold flatP at ih; rw [ih]; simp [ptC]; omega
theorem flatP_at (l : List Pt) (k c : Nat) (p : Pt) (hk : l[k]? = some p) (hc : c < 3) : (flatP l)[k * 3 + c]? = (ptC p)[c]? := by
  induction l generalizing k with
  | nil => simp at hk
  | cons x r ih =>
    rw [flatP, List.flatMap_cons]
    cases k with
    | zero =>
      simp only [List.getElem?_cons_zero, Option.some.injEq] at hk
      subst hk
      rw [List.getElem?_append_left (by simp [ptC]; omega)]
      simp
    | succ k =>
      rw [List.getElem?_append_right (by simp [ptC]; omega)]
      have := ih k (by simpa using hk)
      rw [← this]
      congr 1
      simp [ptC]; omega

set_option maxRecDepth 100000 in
set_option maxHeartbeats 2000000 in
theorem AppendSeqP (gf : Nat) (lb : Array Value) (xs : List Pt) (own rd : Nat → Prop) (w : World) (eg : ∀ args w, (callFunc gf args).run Tryz.prog w = .ok (.enter gf args) w)
    (hit : IterX0 Tryz.prog gf lb (fun p : Pt => #[ptV p]) xs own rd w) (ho : ∀ k, own k → k < w.heap.size) (hr : ∀ k, rd k → k < w.heap.size) (hlen : xs.length ≤ 1000000) :
    CallsIn Fence.wide 0 Tryz.prog 85 #[.slice none 0 0, .func (.func gf) #[] lb] w fun e w' =>
      ∃ v, e = .returned v ∧ w'.ownsRow w.heap.size 43 3 v xs.length (flatP xs) ∧ Fr0 own w w' := by
  obtain ⟨i0, hi, hz0, hz1, hz2⟩ := info_parts info_pt3
  refine callsIn_of_wp_marks Tryz.func85 rfl trivial ?_ rfl
  simp only [Tryz.ntmps85, List.size_toArray, List.length_cons, List.length_nil, Nat.reduceAdd, Nat.reduceSub, Array.replicate_succ, Array.replicate_zero, List.push_toArray, List.append_toArray, List.nil_append, List.cons_append]
  gi_wp2_with fail
  refine wpIn_iterX0 (gf := gf) (lb := lb) rfl eg hit (Fr0.keep ((Fr0.refl none' w).alloc _) (fun k hk => ⟨hr k hk, id⟩)) (fun _ => rfl) (fun k hk => by have := ho k hk; simp; omega) (fun k hk => by have := hr k hk; simp; omega)
    (fun i X W => ∃ v, Box W w.heap.size v ∧ W.ownsRow (w.heap.size + 3) 43 3 v i (flatP (xs.take i)) ∧ Fr0 own w W ∧ ∀ g, v.ownBlock = some g → ¬ X g)
    (fun _ _ => False) ?hI (fun _ _ _ h _ => h.elim) ?h0
    (fun x W a' => ∃ B, a' = { tmps := #[.slice none 0 0, .func (.func gf) #[] lb, .pointer (some ⟨w.heap.size, 0, none⟩), undef, .slice none 0 0, .pointer (some ⟨B, 0, none⟩), .func (.func gf) #[] lb, ptV x, undef, undef, undef, undef, undef], defers := [] } ∧ w.heap.size + 2 < B ∧ W.heap[B]? = some (.cells (ptC x).toArray 43 (0, 0)))
    ?assign ?keep ?body ?done (fun _ _ _ _ h _ => h.elim)
  case hI =>
    rintro i X Y W1 W2 ⟨v, hb, hrow, hfr, hX⟩ hXb hf hY
    simp only [World.size_alloc] at hf hXb
    refine ⟨v, hb.fr0 hf (fun h => ?_), ownsRow_fr0 hrow hf (fun g hg h => ?_), hfr.trans' hf (fun k hk h => ?_), fun g hg hy => ?_⟩
    · rcases h with h | h | h | h
      · have := ho _ h; omega
      · have := hXb _ h; omega
      · omega
      · omega
    · have hlt := hrow.lt g hg
      rcases h with h | h | h | h
      · have := ho _ h; omega
      · exact hX g hg h
      · omega
      · omega
    · rcases h with h | h | h | h
      · exact h
      · have := hXb _ h; omega
      · omega
      · omega
    · rcases hY g hy with h | h
      · exact hX g hg h
      · have := hrow.lt g hg; omega
  case h0 =>
    exact ⟨_, Box.new w _ _, World.ownsRow_nil _ _ _ _, (Fr0.refl _ _).alloc _, fun g hg => by cases hg⟩
  case keep =>
    rintro x W1 W2 a' ⟨B, rfl, hB, hc⟩ hf
    refine ⟨B, rfl, hB, (hf.block B (Array.getElem?_eq_some_iff.1 hc).1 (by simp; omega)).trans hc⟩
  case assign =>
    intro l x W K hlt hK
    simp only [World.size_alloc] at hlt
    simp only [ptV]
    gi_wp2
    exact hK _ _ ⟨W.heap.size, by simp [ptV], by omega, World.alloc_heap_new W _⟩ ((Fr0.refl _ _).alloc _)
  case body =>
    rintro l i x X W a' r hxi ⟨v, hb, hrow, hfr, hX⟩ hXb ⟨B, rfl, hB, hcB⟩ hD hL
    have hlt : i < xs.length := (List.getElem?_eq_some_iff.1 hxi).1
    have hsz : w.heap.size + 2 < W.heap.size := by have := (Array.getElem?_eq_some_iff.1 hL).1; simpa using this
    have hc := hb.cell
    have hf := hb.frozen
    simp only [World.size_alloc] at hXb
    have Hxi := Lib.hid hxi
    have b0 := cells_in hcB 0
    have b1 := cells_in hcB 1
    have b2 := cells_in hcB 2
    simp [ptC] at b0 b1 b2
    have HX := Lib.hid hX
    have HXb := Lib.hid hXb
    clear hxi hD hL hcB hX hXb
    have hsrc := Src.newRow (P := Tryz.prog) (size := 3) (tx := 34) (ty := 43) W Tryz.underlying34 1 1 (ptC x) rfl (by simp [Value.oneCell', ptC])
    simp only [ptC] at hsrc
    gi_wp2_with (gi_at_builtin; refine wpListIn_append_k rfl _ _ 34 34 rfl (w.heap.size + 3) 43 i0 (.agg #[.int .i64 0, .string ⟨#[]⟩, .int .i64 0]) 3 32 Tryz.underlying34 hi hz0 hz1 hz2 rfl (by decide) v i _ rfl (hrow.alloc _) (.slice (some ⟨W.heap.size, 0, none⟩) 1 1) 1 _ rfl hsrc (by unfold maxLen; omega) (by omega) (by simp; omega) ?_; intro v' w1 hown' hgrow hdr hob; obtain ⟨g', cap', rfl⟩ := ownsRow_k_succ hown'; have hfg := ((Fr0.refl (fun k => v.ownBlock = some k) W).alloc _).grown hgrow (fun k hk _ => hk); have hb1 := hb.fr0 hfg (fun h => by have := (hrow.lt _ h).1; omega); have hc1 := hb1.cell; have hf1 := hb1.frozen)
    have hb2 := hb1.set (.slice (some ⟨g', 0, none⟩) (i + 1) cap')
    have hf2 := (hfg.mono (S' := fun k => k = w.heap.size ∨ v.ownBlock = some k) (fun k _ h => .inr h)).setCell (b := w.heap.size) (o := 0) (fun _ => .inl rfl) (.slice (some ⟨g', 0, none⟩) (i + 1) cap')
    refine ⟨_, hf2, ?_, ⟨_, hb2, ?_, ?_, ?_⟩⟩
    · intro k h1 h2
      simp only [World.size_alloc] at h2
      rcases h1 with h1 | h1
      · rcases h2 with h | h | h | h
        · have := hr _ h; omega
        · have := HXb.out _ h; omega
        · omega
        · omega
      · have h3 := hrow.lt _ h1
        rcases h2 with h | h | h | h
        · have := hr _ h; omega
        · exact HX.out _ h1 h
        · omega
        · omega
    · have h3 := ownsRow_setCell_below hown' (a := ⟨w.heap.size, 0, none⟩) (by simp) (.slice (some ⟨g', 0, none⟩) (i + 1) cap')
      rw [show List.take (i + 1) xs = List.take i xs ++ [x] from by
        rw [List.take_add_one, Hxi.out]; simp, flatP_snoc]
      exact h3
    · exact hfr.trans' hf2 (fun k hk h => by
        rcases h with h | h
        · omega
        · have := hrow.lt _ h; omega)
    · intro g hg hXg
      rcases hob with h | h
      · rw [hg] at h; exact HX.out _ h.symm hXg
      · rw [hg] at h
        injection h with h
        have := HXb.out _ hXg
        simp at h; omega
  case done =>
    rintro D X W hDe ⟨v, hb, hrow, hfr, _⟩ hK
    obtain rfl : D = w.heap.size + 1 := by simpa using hDe
    have hc := hb.cell
    rw [List.take_of_length_le (Nat.le_refl _)] at hrow
    have hD : w.heap.size + 1 < W.heap.size := by have := (Array.getElem?_eq_some_iff.1 hK).1; simpa using this
    have hfe : Fr0 own w (W.putObj (w.heap.size + 1) (.deferred none)) := hfr.putObj (fun h => by omega) _
    have hrow' : (W.putObj (w.heap.size + 1) (.deferred none)).ownsRow w.heap.size 43 3 v xs.length (flatP xs) := by
      refine ownsRow_fr0 (ownsRow_k_mono hrow (by omega)) (Fr0.putNew (S := fun k => k = w.heap.size + 1) _ _ rfl) (fun g hg h => ?_)
      have := (hrow.lt g hg).1; omega
    have hK' := hK
    have hfv : ∃ a n c, v = .slice a n c := by
      rcases hrow.2 with ⟨rfl, _⟩ | ⟨g, cap, cur, rfl, _⟩
      · exact ⟨_, _, _, rfl⟩
      · exact ⟨_, _, _, rfl⟩
    clear hrow hb hfr hK
    obtain ⟨sa, sn, sc, rfl⟩ := hfv
    gi_wp2
    refine ⟨by simp, .inl ⟨_, _, rfl, run_takeDeferred hK', ?_⟩⟩
    refine ⟨_, results_tmp rfl _ _ _, _, rfl, ?_, hfe⟩
    exact hrow'

set_option maxRecDepth 100000 in
set_option maxHeartbeats 2000000 in
theorem CollectP (gf : Nat) (lb : Array Value) (xs : List Pt) (own rd : Nat → Prop) (w : World) (eg : ∀ args w, (callFunc gf args).run Tryz.prog w = .ok (.enter gf args) w)
    (hit : IterX0 Tryz.prog gf lb (fun p : Pt => #[ptV p]) xs own rd w) (ho : ∀ k, own k → k < w.heap.size) (hr : ∀ k, rd k → k < w.heap.size) (hlen : xs.length ≤ 1000000) :
    Calls Tryz.prog 36 #[.func (.func gf) #[] lb] w fun e w' =>
      ∃ v, e = .returned v ∧ w'.ownsRow w.heap.size 43 3 v xs.length (flatP xs) ∧ Fr0 own w w' := by
  have HC := Lib.hid (callsIn_wide.1 (AppendSeqP gf lb xs own rd w eg hit ho hr hlen))
  clear hit
  go_enter Tryz.func36, Tryz.ntmps36
  go_wp2_with fail
  refine HC.out.mono ?_
  rintro e w1 ⟨v, rfl, hrow, hfr⟩
  go_wp2
  go_ret
  exact ⟨_, rfl, hrow, hfr⟩

set_option maxHeartbeats 1000000 in
/-- The closures that say which ports suit. -/
theorem all_suits (L : List Pt) (w : World) : Suits 38 #[] L (fun _ => true) none' w := by
  intro p _ W _
  simp only [ptV]
  show Calls Tryz.prog 38 #[.agg #[.int .i64 p.number, .string (bs p.name), .int .i64 p.process]] W _
  go_enter Tryz.func38, Tryz.ntmps38
  go_wp2
  go_ret
  exact ⟨rfl, (Fr0.refl _ _).alloc _⟩
set_option maxHeartbeats 1000000 in
theorem of_suits (L : List Pt) (w : World) (b : Nat) (n : Int) (hb : Box w b (.int .i64 n)) : Suits 43 #[.pointer (some ⟨b, 0, none⟩)] L (fun p => p.process == n) (fun k => k = b) w := by
  intro p _ W hK
  have hc := (hb.of_block (hK.2 b rfl)).cell
  have hl := (hb.of_block (hK.2 b rfl)).lt
  simp only [ptV]
  show Calls Tryz.prog 43 #[.agg #[.int .i64 p.number, .string (bs p.name), .int .i64 p.process], .pointer (some ⟨b, 0, none⟩)] W _
  go_enter Tryz.func43, Tryz.ntmps43
  go_wp2
  go_ret
  exact ⟨rfl, (Fr0.refl _ _).alloc _⟩
theorem str_eq (a b : Bs) : ((bs a).toList == (bs b).toList) = (a == b) := by rw [Lib.toList_data, Lib.toList_data]; rfl
set_option maxHeartbeats 1000000 in
theorem named_suits (L : List Pt) (w : World) (b : Nat) (s : Bs) (hb : Box w b (.string (bs s))) : Suits 90 #[.pointer (some ⟨b, 0, none⟩)] L (fun p => p.name == s) (fun k => k = b) w := by
  intro p _ W hK
  have hc := (hb.of_block (hK.2 b rfl)).cell
  have hl := (hb.of_block (hK.2 b rfl)).lt
  simp only [ptV]
  show Calls Tryz.prog 90 #[.agg #[.int .i64 p.number, .string (bs p.name), .int .i64 p.process], .pointer (some ⟨b, 0, none⟩)] W _
  go_enter Tryz.func90, Tryz.ntmps90
  go_wp2
  go_ret
  exact ⟨ret_bool (str_eq _ _), (Fr0.refl _ _).alloc _⟩
set_option maxHeartbeats 1000000 in
theorem each_any (sp fv : Value) (w : World) (hs : ∃ a, sp = .pointer a) (hf : ∃ a b c, fv = .func a b c) :
    Calls Tryz.prog 37 #[sp, fv] w fun e w' => e = .returned (.func (.func 86) #[] #[.pointer (some ⟨w.heap.size, 0, none⟩), .pointer (some ⟨w.heap.size + 1, 0, none⟩)]) ∧ w' = (w.alloc (.cells #[sp] 27)).alloc (.cells #[fv] 80) := by
  obtain ⟨a, rfl⟩ := hs
  obtain ⟨a, b, c, rfl⟩ := hf
  go_enter Tryz.func37, Tryz.ntmps37
  go_wp2
  go_ret
  exact ⟨rfl, rfl⟩

theorem filter_tt (L : List Pt) : L.filter (fun _ => true) = L := List.filter_eq_self.2 (fun _ _ => rfl)
/-- A row of ports behind a slice. -/
def PortsAt (w : World) (v : Value) (L : List Pt) : Prop := w.ownsRow 0 43 3 v L.length (flatP L)
/-- What All and Of return. -/
def PortsPost (L : List Pt) (w : World) (e : Ending) (w' : World) : Prop := ∃ v, e = .returned v ∧ PortsAt w' v L ∧ Fr0 none' w w' ∧ ∀ g, v.ownBlock = some g → w.heap.size ≤ g
variable {w w' : World} {sb mb : Nat} {nv : Value} {lim nx : Int} {L : List Pt}
set_option maxRecDepth 100000 in
set_option maxHeartbeats 1000000 in
theorem All_is (HK : KeysDoes) (HS : SortedDoes) (h : SpaceIs w sb mb nv lim nx L) : Calls Tryz.prog 9 #[.pointer (some ⟨sb, 0, none⟩)] w (PortsPost L w) := by
  have hm64 := h.ok.small
  have H := Lib.hid h
  clear h
  go_enter Tryz.func9, Tryz.ntmps9
  go_wp2_with fail
  refine (each_any _ _ _ ⟨_, rfl⟩ ⟨_, _, _, rfl⟩).mono ?_
  rintro e w1 ⟨rfl, rfl⟩
  obtain ⟨W, hW⟩ : ∃ W, (w.alloc (.cells #[.pointer (some ⟨sb, 0, none⟩)] 27)).alloc (.cells #[.func (.func 38) #[] #[]] 80) = W := ⟨_, rfl⟩
  rw [hW]
  have fW : Fr0 none' w W := by rw [← hW]; exact ((Fr0.refl _ _).alloc _).alloc _
  have hz : W.heap.size = w.heap.size + 2 := by rw [← hW]; simp
  have b1 : Box W w.heap.size (.pointer (some ⟨sb, 0, none⟩)) := by rw [← hW]; exact (Box.new _ _ _).alloc _
  have b2 : Box W (w.heap.size + 1) (.func (.func 38) #[] #[]) := by
    rw [← hW]
    have := Box.new (w.alloc (.cells #[.pointer (some ⟨sb, 0, none⟩)] 27)) (.func (.func 38) #[] #[]) 80
    rwa [World.size_alloc] at this
  have hI := H.out.later fW
  have it := each_iter HK HS hI w.heap.size (w.heap.size + 1) _ _ _ none' b1 b2 (by intro args w; rfl) (fun _ h => h.elim) (all_suits L W)
  have hC := CollectP _ _ _ _ _ W (by intro args w; rfl) it (fun _ h => h.elim) (fun k hk => by
    have l1 := hI.lt sb (.inl rfl)
    have l2 := hI.lt mb (.inr (.inl rfl))
    rcases hk with rfl | rfl | rfl | rfl | h
    · exact l1
    · exact l2
    · omega
    · omega
    · exact h.elim) (by rw [filter_tt]; omega)
  rw [filter_tt] at hC
  have HC := Lib.hid hC
  have FW := Lib.hid fW
  have Hz := Lib.hid hz
  clear hW fW hz b1 b2 hI it hC
  go_wp2_with fail
  refine HC.out.mono ?_
  rintro e w1 ⟨v, rfl, hrow, hfr⟩
  have Hp : Hid (PortsPost L w (.returned v) w1) := ⟨v, rfl, ownsRow_k_mono hrow (Nat.zero_le _), FW.out.trans hfr, fun g hg => by have := (hrow.lt g hg).1; have := Hz.out; omega⟩
  clear hrow hfr
  go_wp2
  go_ret
  exact Hp.out
set_option maxRecDepth 100000 in
set_option maxHeartbeats 1000000 in
theorem Of_is (HK : KeysDoes) (HS : SortedDoes) (h : SpaceIs w sb mb nv lim nx L) (n : Int) : Calls Tryz.prog 16 #[.pointer (some ⟨sb, 0, none⟩), .int .i64 n] w (PortsPost (L.filter (fun p => p.process == n)) w) := by
  have hm64 := h.ok.small
  have H := Lib.hid h
  clear h
  have hmf : ∀ (fn : Fn) (first cap : Array Value) (w : World), (Instr.makeFunc fn first cap).run Tryz.prog w = .ok (.func fn first cap) w := fun _ _ _ _ => rfl
  go_enter Tryz.func16, Tryz.ntmps16
  go_wp2_with fail
  refine (each_any _ _ _ ⟨_, rfl⟩ ⟨_, _, _, rfl⟩).mono ?_
  rintro e w1 ⟨rfl, rfl⟩
  obtain ⟨W0, hW0⟩ : ∃ W0, w.alloc (.cells #[.int .i64 n] 3) = W0 := ⟨_, rfl⟩
  have f0 : Fr0 none' w W0 := by rw [← hW0]; exact (Fr0.refl _ _).alloc _
  have z0 : W0.heap.size = w.heap.size + 1 := by rw [← hW0]; simp
  have c0 : Box W0 w.heap.size (.int .i64 n) := by rw [← hW0]; exact Box.new _ _ _
  rw [hW0]
  obtain ⟨W, hW⟩ : ∃ W, (W0.alloc (.cells #[.pointer (some ⟨sb, 0, none⟩)] 27)).alloc (.cells #[.func (.func 43) #[] #[.pointer (some ⟨w.heap.size, 0, none⟩)]] 80) = W := ⟨_, rfl⟩
  rw [hW]
  have fW : Fr0 none' w W := by rw [← hW]; exact (f0.alloc _).alloc _
  have hz : W.heap.size = W0.heap.size + 2 := by rw [← hW]; simp
  have b0 : Box W w.heap.size (.int .i64 n) := by rw [← hW]; exact (c0.alloc _).alloc _
  have b1 : Box W W0.heap.size (.pointer (some ⟨sb, 0, none⟩)) := by rw [← hW]; exact (Box.new _ _ _).alloc _
  have b2 : Box W (W0.heap.size + 1) (.func (.func 43) #[] #[.pointer (some ⟨w.heap.size, 0, none⟩)]) := by
    rw [← hW]
    have := Box.new (W0.alloc (.cells #[.pointer (some ⟨sb, 0, none⟩)] 27)) (.func (.func 43) #[] #[.pointer (some ⟨w.heap.size, 0, none⟩)]) 80
    rwa [World.size_alloc] at this
  have hI := H.out.later fW
  have it := each_iter HK HS hI W0.heap.size (W0.heap.size + 1) _ _ _ (fun k => k = w.heap.size) b1 b2 (by intro args w; rfl) (fun k hk => by subst hk; omega) (of_suits L W w.heap.size n b0)
  have hle : (L.filter (fun p => p.process == n)).length ≤ 1000000 := by have := List.length_filter_le (fun p : Pt => p.process == n) L; omega
  have hC := CollectP _ _ _ _ _ W (by intro args w; rfl) it (fun _ h => h.elim) (fun k hk => by
    have l1 := hI.lt sb (.inl rfl)
    have l2 := hI.lt mb (.inr (.inl rfl))
    rcases hk with rfl | rfl | rfl | rfl | h
    · exact l1
    · exact l2
    · omega
    · omega
    · omega) hle
  have HC := Lib.hid hC
  have FW := Lib.hid fW
  have Hz := Lib.hid hz
  have Z0 := Lib.hid z0
  clear hW0 hW fW hz b0 b1 b2 hI it hC f0 z0 c0 hle
  go_wp2_with fail
  refine HC.out.mono ?_
  rintro e w1 ⟨v, rfl, hrow, hfr⟩
  have Hp : Hid (PortsPost (L.filter (fun p => p.process == n)) w (.returned v) w1) := ⟨v, rfl, ownsRow_k_mono hrow (Nat.zero_le _), FW.out.trans hfr, fun g hg => by have := (hrow.lt g hg).1; have := Hz.out; have := Z0.out; omega⟩
  clear hrow hfr
  go_wp2
  go_ret
  exact Hp.out
end Go.Proofs.YtieeloealklkgaaGreatDoor

/-
  Marks of ranges that have ended, where rows of cells turn beside them.
-/
namespace Go.Proofs.YtieeloealklkgaaGreatDoor
open Go.RowKit

def isMark (w : World) (k : Nat) : Prop := w.heap[k]? = some (.deferred (some []))
theorem Marks.cons1 {B : Nat} {ds : List Deferred} {S : Nat → Prop} {w w' : World} {D : Nat} (h : Marks B ds w) (hf : Fr0 S w w') (hS : ∀ k, S k → ¬ isMark w k) (hB : B ≤ D) (hD : w.heap.size ≤ D) (hd : isMark w' D) :
    Marks B ({ target := .collected D, args := #[] } :: ds) w' := by
  obtain ⟨Ds, h1, h2, h3⟩ := h
  refine ⟨D :: Ds, by rw [List.map_cons, ← h1]; rfl, List.nodup_cons.2 ⟨fun hm => ?_, h2⟩, fun E hE => ?_⟩
  · have := (Array.getElem?_eq_some_iff.1 (h3 D hm).2).1
    omega
  · rcases List.mem_cons.1 hE with rfl | hE
    · exact ⟨hB, hd⟩
    · exact ⟨(h3 E hE).1, (hf.block E (Array.getElem?_eq_some_iff.1 (h3 E hE).2).1 (fun hs => hS E hs (h3 E hE).2)).trans (h3 E hE).2⟩
theorem leaves_marks1 {P : Program} {F : Fence} {n : Nat} {fn : Func} {tmps : Array Value} {R : Ending → World → Prop} {B : Nat} : ∀ (ds : List Deferred) (w : World), Marks B ds w →
    (∀ w', Fr0 (fun k => B ≤ k ∧ isMark w k) w w' → ∃ v, (results fn tmps).run P w' = .ok v w' ∧ R (.returned v) w') → LeavesInM F n P fn tmps R ds .returning w
  | [], w, _, h => h w (Fr0.refl _ _)
  | d :: ds, w, hm, h => by
    obtain ⟨Ds, h1, h2, h3⟩ := hm
    cases Ds with
    | nil => cases h1
    | cons D Es =>
      simp only [List.map_cons, List.cons.injEq] at h1
      obtain ⟨rfl, rfl⟩ := h1
      have hD := h3 D List.mem_cons_self
      have hn := List.nodup_cons.1 h2
      refine ⟨by simp, .inl ⟨D, _, rfl, run_takeDeferred hD.2, ?_⟩⟩
      refine leaves_marks1 (Es.map mark') _ ⟨Es, rfl, hn.2, fun E hE => ⟨(h3 E (List.mem_cons_of_mem _ hE)).1, (World.putObj_heap_other (by rintro rfl; exact hn.1 hE)).trans (h3 E (List.mem_cons_of_mem _ hE)).2⟩⟩ (fun w' hf => h w' ?_)
      refine ((Fr0.refl (fun k => B ≤ k ∧ isMark w k) w).putObj (fun _ => hD) _).trans' hf (fun k hk hk' => ?_)
      by_cases e : k = D
      · subst e; exact hD
      · refine ⟨hk'.1, ?_⟩
        replace hk' := hk'.2
        unfold isMark at hk' ⊢
        rwa [World.putObj_heap_other (by omega)] at hk'
/-- A block of cells is no mark. -/
theorem not_mark {w : World} {b : Nat} {cu : Array Value} {t : TypeId} {fr : Nat × Nat} (h : w.heap[b]? = some (.cells cu t fr)) : ¬ isMark w b := fun hm => by
  unfold isMark at hm; rw [h] at hm; injection hm with hm; cases hm
theorem Box.not_mark {w : World} {b : Nat} {v : Value} (h : Box w b v) : ¬ isMark w b := by obtain ⟨t, h⟩ := h; exact Go.Proofs.YtieeloealklkgaaGreatDoor.not_mark h
theorem row_not_mark {w : World} {base : Nat} {e : TypeId} {size : Nat} {v : Value} {n : Nat} {xs : List Value} (h : w.ownsRow base e size v n xs) {g : Nat} (hg : v.ownBlock = some g) : ¬ isMark w g := by
  rcases h.2 with ⟨rfl, _⟩ | ⟨g', cap, cur, rfl, _, hh, _⟩
  · cases hg
  · injection hg with hg; subst hg; exact not_mark hh
end Go.Proofs.YtieeloealklkgaaGreatDoor

/-
  The ports with some names.
-/
namespace Go.Proofs.YtieeloealklkgaaGreatDoor
open Go.RowKit Go.Maps
attribute [local go_sem ↓] Go.wp_at_zero Go.wp_at_succ
attribute [local go_sem] Oper.semAt_some wide_fn wide_depth wide_fnR wide_depthR

/-- The ports with some names, in the order of these. -/
def namedL (L : List Pt) (S : List Bs) : List Pt := S.flatMap (fun s => L.filter (fun p => p.name == s))
theorem namedL_take (L : List Pt) (S : List Bs) (k : Nat) (s : Bs) (h : S[k]? = some s) : namedL L (S.take (k + 1)) = namedL L (S.take k) ++ L.filter (fun p => p.name == s) := by
  unfold namedL
  rw [List.take_add_one, h]; simp
theorem flatP_append (A B : List Pt) : flatP (A ++ B) = flatP A ++ flatP B := by simp [flatP]
variable {w w' : World} {sb mb : Nat} {nv : Value} {lim nx : Int} {L : List Pt}

theorem namedL_len (L : List Pt) (S : List Bs) (hL : L.length ≤ 64) (hS : S.length ≤ 1000) : (namedL L S).length ≤ 64000 := by
  have : ∀ S : List Bs, (namedL L S).length ≤ 64 * S.length := by
    intro S
    induction S with
    | nil => simp [namedL]
    | cons s r ih =>
      have h1 : namedL L (s :: r) = L.filter (fun p => p.name == s) ++ namedL L r := by simp [namedL]
      rw [h1, List.length_append]
      have := List.length_filter_le (fun p : Pt => p.name == s) L
      simp; omega
  have := this S; omega

set_option maxRecDepth 100000 in
set_option maxHeartbeats 4000000 in
theorem named_in (HK : KeysDoes) (HS : SortedDoes) (h : SpaceIs w sb mb nv lim nx L) (a : Option Addr) (n cap : Nat) (S : List Bs) (hn : S.length = n) (hm : n ≤ 1000) (hc : Cells w a (S.map strV)) :
    CallsIn Fence.wide 0 Tryz.prog 41 #[.pointer (some ⟨sb, 0, none⟩), .slice a n cap] w (PortsPost (namedL L S) w) := by
  obtain ⟨i0, hi, hz0, hz1, hz2⟩ := info_parts info_pt3
  have H := Lib.hid h
  have Hn := Lib.hid hn
  have Hc := Lib.hid hc
  have Hok := Lib.hid h.ok
  have hsz := h.lt
  have Hsz := Lib.hid hsz
  obtain ⟨B, hB⟩ : ∃ B, w.heap.size = B := ⟨_, rfl⟩
  have HB := Lib.hid hB
  obtain ⟨W0, hW0⟩ : ∃ W0, w.alloc (.cells #[.slice none 0 0] 34) = W0 := ⟨_, rfl⟩
  have HW0 := Lib.hid hW0
  have f0 : Fr0 none' w W0 := by rw [← hW0]; exact (Fr0.refl _ _).alloc _
  have F0 := Lib.hid f0
  have b0 : Box W0 B (.slice none 0 0) := by rw [← hW0, ← hB]; exact Box.new _ _ _
  have z0 : W0.heap.size = B + 1 := by rw [← hW0, ← hB]; simp
  have B0 := Lib.hid b0
  have Z0 := Lib.hid z0
  have hmf : ∀ (fn : Fn) (first cap : Array Value) (w : World), (Instr.makeFunc fn first cap).run Tryz.prog w = .ok (.func fn first cap) w := fun _ _ _ _ => rfl
  clear h hn hc hsz hB hW0 f0 b0 z0
  refine callsIn_of_wp_marks Tryz.func41 rfl trivial ?_ rfl
  simp only [Tryz.ntmps41, List.size_toArray, List.length_cons, List.length_nil, Nat.reduceAdd, Nat.reduceSub, Array.replicate_succ, Array.replicate_zero, List.push_toArray, List.append_toArray, List.nil_append, List.cons_append]
  gi_wp2_with fail
  rw [HB.out, HW0.out]
  refine wpIn_loop (fun a' w' => ∃ (u7 u8 u11 u12 u13 u14 u15 u16 u17 u18 u19 u20 u21 u22 u23 : Value) (ds : List Deferred), (∃ (k : Nat) (v : Value), k ≤ n ∧ u11 = .int .i64 k ∧ Hid (Box w' B v) ∧ Hid (w'.ownsRow (B + 1) 43 3 v (namedL L (S.take k)).length (flatP (namedL L (S.take k)))) ∧ Hid (Fr0 none' w w') ∧ Hid (Marks (B + 1) ds w') ∧ B < w'.heap.size) ∧ a' = { tmps := #[.pointer (some ⟨sb, 0, none⟩), .slice a n cap, undef, undef, .slice none 0 0, .pointer (some ⟨B, 0, none⟩), undef, u7, u8, .slice a n cap, .int .i64 n, u11, u12, u13, u14, u15, u16, u17, u18, u19, u20, u21, u22, u23, undef], defers := ds }) (fun a' _ => n - (Go.RowKit.intOf (a'.tmps.getD 11 undef)).toNat) ?start ?round
  case start =>
    repeat (apply Exists.intro)
    refine ⟨⟨0, _, Nat.zero_le _, rfl, B0, World.ownsRow_nil _ _ _ _, F0, Marks.nil _ _, by have := Z0.out; omega⟩, rfl⟩
  case round =>
    rintro a' wr ⟨u7, u8, u11, u12, u13, u14, u15, u16, u17, u18, u19, u20, u21, u22, u23, ds, ⟨k, v, hk, rfl, hbx, hrow, hfr, hmk, hBs⟩, rfl⟩
    by_cases hlt : k < n
    · obtain ⟨s, hs⟩ : ∃ s, S[k]? = some s := ⟨_, List.getElem?_eq_getElem (by rw [Hn.out]; exact hlt)⟩
      have hcr : Cells wr a (S.map strV) := Hc.out.of_blocks (S := none') hfr.out.block (fun _ _ _ _ => id)
      obtain ⟨gb, go, rfl, hsc⟩ := hcr.at (k := k) (x := strV s) (by simp [hs])
      rw [strV] at hsc
      have z1 : (0 : Int) ≤ (k : Int) := by omega
      have z2 : (k : Int) < (n : Int) := by omega
      have z3 : IntKind.i64.wrap ((k : Int) + 1) = (k : Int) + 1 := IntWalk.i64_in _ (by omega)
      have Hs := Lib.hid hs
      obtain ⟨R, hR⟩ : ∃ R, wr.heap.size = R := ⟨_, rfl⟩
      have HR := Lib.hid hR
      clear hs hcr hR
      gi_wp2_with fail
      refine (callsIn_wide.2 (each_any _ _ _ ⟨_, rfl⟩ ⟨_, _, _, rfl⟩)).mono ?_
      rintro e w1 ⟨rfl, rfl⟩
      rw [HR.out] at hBs
      obtain ⟨W1, hW1⟩ : ∃ W1, wr.alloc (.cells #[.string (bs s)] 9) = W1 := ⟨_, rfl⟩
      obtain ⟨W2, hW2⟩ : ∃ W2, (W1.alloc (.cells #[.pointer (some ⟨sb, 0, none⟩)] 27)).alloc (.cells #[.func (.func 90) #[] #[.pointer (some ⟨R, 0, none⟩)]] 80) = W2 := ⟨_, rfl⟩
      simp only [HR.out, hW1]
      have z4 : W1.heap.size = R + 1 := by rw [← hW1]; simp [HR.out]
      simp only [z4, hW2]
      have fW : Fr0 none' wr W2 := by rw [← hW2, ← hW1]; exact (((Fr0.refl _ _).alloc _).alloc _).alloc _
      have z5 : W2.heap.size = R + 3 := by rw [← hW2]; simp [z4]
      have c0 : Box W2 R (.string (bs s)) := by
        have := Box.new wr (.string (bs s)) 9
        rw [HR.out, hW1] at this
        rw [← hW2]; exact (this.alloc _).alloc _
      have c1 : Box W2 (R + 1) (.pointer (some ⟨sb, 0, none⟩)) := by rw [← hW2, ← z4]; exact (Box.new _ _ _).alloc _
      have c2 : Box W2 (R + 1 + 1) (.func (.func 90) #[] #[.pointer (some ⟨R, 0, none⟩)]) := by
        rw [← hW2, ← z4]
        have := Box.new (W1.alloc (.cells #[.pointer (some ⟨sb, 0, none⟩)] 27)) (.func (.func 90) #[] #[.pointer (some ⟨R, 0, none⟩)]) 80
        rwa [World.size_alloc] at this
      have hI := (H.out.later hfr.out).later fW
      have it := each_iter HK HS hI (R + 1) (R + 1 + 1) _ _ _ (fun k => k = R) c1 c2 (by intro args w; rfl) (fun k hk => by subst hk; omega) (named_suits L W2 R s c0)
      have FW := Lib.hid fW
      have Z5 := Lib.hid z5
      clear hW1 hW2 fW z5 c0 c1 c2 hI hsc z4
      gi_wp2_with fail
      refine wpIn_iterS0 (σ := Value) rfl (by intro args w; rfl) it (Keep.refl _ _) (fun _ => rfl) (fun k hk => hk.elim) (fun k hk => by
          have l1 := Hsz.out sb (.inl rfl)
          have l2 := Hsz.out mb (.inr (.inl rfl))
          have := HB.out
          rw [Z5.out]
          rcases hk with rfl | rfl | rfl | rfl | h
          · omega
          · omega
          · omega
          · omega
          · omega)
        (fun q v' W => Box W B v' ∧ W.ownsRow (B + 1) 43 3 v' ((namedL L (S.take k)).length + q) (flatP (namedL L (S.take k) ++ (L.filter (fun p => p.name == s)).take q)) ∧ Fr0 none' w W ∧ Fr0 (fun k => k = B ∨ v.ownBlock = some k) W2 W ∧ B < W.heap.size ∧ ∀ g, v'.ownBlock = some g → v.ownBlock = some g ∨ R + 3 ≤ g)
        (fun v' k => k = B ∨ v'.ownBlock = some k) (fun _ _ => False) ?hInv ?hlt (fun _ _ _ h _ => h.elim) v ?h0 ?hf0
        (fun x W a' => ∃ P, a' = { tmps := #[.pointer (some ⟨sb, 0, none⟩), .slice (some ⟨gb, go, none⟩) n cap, undef, undef, .slice none 0 0, .pointer (some ⟨B, 0, none⟩), undef, .pointer (some ⟨R, 0, none⟩), .pointer (some ⟨P, 0, none⟩), .slice (some ⟨gb, go, none⟩) n cap, .int .i64 n, .int .i64 k, .bool true, .pointer (some ⟨gb, go + k, none⟩), .string (bs s), .pointer (some ⟨sb, 0, none⟩), .func (.func 90) #[] #[.pointer (some ⟨R, 0, none⟩)], .func (.func 86) #[] #[.pointer (some ⟨R + 1, 0, none⟩), .pointer (some ⟨R + 1 + 1, 0, none⟩)], ptV x, u19, u20, u21, u22, u23, undef], defers := [] } ∧ R + 4 < P ∧ W.heap[P]? = some (.cells (ptC x).toArray 43 (0, 0)))
        ?assign ?keep ?body ?done (fun _ _ _ _ h _ => h.elim)
      case hInv =>
        rintro q v' W3 W4 ⟨h1, h2, h3, h4, h5, h6⟩ hf
        rw [Z5.out] at hf
        have hsz := h3.size
        refine ⟨h1.fr0 hf (fun h => h.2 (.inl rfl)), ownsRow_fr0 h2 hf (fun g hg h => h.2 (.inr hg)), h3.trans' hf (fun k hk h => ?_), h4.trans' hf (fun k hk h => ?_), Nat.lt_of_lt_of_le h5 hf.size, h6⟩
        · have := HB.out
          rcases h.1 with h | h
          · exact h
          · omega
        · rw [Z5.out] at hk
          rcases h.1 with h | h
          · exact h.elim
          · omega
      case hlt =>
        rintro q v' W3 g ⟨h1, h2, h3, h4, h5, h6⟩ hg
        rcases hg with rfl | hg
        · exact h5
        · exact (h2.lt g hg).2
      case h0 =>
        have hbW := hbx.out.fr0 FW.out id
        refine ⟨hbW, ?_, hfr.out.trans FW.out, Fr0.refl _ _, hbW.lt, fun g hg => .inl hg⟩
        have := ownsRow_fr0 hrow.out FW.out (fun _ _ h => h)
        simpa using this
      case hf0 =>
        intro g hg
        refine ⟨fun h => h, fun h => ?_⟩
        have l1 := Hsz.out sb (.inl rfl)
        have l2 := Hsz.out mb (.inr (.inl rfl))
        have := HB.out
        have hgB : B ≤ g ∧ g < R := by
          rcases hg with rfl | hg
          · omega
          · have := hrow.out.lt g hg
            have := HR.out
            omega
        rcases h with rfl | rfl | rfl | rfl | h
        · omega
        · omega
        · omega
        · omega
        · omega
      case keep =>
        rintro x W3 W4 a' ⟨P, rfl, hP, hc⟩ hf
        refine ⟨P, rfl, hP, (hf.block P (Array.getElem?_eq_some_iff.1 hc).1 (by rw [Z5.out]; omega)).trans hc⟩
      case assign =>
        intro l x W K hlt hK
        rw [Z5.out] at hlt
        simp only [ptV]
        gi_wp2
        exact hK _ _ ⟨W.heap.size, by simp [ptV], by omega, World.alloc_heap_new W _⟩ ((Fr0.refl _ _).alloc _)
      case body =>
        rintro l q x v' W a' hxi ⟨h1, h2, h3, h4, h5, h6⟩ hdis hsW ⟨P, rfl, hP, hcP⟩
        have hc := h1.cell
        have hf := h1.frozen
        have p0 := cells_in hcP 0
        have p1 := cells_in hcP 1
        have p2 := cells_in hcP 2
        simp [ptC] at p0 p1 p2
        have hq : q < (L.filter (fun p => p.name == s)).length := (List.getElem?_eq_some_iff.1 hxi).1
        have hql : (L.filter (fun p => p.name == s)).length ≤ 64 := Nat.le_trans (List.length_filter_le _ _) Hok.out.small
        have hNl := namedL_len L (S.take k) Hok.out.small (by rw [List.length_take]; omega)
        have Hxi := Lib.hid hxi
        have Hdis := Lib.hid hdis
        obtain ⟨N, hN⟩ : ∃ N, (namedL L (S.take k)).length + q = N := ⟨_, rfl⟩
        rw [hN] at h2
        have HN := Lib.hid hN
        have hN2 : N ≤ 64064 := by omega
        have H2 := Lib.hid h2
        have H3 := Lib.hid h3
        have H4 := Lib.hid h4
        have H6 := Lib.hid h6
        have hWz := h4.size
        rw [Z5.out] at hWz
        clear hxi hdis hcP hN hq hql hNl h3 h4 h6
        have hsrc := Src.newRow (P := Tryz.prog) (size := 3) (tx := 34) (ty := 43) W Tryz.underlying34 1 1 (ptC x) rfl (by simp [Value.oneCell', ptC])
        simp only [ptC] at hsrc
        gi_wp2_with (gi_at_builtin; refine wpListIn_append_k rfl _ _ 34 34 rfl (B + 1) 43 i0 (.agg #[.int .i64 0, .string ⟨#[]⟩, .int .i64 0]) 3 32 Tryz.underlying34 hi hz0 hz1 hz2 rfl (by decide) v' N _ rfl (h2.alloc _) (.slice (some ⟨W.heap.size, 0, none⟩) 1 1) 1 _ rfl hsrc (by unfold maxLen; omega) (by omega) (by simp; omega) ?_; intro v2 w1 hown' hgrow hdr hob; obtain ⟨g', cap', rfl⟩ := ownsRow_k_succ hown'; have hfg := ((Fr0.refl (fun k => v'.ownBlock = some k) W).alloc _).grown hgrow (fun k hk _ => hk); have hb1 := h1.fr0 hfg (fun h => by have := (h2.lt _ h).1; omega); have hc1 := hb1.cell; have hf1 := hb1.frozen)
        have hb2 := hb1.set (.slice (some ⟨g', 0, none⟩) (N + 1) cap')
        have hf2 := (hfg.mono (S' := fun k => k = B ∨ v'.ownBlock = some k) (fun k _ h => .inr h)).setCell (b := B) (o := 0) (fun _ => .inl rfl) (.slice (some ⟨g', 0, none⟩) (N + 1) cap')
        have hgB : g' ≠ B := by have := (hown'.lt g' rfl).1; omega
        refine ⟨.slice (some ⟨g', 0, none⟩) (N + 1) cap', ⟨hb2, ?_, ?_, ?_, hb2.lt, fun g hg => ?_⟩, hf2, fun k hk => ?_⟩
        · have h3 := ownsRow_setCell_below hown' (a := ⟨B, 0, none⟩) (by simp) (.slice (some ⟨g', 0, none⟩) (N + 1) cap')
          rw [List.take_add_one, Hxi.out, ← Nat.add_assoc, HN.out, ← List.append_assoc, Option.toList_some, flatP_append]
          exact h3
        · refine H3.out.trans' hf2 (fun k hk h => ?_)
          have := HB.out
          rcases h with h | h
          · omega
          · have := (H2.out.lt _ h).1; omega
        · refine H4.out.trans' hf2 (fun k hk h => ?_)
          rw [Z5.out] at hk
          rcases h with h | h
          · exact .inl h
          · rcases H6.out k h with h' | h'
            · exact .inr h'
            · omega
        · rcases hob with h | h
          · rw [hg] at h; exact H6.out g h.symm
          · rw [hg] at h
            injection h with h
            simp at h
            exact .inr (by omega)
        · rcases hk with rfl | hk
          · exact .inl (.inl rfl)
          · rcases hob with h | h
            · rw [hk] at h; exact .inl (.inr h.symm)
            · rw [hk] at h
              injection h with h
              simp at h
              exact .inr (by omega)
      case done =>
        rintro D v' W hDe ⟨h1, h2, h3, h4, h5, h6⟩ hne hD
        rw [Z5.out] at hDe
        subst hDe
        rw [List.take_of_length_le (Nat.le_refl _), ← namedL_take L S k s Hs.out, ← List.length_append, ← namedL_take L S k s Hs.out] at h2
        have hmk2 : Marks (B + 1) ({ target := .collected (R + 3), args := #[] } :: ds) W :=
          hmk.out.cons1 (S := fun k => k = B ∨ v.ownBlock = some k) (D := R + 3) ((FW.out.mono (fun _ _ h => h.elim)).trans' h4 (fun _ _ h => h)) (fun g hg => by
            rcases hg with rfl | hg
            · exact hbx.out.not_mark
            · exact row_not_mark hrow.out hg) (by omega) (by rw [HR.out]; omega) hD
        have H1 := Lib.hid h1
        have H2 := Lib.hid h2
        have H3 := Lib.hid h3
        have Hmk2 := Lib.hid hmk2
        clear h1 h2 h3 h4 h6 hD hmk2 hne it
        gi_wp2_with fail
        refine ⟨?_, by simp [Go.RowKit.intOf]; omega⟩
        (repeat apply Exists.intro)
        refine ⟨⟨k + 1, v', by omega, ?_, H1, H2, H3, Hmk2, h5⟩, rfl⟩
        go_num
    · have hkn : k = n := by omega
      rw [hkn, List.take_of_length_le (by rw [Hn.out]; omega)] at hrow
      have hc := hbx.out.cell
      subst hkn
      gi_wp2_with fail
      refine leaves_marks1 _ _ hmk.out (fun w' hf => ⟨v, by simp [results, Tryz.results41, go_sem], v, rfl, ?_, ?_, ?_⟩)
      · exact ownsRow_k_mono (ownsRow_fr0 hrow.out hf (fun g hg h => row_not_mark hrow.out hg h.2)) (Nat.zero_le _)
      · exact hfr.out.trans' hf (fun k hk h => by have := HB.out; omega)
      · exact fun g hg => by have := (hrow.out.lt g hg).1; have := HB.out; omega
theorem named_is (HK : KeysDoes) (HS : SortedDoes) (h : SpaceIs w sb mb nv lim nx L) (a : Option Addr) (n cap : Nat) (S : List Bs) (hn : S.length = n) (hm : n ≤ 1000) (hc : Cells w a (S.map strV)) :
    Calls Tryz.prog 41 #[.pointer (some ⟨sb, 0, none⟩), .slice a n cap] w (PortsPost (namedL L S) w) := callsIn_wide.1 (named_in HK HS h a n cap S hn hm hc)
end Go.Proofs.YtieeloealklkgaaGreatDoor

/-
  slices.Sorted(maps.Keys(..)) at a space's ports.
-/
namespace Go.Proofs.YtieeloealklkgaaGreatDoor
open Go.RowKit Go.Maps Go.Sort Go.Shelf

theorem sortsIn (m : Nat) : AnyZI.SortsIn Tryz.prog Tryz.sortedI_f87_ren Fence.wide m :=
  ⟨fun blk off cap ss W hH hblk hsz => callsIn_wide.2 (AnyM.slices_Sort_int Tryz.sortI_f117 blk off cap ss W hH hblk hsz),
   fun p cap W => callsIn_wide.2 (AnyM.slices_Sort_int_none Tryz.sortI_f117 p cap W)⟩
theorem keysDoes : KeysDoes := fun mb W => callsIn_wide.1 (AnyZI.keys_in Tryz.keysI_f88 Fence.wide 5 trivial rfl mb W)
theorem sortedDoes : SortedDoes := by
  intro b L w hL hm hown
  have hbl := hown.lt
  have hseq : SeqGives Fence.wide 2 Tryz.prog 118 #[.pointer (some ⟨w.heap.size, 0, none⟩)] encZ (fun ss => ss.Perm (intKeys (datP L))) (Maps.size (datP L)) (w.alloc (.cells #[.map (some b)] 38)) :=
    AnyZI.keys_gives (ρ := Tryz.keysI_f88_ren) { Tryz.keysI_f88 with } Fence.wide _ trivial rfl (by omega) w.heap.size b L.length (datP L) _ (by simp) (by simp) (by
      obtain ⟨es, clock, hb, Ft, hs, hD⟩ := hown
      exact ⟨es, clock, (Below.heap_alloc _ _ b hbl).trans hb, Ft, hs, hD⟩)
  have hsz : Maps.size (datP L) = L.length := size_dat L
  have cS := AnyZI.sorted_in Tryz.sortedI_f87 Fence.wide 5 trivial trivial trivial trivial rfl (by omega) (sortsIn _) (enters_of Tryz.func117 (by kernel_rfl) rfl) 118 #[.pointer (some ⟨w.heap.size, 0, none⟩)] trivial (enters_of Tryz.func118 (by kernel_rfl) rfl) _ _ (by rw [hsz]; unfold maxLen; omega) (by rw [hsz]; omega) _ hseq
  change CallsIn _ _ Tryz.prog 87 _ _ _ at cS
  refine (callsIn_wide.1 cS).mono ?_
  rintro e w' ⟨v, ss, rfl, hS, hrow, _, hb⟩
  have hs1 : ss.mergeSort (fun x y => decide (x ≤ y)) = L.map (·.number) := by
    rw [← sort_dat hL]; exact mergeSort_of_perm_i hS
  have hs2 : ss.length = L.length := by rw [hS.length_eq, keys_dat, List.length_map]
  rw [hs1, hs2, World.size_alloc, List.map_map] at hrow
  rw [World.size_alloc] at hb
  exact ⟨v, rfl, hrow, hb⟩
end Go.Proofs.YtieeloealklkgaaGreatDoor

/-
  The names of ports as a set: plain Lean.
-/
namespace Go.Proofs.YtieeloealklkgaaGreatDoor
open Go.RowKit

theorem SpOK.set {lim nx : Int} {L : List Pt} (h : SpOK lim nx L) : setB (namesP L) = true :=
  setB_of (namesP_sorted L) (fun x hx => by obtain ⟨p, hp, rfl⟩ := (namesP_mem L x).1 hx; exact h.right p hp) (by rw [h.names_length]; have := h.small; omega)
theorem namesP_del {lim nx : Int} {L : List Pt} (h : SpOK lim nx L) {p : Pt} (hp : p ∈ L) : delB p.name (namesP L) = namesP (delP L p.number) := by
  refine sorted_ext _ _ (delB_sorted _ _ (namesP_sorted L)) (namesP_sorted _) (fun z => ?_)
  rw [delB_mem, namesP_mem, namesP_mem]
  constructor
  · rintro ⟨⟨q, hq, rfl⟩, hne⟩
    exact ⟨q, delP_mem.2 ⟨hq, fun e => hne (by rw [h.num_inj hq hp e])⟩, rfl⟩
  · rintro ⟨q, hq, rfl⟩
    obtain ⟨hq, hne⟩ := delP_mem.1 hq
    exact ⟨⟨q, hq, rfl⟩, fun e => hne (by rw [h.name_inj hq hp e])⟩
theorem namesP_ren {lim nx : Int} {L : List Pt} (h : SpOK lim nx L) {p : Pt} (hp : p ∈ L) (s : Bs) : insB s (delB p.name (namesP L)) = namesP (renP L p.number s) := by
  refine sorted_ext _ _ (insB_sorted _ _ (delB_sorted _ _ (namesP_sorted L))) (namesP_sorted _) (fun z => ?_)
  rw [insB_mem, delB_mem, namesP_mem, namesP_mem]
  constructor
  · rintro (rfl | ⟨⟨q, hq, rfl⟩, hne⟩)
    · exact ⟨_, renP_mem.2 (.inr ⟨p, hp, rfl, rfl⟩), rfl⟩
    · exact ⟨q, renP_mem.2 (.inl ⟨hq, fun e => hne (by rw [h.num_inj hq hp e])⟩), rfl⟩
  · rintro ⟨q, hq, rfl⟩
    rcases renP_mem.1 hq with ⟨q1, q2⟩ | ⟨x, q1, q2, rfl⟩
    · exact .inr ⟨⟨q, q1, rfl⟩, fun e => q2 (by rw [h.name_inj q1 hp e])⟩
    · exact .inl rfl
end Go.Proofs.YtieeloealklkgaaGreatDoor

/-
  Get, has, Names, Find.
-/
namespace Go.Proofs.YtieeloealklkgaaGreatDoor
open Go.RowKit Go.Maps
attribute [local go_sem ↓] Go.wp_at_zero Go.wp_at_succ
variable {w w' : World} {sb mb : Nat} {nv : Value} {lim nx : Int} {L : List Pt}

def getE (L : List Pt) (n : Int) : Int := if (atP L n).isSome = true then 0 else 6
def getP (L : List Pt) (n : Int) : Pt := (atP L n).getD noPt
/-- What Get, Close, Find return. -/
def PtPost (p : Pt) (E : Int) (w : World) (e : Ending) (w' : World) : Prop := e = .returned (.tuple #[ptV p, .int .i64 E]) ∧ Fr0 none' w w'
theorem SpaceIs.look (h : SpaceIs w sb mb nv lim nx L) {n : Int} (hn : -9223372036854775808 ≤ n ∧ n ≤ 9223372036854775807) :
    (Instr.lookup 38 (.map (some mb)) (.int .i64 n) true).run Tryz.prog w = .ok (.tuple #[ptV (getP L n), .bool (atP L n).isSome]) w := by
  obtain ⟨v, ps, hrun, hv⟩ := h.mp.look_ok intK Tryz.underlying38 (zero_pt w) (ptR_ptV noPt) (key_int hn)
  rw [at_dat] at hv
  rw [has_dat] at hrun
  have : v = ptV (getP L n) := by
    unfold getP
    cases hq : atP L n with
    | none => rw [hq] at hv; exact ptR_inv hv
    | some p => rw [hq] at hv; exact ptR_inv hv
  rw [← this]; exact hrun
set_option maxRecDepth 100000 in
set_option maxHeartbeats 1000000 in
theorem Get_is (h : SpaceIs w sb mb nv lim nx L) (n : Int) (hn : -9223372036854775808 ≤ n ∧ n ≤ 9223372036854775807) : Calls Tryz.prog 13 #[.pointer (some ⟨sb, 0, none⟩), .int .i64 n] w (PtPost (getP L n) (getE L n) w) := by
  obtain ⟨W, hW⟩ : ∃ W, w.alloc (.cells #[.int .i64 0, .string ⟨#[]⟩, .int .i64 0] 43) = W := ⟨_, rfl⟩
  have fW : Fr0 none' w W := by rw [← hW]; exact (Fr0.refl _ _).alloc _
  have hI := h.later fW
  have hl := hI.look hn
  have hx : W.heap[w.heap.size]? = some (.cells #[.int .i64 0, .string ⟨#[]⟩, .int .i64 0] 43) := by rw [← hW]; exact World.alloc_heap_new w _
  have d3 : W.cell? ⟨sb, 3, none⟩ = some (.map (some mb)) := by rw [cells_in hI.hd]; rfl
  have x0 := cells_in hx 0
  have x1 := cells_in hx 1
  have x2 := cells_in hx 2
  simp at x0 x1 x2
  have y0 := thaw_in hx 0
  have y1 := thaw_in hx 1
  have y2 := thaw_in hx 2
  have hlt : w.heap.size < W.heap.size := by rw [← hW]; simp
  have HI := Lib.hid hI
  have FW := Lib.hid fW
  have HW := Lib.hid hW
  obtain ⟨B, hB⟩ : ∃ B, w.heap.size = B := ⟨_, rfl⟩
  rw [hB] at x0 x1 x2 y0 y1 y2 hlt
  have HB := Lib.hid hB
  have hre : getE L n = if (atP L n).isSome = true then 0 else 6 := rfl
  rw [hre]
  obtain ⟨p, hp⟩ : ∃ p, getP L n = p := ⟨_, rfl⟩
  rw [hp] at hl ⊢
  have hpn : (atP L n).isSome = false → p = noPt := fun hq => by
    rw [← hp]; unfold getP
    cases hqq : atP L n with
    | none => rfl
    | some q => rw [hqq] at hq; cases hq
  have Hpn := Lib.hid hpn
  clear h hx hI fW hW hB hre hp hpn
  cases hq : (atP L n).isSome
  · rw [hq] at hl
    obtain rfl := Hpn.out hq
    clear hq
    simp only [ptV, noPt] at hl ⊢
    go_enter Tryz.func13, Tryz.ntmps13
    go_wp2_with fail
    rw [HB.out, HW.out]
    refine HI.out.is.mono ?_
    rintro e w1 ⟨rfl, rfl⟩
    go_wp2
    refine bodyPost_ret (v := .tuple #[.agg #[.int .i64 0, .string ⟨#[]⟩, .int .i64 0], .int .i64 6]) (by simp [results, Tryz.results13, go_sem, x0, x1, x2, hlt]) rfl ⟨rfl, ?_⟩
    have := HB.out
    exact ((((FW.out.setCell (fun h => by omega) _).setCell (fun h => by omega) _).setCell (fun h => by omega) _)).alloc _
  · rw [hq] at hl
    clear hq
    obtain ⟨p1, p2, p3⟩ := p
    simp only [ptV] at hl ⊢
    go_enter Tryz.func13, Tryz.ntmps13
    go_wp2_with fail
    rw [HB.out, HW.out]
    refine HI.out.is.mono ?_
    rintro e w1 ⟨rfl, rfl⟩
    go_wp2
    refine bodyPost_ret (v := .tuple #[.agg #[.int .i64 p1, .string (bs p2), .int .i64 p3], .int .i64 0]) (by simp [results, Tryz.results13, go_sem, x0, x1, x2, hlt]) rfl ⟨rfl, ?_⟩
    have := HB.out
    exact ((((FW.out.setCell (fun h => by omega) _).setCell (fun h => by omega) _).setCell (fun h => by omega) _)).alloc _
end Go.Proofs.YtieeloealklkgaaGreatDoor

/-
  has, Names, Find, Under.
-/
namespace Go.Proofs.YtieeloealklkgaaGreatDoor
open Go.RowKit Go.Maps
attribute [local go_sem ↓] Go.wp_at_zero Go.wp_at_succ
variable {w w' : World} {sb mb : Nat} {nv : Value} {lim nx : Int} {L : List Pt}

set_option maxRecDepth 100000 in
set_option maxHeartbeats 1000000 in
theorem has_is (h : SpaceIs w sb mb nv lim nx L) (s : Bs) (hs : rightB s = true) (b : Bool) (hb : (nameP L s).isSome = b) : Calls Tryz.prog 33 #[.pointer (some ⟨sb, 0, none⟩), .string (bs s)] w fun e w' => e = .returned (.bool b) ∧ Fr0 none' w w' := by
  obtain ⟨a, cap, rfl, _, _, _, hc, _, _⟩ := ownsRow_cells h.nm
  have hF := fun lo (hlo : lowN (namesP L) s = lo) => Find_mem a L.length cap (namesP L) s h.ok.set hs h.ok.names_length b (by
    rw [← hb, Bool.eq_iff_iff, decide_eq_true_iff]; exact namesP_has L s) lo hlo w hc
  obtain ⟨lo, hlo⟩ : ∃ lo, lowN (namesP L) s = lo := ⟨_, rfl⟩
  have HF := Lib.hid (hF lo hlo)
  have d4 : w.cell? ⟨sb, 4, none⟩ = some (.slice a L.length cap) := by rw [cells_in h.hd]; rfl
  obtain ⟨m, hm⟩ : ∃ m, L.length = m := ⟨_, rfl⟩
  rw [hm] at HF d4
  clear h hc hF hlo hm hb
  go_enter Tryz.func33, Tryz.ntmps33
  go_wp2_with fail
  refine HF.out.mono ?_
  rintro e w1 ⟨rfl, hbe⟩
  have F := Lib.hid (below_to0 hbe)
  clear hbe
  go_wp2
  go_ret
  exact ⟨rfl, F.out⟩

/-- A row of names behind a slice. -/
def NamesPost (S : List Bs) (w : World) (e : Ending) (w' : World) : Prop := ∃ v, e = .returned v ∧ w'.ownsRow w.heap.size 9 1 v S.length (S.map strV) ∧ Fr0 none' w w'
set_option maxRecDepth 100000 in
set_option maxHeartbeats 1000000 in
theorem Names_is (h : SpaceIs w sb mb nv lim nx L) : Calls Tryz.prog 10 #[.pointer (some ⟨sb, 0, none⟩)] w (NamesPost (namesP L) w) := by
  obtain ⟨a, cap, rfl, _, _, _, hc, _, _⟩ := ownsRow_cells h.nm
  have hC := Clone_any a L.length cap (namesP L) w h.ok.names_length (by have := h.ok.small; omega) hc
  have d4 : w.cell? ⟨sb, 4, none⟩ = some (.slice a L.length cap) := by rw [cells_in h.hd]; rfl
  have hnl := h.ok.names_length
  obtain ⟨m, hm⟩ : ∃ m, L.length = m := ⟨_, rfl⟩
  rw [hm] at hC d4 hnl
  have HC := Lib.hid hC
  have HI := Lib.hid h
  have Hnl := Lib.hid hnl
  clear h hc hC hm hnl
  go_enter Tryz.func10, Tryz.ntmps10
  go_wp2_with (go_at_call 32; refine HI.out.is.mono ?_; rintro e w1 ⟨rfl, rfl⟩)
  refine HC.out.mono ?_
  rintro e w1 ⟨v, rfl, hrow, _, hbe⟩
  have Hp : Hid (NamesPost (namesP L) w (.returned v) w1) := ⟨v, rfl, by rw [Hnl.out]; exact hrow, below_to0 hbe⟩
  clear hrow hbe
  go_wp2
  go_ret
  exact Hp.out

theorem filter_name {lim nx : Int} {L : List Pt} (h : SpOK lim nx L) (s : Bs) : L.filter (fun p => p.name == s) = (nameP L s).toList := by
  cases hq : nameP L s with
  | none =>
    rw [List.filter_eq_nil_iff.2]
    · rfl
    · intro p hp; simpa using nameP_none.1 hq p hp
  | some q =>
    obtain ⟨hq1, hq2⟩ := (nameP_some h.names).1 hq
    have : L.filter (fun p => p.name == s) = L.filter (fun p => p == q) := List.filter_congr (fun p hp => by
      by_cases e : p = q
      · subst e; rw [hq2]; simp
      · have : p.name ≠ s := fun e' => e (h.name_inj hp hq1 (e'.trans hq2.symm))
        rw [beq_eq_false_iff_ne.2 this, beq_eq_false_iff_ne.2 e])
    rw [this]
    have hn : L.Nodup := (List.pairwise_map.1 h.names).imp (fun h e => h (by rw [e]))
    have key : ∀ M : List Pt, M.Nodup → q ∈ M → M.filter (fun p => p == q) = [q] := by
      intro M
      induction M with
      | nil => intro _ hm; cases hm
      | cons y r ih =>
        intro hM hm
        obtain ⟨g1, g2⟩ := List.nodup_cons.1 hM
        rcases List.mem_cons.1 hm with e | hm
        · subst e
          rw [List.filter_cons_of_pos (by simp), List.filter_eq_nil_iff.2 (fun z hz => by
            simp only [beq_iff_eq]; exact fun e => g1 (e ▸ hz))]
        · have hne : y ≠ q := fun e => g1 (e ▸ hm)
          rw [List.filter_cons_of_neg (by simpa using hne), ih g2 hm]
    exact key L hn hq1
def findE (L : List Pt) (s : Bs) : Int := if rightB s = false then 40 else if (nameP L s).isSome = true then 0 else 6
def findP (L : List Pt) (s : Bs) : Pt := if rightB s = false then noPt else (nameP L s).getD noPt
theorem one_str (w : World) (s : Bs) : Cells (w.alloc (.cells #[.string (bs s)] 9)) (some ⟨w.heap.size, 0, none⟩) ([s].map strV) := fun j x hj => by
  have h0 : j = 0 := by
    have := (List.getElem?_eq_some_iff.1 hj).1
    simp at this; exact this
  subst h0
  refine ⟨_, _, rfl, ?_⟩
  simp [strV] at hj
  subst hj
  rw [cells_in (World.alloc_heap_new w _)]; rfl
theorem port_cells {w : World} {base : Nat} {v : Value} {p : Pt} {r : List Pt} {n : Nat} (h : w.ownsRow base 43 3 v n (flatP (p :: r))) :
    ∃ g cap, v = .slice (some ⟨g, 0, none⟩) n cap ∧ g < w.heap.size ∧ w.cell? ⟨g, 0, none⟩ = some (.int .i64 p.number) ∧ w.cell? ⟨g, 1, none⟩ = some (.string (bs p.name)) ∧ w.cell? ⟨g, 2, none⟩ = some (.int .i64 p.process) := by
  have hl := h.1
  rcases h.2 with ⟨rfl, h0⟩ | ⟨g, cap, cur, rfl, hb, hg, hn, hcm, hs, ht⟩
  · rw [h0] at hl; simp [flatP, ptC] at hl
  · refine ⟨g, cap, rfl, (Array.getElem?_eq_some_iff.1 hg).1, ?_, ?_, ?_⟩ <;>
    · rw [cells_in hg, ← Array.getElem?_toList]
      have h1 : ∀ j, j < n * 3 → cur.toList[j]? = (flatP (p :: r))[j]? := fun j hj => by rw [← ht, List.getElem?_take_of_lt hj]
      rw [h1 _ (by rw [← hl]; simp [flatP, ptC])]
      rfl

set_option maxRecDepth 100000 in
set_option maxHeartbeats 1000000 in
theorem Find_is (h : SpaceIs w sb mb nv lim nx L) (s : Bs) (hsl : s.length ≤ 1000) : Calls Tryz.prog 14 #[.pointer (some ⟨sb, 0, none⟩), .string (bs s)] w (PtPost (findP L s) (findE L s) w) := by
  have HR := Right_any (bs s)
  have HR := Lib.hid (fun W => HR W (by rw [size_bs]; unfold maxLen; omega))
  obtain ⟨W, hW⟩ : ∃ W, w.alloc (.cells #[.int .i64 0, .string ⟨#[]⟩, .int .i64 0] 43) = W := ⟨_, rfl⟩
  have fW : Fr0 none' w W := by rw [← hW]; exact (Fr0.refl _ _).alloc _
  have hI := h.later fW
  have hx : W.heap[w.heap.size]? = some (.cells #[.int .i64 0, .string ⟨#[]⟩, .int .i64 0] 43) := by rw [← hW]; exact World.alloc_heap_new w _
  have x0 := cells_in hx 0
  have x1 := cells_in hx 1
  have x2 := cells_in hx 2
  simp at x0 x1 x2
  have y0 := thaw_in hx 0
  have y1 := thaw_in hx 1
  have y2 := thaw_in hx 2
  have hlt : w.heap.size < W.heap.size := by rw [← hW]; simp
  have HI := Lib.hid hI
  have FW := Lib.hid fW
  have HW := Lib.hid hW
  have Hx := Lib.hid hx
  obtain ⟨B, hB⟩ : ∃ B, w.heap.size = B := ⟨_, rfl⟩
  rw [hB] at x0 x1 x2 y0 y1 y2 hlt Hx
  have HB := Lib.hid hB
  clear h hx hI fW hW hB
  cases hr : rightB s
  · have e1 : findP L s = noPt := by unfold findP; rw [if_pos hr]
    have e2 : findE L s = 40 := by unfold findE; rw [if_pos hr]
    rw [e1, e2]
    have HR2 := Lib.hid (fun W => by have := HR.out W; rw [toList_bs, hr] at this; exact this)
    clear e1 e2 hr
    go_enter Tryz.func14, Tryz.ntmps14
    go_wp2_with fail
    rw [HB.out, HW.out]
    refine HI.out.is.mono ?_
    rintro e w1 ⟨rfl, rfl⟩
    go_wp2_with fail
    refine (HR2.out _).mono ?_
    rintro e w1 ⟨rfl, rfl⟩
    go_wp2
    refine bodyPost_ret (v := .tuple #[.agg #[.int .i64 0, .string ⟨#[]⟩, .int .i64 0], .int .i64 40]) (by simp [results, Tryz.results14, go_sem, x0, x1, x2, hlt]) rfl ⟨rfl, ?_⟩
    have := HB.out
    exact ((FW.out.setCell (fun h => by omega) _).setCell (fun h => by omega) _).setCell (fun h => by omega) _
  · have HR2 := Lib.hid (fun W => by have := HR.out W; rw [toList_bs, hr] at this; exact this)
    have hN : namedL L [s] = (nameP L s).toList := by rw [← filter_name HI.out.ok]; simp [namedL]
    have HN := Lib.hid (fun (V : World) (hV : Fr0 none' W V) => named_is keysDoes sortedDoes ((HI.out.later hV).later ((Fr0.refl none' V).alloc (.cells #[.string (bs s)] 9))) (some ⟨V.heap.size, 0, none⟩) 1 1 [s] rfl (by omega) (one_str V s))
    rw [hN] at HN
    cases hq : nameP L s with
    | none =>
      have e1 : findP L s = noPt := by unfold findP; rw [if_neg (by simp [hr]), hq]; rfl
      have e2 : findE L s = 6 := by unfold findE; rw [if_neg (by simp [hr]), hq]; rfl
      rw [e1, e2]
      rw [hq] at HN
      clear e1 e2 hr hq hN
      go_enter Tryz.func14, Tryz.ntmps14
      go_wp2_with fail
      rw [HB.out, HW.out]
      refine HI.out.is.mono ?_
      rintro e w1 ⟨rfl, rfl⟩
      go_wp2_with fail
      refine (HR2.out _).mono ?_
      rintro e w1 ⟨rfl, rfl⟩
      go_wp2_with fail
      refine (HN.out W (Fr0.refl _ _)).mono ?_
      rintro e w1 ⟨v, rfl, hrow, hf, _⟩
      have hv : ∃ a c, v = .slice a 0 c := by
        rcases hrow.2 with ⟨rfl, _⟩ | ⟨g, cap, cur, rfl, _⟩
        · exact ⟨_, _, rfl⟩
        · exact ⟨_, _, rfl⟩
      obtain ⟨a, c, rfl⟩ := hv
      have f1 : Fr0 none' W w1 := ((Fr0.refl none' W).alloc _).trans hf
      have hx1 := (f1.block B hlt id).trans Hx.out
      have x0 := cells_in hx1 0
      have x1 := cells_in hx1 1
      have x2 := cells_in hx1 2
      simp at x0 x1 x2
      have y0 := thaw_in hx1 0
      have y1 := thaw_in hx1 1
      have y2 := thaw_in hx1 2
      have F1 := Lib.hid (FW.out.trans f1)
      clear hrow hf f1 hx1
      go_wp2
      refine bodyPost_ret (v := .tuple #[.agg #[.int .i64 0, .string ⟨#[]⟩, .int .i64 0], .int .i64 6]) (by simp [results, Tryz.results14, go_sem, x0, x1, x2, hlt]) rfl ⟨rfl, ?_⟩
      have := HB.out
      exact ((F1.out.setCell (fun h => by omega) _).setCell (fun h => by omega) _).setCell (fun h => by omega) _
    | some p =>
      have e1 : findP L s = p := by unfold findP; rw [if_neg (by simp [hr]), hq]; rfl
      have e2 : findE L s = 0 := by unfold findE; rw [if_neg (by simp [hr]), hq]; rfl
      rw [e1, e2]
      rw [hq] at HN
      clear e1 e2 hr hq hN
      obtain ⟨p1, p2, p3⟩ := p
      go_enter Tryz.func14, Tryz.ntmps14
      go_wp2_with fail
      rw [HB.out, HW.out]
      refine HI.out.is.mono ?_
      rintro e w1 ⟨rfl, rfl⟩
      go_wp2_with fail
      refine (HR2.out _).mono ?_
      rintro e w1 ⟨rfl, rfl⟩
      go_wp2_with fail
      refine (HN.out W (Fr0.refl _ _)).mono ?_
      rintro e w1 ⟨v, rfl, hrow, hf, _⟩
      obtain ⟨g, c, rfl, hgl, g0, g1, g2⟩ := port_cells hrow
      have f1 : Fr0 none' W w1 := ((Fr0.refl none' W).alloc _).trans hf
      have hx1 := (f1.block B hlt id).trans Hx.out
      have x0 := cells_in hx1 0
      have x1 := cells_in hx1 1
      have x2 := cells_in hx1 2
      simp at x0 x1 x2
      have y0 := thaw_in hx1 0
      have y1 := thaw_in hx1 1
      have y2 := thaw_in hx1 2
      have F1 := Lib.hid (FW.out.trans f1)
      simp only [Option.toList_some, List.length_cons, List.length_nil, Nat.zero_add] at *
      clear hrow hf f1 hx1
      go_wp2
      refine bodyPost_ret (v := .tuple #[.agg #[.int .i64 p1, .string (bs p2), .int .i64 p3], .int .i64 0]) (by simp [results, Tryz.results14, go_sem, x0, x1, x2, hlt]) rfl ⟨rfl, ?_⟩
      have := HB.out
      exact ((F1.out.setCell (fun h => by omega) _).setCell (fun h => by omega) _).setCell (fun h => by omega) _
end Go.Proofs.YtieeloealklkgaaGreatDoor

/-
  An assignment to a key that a map does not have, in its two steps.
-/
namespace Go.Proofs.YtieeloealklkgaaGreatDoor
open Go.RowKit Go.Maps Go.ChangeMaps
open Go.WideElems (Fit)

theorem entry_new {H : Type} {P : Program} {k e t : TypeId} {R : Value → Option (DataW H × List MemPlace)} {w : World} {b n : Nat} {D : DataW H} (h : w.ownsMap P k R b n D) (K : Keyed P k) (ht : P.underlying t = some (.map k e)) (hn : n < maxLen)
    {z : Value} (hz : ∀ u : World, (zeroValue e).run P u = .ok z u) {key : Value} {kl : Lit} (hkey : keyOf P k key = some kl) (hhas : Maps.has D kl = false) {val : Value} {d : DataW H} {ps : List MemPlace} (hv : R val = some (d, ps)) :
    ∃ (o1 o2 : Obj) (st : Int), (Instr.mapEntry t (.map (some b)) key).run P w = .ok (.tuple #[z, .int .i64 st]) (setBlock w b o1) ∧
      (∀ w2 : World, w2.heap[b]? = some o1 → (Instr.entryStore t (.map (some b)) (.int .i64 st) val).run P w2 = .ok () (setBlock w2 b o2)) ∧
      ∀ w3 : World, w3.heap[b]? = some o2 → w3.ownsMap P k R b (n + 1) (D.put kl d) := by
  obtain ⟨w', hup, hown', _⟩ := h.store K ht hn hkey hv
  obtain ⟨es, clock, hb, F, hs, hD⟩ := h
  subst hD
  rcases Maps.fit_look true K ht (hz w) hb F hkey with ⟨_, hno, _⟩ | ⟨e0, y, _, _, _, _, hat, _⟩
  · rcases K.find w hkey es.toList F.keys with ⟨h1, _⟩ | ⟨j, e0, _, h2, h3⟩
    · have hc : (Instr.checkKey false 10000 k key).run P w = .ok () w := K.check w false hkey
      refine ⟨.map (es.push ⟨key, z, clock⟩) (clock + 1), .map (es.push ⟨key, val, clock⟩) (clock + 1), clock, ?_, fun w2 hw2 => ?_, fun w3 hw3 => ?_⟩
      · simp [Instr.mapEntry, run_underlying ht, MapKept.run_getObj_map hb, hc, h1, hz, MapKept.run_setObj_map _ hb, Result.andThen, setBlock, goInt]
      · have hidx : (es.push ⟨key, z, clock⟩).findIdx? (fun x => ((x.born : Nat) : Int) == ((clock : Nat) : Int)) = some es.size := by
          rw [WideElems.findIdx_arr]
          obtain ⟨s1, s2, _⟩ := F.stamped
          refine WideElems.findIdx_born (e0 := ⟨key, z, clock⟩) ?_ (by simp)
          rw [Array.toList_push, List.map_append, List.nodup_append]
          refine ⟨s2, by simp, fun a ha c hc => ?_⟩
          obtain ⟨x, hx, rfl⟩ := List.mem_map.1 ha
          simp at hc
          have := s1 x hx
          omega
        have hmod : (es.push ⟨key, z, clock⟩).modify es.size (fun x => { x with val := val }) = es.push ⟨key, val, clock⟩ := by
          apply Array.ext'
          have := WideElems.modify_last (fun x : MapEntry => { x with val := val }) ⟨key, z, clock⟩ es.toList
          rw [Array.length_toList] at this
          rw [Array.toList_modify, Array.toList_push, Array.toList_push]
          exact this
        simp [Instr.entryStore, MapKept.run_getObj_map hw2, asInt, asIntOf, hidx, hmod, MapKept.run_setObj_map _ hw2, Result.andThen, setBlock]
      · have hup2 : (Instr.mapUpdate t (.map (some b)) key val).run P w = .ok () (setBlock w b (.map (es.push ⟨key, val, clock⟩) (clock + 1))) := by
          simp [Instr.mapUpdate, run_underlying ht, MapKept.run_getObj_map hb, hc, h1, MapKept.run_setObj_map _ hb, Result.andThen, setBlock]
        rw [hup] at hup2
        injection hup2 with _ hw
        obtain ⟨es', clock', hb', r⟩ := hown'
        rw [hw, heap_setBlock_same hb] at hb'
        exact ⟨es', clock', hw3.trans hb', r⟩
    · exact absurd h3 (hno e0 (List.mem_of_getElem? h2))
  · rw [Maps.has_true_of_atKey hat] at hhas; cases hhas
theorem setBlock_same {w : World} {b : Nat} {o o' : Obj} (h : w.heap[b]? = some o) : (setBlock w b o').heap[b]? = some o' := by
  have := (Array.getElem?_eq_some_iff.1 h).1
  simp [setBlock, this]
theorem setBlock_other {w : World} {b i : Nat} {o' : Obj} (h : i ≠ b) : (setBlock w b o').heap[i]? = w.heap[i]? := by
  simp [setBlock, Array.getElem?_setIfInBounds, Ne.symm h]
theorem Fr0.setBlock {S : Nat → Prop} {a w : World} (h : Fr0 S a w) {b : Nat} (hp : b < a.heap.size → S b) (o : Obj) : Fr0 S a (setBlock w b o) :=
  ⟨h.os, h.tape, h.output, by have := h.size; simp [ChangeMaps.setBlock]; omega, fun k hk hs => (setBlock_other (fun e => hs (by subst e; exact hp hk))).trans (h.block k hk hs)⟩
end Go.Proofs.YtieeloealklkgaaGreatDoor

/-
  An assignment to a key that a map does not have, in its two steps (beside the spaces' texts).
-/
namespace Go.Proofs.YtieeloealklkgaaGreatDoor
end Go.Proofs.YtieeloealklkgaaGreatDoor

/-
  Open.
-/
namespace Go.Proofs.YtieeloealklkgaaGreatDoor
open Go.RowKit Go.Maps Go.ChangeMaps
attribute [local go_sem ↓] Go.wp_at_zero Go.wp_at_succ
variable {w w' : World} {sb mb : Nat} {nv : Value} {lim nx : Int} {L : List Pt}

/-- What an act may turn. -/
structure SStep (sb mb : Nat) (nv nv' : Value) (w w' : World) : Prop where
  fr : Fr0 (fun k => k = sb ∨ k = mb) w w'
  own : ∀ g, nv'.ownBlock = some g → nv.ownBlock = some g ∨ w.heap.size ≤ g
theorem SStep.of (sb mb : Nat) (nv : Value) {w w' : World} (h : Fr0 none' w w') : SStep sb mb nv nv w w' := ⟨h.mono (fun _ _ h => h.elim), fun _ h => .inl h⟩
/-- What Open returns. -/
def OpenPost (sb mb : Nat) (nv : Value) (lim nx' : Int) (L' : List Pt) (N E : Int) (w : World) (e : Ending) (w' : World) : Prop :=
  e = .returned (.tuple #[.int .i64 N, .int .i64 E]) ∧ ∃ nv', SpaceIs w' sb mb nv' lim nx' L' ∧ SStep sb mb nv nv' w w'
theorem SpaceIs.step0 (h : SpaceIs w sb mb nv lim nx L) {N E : Int} (hf : Fr0 none' w w') : OpenPost sb mb nv lim nx L N E w (.returned (.tuple #[.int .i64 N, .int .i64 E])) w' := ⟨rfl, nv, h.later hf, SStep.of _ _ _ hf⟩

set_option maxRecDepth 100000 in
set_option maxHeartbeats 2000000 in
theorem Open_no (h : SpaceIs w sb mb nv lim nx L) (s : Bs) (p : Int) (hsl : s.length ≤ 1000) (E : Int) (hE : openE lim nx L s p = E) (hE0 : E ≠ 0) : Calls Tryz.prog 7 #[.pointer (some ⟨sb, 0, none⟩), .string (bs s), .int .i64 p] w (OpenPost sb mb nv lim nx L 0 E w) := by
  have HR := Lib.hid (fun W => by have := Right_any (bs s) W (by rw [size_bs]; unfold maxLen; omega); rw [toList_bs] at this; exact this)
  have hE' := hE
  unfold openE at hE'
  have H := Lib.hid h
  have hsm := h.ok.small
  cases hr : rightB s
  · rw [if_pos hr] at hE'
    subst hE'
    rw [hr] at HR
    clear hE hE0 hr h
    go_enter Tryz.func7, Tryz.ntmps7
    go_wp2_with (go_at_call 32; refine H.out.is.mono ?_; rintro e w1 ⟨rfl, rfl⟩)
    refine (HR.out _).mono ?_
    rintro e w1 ⟨rfl, rfl⟩
    go_wp2
    go_ret2
    exact H.out.step0 (Fr0.refl _ _)
  · rw [if_neg (by simp [hr])] at hE'
    rw [hr] at HR
    by_cases hp : p < 1 ∨ 16 < p
    · rw [if_pos hp] at hE'
      subst hE'
      clear hE hE0 h
      by_cases hp1 : p < 1
      · have d1 : decide (p < 1) = true := decide_eq_true hp1
        clear hr hp
        go_enter Tryz.func7, Tryz.ntmps7
        go_wp2_with (go_at_call 32; refine H.out.is.mono ?_; rintro e w1 ⟨rfl, rfl⟩)
        refine (HR.out _).mono ?_
        rintro e w1 ⟨rfl, rfl⟩
        go_wp2
        go_ret2
        exact H.out.step0 (Fr0.refl _ _)
      · have hp2 : 16 < p := by omega
        have d1 : decide (p < 1) = false := decide_eq_false hp1
        have d2 : decide (16 < p) = true := decide_eq_true hp2
        clear hr hp
        go_enter Tryz.func7, Tryz.ntmps7
        go_wp2_with (go_at_call 32; refine H.out.is.mono ?_; rintro e w1 ⟨rfl, rfl⟩)
        refine (HR.out _).mono ?_
        rintro e w1 ⟨rfl, rfl⟩
        go_wp2
        go_ret2
        exact H.out.step0 (Fr0.refl _ _)
    · rw [if_neg hp] at hE'
      have d1 : decide (p < 1) = false := decide_eq_false (by omega)
      have d2 : decide (16 < p) = false := decide_eq_false (by omega)
      have HH := Lib.hid (fun b hb => has_is h s hr b hb)
      cases hq : (nameP L s).isSome
      · rw [if_neg (by simp [hq])] at hE'
        have HH := Lib.hid (HH.out false hq)
        have d3 : ∀ V : World, Fr0 none' w V → V.cell? ⟨sb, 3, none⟩ = some (.map (some mb)) := fun V hV => by rw [cells_in (h.later hV).hd]; rfl
        have d4 : ∀ V : World, Fr0 none' w V → V.cell? ⟨sb, 1, none⟩ = some (.int .i64 lim) := fun V hV => by rw [cells_in (h.later hV).hd]; rfl
        have d5 : ∀ V : World, Fr0 none' w V → V.cell? ⟨sb, 2, none⟩ = some (.int .i64 nx) := fun V hV => by rw [cells_in (h.later hV).hd]; rfl
        have dl : ∀ V : World, Fr0 none' w V → ∀ ty, (Builtin.len_ #[38] ty #[.map (some mb)]).run Tryz.prog V = .ok (.int .i64 L.length) V := fun V hV ty => by
          have := (h.later hV).mp.len Tryz.underlying38 ty
          rwa [size_dat] at this
        have D3 := Lib.hid d3
        have D4 := Lib.hid d4
        have D5 := Lib.hid d5
        have Dl := Lib.hid dl
        obtain ⟨m, hm⟩ : ∃ m, L.length = m := ⟨_, rfl⟩
        rw [hm] at hE' Dl
        clear h hr hq hp d3 d4 d5 dl hm hE
        by_cases hl : lim ≤ (m : Int)
        · rw [if_pos hl] at hE'
          subst hE'
          have dq : decide (lim ≤ (m : Int)) = true := decide_eq_true hl
          clear hE0
          go_enter Tryz.func7, Tryz.ntmps7
          go_wp2_with (go_at_call 32; refine H.out.is.mono ?_; rintro e w1 ⟨rfl, rfl⟩)
          refine (HR.out _).mono ?_
          rintro e w1 ⟨rfl, rfl⟩
          go_wp2_with fail
          refine HH.out.mono ?_
          rintro e w1 ⟨rfl, hf⟩
          have d3 := D3.out w1.drew hf.drew
          have d4 := D4.out w1.drew hf.drew
          have dl := Dl.out w1.drew hf.drew
          have F := Lib.hid hf.drew
          clear hf
          go_wp2
          refine wp_region_held_drew (S := fun W' => W' = w1.drew) (by kernel_rfl) rfl (fun hHeld => ?_)
          refine take_on (i := 0) (v := .pointer (some ⟨sb, 0, none⟩)) rfl (by kernel_rfl) (by kernel_rfl) (by kernel_rfl) (fun _ _ _ h => h) (by kernel_rfl) (fun W' hSW => ?_) (by assumption) ?_
          · (try dsimp only at hSW); (try subst hSW)
            first | (go_simp; done) | exact rfl | (go_simp; rfl) | (go_simp; omega)
          try simp only [Act.put, List.setIfInBounds_toArray, List.set_cons_zero, List.set_cons_succ]
          refine take_on (i := 1) (v := .pointer (some ⟨sb, 0, none⟩)) rfl (by kernel_rfl) (by kernel_rfl) (by kernel_rfl) (fun _ _ _ h => h) (by kernel_rfl) (fun W' hSW => ?_) (by assumption) ?_
          · (try dsimp only at hSW); (try subst hSW)
            first | (go_simp; done) | exact rfl | (go_simp; rfl) | (go_simp; omega)
          try simp only [Act.put, List.setIfInBounds_toArray, List.set_cons_zero, List.set_cons_succ]
          refine take_on (i := 2) (v := .pointer (some ⟨sb, 3, none⟩)) rfl (by kernel_rfl) (by kernel_rfl) (by kernel_rfl) (fun _ _ _ h => h) (by kernel_rfl) (fun W' hSW => ?_) (by assumption) ?_
          · (try dsimp only at hSW); (try subst hSW)
            first | (go_simp; done) | exact rfl | (go_simp; rfl) | (go_simp; omega)
          try simp only [Act.put, List.setIfInBounds_toArray, List.set_cons_zero, List.set_cons_succ]
          refine take_on (i := 3) (v := .map (some mb)) rfl (by kernel_rfl) (by kernel_rfl) (by kernel_rfl) (fun _ _ _ h => h) (by kernel_rfl) (fun W' hSW => ?_) (by assumption) ?_
          · (try dsimp only at hSW); (try subst hSW)
            first | (go_simp; done) | exact rfl | (go_simp; rfl) | (go_simp; omega)
          try simp only [Act.put, List.setIfInBounds_toArray, List.set_cons_zero, List.set_cons_succ]
          refine take_on (i := 4) (v := .int .i64 m) rfl (by kernel_rfl) (by kernel_rfl) (by kernel_rfl) (fun _ _ _ h => h) (by kernel_rfl) (fun W' hSW => ?_) (by assumption) ?_
          · (try dsimp only at hSW); (try subst hSW)
            first | (go_simp; done) | exact rfl | (go_simp; rfl) | (go_simp; omega)
          try simp only [Act.put, List.setIfInBounds_toArray, List.set_cons_zero, List.set_cons_succ]
          refine take_on (i := 5) (v := .pointer (some ⟨sb, 0, none⟩)) rfl (by kernel_rfl) (by kernel_rfl) (by kernel_rfl) (fun _ _ _ h => h) (by kernel_rfl) (fun W' hSW => ?_) (by assumption) ?_
          · (try dsimp only at hSW); (try subst hSW)
            first | (go_simp; done) | exact rfl | (go_simp; rfl) | (go_simp; omega)
          try simp only [Act.put, List.setIfInBounds_toArray, List.set_cons_zero, List.set_cons_succ]
          refine take_on (i := 6) (v := .pointer (some ⟨sb, 0, none⟩)) rfl (by kernel_rfl) (by kernel_rfl) (by kernel_rfl) (fun _ _ _ h => h) (by kernel_rfl) (fun W' hSW => ?_) (by assumption) ?_
          · (try dsimp only at hSW); (try subst hSW)
            first | (go_simp; done) | exact rfl | (go_simp; rfl) | (go_simp; omega)
          try simp only [Act.put, List.setIfInBounds_toArray, List.set_cons_zero, List.set_cons_succ]
          refine take_on (i := 7) (v := .pointer (some ⟨sb, 1, none⟩)) rfl (by kernel_rfl) (by kernel_rfl) (by kernel_rfl) (fun _ _ _ h => h) (by kernel_rfl) (fun W' hSW => ?_) (by assumption) ?_
          · (try dsimp only at hSW); (try subst hSW)
            first | (go_simp; done) | exact rfl | (go_simp; rfl) | (go_simp; omega)
          try simp only [Act.put, List.setIfInBounds_toArray, List.set_cons_zero, List.set_cons_succ]
          refine take_on (i := 8) (v := .int .i64 lim) rfl (by kernel_rfl) (by kernel_rfl) (by kernel_rfl) (fun _ _ _ h => h) (by kernel_rfl) (fun W' hSW => ?_) (by assumption) ?_
          · (try dsimp only at hSW); (try subst hSW)
            first | (go_simp; done) | exact rfl | (go_simp; rfl) | (go_simp; omega)
          try simp only [Act.put, List.setIfInBounds_toArray, List.set_cons_zero, List.set_cons_succ]
          refine take_on (i := 9) (v := .bool true) rfl (by kernel_rfl) (by kernel_rfl) (by kernel_rfl) (fun _ _ _ h => h) (by kernel_rfl) (fun W' hSW => ?_) (by assumption) ?_
          · (try dsimp only at hSW); (try subst hSW)
            first | (go_simp; done) | exact rfl | (go_simp; rfl) | (go_simp; omega)
          try simp only [Act.put, List.setIfInBounds_toArray, List.set_cons_zero, List.set_cons_succ]
          refine take_on (i := 10) (v := .bool true) rfl (by kernel_rfl) (by kernel_rfl) (by kernel_rfl) (fun _ _ _ h => h) (by kernel_rfl) (fun W' hSW => ?_) (by assumption) ?_
          · (try dsimp only at hSW); (try subst hSW)
            first | (go_simp; done) | exact rfl | (go_simp; rfl) | (go_simp; omega)
          try simp only [Act.put, List.setIfInBounds_toArray, List.set_cons_zero, List.set_cons_succ]
          refine wpAnyH_done (by kernel_rfl) ?_ _
          clear hHeld
          go_wp2
          go_ret2
          exact H.out.step0 F.out
        · rw [if_neg hl] at hE'
          have dq : decide (lim ≤ (m : Int)) = false := decide_eq_false hl
          have hnx : 4294967295 < nx := by
            by_cases hc : 4294967295 < nx
            · exact hc
            · rw [if_neg hc] at hE'; exact absurd hE'.symm hE0
          rw [if_pos hnx] at hE'
          subst hE'
          have dn : decide (4294967295 < nx) = true := decide_eq_true hnx
          clear hE0
          go_enter Tryz.func7, Tryz.ntmps7
          go_wp2_with (go_at_call 32; refine H.out.is.mono ?_; rintro e w1 ⟨rfl, rfl⟩)
          refine (HR.out _).mono ?_
          rintro e w1 ⟨rfl, rfl⟩
          go_wp2_with fail
          refine HH.out.mono ?_
          rintro e w1 ⟨rfl, hf⟩
          have d3 := D3.out w1.drew hf.drew
          have d4 := D4.out w1.drew hf.drew
          have d5 := D5.out w1.drew hf.drew
          have dl := Dl.out w1.drew hf.drew
          have F := Lib.hid hf.drew
          clear hf
          go_wp2
          refine wp_region_held_drew (S := fun W' => W' = w1.drew) (by kernel_rfl) rfl (fun hHeld => ?_)
          refine take_on (i := 0) (v := .pointer (some ⟨sb, 0, none⟩)) rfl (by kernel_rfl) (by kernel_rfl) (by kernel_rfl) (fun _ _ _ h => h) (by kernel_rfl) (fun W' hSW => ?_) (by assumption) ?_
          · (try dsimp only at hSW); (try subst hSW)
            first | (go_simp; done) | exact rfl | (go_simp; rfl) | (go_simp; omega)
          try simp only [Act.put, List.setIfInBounds_toArray, List.set_cons_zero, List.set_cons_succ]
          refine take_on (i := 1) (v := .pointer (some ⟨sb, 0, none⟩)) rfl (by kernel_rfl) (by kernel_rfl) (by kernel_rfl) (fun _ _ _ h => h) (by kernel_rfl) (fun W' hSW => ?_) (by assumption) ?_
          · (try dsimp only at hSW); (try subst hSW)
            first | (go_simp; done) | exact rfl | (go_simp; rfl) | (go_simp; omega)
          try simp only [Act.put, List.setIfInBounds_toArray, List.set_cons_zero, List.set_cons_succ]
          refine take_on (i := 2) (v := .pointer (some ⟨sb, 3, none⟩)) rfl (by kernel_rfl) (by kernel_rfl) (by kernel_rfl) (fun _ _ _ h => h) (by kernel_rfl) (fun W' hSW => ?_) (by assumption) ?_
          · (try dsimp only at hSW); (try subst hSW)
            first | (go_simp; done) | exact rfl | (go_simp; rfl) | (go_simp; omega)
          try simp only [Act.put, List.setIfInBounds_toArray, List.set_cons_zero, List.set_cons_succ]
          refine take_on (i := 3) (v := .map (some mb)) rfl (by kernel_rfl) (by kernel_rfl) (by kernel_rfl) (fun _ _ _ h => h) (by kernel_rfl) (fun W' hSW => ?_) (by assumption) ?_
          · (try dsimp only at hSW); (try subst hSW)
            first | (go_simp; done) | exact rfl | (go_simp; rfl) | (go_simp; omega)
          try simp only [Act.put, List.setIfInBounds_toArray, List.set_cons_zero, List.set_cons_succ]
          refine take_on (i := 4) (v := .int .i64 m) rfl (by kernel_rfl) (by kernel_rfl) (by kernel_rfl) (fun _ _ _ h => h) (by kernel_rfl) (fun W' hSW => ?_) (by assumption) ?_
          · (try dsimp only at hSW); (try subst hSW)
            first | (go_simp; done) | exact rfl | (go_simp; rfl) | (go_simp; omega)
          try simp only [Act.put, List.setIfInBounds_toArray, List.set_cons_zero, List.set_cons_succ]
          refine take_on (i := 5) (v := .pointer (some ⟨sb, 0, none⟩)) rfl (by kernel_rfl) (by kernel_rfl) (by kernel_rfl) (fun _ _ _ h => h) (by kernel_rfl) (fun W' hSW => ?_) (by assumption) ?_
          · (try dsimp only at hSW); (try subst hSW)
            first | (go_simp; done) | exact rfl | (go_simp; rfl) | (go_simp; omega)
          try simp only [Act.put, List.setIfInBounds_toArray, List.set_cons_zero, List.set_cons_succ]
          refine take_on (i := 6) (v := .pointer (some ⟨sb, 0, none⟩)) rfl (by kernel_rfl) (by kernel_rfl) (by kernel_rfl) (fun _ _ _ h => h) (by kernel_rfl) (fun W' hSW => ?_) (by assumption) ?_
          · (try dsimp only at hSW); (try subst hSW)
            first | (go_simp; done) | exact rfl | (go_simp; rfl) | (go_simp; omega)
          try simp only [Act.put, List.setIfInBounds_toArray, List.set_cons_zero, List.set_cons_succ]
          refine take_on (i := 7) (v := .pointer (some ⟨sb, 1, none⟩)) rfl (by kernel_rfl) (by kernel_rfl) (by kernel_rfl) (fun _ _ _ h => h) (by kernel_rfl) (fun W' hSW => ?_) (by assumption) ?_
          · (try dsimp only at hSW); (try subst hSW)
            first | (go_simp; done) | exact rfl | (go_simp; rfl) | (go_simp; omega)
          try simp only [Act.put, List.setIfInBounds_toArray, List.set_cons_zero, List.set_cons_succ]
          refine take_on (i := 8) (v := .int .i64 lim) rfl (by kernel_rfl) (by kernel_rfl) (by kernel_rfl) (fun _ _ _ h => h) (by kernel_rfl) (fun W' hSW => ?_) (by assumption) ?_
          · (try dsimp only at hSW); (try subst hSW)
            first | (go_simp; done) | exact rfl | (go_simp; rfl) | (go_simp; omega)
          try simp only [Act.put, List.setIfInBounds_toArray, List.set_cons_zero, List.set_cons_succ]
          refine take_on (i := 9) (v := .bool false) rfl (by kernel_rfl) (by kernel_rfl) (by kernel_rfl) (fun _ _ _ h => h) (by kernel_rfl) (fun W' hSW => ?_) (by assumption) ?_
          · (try dsimp only at hSW); (try subst hSW)
            first | (go_simp; done) | exact rfl | (go_simp; rfl) | (go_simp; omega)
          try simp only [Act.put, List.setIfInBounds_toArray, List.set_cons_zero, List.set_cons_succ]
          refine take_on (i := 10) (v := .bool false) rfl (by kernel_rfl) (by kernel_rfl) (by kernel_rfl) (fun _ _ _ h => h) (by kernel_rfl) (fun W' hSW => ?_) (by assumption) ?_
          · (try dsimp only at hSW); (try subst hSW)
            first | (go_simp; done) | exact rfl | (go_simp; rfl) | (go_simp; omega)
          try simp only [Act.put, List.setIfInBounds_toArray, List.set_cons_zero, List.set_cons_succ]
          refine wpAnyH_done (by kernel_rfl) ?_ _
          clear hHeld
          go_wp2
          go_ret2
          exact H.out.step0 F.out
      · rw [if_pos hq] at hE'
        subst hE'
        have HH := Lib.hid (HH.out true hq)
        clear hE hE0 h hr hq hp
        go_enter Tryz.func7, Tryz.ntmps7
        go_wp2_with (go_at_call 32; refine H.out.is.mono ?_; rintro e w1 ⟨rfl, rfl⟩)
        refine (HR.out _).mono ?_
        rintro e w1 ⟨rfl, rfl⟩
        go_wp2_with fail
        refine HH.out.mono ?_
        rintro e w1 ⟨rfl, hf⟩
        have F := Lib.hid hf
        clear hf
        go_wp2
        go_ret2
        exact H.out.step0 F.out

/-- A space's block after its next number and its names have turned. -/
theorem hd_turn {W : World} {sb : Nat} {b0 v0 v1 v2 v3 : Value} {ty : TypeId} (h : W.heap[sb]? = some (.cells #[b0, v0, v1, v2, v3] ty (0, 0))) (x y : Value) :
    (W.setCell ⟨sb, 2, none⟩ x).heap[sb]? = some (.cells #[b0, v0, x, v2, v3] ty (0, 0)) ∧ (W.setCell ⟨sb, 4, none⟩ y).heap[sb]? = some (.cells #[b0, v0, v1, v2, y] ty (0, 0)) := by
  constructor <;> simp [World.setCell, Array.getElem?_modify, h]
set_option maxRecDepth 100000 in
set_option maxHeartbeats 4000000 in
theorem Open_ok (h : SpaceIs w sb mb nv lim nx L) (s : Bs) (p : Int) (hr : rightB s = true) (hp : 1 ≤ p ∧ p ≤ 16) (hq : nameP L s = none) (hl : (L.length : Int) < lim) (hnx : nx ≤ 4294967295) :
    Calls Tryz.prog 7 #[.pointer (some ⟨sb, 0, none⟩), .string (bs s), .int .i64 p] w (OpenPost sb mb nv lim (nx + 1) (L ++ [⟨nx, s, p⟩]) nx 0 w) := by
  have HR := Lib.hid (fun W => by have := Right_any (bs s) W (by rw [size_bs]; have := rightB_len hr; unfold maxLen; omega); rw [toList_bs, hr] at this; exact this)
  have H := Lib.hid h
  have hsm := h.ok.small
  have hbd := h.ok.nxt
  have d1 : decide (p < 1) = false := decide_eq_false (by omega)
  have d2 : decide (16 < p) = false := decide_eq_false (by omega)
  have HH := Lib.hid (has_is h s hr false (by rw [hq]; rfl))
  have D3 := Lib.hid (show ∀ V : World, Fr0 none' w V → V.cell? ⟨sb, 3, none⟩ = some (.map (some mb)) from fun V hV => by rw [cells_in (h.later hV).hd]; rfl)
  have D4 := Lib.hid (show ∀ V : World, Fr0 none' w V → V.cell? ⟨sb, 1, none⟩ = some (.int .i64 lim) from fun V hV => by rw [cells_in (h.later hV).hd]; rfl)
  have D5 := Lib.hid (show ∀ V : World, Fr0 none' w V → V.cell? ⟨sb, 2, none⟩ = some (.int .i64 nx) from fun V hV => by rw [cells_in (h.later hV).hd]; rfl)
  have Dl := Lib.hid (show ∀ V : World, Fr0 none' w V → ∀ ty, (Builtin.len_ #[38] ty #[.map (some mb)]).run Tryz.prog V = .ok (.int .i64 L.length) V from fun V hV ty => by
    have := (h.later hV).mp.len Tryz.underlying38 ty
    rwa [size_dat] at this)
  have hnin : ¬ s ∈ namesP L := fun hm => by have := (namesP_has L s).1 hm; rw [hq] at this; cases this
  have hA1 : addL (namesP L) s = insB s (namesP L) := by unfold addL; rw [h.ok.set, hr, h.ok.names_length, decide_eq_true (show L.length < 256 by omega), Bool.or_true]; rfl
  have hA2 : addE (namesP L) s = 0 := by unfold addE; rw [h.ok.set, hr, if_neg (by simp), if_neg (by simp), if_neg hnin, h.ok.names_length, if_pos (by omega)]
  have hok := h.ok.open' hr hp hq hl hnx
  have hlen : (insB s (namesP L)).length = (L ++ [(⟨nx, s, p⟩ : Pt)]).length := by rw [← hok.names_length, namesP_open]
  obtain ⟨a, cap, rfl, _, _, _, hc, _, _⟩ := ownsRow_cells h.nm
  have HAd := Lib.hid (show ∀ V : World, Fr0 none' w V → Calls Tryz.prog 34 #[.slice a L.length cap, .string (bs s)] V (RowPost (insB s (namesP L)) (L ++ [(⟨nx, s, p⟩ : Pt)]).length 0 V) from fun V hV => by
    have := Add_any a L.length cap (namesP L) s V h.ok.names_length (by omega) (fun q hq => by have := setB_short h.ok.set q hq; omega) (by have := rightB_len hr; omega) (hc.of_blocks (S := none') hV.block (fun _ _ _ _ => id))
    rwa [hA1, hA2, hlen] at this)
  have D6 := Lib.hid (show ∀ V : World, Fr0 none' w V → V.cell? ⟨sb, 4, none⟩ = some (.slice a L.length cap) from fun V hV => by rw [cells_in (h.later hV).hd]; rfl)
  have Hok := Lib.hid hok
  have Hne := Lib.hid h.ne
  have Hlt := Lib.hid h.lt
  obtain ⟨m, hm⟩ : ∃ m, L.length = m := ⟨_, rfl⟩
  rw [hm] at hl Dl HAd D6 hsm
  have dq : decide (lim ≤ (m : Int)) = false := decide_eq_false (by omega)
  have dn : decide (4294967295 < nx) = false := decide_eq_false (by omega)
  have Hm := Lib.hid hm
  have z1 : IntKind.i64.wrap (nx + 1) = nx + 1 := IntWalk.i64_in _ (by omega)
  clear h hr hq hc hnin hA1 hA2 hok hlen hm
  go_enter Tryz.func7, Tryz.ntmps7
  go_wp2_with (go_at_call 32; refine H.out.is.mono ?_; rintro e w1 ⟨rfl, rfl⟩)
  refine (HR.out _).mono ?_
  rintro e w1 ⟨rfl, rfl⟩
  go_wp2_with fail
  refine HH.out.mono ?_
  rintro e w1 ⟨rfl, hf⟩
  have d3 := D3.out w1.drew hf.drew
  have d4 := D4.out w1.drew hf.drew
  have d5 := D5.out w1.drew hf.drew
  have d6 := D6.out w1.drew hf.drew
  have dl := Dl.out w1.drew hf.drew
  have F := Lib.hid hf.drew
  clear hf
  go_wp2
  refine wp_region_held_drew (S := fun W' => W' = w1.drew) (by kernel_rfl) rfl (fun hHeld => ?_)
  refine take_on (i := 0) (v := .pointer (some ⟨sb, 0, none⟩)) rfl (by kernel_rfl) (by kernel_rfl) (by kernel_rfl) (fun _ _ _ h => h) (by kernel_rfl) (fun W' hSW => ?_) (by assumption) ?_
  · (try dsimp only at hSW); (try subst hSW)
    first | (go_simp; done) | exact rfl | (go_simp; rfl) | (go_simp; omega)
  try simp only [Act.put, List.setIfInBounds_toArray, List.set_cons_zero, List.set_cons_succ]
  refine take_on (i := 1) (v := .pointer (some ⟨sb, 0, none⟩)) rfl (by kernel_rfl) (by kernel_rfl) (by kernel_rfl) (fun _ _ _ h => h) (by kernel_rfl) (fun W' hSW => ?_) (by assumption) ?_
  · (try dsimp only at hSW); (try subst hSW)
    first | (go_simp; done) | exact rfl | (go_simp; rfl) | (go_simp; omega)
  try simp only [Act.put, List.setIfInBounds_toArray, List.set_cons_zero, List.set_cons_succ]
  refine take_on (i := 2) (v := .pointer (some ⟨sb, 3, none⟩)) rfl (by kernel_rfl) (by kernel_rfl) (by kernel_rfl) (fun _ _ _ h => h) (by kernel_rfl) (fun W' hSW => ?_) (by assumption) ?_
  · (try dsimp only at hSW); (try subst hSW)
    first | (go_simp; done) | exact rfl | (go_simp; rfl) | (go_simp; omega)
  try simp only [Act.put, List.setIfInBounds_toArray, List.set_cons_zero, List.set_cons_succ]
  refine take_on (i := 3) (v := .map (some mb)) rfl (by kernel_rfl) (by kernel_rfl) (by kernel_rfl) (fun _ _ _ h => h) (by kernel_rfl) (fun W' hSW => ?_) (by assumption) ?_
  · (try dsimp only at hSW); (try subst hSW)
    first | (go_simp; done) | exact rfl | (go_simp; rfl) | (go_simp; omega)
  try simp only [Act.put, List.setIfInBounds_toArray, List.set_cons_zero, List.set_cons_succ]
  refine take_on (i := 4) (v := .int .i64 m) rfl (by kernel_rfl) (by kernel_rfl) (by kernel_rfl) (fun _ _ _ h => h) (by kernel_rfl) (fun W' hSW => ?_) (by assumption) ?_
  · (try dsimp only at hSW); (try subst hSW)
    first | (go_simp; done) | exact rfl | (go_simp; rfl) | (go_simp; omega)
  try simp only [Act.put, List.setIfInBounds_toArray, List.set_cons_zero, List.set_cons_succ]
  refine take_on (i := 5) (v := .pointer (some ⟨sb, 0, none⟩)) rfl (by kernel_rfl) (by kernel_rfl) (by kernel_rfl) (fun _ _ _ h => h) (by kernel_rfl) (fun W' hSW => ?_) (by assumption) ?_
  · (try dsimp only at hSW); (try subst hSW)
    first | (go_simp; done) | exact rfl | (go_simp; rfl) | (go_simp; omega)
  try simp only [Act.put, List.setIfInBounds_toArray, List.set_cons_zero, List.set_cons_succ]
  refine take_on (i := 6) (v := .pointer (some ⟨sb, 0, none⟩)) rfl (by kernel_rfl) (by kernel_rfl) (by kernel_rfl) (fun _ _ _ h => h) (by kernel_rfl) (fun W' hSW => ?_) (by assumption) ?_
  · (try dsimp only at hSW); (try subst hSW)
    first | (go_simp; done) | exact rfl | (go_simp; rfl) | (go_simp; omega)
  try simp only [Act.put, List.setIfInBounds_toArray, List.set_cons_zero, List.set_cons_succ]
  refine take_on (i := 7) (v := .pointer (some ⟨sb, 1, none⟩)) rfl (by kernel_rfl) (by kernel_rfl) (by kernel_rfl) (fun _ _ _ h => h) (by kernel_rfl) (fun W' hSW => ?_) (by assumption) ?_
  · (try dsimp only at hSW); (try subst hSW)
    first | (go_simp; done) | exact rfl | (go_simp; rfl) | (go_simp; omega)
  try simp only [Act.put, List.setIfInBounds_toArray, List.set_cons_zero, List.set_cons_succ]
  refine take_on (i := 8) (v := .int .i64 lim) rfl (by kernel_rfl) (by kernel_rfl) (by kernel_rfl) (fun _ _ _ h => h) (by kernel_rfl) (fun W' hSW => ?_) (by assumption) ?_
  · (try dsimp only at hSW); (try subst hSW)
    first | (go_simp; done) | exact rfl | (go_simp; rfl) | (go_simp; omega)
  try simp only [Act.put, List.setIfInBounds_toArray, List.set_cons_zero, List.set_cons_succ]
  refine take_on (i := 9) (v := .bool false) rfl (by kernel_rfl) (by kernel_rfl) (by kernel_rfl) (fun _ _ _ h => h) (by kernel_rfl) (fun W' hSW => ?_) (by assumption) ?_
  · (try dsimp only at hSW); (try subst hSW)
    first | (go_simp; done) | exact rfl | (go_simp; rfl) | (go_simp; omega)
  try simp only [Act.put, List.setIfInBounds_toArray, List.set_cons_zero, List.set_cons_succ]
  refine take_on (i := 10) (v := .bool false) rfl (by kernel_rfl) (by kernel_rfl) (by kernel_rfl) (fun _ _ _ h => h) (by kernel_rfl) (fun W' hSW => ?_) (by assumption) ?_
  · (try dsimp only at hSW); (try subst hSW)
    first | (go_simp; done) | exact rfl | (go_simp; rfl) | (go_simp; omega)
  try simp only [Act.put, List.setIfInBounds_toArray, List.set_cons_zero, List.set_cons_succ]
  refine wpAnyH_done (by kernel_rfl) ?_ _
  clear hHeld
  clear dl d3 d4
  go_wp2_with fail
  refine (HAd.out _ F.out).mono ?_
  rintro e w2 ⟨v, rfl, hrow, hbe⟩
  have f2 : Fr0 none' w w2 := F.out.of_below hbe
  have Hrow := Lib.hid (own_le hrow F.out.size)
  have hrl := hrow.lt
  have Hrl := Lib.hid (show ∀ g, v.ownBlock = some g → w.heap.size ≤ g ∧ g < w2.heap.size from fun g hg => by have := hrl g hg; have := F.out.size; omega)
  have hI2 := H.out.later f2
  have e2 := D5.out w2 f2
  have e3 := D3.out w2 f2
  have y2 := thaw_in hI2.hd 2
  have y4 := thaw_in hI2.hd 4
  have hsl2 := hI2.lt sb (.inl rfl)
  have HI2 := Lib.hid hI2
  have F2 := Lib.hid f2
  obtain ⟨va, vq, vc, rfl⟩ : ∃ va vq vc, v = .slice va vq vc := by
    obtain ⟨A, c, rfl, _⟩ := ownsRow_cells Hrow.out
    exact ⟨A, _, c, rfl⟩
  clear hrow hbe hrl hI2 f2 d5 d6
  go_wp2_with fail
  obtain ⟨V, hV⟩ : ∃ V, (w2.setCell ⟨sb, 2, none⟩ (.int .i64 (nx + 1))).alloc (.cells #[.int .i64 nx, .string (bs s), .int .i64 p] 43) = V := ⟨_, rfl⟩
  rw [hV]
  have hdV : V.heap[sb]? = some (.cells #[.bool true, .int .i64 lim, .int .i64 (nx + 1), .map (some mb), .slice a L.length cap] 40 (0, 0)) := by
    rw [← hV]
    exact (Below.heap_alloc _ _ sb (by simpa [World.setCell] using hsl2)).trans (hd_turn HI2.out.hd _ (.int .i64 0)).1
  have hpV : V.heap[w2.heap.size]? = some (.cells #[.int .i64 nx, .string (bs s), .int .i64 p] 43) := by
    rw [← hV]
    have := World.alloc_heap_new (w2.setCell ⟨sb, 2, none⟩ (.int .i64 (nx + 1))) (.cells #[.int .i64 nx, .string (bs s), .int .i64 p] 43)
    simpa [World.setCell] using this
  have fV : Fr0 (fun k => k = sb) w2 V := by rw [← hV]; exact ((Fr0.refl (fun k => k = sb) w2).setCell (b := sb) (o := 2) (fun _ => rfl) _).alloc _
  obtain ⟨B, hB⟩ : ∃ B, w2.heap.size = B := ⟨_, rfl⟩
  rw [hB] at hpV ⊢
  have g3 : V.cell? ⟨sb, 3, none⟩ = some (.map (some mb)) := by rw [cells_in hdV]; rfl
  have g4 : V.cell? ⟨sb, 4, none⟩ = some (.slice a L.length cap) := by rw [cells_in hdV]; rfl
  have p0 := cells_in hpV 0
  have p1 := cells_in hpV 1
  have p2 := cells_in hpV 2
  simp at p0 p1 p2
  have t4 := thaw_in hdV 4
  have hsB : sb ≠ B := by omega
  have HV := Lib.hid (show V.heap[sb]? = _ ∧ V.heap[B]? = _ ∧ Fr0 (fun k => k = sb) w2 V from ⟨hdV, hpV, fV⟩)
  have HB := Lib.hid hB
  have mpV : V.ownsMap Tryz.prog 3 ptR mb L.length (datP L) := ownsMap_fr0 HI2.out.mp fV (fun e => Hne.out.1 e.symm)
  have mpV2 : (V.setCell ⟨sb, 4, none⟩ (.slice va vq vc)).drew.ownsMap Tryz.prog 3 ptR mb L.length (datP L) := (mpV.setCell (Ne.symm Hne.out.1) _).drew
  obtain ⟨o1, o2, st, hr1, hr2, hr3⟩ := entry_new mpV2 intK Tryz.underlying38 (by rw [Hm.out]; unfold maxLen; omega) zero_pt (key_int (n := nx) (by omega)) (by
    rw [has_dat, atP_none.2 (fun q hq => by have := (HI2.out.ok.lo q hq).2; omega)]; rfl) (val := ptV ⟨nx, s, p⟩) (ptR_ptV _)
  simp only [ptV] at hr2
  have hmbV : ∃ o, (V.setCell ⟨sb, 4, none⟩ (.slice va vq vc)).drew.heap[mb]? = some o := ⟨_, Array.getElem?_eq_getElem mpV2.lt⟩
  have hr2' := hr2 (setBlock (V.setCell ⟨sb, 4, none⟩ (.slice va vq vc)).drew mb o1) (setBlock_same hmbV.choose_spec)
  have Hr3 := Lib.hid hr3
  have Hmb := Lib.hid hmbV
  clear hr2 hr3 mpV mpV2 hmbV hV hdV hpV fV hB e2 e3 y2 y4 hsl2
  refine wp_region_held_drew (S := fun W' => W'.cell? ⟨B, 0, none⟩ = some (.int .i64 nx) ∧ W'.cell? ⟨B, 1, none⟩ = some (.string (bs s)) ∧ W'.cell? ⟨B, 2, none⟩ = some (.int .i64 p) ∧ W'.cell? ⟨sb, 3, none⟩ = some (.map (some mb))) (by kernel_rfl) ⟨p0, p1, p2, g3⟩ (fun hHeld => ?_)
  refine take_on (i := 0) (v := .pointer (some ⟨sb, 0, none⟩)) rfl (by kernel_rfl) (by kernel_rfl) (by kernel_rfl) (fun _ _ _ h => h) (by kernel_rfl) (fun W' hSW => ?_) (by assumption) ?_
  · (try dsimp only at hSW)
    first | (go_simp; done) | exact rfl | (go_simp; rfl) | (go_simp; omega)
  try simp only [Act.put, List.setIfInBounds_toArray, List.set_cons_zero, List.set_cons_succ]
  refine take_on (i := 1) (v := .pointer (some ⟨sb, 0, none⟩)) rfl (by kernel_rfl) (by kernel_rfl) (by kernel_rfl) (fun _ _ _ h => h) (by kernel_rfl) (fun W' hSW => ?_) (by assumption) ?_
  · (try dsimp only at hSW)
    first | (go_simp; done) | exact rfl | (go_simp; rfl) | (go_simp; omega)
  try simp only [Act.put, List.setIfInBounds_toArray, List.set_cons_zero, List.set_cons_succ]
  refine take_on (i := 2) (v := .pointer (some ⟨sb, 0, none⟩)) rfl (by kernel_rfl) (by kernel_rfl) (by kernel_rfl) (fun _ _ _ h => h) (by kernel_rfl) (fun W' hSW => ?_) (by assumption) ?_
  · (try dsimp only at hSW)
    first | (go_simp; done) | exact rfl | (go_simp; rfl) | (go_simp; omega)
  try simp only [Act.put, List.setIfInBounds_toArray, List.set_cons_zero, List.set_cons_succ]
  refine take_on (i := 3) (v := .pointer (some ⟨sb, 3, none⟩)) rfl (by kernel_rfl) (by kernel_rfl) (by kernel_rfl) (fun _ _ _ h => h) (by kernel_rfl) (fun W' hSW => ?_) (by assumption) ?_
  · (try dsimp only at hSW)
    first | (go_simp; done) | exact rfl | (go_simp; rfl) | (go_simp; omega)
  try simp only [Act.put, List.setIfInBounds_toArray, List.set_cons_zero, List.set_cons_succ]
  refine take_on (i := 4) (v := .map (some mb)) rfl (by kernel_rfl) (by kernel_rfl) (by kernel_rfl) (fun _ _ _ h => h) (by kernel_rfl) (fun W' hSW => ?_) (by assumption) ?_
  · (try dsimp only at hSW)
    first | (go_simp; done) | exact rfl | (go_simp; rfl) | (go_simp; omega)
  try simp only [Act.put, List.setIfInBounds_toArray, List.set_cons_zero, List.set_cons_succ]
  refine take_on (i := 5) (v := .pointer (some ⟨B, 0, none⟩)) rfl (by kernel_rfl) (by kernel_rfl) (by kernel_rfl) (fun _ _ _ h => h) (by kernel_rfl) (fun W' hSW => ?_) (by assumption) ?_
  · (try dsimp only at hSW)
    first | (go_simp; done) | exact rfl | (go_simp; rfl) | (go_simp; omega)
  try simp only [Act.put, List.setIfInBounds_toArray, List.set_cons_zero, List.set_cons_succ]
  refine take_on (i := 6) (v := .int .i64 nx) rfl (by kernel_rfl) (by kernel_rfl) (by kernel_rfl) (fun _ _ _ h => h) (by kernel_rfl) (fun W' hSW => ?_) (by assumption) ?_
  · (try dsimp only at hSW)
    first | (go_simp; done) | exact rfl | (go_simp; rfl) | (go_simp; omega)
  try simp only [Act.put, List.setIfInBounds_toArray, List.set_cons_zero, List.set_cons_succ]
  refine take_on (i := 7) (v := .slice va vq vc) rfl (by kernel_rfl) (by kernel_rfl) (by kernel_rfl) (fun _ _ _ h => h) (by kernel_rfl) (fun W' hSW => ?_) (by assumption) ?_
  · (try dsimp only at hSW)
    first | (go_simp; done) | exact rfl | (go_simp; rfl) | (go_simp; omega)
  try simp only [Act.put, List.setIfInBounds_toArray, List.set_cons_zero, List.set_cons_succ]
  refine take_on (i := 8) (v := .agg #[.int .i64 nx, .string (bs s), .int .i64 p]) rfl (by kernel_rfl) (by kernel_rfl) (by kernel_rfl) (fun _ _ _ h => h) (by kernel_rfl) (fun W' hSW => ?_) (by assumption) ?_
  · (try dsimp only at hSW)
    first | (go_simp; done) | exact rfl | (go_simp; rfl) | (go_simp; omega)
  try simp only [Act.put, List.setIfInBounds_toArray, List.set_cons_zero, List.set_cons_succ]
  refine take_on (i := 9) (v := .pointer (some ⟨sb, 0, none⟩)) rfl (by kernel_rfl) (by kernel_rfl) (by kernel_rfl) (fun _ _ _ h => h) (by kernel_rfl) (fun W' hSW => ?_) (by assumption) ?_
  · (try dsimp only at hSW)
    first | (go_simp; done) | exact rfl | (go_simp; rfl) | (go_simp; omega)
  try simp only [Act.put, List.setIfInBounds_toArray, List.set_cons_zero, List.set_cons_succ]
  refine take_on (i := 10) (v := .pointer (some ⟨sb, 4, none⟩)) rfl (by kernel_rfl) (by kernel_rfl) (by kernel_rfl) (fun _ _ _ h => h) (by kernel_rfl) (fun W' hSW => ?_) (by assumption) ?_
  · (try dsimp only at hSW)
    first | (go_simp; done) | exact rfl | (go_simp; rfl) | (go_simp; omega)
  try simp only [Act.put, List.setIfInBounds_toArray, List.set_cons_zero, List.set_cons_succ]
  refine take_call (i := 11) rfl (by kernel_rfl) (by kernel_rfl) (fun K hK => ?_)
  go_simp
  refine hK.out _ _ ⟨(World.cell?_setCell_far V ⟨sb, 4, none⟩ ⟨B, 0, none⟩ _ (by simp; omega)).trans p0, (World.cell?_setCell_far V ⟨sb, 4, none⟩ ⟨B, 1, none⟩ _ (by simp; omega)).trans p1, (World.cell?_setCell_far V ⟨sb, 4, none⟩ ⟨B, 2, none⟩ _ (by simp; omega)).trans p2, (World.cell?_setCell_other V ⟨sb, 4, none⟩ ⟨sb, 3, none⟩ _ (by simp)).trans g3⟩ (fun hHeld2 => ?_)
  clear hK K
  try simp only [Act.put, List.setIfInBounds_toArray, List.set_cons_zero, List.set_cons_succ]
  refine take_call (i := 12) rfl (by kernel_rfl) (by kernel_rfl) (fun K hK => ?_)
  go_simp
  obtain ⟨V2, hV2⟩ : ∃ V2, (V.setCell ⟨sb, 4, none⟩ (.slice va vq vc)).drew = V2 := ⟨_, rfl⟩
  rw [hV2] at hr1 hr2' ⊢
  have hmV2 : ∃ o, V2.heap[mb]? = some o := hV2 ▸ Hmb.out
  have hBm : B ≠ mb := by have := Hlt.out mb (.inr (.inl rfl)); have := F2.out.size; have := HB.out; omega
  have hpB2 : V2.heap[B]? = some (.cells #[.int .i64 nx, .string (bs s), .int .i64 p] 43) := by rw [← hV2]; exact (Below.heap_setCell V ⟨sb, 4, none⟩ _ B (Ne.symm hsB)).trans HV.out.2.1
  have hdB2 : V2.heap[sb]? = some (.cells #[.bool true, .int .i64 lim, .int .i64 (nx + 1), .map (some mb), .slice va vq vc] 40 (0, 0)) := by rw [← hV2]; exact (hd_turn HV.out.1 (.int .i64 0) _).2
  have fV2 : Fr0 (fun k => k = sb) w2 V2 := by rw [← hV2]; exact (HV.out.2.2.setCell (fun _ => rfl) _).drew
  have HV2 := Lib.hid (show V2.heap[B]? = _ ∧ V2.heap[sb]? = _ ∧ Fr0 (fun k => k = sb) w2 V2 from ⟨hpB2, hdB2, fV2⟩)
  have key : ∀ V3 : World, (∀ i, i ≠ mb → V3.heap[i]? = V2.heap[i]?) → V3.cell? ⟨B, 0, none⟩ = some (.int .i64 nx) ∧ V3.cell? ⟨B, 1, none⟩ = some (.string (bs s)) ∧ V3.cell? ⟨B, 2, none⟩ = some (.int .i64 p) ∧ V3.cell? ⟨sb, 3, none⟩ = some (.map (some mb)) := fun V3 h3 => by
    have a1 := (h3 B hBm).trans HV2.out.1
    have a2 := (h3 sb Hne.out.1).trans HV2.out.2.1
    refine ⟨?_, ?_, ?_, ?_⟩
    · rw [cells_in a1]; rfl
    · rw [cells_in a1]; rfl
    · rw [cells_in a1]; rfl
    · rw [cells_in a2]; rfl
  have Key := Lib.hid key
  clear hpB2 hdB2 fV2 key hV2 p0 p1 p2 g3 g4 t4
  refine hK.out _ _ (Key.out _ (fun i hi => setBlock_other hi)) (fun hHeld3 => ?_)
  clear hK K hr1
  try simp only [Act.put, List.setIfInBounds_toArray, List.set_cons_zero, List.set_cons_succ]
  refine take_on (i := 13) (v := .int .i64 st) rfl (by kernel_rfl) (by kernel_rfl) (by kernel_rfl) (fun _ _ _ h => h) (by kernel_rfl) (fun W' hSW => ?_) (by assumption) ?_
  · (try dsimp only at hSW)
    first | (go_simp; done) | exact rfl | (go_simp; rfl) | (go_simp; omega)
  try simp only [Act.put, List.setIfInBounds_toArray, List.set_cons_zero, List.set_cons_succ]
  refine take_call (i := 14) rfl (by kernel_rfl) (by kernel_rfl) (fun K hK => ?_)
  go_simp
  refine hK.out _ _ (Key.out _ (fun i hi => (setBlock_other hi).trans (setBlock_other hi))) (fun hHeld4 => ?_)
  clear hK K hr2'
  try simp only [Act.put, List.setIfInBounds_toArray, List.set_cons_zero, List.set_cons_succ]
  refine wpAnyH_done (by kernel_rfl) ?_ _
  clear hHeld hHeld2 hHeld3 hHeld4
  obtain ⟨V4, hV4⟩ : ∃ V4, setBlock (setBlock V2 mb o1) mb o2 = V4 := ⟨_, rfl⟩
  rw [hV4]
  obtain ⟨p0, p1, p2, _⟩ := Key.out V4 (fun i hi => by rw [← hV4]; exact (setBlock_other hi).trans (setBlock_other hi))
  have hfin : OpenPost sb mb (.slice a L.length cap) lim (nx + 1) (L ++ [⟨nx, s, p⟩]) nx 0 w (.returned (.tuple #[.int .i64 nx, .int .i64 0])) V4 := by
    have hmb4 : V4.heap[mb]? = some o2 := by rw [← hV4]; exact setBlock_same (setBlock_same hmV2.choose_spec)
    have fr4 : Fr0 (fun k => k = sb ∨ k = mb) w V4 := by
      rw [← hV4]
      exact (((F2.out.mono (fun _ _ h => h.elim)).trans' HV2.out.2.2 (fun _ _ h => .inl h)).setBlock (fun _ => .inr rfl) _).setBlock (fun _ => .inr rfl) _
    have hlt1 := Hlt.out sb (.inl rfl)
    have hlt2 := Hlt.out mb (.inr (.inl rfl))
    refine ⟨rfl, .slice va vq vc, ⟨?_, ?_, ?_, Hok.out, Hne.out.1, fun g hg => ?_⟩, fr4, fun g hg => .inr (Hrl.out g hg).1⟩
    · rw [← hV4]; exact (setBlock_other Hne.out.1).trans ((setBlock_other Hne.out.1).trans HV2.out.2.1)
    · have := Hr3.out V4 hmb4
      rw [datP_new L ⟨nx, s, p⟩ (fun q hq => (HI2.out.ok.lo q hq).2)] at this
      rw [List.length_append]; exact this
    · rw [namesP_open]
      refine own_le (ownsRow_fr0 Hrow.out (S := fun k => k = sb ∨ k = mb) ?_ (fun g hg h => ?_)) (Nat.zero_le _)
      · rw [← hV4]
        exact (((HV2.out.2.2.mono (fun _ _ h => .inl h))).setBlock (fun _ => .inr rfl) _).setBlock (fun _ => .inr rfl) _
      · have := Hrl.out g hg
        rcases h with rfl | rfl
        · omega
        · omega
    · have := Hrl.out g hg
      omega
  have Hfin := Lib.hid hfin
  clear hV4 hfin hmV2
  go_wp2
  go_ret2
  exact Hfin.out
end Go.Proofs.YtieeloealklkgaaGreatDoor

/-
  Close.
-/
namespace Go.Proofs.YtieeloealklkgaaGreatDoor
open Go.RowKit Go.Maps Go.ChangeMaps
attribute [local go_sem ↓] Go.wp_at_zero Go.wp_at_succ
variable {w w' : World} {sb mb : Nat} {nv : Value} {lim nx : Int} {L : List Pt}

theorem ownsMap_tight {b n : Nat} {D : DataW Unit} (h : w.ownsMap Tryz.prog 3 ptR b n D) : w.ownsMap Tryz.prog 3 ptR b (Maps.size D) D := by
  obtain ⟨es, clock, hb, F, hs, rfl⟩ := h
  exact ⟨es, clock, hb, F, by simp [Maps.size, length_sorted], rfl⟩
/-- What Close returns. -/
def ClosePost (sb mb : Nat) (nv : Value) (lim nx : Int) (L' : List Pt) (p : Pt) (E : Int) (w : World) (e : Ending) (w' : World) : Prop :=
  e = .returned (.tuple #[ptV p, .int .i64 E]) ∧ ∃ nv', SpaceIs w' sb mb nv' lim nx L' ∧ SStep sb mb nv nv' w w'
set_option maxRecDepth 100000 in
set_option maxHeartbeats 4000000 in
theorem Close_ok (h : SpaceIs w sb mb nv lim nx L) (q : Pt) (hq : q ∈ L) :
    Calls Tryz.prog 11 #[.pointer (some ⟨sb, 0, none⟩), .int .i64 q.number] w (ClosePost sb mb nv lim nx (delP L q.number) q 0 w) := by
  have hsm := h.ok.small
  have hqn := h.ok.lo q hq
  have hbd := h.ok.nxt
  have hG := fun V (hV : Fr0 none' w V) => Get_is (h.later hV) q.number (by omega)
  have hq1 : getP L q.number = q := by unfold getP; rw [(atP_some h.ok.ord).2 ⟨hq, rfl⟩]; rfl
  have hq2 : getE L q.number = 0 := by unfold getE; rw [(atP_some h.ok.ord).2 ⟨hq, rfl⟩]; rfl
  rw [hq1, hq2] at hG
  have hin : q.name ∈ namesP L := (namesP_mem L q.name).2 ⟨q, hq, rfl⟩
  have hD1 : dropL (namesP L) q.name = delB q.name (namesP L) := by unfold dropL; rw [h.ok.set, h.ok.right q hq, decide_eq_true hin]; rfl
  have hD2 : dropE (namesP L) q.name = 0 := by unfold dropE; rw [h.ok.set, h.ok.right q hq, if_neg (by simp), if_neg (by simp), if_pos hin]
  have hok := h.ok.del q.number
  have hlen : (delB q.name (namesP L)).length = (delP L q.number).length := by rw [← hok.names_length, namesP_del h.ok hq]
  obtain ⟨a, cap, rfl, _, _, _, hc, _, _⟩ := ownsRow_cells h.nm
  have HDr := Lib.hid (show ∀ V : World, (∀ k, k < w.heap.size → k ≠ mb → V.heap[k]? = w.heap[k]?) → Calls Tryz.prog 40 #[.slice a L.length cap, .string (bs q.name)] V (RowPost (delB q.name (namesP L)) (delP L q.number).length 0 V) from fun V hV => by
    have := Drop_any a L.length cap (namesP L) q.name V h.ok.names_length (by omega) (fun x hx => by have := setB_short h.ok.set x hx; omega) (by have := rightB_len (h.ok.right q hq); omega) (hc.of_blocks (S := fun k => k = mb) (fun k h1 h2 => hV k h1 h2) (fun b off s' ha e => by
      subst ha
      exact (h.ne.2 b rfl).2 e))
    rwa [hD1, hD2, hlen] at this)
  have HG := Lib.hid hG
  have H := Lib.hid h
  have Hok := Lib.hid hok
  have Hne := Lib.hid h.ne
  have Hlt := Lib.hid h.lt
  have Hdel := Lib.hid (namesP_del h.ok hq)
  have hkq := key_int (n := q.number) (by omega)
  obtain ⟨m, hm⟩ : ∃ m, L.length = m := ⟨_, rfl⟩
  have Hm := Lib.hid hm
  obtain ⟨q1, q2, q3⟩ := q
  simp only at *
  clear h hq hG hq1 hq2 hin hD1 hD2 hok hlen hc hm hqn
  obtain ⟨W0, hW0⟩ : ∃ W0, w.alloc (.cells #[.int .i64 0, .string ⟨#[]⟩, .int .i64 0] 43) = W0 := ⟨_, rfl⟩
  have hC0 : W0.heap[w.heap.size]? = some (.cells #[.int .i64 0, .string ⟨#[]⟩, .int .i64 0] 43) := by rw [← hW0]; exact World.alloc_heap_new w _
  have f0 : Fr0 none' w W0 := by rw [← hW0]; exact (Fr0.refl _ _).alloc _
  obtain ⟨C, hCe⟩ : ∃ C, w.heap.size = C := ⟨_, rfl⟩
  have HCn := Lib.hid (show w.heap.size ≤ C by omega)
  have HCl := Lib.hid (show C ≤ w.heap.size by omega)
  go_enter Tryz.func11, Tryz.ntmps11
  go_wp2_with fail
  rw [hCe] at hC0
  have HC0 := Lib.hid hC0
  have F0 := Lib.hid f0
  clear hCe hW0 hC0 f0
  refine (HG.out W0 F0.out).mono ?_
  rintro e w1 ⟨rfl, hf⟩
  simp only [ptV]
  have f1 : Fr0 none' w w1 := F0.out.trans hf
  have hI1 := H.out.later f1
  have d3 : w1.cell? ⟨sb, 3, none⟩ = some (.map (some mb)) := by rw [cells_in hI1.hd]; rfl
  have hsl : sb < w1.heap.size := hI1.lt sb (.inl rfl)
  have HC1 := Lib.hid ((hf.block C (Array.getElem?_eq_some_iff.1 HC0.out).1 id).trans HC0.out)
  have F1 := Lib.hid f1
  have HI1 := Lib.hid hI1
  have mp1 := hI1.mp.alloc (.cells #[.int .i64 q1, .string (bs q2), .int .i64 q3] 43)
  obtain ⟨B, hB⟩ : ∃ B, w1.heap.size = B := ⟨_, rfl⟩
  have HB := Lib.hid hB
  obtain ⟨V1, hV1⟩ : ∃ V1, w1.alloc (.cells #[.int .i64 q1, .string (bs q2), .int .i64 q3] 43) = V1 := ⟨_, rfl⟩
  have HV1 := Lib.hid hV1
  rw [hV1] at mp1
  have d3' : V1.cell? ⟨sb, 3, none⟩ = some (.map (some mb)) := by rw [← hV1]; exact (World.cell?_alloc_some _ _ _ (by rw [d3]; rfl)).trans d3
  clear f1 hI1 hf d3
  obtain ⟨V, hrun, hVm, hVt⟩ := mp1.drop intK Tryz.underlying38 hkq 0
  rw [datP_del] at hVm
  have hVm := ownsMap_tight hVm
  rw [size_dat] at hVm
  obtain ⟨es, clock, es', clock', hes, hVe⟩ := hVt
  have fV1 : Fr0 (fun k => k = mb) V1 V := by rw [hVe]; exact (Fr0.refl (fun k => k = mb) V1).setBlock (fun _ => rfl) _
  have f01 : Fr0 none' w V1 := by rw [← hV1]; exact F1.out.alloc _
  have fm : Fr0 (fun k => k = mb) w V := (f01.mono (fun _ _ h => h.elim)).trans' fV1 (fun _ _ h => h)
  have hg1 := Hlt.out sb (.inl rfl)
  have hg2 := Hlt.out mb (.inr (.inl rfl))
  have hBz : w.heap.size ≤ B := by rw [← hB]; exact F1.out.size
  have hCB : C < B := by rw [← hB]; exact (Array.getElem?_eq_some_iff.1 HC1.out).1
  have hCz := HCn.out
  have hsB : sb ≠ B := by omega
  have FV := Lib.hid (show Fr0 (fun k => k = sb ∨ k = mb) w V ∧ (∀ k, k < w.heap.size → k ≠ mb → V.drew.heap[k]? = w.heap[k]?) from ⟨fm.mono (fun _ _ h => .inr h), fm.block⟩)
  have HV := Lib.hid (show V.heap[sb]? = some (.cells #[.bool true, .int .i64 lim, .int .i64 nx, .map (some mb), .slice a L.length cap] 40 (0, 0)) ∧ V.heap[B]? = some (.cells #[.int .i64 q1, .string (bs q2), .int .i64 q3] 43 (0, 0)) ∧ V.ownsMap Tryz.prog 3 ptR mb (delP L q1).length (datP (delP L q1)) from
    ⟨(fm.block sb hg1 Hne.out.1).trans H.out.hd, (fV1.block B (by rw [← hV1, World.size_alloc, hB]; omega) (by omega)).trans (by rw [← hV1, ← hB]; exact World.alloc_heap_new w1 _), hVm⟩)
  have HC := Lib.hid (show V.heap[C]? = some (.cells #[.int .i64 0, .string ⟨#[]⟩, .int .i64 0] 43 (0, 0)) ∧ C ≠ sb from
    ⟨(fV1.block C (by rw [← hV1, World.size_alloc, hB]; omega) (by omega)).trans (by rw [← hV1]; exact (Below.heap_alloc w1 _ C (by rw [hB]; exact hCB)).trans HC1.out), by omega⟩)
  have v4 : V.cell? ⟨sb, 4, none⟩ = some (.slice a L.length cap) := by rw [cells_in HV.out.1]; rfl
  have vb : V.cell? ⟨B, 1, none⟩ = some (.string (bs q2)) := by rw [cells_in HV.out.2.1]; rfl
  clear hVm hVe hes fV1 f01 fm hCz hBz hCB hg1 hg2
  go_wp2_with fail
  clear hrun d3' hB hV1 mp1
  refine wp_region_held_drew (S := fun _ => True) (by kernel_rfl) trivial (fun hHeld => ?_)
  refine take_on (i := 0) (v := .pointer (some ⟨sb, 0, none⟩)) rfl (by kernel_rfl) (by kernel_rfl) (by kernel_rfl) (fun _ _ _ h => h) (by kernel_rfl) (fun W' hSW => ?_) trivial ?_
  · first | (go_simp; done) | exact rfl | (go_simp; rfl) | (go_simp; omega)
  try simp only [Act.put, List.setIfInBounds_toArray, List.set_cons_zero, List.set_cons_succ]
  refine take_on (i := 1) (v := .pointer (some ⟨sb, 0, none⟩)) rfl (by kernel_rfl) (by kernel_rfl) (by kernel_rfl) (fun _ _ _ h => h) (by kernel_rfl) (fun W' hSW => ?_) trivial ?_
  · first | (go_simp; done) | exact rfl | (go_simp; rfl) | (go_simp; omega)
  try simp only [Act.put, List.setIfInBounds_toArray, List.set_cons_zero, List.set_cons_succ]
  refine take_on (i := 2) (v := .pointer (some ⟨sb, 0, none⟩)) rfl (by kernel_rfl) (by kernel_rfl) (by kernel_rfl) (fun _ _ _ h => h) (by kernel_rfl) (fun W' hSW => ?_) trivial ?_
  · first | (go_simp; done) | exact rfl | (go_simp; rfl) | (go_simp; omega)
  try simp only [Act.put, List.setIfInBounds_toArray, List.set_cons_zero, List.set_cons_succ]
  refine take_on (i := 3) (v := .pointer (some ⟨sb, 4, none⟩)) rfl (by kernel_rfl) (by kernel_rfl) (by kernel_rfl) (fun _ _ _ h => h) (by kernel_rfl) (fun W' hSW => ?_) trivial ?_
  · first | (go_simp; done) | exact rfl | (go_simp; rfl) | (go_simp; omega)
  try simp only [Act.put, List.setIfInBounds_toArray, List.set_cons_zero, List.set_cons_succ]
  refine take_on (i := 5) (v := .pointer (some ⟨B, 1, none⟩)) rfl (by kernel_rfl) (by kernel_rfl) (by kernel_rfl) (fun _ _ _ h => h) (by kernel_rfl) (fun W' hSW => ?_) trivial ?_
  · first | (go_simp; done) | exact rfl | (go_simp; rfl) | (go_simp; omega)
  try simp only [Act.put, List.setIfInBounds_toArray, List.set_cons_zero, List.set_cons_succ]
  refine wpAnyH_ready (rs := [4, 6]) (by kernel_rfl) (by simp) (AllReadyH.cons (op_at rfl) (fun K hK => ?_) (AllReadyH.cons (op_at rfl) (fun K hK => ?_) AllReadyH.nil))
  · rw [if_pos (by kernel_rfl)]
    go_simp
    refine hK.out _ _ trivial (fun _ => ?_)
    clear hK K
    try simp only [Act.put, List.setIfInBounds_toArray, List.set_cons_zero, List.set_cons_succ]
    refine take_call (i := 6) rfl (by kernel_rfl) (by kernel_rfl) (fun K hK => ?_)
    go_simp
    refine hK.out _ _ trivial (fun _ => ?_)
    clear hK K
    try simp only [Act.put, List.setIfInBounds_toArray, List.set_cons_zero, List.set_cons_succ]
    clear v4 vb
    refine take_call (i := 7) rfl (by kernel_rfl) (by kernel_rfl) (fun K hK => ?_)
    go_simp
    refine (HDr.out V.drew FV.out.2).mono ?_
    rintro e w3 ⟨v, rfl, hrow, hbe⟩
    obtain ⟨va, vq, vc, rfl⟩ : ∃ va vq vc, v = .slice va vq vc := by
      obtain ⟨A, c, rfl, _⟩ := ownsRow_cells hrow
      exact ⟨A, _, c, rfl⟩
    have f3 : Fr0 none' V w3 := (Fr0.refl none' V).drew.of_below hbe
    have Hrow := Lib.hid (own_le hrow (show w.heap.size ≤ V.drew.heap.size from FV.out.1.size))
    have hrl := hrow.lt
    have Hrl := Lib.hid (show ∀ g, (Value.slice va vq vc).ownBlock = some g → V.heap.size ≤ g ∧ g < w3.heap.size from fun g hg => hrl g hg)
    have F3 := Lib.hid f3
    have y4 := thaw_in ((f3.block sb (Array.getElem?_eq_some_iff.1 HV.out.1).1 id).trans HV.out.1) 4
    have x4 := cells_in ((f3.block sb (Array.getElem?_eq_some_iff.1 HV.out.1).1 id).trans HV.out.1) 4
    simp at x4
    clear hrow hbe hrl f3
    go_wp2_with fail
    refine hK.out _ _ trivial (fun _ => ?_)
    clear hK K
    try simp only [Act.put, List.setIfInBounds_toArray, List.set_cons_zero, List.set_cons_succ]
    refine take_on (i := 8) (v := .tuple #[.slice va vq vc, .int .i64 0]) rfl (by kernel_rfl) (by kernel_rfl) (by kernel_rfl) (fun _ _ _ h => h) (by kernel_rfl) (fun W' hSW => ?_) trivial ?_
    · first | (go_simp; done) | exact rfl | (go_simp; rfl) | (go_simp; omega)
    try simp only [Act.put, List.setIfInBounds_toArray, List.set_cons_zero, List.set_cons_succ]
    refine take_on (i := 9) (v := .slice va vq vc) rfl (by kernel_rfl) (by kernel_rfl) (by kernel_rfl) (fun _ _ _ h => h) (by kernel_rfl) (fun W' hSW => ?_) trivial ?_
    · first | (go_simp; done) | exact rfl | (go_simp; rfl) | (go_simp; omega)
    try simp only [Act.put, List.setIfInBounds_toArray, List.set_cons_zero, List.set_cons_succ]
    refine take_on (i := 10) (v := .int .i64 0) rfl (by kernel_rfl) (by kernel_rfl) (by kernel_rfl) (fun _ _ _ h => h) (by kernel_rfl) (fun W' hSW => ?_) trivial ?_
    · first | (go_simp; done) | exact rfl | (go_simp; rfl) | (go_simp; omega)
    try simp only [Act.put, List.setIfInBounds_toArray, List.set_cons_zero, List.set_cons_succ]
    refine take_on (i := 11) (v := .pointer (some ⟨sb, 0, none⟩)) rfl (by kernel_rfl) (by kernel_rfl) (by kernel_rfl) (fun _ _ _ h => h) (by kernel_rfl) (fun W' hSW => ?_) trivial ?_
    · first | (go_simp; done) | exact rfl | (go_simp; rfl) | (go_simp; omega)
    try simp only [Act.put, List.setIfInBounds_toArray, List.set_cons_zero, List.set_cons_succ]
    refine take_on (i := 12) (v := .pointer (some ⟨sb, 4, none⟩)) rfl (by kernel_rfl) (by kernel_rfl) (by kernel_rfl) (fun _ _ _ h => h) (by kernel_rfl) (fun W' hSW => ?_) trivial ?_
    · first | (go_simp; done) | exact rfl | (go_simp; rfl) | (go_simp; omega)
    try simp only [Act.put, List.setIfInBounds_toArray, List.set_cons_zero, List.set_cons_succ]
    refine take_call (i := 13) rfl (by kernel_rfl) (by kernel_rfl) (fun K hK => ?_)
    go_simp
    refine hK.out _ _ trivial (fun _ => ?_)
    clear hK K
    try simp only [Act.put, List.setIfInBounds_toArray, List.set_cons_zero, List.set_cons_succ]
    refine wpAnyH_done (by kernel_rfl) ?_ _
    clear hHeld x4 y4
    obtain ⟨V4, hV4⟩ : ∃ V4, w3.setCell ⟨sb, 4, none⟩ (.slice va vq vc) = V4 := ⟨_, rfl⟩
    rw [hV4]
    have hd4 : V4.heap[sb]? = some (.cells #[.bool true, .int .i64 lim, .int .i64 nx, .map (some mb), .slice va vq vc] 40 (0, 0)) := by
      rw [← hV4]
      exact (hd_turn ((F3.out.block sb (Array.getElem?_eq_some_iff.1 HV.out.1).1 id).trans HV.out.1) (.int .i64 0) _).2
    have f4 : Fr0 (fun k => k = sb) w3 V4 := by rw [← hV4]; exact (Fr0.refl (fun k => k = sb) w3).setCell (b := sb) (o := 4) (fun _ => rfl) _
    have hfin : SpaceIs V4 sb mb (.slice va vq vc) lim nx (delP L q1) ∧ SStep sb mb (.slice a L.length cap) (.slice va vq vc) w V4 := by
      have g1 := Hlt.out sb (.inl rfl)
      have g2 := Hlt.out mb (.inr (.inl rfl))
      have g3 := FV.out.1.size
      refine ⟨⟨hd4, ?_, ?_, Hok.out, Hne.out.1, fun g hg => ?_⟩, ?_, fun g hg => .inr ?_⟩
      · exact ownsMap_fr0 (ownsMap_fr0 HV.out.2.2 F3.out id) f4 (fun e => Hne.out.1 e.symm)
      · rw [← Hdel.out]
        exact own_le (ownsRow_fr0 Hrow.out f4 (fun g hg h => by have := Hrl.out g hg; omega)) (Nat.zero_le _)
      · have := Hrl.out g hg; omega
      · exact (FV.out.1.trans' F3.out (fun _ _ h => h.elim)).trans' f4 (fun _ _ h => .inl h)
      · have := Hrl.out g hg; omega
    have hB4 : V4.heap[B]? = some (.cells #[.int .i64 q1, .string (bs q2), .int .i64 q3] 43) := (f4.block B (by have := (Array.getElem?_eq_some_iff.1 HV.out.2.1).1; have := F3.out.size; omega) (fun e => hsB e.symm)).trans ((F3.out.block B (Array.getElem?_eq_some_iff.1 HV.out.2.1).1 id).trans HV.out.2.1)
    have hC4 : V4.heap[C]? = some (.cells #[.int .i64 0, .string ⟨#[]⟩, .int .i64 0] 43) := (f4.block C (by have := (Array.getElem?_eq_some_iff.1 HC.out.1).1; have := F3.out.size; omega) (fun e => HC.out.2 e)).trans ((F3.out.block C (Array.getElem?_eq_some_iff.1 HC.out.1).1 id).trans HC.out.1)
    have p0 := cells_in hB4 0
    have p1 := cells_in hB4 1
    have p2 := cells_in hB4 2
    have x0 := cells_in hC4 0
    have x1 := cells_in hC4 1
    have x2 := cells_in hC4 2
    simp at p0 p1 p2 x0 x1 x2
    have y0 := thaw_in hC4 0
    have y1 := thaw_in hC4 1
    have y2 := thaw_in hC4 2
    have Hfin := Lib.hid hfin
    have HCw := Lib.hid (show w.heap.size ≤ C from HCn.out)
    clear hV4 hd4 f4 hfin hB4 hC4
    go_wp2
    refine bodyPost_ret (v := .tuple #[.agg #[.int .i64 q1, .string (bs q2), .int .i64 q3], .int .i64 0]) (by simp [results, Tryz.results11, go_sem, x0, x1, x2]) rfl ⟨rfl, .slice va vq vc, ?_, ?_⟩
    · refine Hfin.out.1.fr0 (S := fun k => k = C) ((((Fr0.refl (fun k => k = C) V4).setCell (b := C) (o := 0) (fun _ => rfl) _).setCell (b := C) (o := 1) (fun _ => rfl) _).setCell (b := C) (o := 2) (fun _ => rfl) _) (fun k hk e => ?_)
      subst e
      rcases hk with h | h | h
      · exact HC.out.2 h
      · have := Hlt.out mb (.inr (.inl rfl)); have := HCw.out; omega
      · have := Hrl.out _ h; have := (Array.getElem?_eq_some_iff.1 HC.out.1).1; omega
    · refine ⟨Hfin.out.2.fr.trans' (S' := fun k => k = C) ((((Fr0.refl (fun k => k = C) V4).setCell (b := C) (o := 0) (fun _ => rfl) _).setCell (b := C) (o := 1) (fun _ => rfl) _).setCell (b := C) (o := 2) (fun _ => rfl) _) (fun k hk e => ?_), Hfin.out.2.own⟩
      have := HCw.out; omega
  · rw [if_pos (by kernel_rfl)]
    go_simp
    refine hK.out _ _ trivial (fun _ => ?_)
    clear hK K
    try simp only [Act.put, List.setIfInBounds_toArray, List.set_cons_zero, List.set_cons_succ]
    refine take_call (i := 4) rfl (by kernel_rfl) (by kernel_rfl) (fun K hK => ?_)
    go_simp
    refine hK.out _ _ trivial (fun _ => ?_)
    clear hK K
    try simp only [Act.put, List.setIfInBounds_toArray, List.set_cons_zero, List.set_cons_succ]
    clear v4 vb
    refine take_call (i := 7) rfl (by kernel_rfl) (by kernel_rfl) (fun K hK => ?_)
    go_simp
    refine (HDr.out V.drew FV.out.2).mono ?_
    rintro e w3 ⟨v, rfl, hrow, hbe⟩
    obtain ⟨va, vq, vc, rfl⟩ : ∃ va vq vc, v = .slice va vq vc := by
      obtain ⟨A, c, rfl, _⟩ := ownsRow_cells hrow
      exact ⟨A, _, c, rfl⟩
    have f3 : Fr0 none' V w3 := (Fr0.refl none' V).drew.of_below hbe
    have Hrow := Lib.hid (own_le hrow (show w.heap.size ≤ V.drew.heap.size from FV.out.1.size))
    have hrl := hrow.lt
    have Hrl := Lib.hid (show ∀ g, (Value.slice va vq vc).ownBlock = some g → V.heap.size ≤ g ∧ g < w3.heap.size from fun g hg => hrl g hg)
    have F3 := Lib.hid f3
    have y4 := thaw_in ((f3.block sb (Array.getElem?_eq_some_iff.1 HV.out.1).1 id).trans HV.out.1) 4
    have x4 := cells_in ((f3.block sb (Array.getElem?_eq_some_iff.1 HV.out.1).1 id).trans HV.out.1) 4
    simp at x4
    clear hrow hbe hrl f3
    go_wp2_with fail
    refine hK.out _ _ trivial (fun _ => ?_)
    clear hK K
    try simp only [Act.put, List.setIfInBounds_toArray, List.set_cons_zero, List.set_cons_succ]
    refine take_on (i := 8) (v := .tuple #[.slice va vq vc, .int .i64 0]) rfl (by kernel_rfl) (by kernel_rfl) (by kernel_rfl) (fun _ _ _ h => h) (by kernel_rfl) (fun W' hSW => ?_) trivial ?_
    · first | (go_simp; done) | exact rfl | (go_simp; rfl) | (go_simp; omega)
    try simp only [Act.put, List.setIfInBounds_toArray, List.set_cons_zero, List.set_cons_succ]
    refine take_on (i := 9) (v := .slice va vq vc) rfl (by kernel_rfl) (by kernel_rfl) (by kernel_rfl) (fun _ _ _ h => h) (by kernel_rfl) (fun W' hSW => ?_) trivial ?_
    · first | (go_simp; done) | exact rfl | (go_simp; rfl) | (go_simp; omega)
    try simp only [Act.put, List.setIfInBounds_toArray, List.set_cons_zero, List.set_cons_succ]
    refine take_on (i := 10) (v := .int .i64 0) rfl (by kernel_rfl) (by kernel_rfl) (by kernel_rfl) (fun _ _ _ h => h) (by kernel_rfl) (fun W' hSW => ?_) trivial ?_
    · first | (go_simp; done) | exact rfl | (go_simp; rfl) | (go_simp; omega)
    try simp only [Act.put, List.setIfInBounds_toArray, List.set_cons_zero, List.set_cons_succ]
    refine take_on (i := 11) (v := .pointer (some ⟨sb, 0, none⟩)) rfl (by kernel_rfl) (by kernel_rfl) (by kernel_rfl) (fun _ _ _ h => h) (by kernel_rfl) (fun W' hSW => ?_) trivial ?_
    · first | (go_simp; done) | exact rfl | (go_simp; rfl) | (go_simp; omega)
    try simp only [Act.put, List.setIfInBounds_toArray, List.set_cons_zero, List.set_cons_succ]
    refine take_on (i := 12) (v := .pointer (some ⟨sb, 4, none⟩)) rfl (by kernel_rfl) (by kernel_rfl) (by kernel_rfl) (fun _ _ _ h => h) (by kernel_rfl) (fun W' hSW => ?_) trivial ?_
    · first | (go_simp; done) | exact rfl | (go_simp; rfl) | (go_simp; omega)
    try simp only [Act.put, List.setIfInBounds_toArray, List.set_cons_zero, List.set_cons_succ]
    refine take_call (i := 13) rfl (by kernel_rfl) (by kernel_rfl) (fun K hK => ?_)
    go_simp
    refine hK.out _ _ trivial (fun _ => ?_)
    clear hK K
    try simp only [Act.put, List.setIfInBounds_toArray, List.set_cons_zero, List.set_cons_succ]
    refine wpAnyH_done (by kernel_rfl) ?_ _
    clear hHeld x4 y4
    obtain ⟨V4, hV4⟩ : ∃ V4, w3.setCell ⟨sb, 4, none⟩ (.slice va vq vc) = V4 := ⟨_, rfl⟩
    rw [hV4]
    have hd4 : V4.heap[sb]? = some (.cells #[.bool true, .int .i64 lim, .int .i64 nx, .map (some mb), .slice va vq vc] 40 (0, 0)) := by
      rw [← hV4]
      exact (hd_turn ((F3.out.block sb (Array.getElem?_eq_some_iff.1 HV.out.1).1 id).trans HV.out.1) (.int .i64 0) _).2
    have f4 : Fr0 (fun k => k = sb) w3 V4 := by rw [← hV4]; exact (Fr0.refl (fun k => k = sb) w3).setCell (b := sb) (o := 4) (fun _ => rfl) _
    have hfin : SpaceIs V4 sb mb (.slice va vq vc) lim nx (delP L q1) ∧ SStep sb mb (.slice a L.length cap) (.slice va vq vc) w V4 := by
      have g1 := Hlt.out sb (.inl rfl)
      have g2 := Hlt.out mb (.inr (.inl rfl))
      have g3 := FV.out.1.size
      refine ⟨⟨hd4, ?_, ?_, Hok.out, Hne.out.1, fun g hg => ?_⟩, ?_, fun g hg => .inr ?_⟩
      · exact ownsMap_fr0 (ownsMap_fr0 HV.out.2.2 F3.out id) f4 (fun e => Hne.out.1 e.symm)
      · rw [← Hdel.out]
        exact own_le (ownsRow_fr0 Hrow.out f4 (fun g hg h => by have := Hrl.out g hg; omega)) (Nat.zero_le _)
      · have := Hrl.out g hg; omega
      · exact (FV.out.1.trans' F3.out (fun _ _ h => h.elim)).trans' f4 (fun _ _ h => .inl h)
      · have := Hrl.out g hg; omega
    have hB4 : V4.heap[B]? = some (.cells #[.int .i64 q1, .string (bs q2), .int .i64 q3] 43) := (f4.block B (by have := (Array.getElem?_eq_some_iff.1 HV.out.2.1).1; have := F3.out.size; omega) (fun e => hsB e.symm)).trans ((F3.out.block B (Array.getElem?_eq_some_iff.1 HV.out.2.1).1 id).trans HV.out.2.1)
    have hC4 : V4.heap[C]? = some (.cells #[.int .i64 0, .string ⟨#[]⟩, .int .i64 0] 43) := (f4.block C (by have := (Array.getElem?_eq_some_iff.1 HC.out.1).1; have := F3.out.size; omega) (fun e => HC.out.2 e)).trans ((F3.out.block C (Array.getElem?_eq_some_iff.1 HC.out.1).1 id).trans HC.out.1)
    have p0 := cells_in hB4 0
    have p1 := cells_in hB4 1
    have p2 := cells_in hB4 2
    have x0 := cells_in hC4 0
    have x1 := cells_in hC4 1
    have x2 := cells_in hC4 2
    simp at p0 p1 p2 x0 x1 x2
    have y0 := thaw_in hC4 0
    have y1 := thaw_in hC4 1
    have y2 := thaw_in hC4 2
    have Hfin := Lib.hid hfin
    have HCw := Lib.hid (show w.heap.size ≤ C from HCn.out)
    clear hV4 hd4 f4 hfin hB4 hC4
    go_wp2
    refine bodyPost_ret (v := .tuple #[.agg #[.int .i64 q1, .string (bs q2), .int .i64 q3], .int .i64 0]) (by simp [results, Tryz.results11, go_sem, x0, x1, x2]) rfl ⟨rfl, .slice va vq vc, ?_, ?_⟩
    · refine Hfin.out.1.fr0 (S := fun k => k = C) ((((Fr0.refl (fun k => k = C) V4).setCell (b := C) (o := 0) (fun _ => rfl) _).setCell (b := C) (o := 1) (fun _ => rfl) _).setCell (b := C) (o := 2) (fun _ => rfl) _) (fun k hk e => ?_)
      subst e
      rcases hk with h | h | h
      · exact HC.out.2 h
      · have := Hlt.out mb (.inr (.inl rfl)); have := HCw.out; omega
      · have := Hrl.out _ h; have := (Array.getElem?_eq_some_iff.1 HC.out.1).1; omega
    · refine ⟨Hfin.out.2.fr.trans' (S' := fun k => k = C) ((((Fr0.refl (fun k => k = C) V4).setCell (b := C) (o := 0) (fun _ => rfl) _).setCell (b := C) (o := 1) (fun _ => rfl) _).setCell (b := C) (o := 2) (fun _ => rfl) _) (fun k hk e => ?_), Hfin.out.2.own⟩
      have := HCw.out; omega
end Go.Proofs.YtieeloealklkgaaGreatDoor

/-
  Under; Close where there is no port.
-/
namespace Go.Proofs.YtieeloealklkgaaGreatDoor
open Go.RowKit Go.Maps Go.ChangeMaps
attribute [local go_sem ↓] Go.wp_at_zero Go.wp_at_succ
variable {w w' : World} {sb mb : Nat} {nv : Value} {lim nx : Int} {L : List Pt}

set_option maxRecDepth 100000 in
set_option maxHeartbeats 2000000 in
theorem Close_no (h : SpaceIs w sb mb nv lim nx L) (n : Int) (hn : -9223372036854775808 ≤ n ∧ n ≤ 9223372036854775807) (hq : atP L n = none) :
    Calls Tryz.prog 11 #[.pointer (some ⟨sb, 0, none⟩), .int .i64 n] w (PtPost noPt 6 w) := by
  have hG := fun V (hV : Fr0 none' w V) => Get_is (h.later hV) n hn
  have hq2 : getE L n = 6 := by unfold getE; rw [hq]; rfl
  obtain ⟨⟨q1, q2, q3⟩, hq1⟩ : ∃ p, getP L n = p := ⟨_, rfl⟩
  rw [hq1, hq2] at hG
  have HG := Lib.hid hG
  clear hG hq1 hq2 h
  obtain ⟨W0, hW0⟩ : ∃ W0, w.alloc (.cells #[.int .i64 0, .string ⟨#[]⟩, .int .i64 0] 43) = W0 := ⟨_, rfl⟩
  have hC0 : W0.heap[w.heap.size]? = some (.cells #[.int .i64 0, .string ⟨#[]⟩, .int .i64 0] 43) := by rw [← hW0]; exact World.alloc_heap_new w _
  have f0 : Fr0 none' w W0 := by rw [← hW0]; exact (Fr0.refl _ _).alloc _
  obtain ⟨C, hCe⟩ : ∃ C, w.heap.size = C := ⟨_, rfl⟩
  have HCn := Lib.hid (show w.heap.size ≤ C by omega)
  have HCl := Lib.hid (show C ≤ w.heap.size by omega)
  go_enter Tryz.func11, Tryz.ntmps11
  go_wp2_with fail
  rw [hCe] at hC0
  have HC0 := Lib.hid hC0
  have F0 := Lib.hid f0
  clear hCe hW0 hC0 f0
  refine (HG.out W0 F0.out).mono ?_
  rintro e w1 ⟨rfl, hf⟩
  simp only [ptV]
  have f1 := Lib.hid (F0.out.trans hf)
  have hx := (hf.block C (Array.getElem?_eq_some_iff.1 HC0.out).1 id).trans HC0.out
  have hx2 := (Below.heap_alloc w1 (.cells #[.int .i64 q1, .string (bs q2), .int .i64 q3] 43) C (Array.getElem?_eq_some_iff.1 hx).1).trans hx
  obtain ⟨W, hW⟩ : ∃ W, w1.alloc (.cells #[.int .i64 q1, .string (bs q2), .int .i64 q3] 43) = W := ⟨_, rfl⟩
  have FW := Lib.hid (show Fr0 none' w W from by rw [← hW]; exact f1.out.alloc _)
  rw [hW] at hx2
  have x0 := cells_in hx2 0
  have x1 := cells_in hx2 1
  have x2 := cells_in hx2 2
  simp at x0 x1 x2
  have y0 := thaw_in hx2 0
  have y1 := thaw_in hx2 1
  have y2 := thaw_in hx2 2
  have hlt : C < W.heap.size := (Array.getElem?_eq_some_iff.1 hx2).1
  clear f1 hx hx2 hf
  go_wp2
  refine bodyPost_ret (v := .tuple #[.agg #[.int .i64 0, .string ⟨#[]⟩, .int .i64 0], .int .i64 6]) (by simp [results, Tryz.results11, go_sem, x0, x1, x2, hlt]) rfl ⟨rfl, ?_⟩
  have := HCn.out
  exact ((FW.out.setCell (fun h => by omega) _).setCell (fun h => by omega) _).setCell (fun h => by omega) _

/-- What Under returns. -/
def UnderPost (L : List Pt) (E : Int) (w : World) (e : Ending) (w' : World) : Prop := ∃ v, e = .returned (.tuple #[v, .int .i64 E]) ∧ PortsAt w' v L ∧ Fr0 none' w w' ∧ ∀ g, v.ownBlock = some g → w.heap.size ≤ g
def underL (L : List Pt) (s : Bs) : List Pt := namedL L (((namesP L).drop (lowN (namesP L) s)).take (runN (namesP L) s))
theorem Cells.sub {a : Option Addr} {xs : List Value} (h : Cells w a xs) (lo r : Nat) : Cells w (a.map (·.add lo)) ((xs.drop lo).take r) := by
  intro j x hx
  have hx2 : xs[lo + j]? = some x := by
    rw [List.getElem?_take] at hx
    split at hx
    · rwa [List.getElem?_drop] at hx
    · cases hx
  obtain ⟨b, off, rfl, hc⟩ := h _ _ hx2
  refine ⟨b, off + lo, by simp [Addr.add], ?_⟩
  rw [Nat.add_assoc]; exact hc
set_option maxRecDepth 100000 in
set_option maxHeartbeats 2000000 in
theorem Under_no (h : SpaceIs w sb mb nv lim nx L) (s : Bs) (hs : rightB s = false) (hsl : s.length ≤ 1000) :
    Calls Tryz.prog 15 #[.pointer (some ⟨sb, 0, none⟩), .string (bs s)] w (UnderPost [] 40 w) := by
  obtain ⟨a, cap, rfl, _, _, _, hc, _, _⟩ := ownsRow_cells h.nm
  have hR := Range_any a L.length cap (namesP L) s w h.ok.names_length (by have := h.ok.small; omega) (fun p hp => by have := setB_short h.ok.set p hp; omega) (by omega) hc
  unfold RangePost at hR
  rw [h.ok.set, hs, if_pos rfl, if_neg (by simp)] at hR
  have HR := Lib.hid hR
  have H := Lib.hid h
  have d4 : w.cell? ⟨sb, 4, none⟩ = some (.slice a L.length cap) := by rw [cells_in h.hd]; rfl
  obtain ⟨m, hm⟩ : ∃ m, L.length = m := ⟨_, rfl⟩
  rw [hm] at HR d4
  clear h hc hR hm
  go_enter Tryz.func15, Tryz.ntmps15
  go_wp2_with fail
  refine H.out.is.mono ?_
  rintro e w1 ⟨rfl, rfl⟩
  go_wp2_with fail
  refine HR.out.mono ?_
  rintro e w1 ⟨rfl, hbe⟩
  have F := Lib.hid (below_to0 hbe)
  clear hbe
  go_wp2
  go_ret2
  exact ⟨.slice none 0 0, rfl, World.ownsRow_nil _ _ _ _, F.out, fun g h => by cases h⟩
set_option maxRecDepth 100000 in
set_option maxHeartbeats 2000000 in
theorem Under_ok (h : SpaceIs w sb mb nv lim nx L) (s : Bs) (hs : rightB s = true) :
    Calls Tryz.prog 15 #[.pointer (some ⟨sb, 0, none⟩), .string (bs s)] w (UnderPost (underL L s) 0 w) := by
  obtain ⟨a, cap, rfl, h1, h2, h3, hc, _, _⟩ := ownsRow_cells h.nm
  have hR := Range_any a L.length cap (namesP L) s w h.ok.names_length (by have := h.ok.small; omega) (fun p hp => by have := setB_short h.ok.set p hp; omega) (by have := rightB_len hs; omega) hc
  unfold RangePost at hR
  rw [h.ok.set, hs, if_pos rfl, if_pos rfl] at hR
  have hrl := runN_le (namesP L) s
  rw [h.ok.names_length] at hrl
  have hun : underL L s = namedL L (((namesP L).drop (lowN (namesP L) s)).take (runN (namesP L) s)) := rfl
  rw [hun]
  obtain ⟨lo, hlo⟩ : ∃ lo, lowN (namesP L) s = lo := ⟨_, rfl⟩
  obtain ⟨r, hr⟩ : ∃ r, runN (namesP L) s = r := ⟨_, rfl⟩
  rw [hlo, hr] at hR hrl ⊢
  have hsl : ∀ W, (Instr.slice 36 (.slice a L.length cap) (some (.int .i64 lo)) (some (.int .i64 ((lo + r : Nat) : Int))) none).run Tryz.prog W = .ok (.slice (if cap = lo then a else a.map (·.add (lo * 1))) r (cap - lo)) W := fun W => by
    go_simp
    have z : (((lo : Int) + (r : Int)).toNat) = lo + r := by omega
    rw [if_pos (by omega), z, if_pos (by omega), Nat.add_sub_cancel_left]
  have hlen : (((namesP L).drop lo).take r).length = r := by rw [List.length_take, List.length_drop, h.ok.names_length]; omega
  have hN := fun (V : World) (hV : Fr0 none' w V) => named_is keysDoes sortedDoes (h.later hV) (if cap = lo then a else a.map (·.add (lo * 1))) r (cap - lo) _ hlen (by have := h.ok.small; omega) (by
    split
    · have : r = 0 := by omega
      subst this
      intro j x hx; simp at hx
    · rw [List.map_take, List.map_drop, Nat.mul_one]
      exact (hc.of_blocks (S := none') hV.block (fun _ _ _ _ => id)).sub lo r)
  have HN := Lib.hid hN
  have HR := Lib.hid hR
  have H := Lib.hid h
  have D4 := Lib.hid (show ∀ V : World, Fr0 none' w V → V.cell? ⟨sb, 4, none⟩ = some (.slice a L.length cap) from fun V hV => by rw [cells_in (h.later hV).hd]; rfl)
  have d4 := D4.out w (Fr0.refl _ _)
  obtain ⟨m, hm⟩ : ∃ m, L.length = m := ⟨_, rfl⟩
  rw [hm] at HR D4 d4 hsl
  obtain ⟨T, hT⟩ : ∃ T, lo + r = T := ⟨_, rfl⟩
  rw [hT] at HR hsl
  obtain ⟨a', ha'⟩ : ∃ a', (if cap = lo then a else a.map (·.add (lo * 1))) = a' := ⟨_, rfl⟩
  rw [ha'] at HN hsl
  obtain ⟨cap', hcap'⟩ : ∃ c, cap - lo = c := ⟨_, rfl⟩
  rw [hcap'] at HN hsl
  clear h hc hR hm hN h1 h2 h3 hrl hun hlo hr hT ha' hcap' hlen hs
  go_enter Tryz.func15, Tryz.ntmps15
  go_wp2_with fail
  refine H.out.is.mono ?_
  rintro e w1 ⟨rfl, rfl⟩
  go_wp2_with fail
  refine HR.out.mono ?_
  rintro e w1 ⟨rfl, hbe⟩
  have F := Lib.hid (below_to0 hbe)
  have e4 := D4.out w1 F.out
  clear hbe
  go_wp2_with fail
  refine (HN.out w1 F.out).mono ?_
  rintro e w2 ⟨v, rfl, hv, hf, hg⟩
  have F2 := Lib.hid (F.out.trans hf)
  have HV := Lib.hid (show PortsAt w2 v _ ∧ ∀ g, v.ownBlock = some g → w.heap.size ≤ g from ⟨hv, fun g h => Nat.le_trans F.out.size (hg g h)⟩)
  clear hv hf hg
  go_wp2
  go_ret2
  exact ⟨v, rfl, HV.out.1, F2.out, HV.out.2⟩
end Go.Proofs.YtieeloealklkgaaGreatDoor

/-
  Rename.
-/
namespace Go.Proofs.YtieeloealklkgaaGreatDoor
open Go.RowKit Go.Maps Go.ChangeMaps
attribute [local go_sem ↓] Go.wp_at_zero Go.wp_at_succ
variable {w w' : World} {sb mb : Nat} {nv : Value} {lim nx : Int} {L : List Pt}

/-- What Rename returns. -/
def RenPost (sb mb : Nat) (nv : Value) (lim nx : Int) (L' : List Pt) (t : Bs) (E : Int) (w : World) (e : Ending) (w' : World) : Prop :=
  e = .returned (.tuple #[.string (bs t), .int .i64 E]) ∧ ∃ nv', SpaceIs w' sb mb nv' lim nx L' ∧ SStep sb mb nv nv' w w'
theorem SpaceIs.step1 (h : SpaceIs w sb mb nv lim nx L) {t : Bs} {E : Int} (hf : Fr0 none' w w') : RenPost sb mb nv lim nx L t E w (.returned (.tuple #[.string (bs t), .int .i64 E])) w' := ⟨rfl, nv, h.later hf, SStep.of _ _ _ hf⟩
set_option maxRecDepth 100000 in
set_option maxHeartbeats 2000000 in
theorem Rename_none (h : SpaceIs w sb mb nv lim nx L) (n : Int) (s : Bs) (hn : -9223372036854775808 ≤ n ∧ n ≤ 9223372036854775807) (hq : atP L n = none) :
    Calls Tryz.prog 12 #[.pointer (some ⟨sb, 0, none⟩), .int .i64 n, .string (bs s)] w (RenPost sb mb nv lim nx L [] 6 w) := by
  have hG := Get_is h n hn
  have hq2 : getE L n = 6 := by unfold getE; rw [hq]; rfl
  obtain ⟨⟨q1, q2, q3⟩, hq1⟩ : ∃ p, getP L n = p := ⟨_, rfl⟩
  rw [hq1, hq2] at hG
  have HG := Lib.hid hG
  have H := Lib.hid h
  clear hG hq1 hq2 h
  go_enter Tryz.func12, Tryz.ntmps12
  go_wp2_with fail
  refine HG.out.mono ?_
  rintro e w1 ⟨rfl, hf⟩
  simp only [ptV]
  have F := Lib.hid hf
  clear hf
  go_wp2
  go_ret2
  exact H.out.step1 (t := []) (F.out.alloc _)
set_option maxRecDepth 100000 in
set_option maxHeartbeats 2000000 in
theorem Rename_no (h : SpaceIs w sb mb nv lim nx L) (n : Int) (s : Bs) (hn : -9223372036854775808 ≤ n ∧ n ≤ 9223372036854775807) (hs : rightB s = false) (hsl : s.length ≤ 1000) (q : Pt) (hq : atP L n = some q) :
    Calls Tryz.prog 12 #[.pointer (some ⟨sb, 0, none⟩), .int .i64 n, .string (bs s)] w (RenPost sb mb nv lim nx L [] 40 w) := by
  have hG := Get_is h n hn
  have hq2 : getE L n = 0 := by unfold getE; rw [hq]; rfl
  obtain ⟨⟨q1, q2, q3⟩, hq1⟩ : ∃ p, getP L n = p := ⟨_, rfl⟩
  rw [hq1, hq2] at hG
  have HR := Lib.hid (fun W => by have := Right_any (bs s) W (by rw [size_bs]; unfold maxLen; omega); rw [toList_bs, hs] at this; exact this)
  have HG := Lib.hid hG
  have H := Lib.hid h
  clear hG hq1 hq2 h
  go_enter Tryz.func12, Tryz.ntmps12
  go_wp2_with fail
  refine HG.out.mono ?_
  rintro e w1 ⟨rfl, hf⟩
  simp only [ptV]
  have F := Lib.hid hf
  clear hf
  go_wp2_with fail
  refine (HR.out _).mono ?_
  rintro e w2 ⟨rfl, rfl⟩
  go_wp2
  go_ret2
  exact H.out.step1 (t := []) (F.out.alloc _)
set_option maxRecDepth 100000 in
set_option maxHeartbeats 2000000 in
theorem Rename_taken (h : SpaceIs w sb mb nv lim nx L) (s : Bs) (hs : rightB s = true) (q : Pt) (hq : q ∈ L) (hne : q.name ≠ s) (p : Pt) (hp : nameP L s = some p) :
    Calls Tryz.prog 12 #[.pointer (some ⟨sb, 0, none⟩), .int .i64 q.number, .string (bs s)] w (RenPost sb mb nv lim nx L [] 240 w) := by
  have hqn := h.ok.lo q hq
  have hbd := h.ok.nxt
  have hG := Get_is h q.number (by omega)
  have hq1 : getP L q.number = q := by unfold getP; rw [(atP_some h.ok.ord).2 ⟨hq, rfl⟩]; rfl
  have hq2 : getE L q.number = 0 := by unfold getE; rw [(atP_some h.ok.ord).2 ⟨hq, rfl⟩]; rfl
  rw [hq1, hq2] at hG
  have HR := Lib.hid (fun W => by have := Right_any (bs s) W (by rw [size_bs]; have := rightB_len hs; unfold maxLen; omega); rw [toList_bs, hs] at this; exact this)
  have HH := Lib.hid (fun (V : World) (hV : Fr0 none' w V) => has_is (h.later hV) s hs true (by rw [hp]; rfl))
  have HG := Lib.hid hG
  have H := Lib.hid h
  have hsq : ((bs s).toList == (bs q.name).toList) = false := by rw [str_eq]; exact beq_false_of_ne (fun e => hne e.symm)
  obtain ⟨q1, q2, q3⟩ := q
  simp only at *
  clear hG hq1 hq2 h hp hs hq hqn hbd
  go_enter Tryz.func12, Tryz.ntmps12
  go_wp2_with fail
  refine HG.out.mono ?_
  rintro e w1 ⟨rfl, hf⟩
  simp only [ptV]
  obtain ⟨B, hB⟩ : ∃ B, w1.heap.size = B := ⟨_, rfl⟩
  obtain ⟨W, hW⟩ : ∃ W, w1.alloc (.cells #[.int .i64 q1, .string (bs q2), .int .i64 q3] 43) = W := ⟨_, rfl⟩
  have hx2 : W.heap[B]? = some (.cells #[.int .i64 q1, .string (bs q2), .int .i64 q3] 43 (0, 0)) := by rw [← hW, ← hB]; exact World.alloc_heap_new w1 _
  have x1 := cells_in hx2 1
  simp at x1
  have F := Lib.hid (show Fr0 none' w W by rw [← hW]; exact hf.alloc _)
  clear hf hx2
  go_wp2_with fail
  refine (HR.out _).mono ?_
  rintro e w2 ⟨rfl, rfl⟩
  go_wp2_with fail
  refine (HH.out _ F.out).mono ?_
  rintro e w3 ⟨rfl, hf⟩
  have F2 := Lib.hid (F.out.trans hf)
  clear hf
  go_wp2
  go_ret2
  exact H.out.step1 (t := []) F2.out
set_option maxRecDepth 100000 in
set_option maxHeartbeats 4000000 in
theorem Rename_ok (h : SpaceIs w sb mb nv lim nx L) (s : Bs) (hs : rightB s = true) (q : Pt) (hq : q ∈ L) (hfree : ∀ p ∈ L, p.name = s → p = q) :
    Calls Tryz.prog 12 #[.pointer (some ⟨sb, 0, none⟩), .int .i64 q.number, .string (bs s)] w (RenPost sb mb nv lim nx (renP L q.number s) q.name 0 w) := by
  have hsm := h.ok.small
  have hqn := h.ok.lo q hq
  have hbd := h.ok.nxt
  have hG := Get_is h q.number (by omega)
  have hq1 : getP L q.number = q := by unfold getP; rw [(atP_some h.ok.ord).2 ⟨hq, rfl⟩]; rfl
  have hq2 : getE L q.number = 0 := by unfold getE; rw [(atP_some h.ok.ord).2 ⟨hq, rfl⟩]; rfl
  rw [hq1, hq2] at hG
  have hin : q.name ∈ namesP L := (namesP_mem L q.name).2 ⟨q, hq, rfl⟩
  have hD1 : dropL (namesP L) q.name = delB q.name (namesP L) := by unfold dropL; rw [h.ok.set, h.ok.right q hq, decide_eq_true hin]; rfl
  have hD2 : dropE (namesP L) q.name = 0 := by unfold dropE; rw [h.ok.set, h.ok.right q hq, if_neg (by simp), if_neg (by simp), if_pos hin]
  have hokd := h.ok.del q.number
  have hdel := namesP_del h.ok hq
  have hlen : (delB q.name (namesP L)).length = (delP L q.number).length := by rw [← hokd.names_length, hdel]
  have hnot : ¬ s ∈ delB q.name (namesP L) := fun hm => by
    obtain ⟨h1, h2⟩ := (delB_mem _ _ _).1 hm
    obtain ⟨p, hp, e⟩ := (namesP_mem _ _).1 h1
    exact h2 (by rw [← e, hfree p hp e])
  have hset : setB (delB q.name (namesP L)) = true := by rw [hdel]; exact hokd.set
  have hdl : (delP L q.number).length ≤ L.length := List.length_filter_le _ _
  have hA1 : addL (delB q.name (namesP L)) s = insB s (delB q.name (namesP L)) := by
    unfold addL; rw [hset, hs, hlen, decide_eq_true (show (delP L q.number).length < 256 by omega), Bool.or_true]; rfl
  have hA2 : addE (delB q.name (namesP L)) s = 0 := by
    unfold addE; rw [hset, hs, if_neg (by simp), if_neg (by simp), if_neg hnot, hlen, if_pos (by omega)]
  have hokr := h.ok.ren hq hs hfree
  have hren := namesP_ren h.ok hq s
  have hlenr : (insB s (delB q.name (namesP L))).length = (renP L q.number s).length := by rw [← hokr.names_length, hren]
  have hdat := datP_ren L h.ok.ord q hq s
  obtain ⟨a, cap, rfl, _, _, _, hc, _, _⟩ := ownsRow_cells h.nm
  have HDr := Lib.hid (show ∀ V : World, (∀ k, k < w.heap.size → k ≠ mb → V.heap[k]? = w.heap[k]?) → w.heap.size ≤ V.heap.size → Calls Tryz.prog 40 #[.slice a L.length cap, .string (bs q.name)] V (RowPost (delB q.name (namesP L)) (delP L q.number).length 0 V) from fun V hV _ => by
    have := Drop_any a L.length cap (namesP L) q.name V h.ok.names_length (by omega) (fun x hx => by have := setB_short h.ok.set x hx; omega) (by have := rightB_len (h.ok.right q hq); omega) (hc.of_blocks (S := fun k => k = mb) (fun k h1 h2 => hV k h1 h2) (fun b off s' ha e => by
      subst ha
      exact (h.ne.2 b rfl).2 e))
    rwa [hD1, hD2, hlen] at this)
  have HAdd := Lib.hid (show ∀ va vq vc (w3 : World), w3.ownsRow 0 9 1 (.slice va vq vc) (delP L q.number).length ((delB q.name (namesP L)).map strV) → ∀ V : World, (∀ k, k < w3.heap.size → ¬ (k = sb) → V.heap[k]? = w3.heap[k]?) → w3.heap.size ≤ V.heap.size → (∀ g, (Value.slice va vq vc).ownBlock = some g → g ≠ sb) → Calls Tryz.prog 34 #[.slice va vq vc, .string (bs s)] V (RowPost (insB s (delB q.name (namesP L))) (renP L q.number s).length 0 V) from fun va vq vc w3 hrow V hV _ hg => by
    obtain ⟨a', cap', e, _, _, _, hc', _, _⟩ := ownsRow_cells hrow
    cases e
    have := Add_any va (delP L q.number).length vc (delB q.name (namesP L)) s V hlen (by omega) (fun x hx => by have := setB_short hset x hx; omega) (by have := rightB_len hs; omega) (hc'.of_blocks (S := fun k => k = sb) hV (fun b off s' ha e => by
      subst ha
      exact hg b rfl e))
    rwa [hA1, hA2, hlenr] at this)
  have HR := Lib.hid (fun W => by have := Right_any (bs s) W (by rw [size_bs]; have := rightB_len hs; unfold maxLen; omega); rw [toList_bs, hs] at this; exact this)
  have HG := Lib.hid hG
  have H := Lib.hid h
  have Hok := Lib.hid hokr
  have Hne := Lib.hid h.ne
  have Hlt := Lib.hid h.lt
  have Hnm := Lib.hid hren
  have Hdat := Lib.hid hdat
  have Hsm := Lib.hid hsm
  have Hkq := Lib.hid (key_int (n := q.number) (by omega))
  obtain ⟨q1, q2, q3⟩ := q
  simp only at *
  by_cases hsq : q2 = s
  · subst hsq
    clear h hq hG hq1 hq2 hin hD1 hD2 hokd hokr hlen hlenr hc hqn hbd hA1 hA2 hset hnot hdl hren hdat hfree hdel hs hsm
    go_enter Tryz.func12, Tryz.ntmps12
    go_wp2_with fail
    refine HG.out.mono ?_
    rintro e w1 ⟨rfl, hf⟩
    simp only [ptV]
    obtain ⟨B, hB⟩ : ∃ B, w1.heap.size = B := ⟨_, rfl⟩
    obtain ⟨w2, hW⟩ : ∃ W, w1.alloc (.cells #[.int .i64 q1, .string (bs q2), .int .i64 q3] 43) = W := ⟨_, rfl⟩
    have hx2 : w2.heap[B]? = some (.cells #[.int .i64 q1, .string (bs q2), .int .i64 q3] 43 (0, 0)) := by rw [← hW, ← hB]; exact World.alloc_heap_new w1 _
    have x1 := cells_in hx2 1
    simp at x1
    have y1 := thaw_in hx2 1
    have F2 := Lib.hid (show Fr0 none' w w2 by rw [← hW]; exact hf.alloc _)
    have HB2 := Lib.hid hx2
    have HBz := Lib.hid (show w.heap.size ≤ B by rw [← hB]; exact hf.size)
    clear hf hx2
    go_wp2_with fail
    refine (HR.out _).mono ?_
    rintro e w2' ⟨rfl, rfl⟩
    go_wp2_with fail
    clear hB hW x1 y1
    obtain ⟨V, hV⟩ : ∃ V, w2.setCell ⟨B, 1, none⟩ (.string (bs q2)) = V := ⟨_, rfl⟩
    rw [hV]
    have fV : Fr0 none' w V := by rw [← hV]; exact F2.out.setCell (fun h => by have := HBz.out; omega) _
    have hpV : V.heap[B]? = some (.cells #[.int .i64 q1, .string (bs q2), .int .i64 q3] 43) := by
      rw [← hV]; simp [World.setCell, Array.getElem?_modify, HB2.out]
    have hdV := (H.out.later fV).hd
    have mpV : V.drew.ownsMap Tryz.prog 3 ptR mb L.length (datP L) := (H.out.later fV).mp.drew
    obtain ⟨V2, hrun, hm2, hturn⟩ := mpV.store intK Tryz.underlying38 (by have := Hsm.out; unfold maxLen; omega) Hkq.out (val := ptV ⟨q1, q2, q3⟩) (ptR_ptV _)
    rw [Hdat.out] at hm2
    have hm2 := ownsMap_tight hm2
    rw [size_dat] at hm2
    obtain ⟨es, clock, es', clock', hes, hVe⟩ := hturn
    have fV2 : Fr0 (fun k => k = mb) V V2 := by rw [hVe]; exact (Fr0.refl (fun k => k = mb) V).drew.setBlock (fun _ => rfl) _
    have fw2 : Fr0 (fun k => k = mb) w V2 := (fV.mono (fun _ _ h => h.elim)).trans' fV2 (fun _ _ h => h)
    simp only [ptV] at hrun
    have g1 := Hlt.out sb (.inl rfl)
    have g2 := Hlt.out mb (.inr (.inl rfl))
    have g3 := HBz.out
    have p0 := cells_in hpV 0
    have p1 := cells_in hpV 1
    have p2 := cells_in hpV 2
    simp at p0 p1 p2
    have d3 : V.cell? ⟨sb, 3, none⟩ = some (.map (some mb)) := by rw [cells_in hdV]; rfl
    have a1 := cells_in ((fV2.block B (Array.getElem?_eq_some_iff.1 hpV).1 (by omega)).trans hpV) 0
    have a2 := cells_in ((fV2.block B (Array.getElem?_eq_some_iff.1 hpV).1 (by omega)).trans hpV) 1
    have a3 := cells_in ((fV2.block B (Array.getElem?_eq_some_iff.1 hpV).1 (by omega)).trans hpV) 2
    simp at a1 a2 a3
    have a4 : V2.cell? ⟨sb, 3, none⟩ = some (.map (some mb)) := by rw [cells_in ((fV2.block sb (Array.getElem?_eq_some_iff.1 hdV).1 Hne.out.1).trans hdV)]; rfl
    have HV := Lib.hid (show Fr0 (fun k => k = mb) w V2 ∧ V2.heap[sb]? = _ ∧ V2.ownsMap Tryz.prog 3 ptR mb (renP L q1 q2).length (datP (renP L q1 q2)) from ⟨fw2, (fV2.block sb (Array.getElem?_eq_some_iff.1 hdV).1 Hne.out.1).trans hdV, hm2⟩)
    have HA := Lib.hid (show _ ∧ _ ∧ _ ∧ _ from ⟨a1, a2, a3, a4⟩)
    clear hVe hes fV2 fw2 hm2 mpV hdV hpV fV hV g1 g2 g3 a1 a2 a3 a4
    refine wp_region_held_drew (S := fun W' => W'.cell? ⟨B, 0, none⟩ = some (.int .i64 q1) ∧ W'.cell? ⟨B, 1, none⟩ = some (.string (bs q2)) ∧ W'.cell? ⟨B, 2, none⟩ = some (.int .i64 q3) ∧ W'.cell? ⟨sb, 3, none⟩ = some (.map (some mb))) (by kernel_rfl) ⟨p0, p1, p2, d3⟩ (fun hHeld => ?_)
    refine take_on (i := 0) (v := .pointer (some ⟨sb, 0, none⟩)) rfl (by kernel_rfl) (by kernel_rfl) (by kernel_rfl) (fun _ _ _ h => h) (by kernel_rfl) (fun W' hSW => ?_) (by assumption) ?_
    · (try dsimp only at hSW)
      first | (go_simp; done) | exact rfl | (go_simp; rfl) | (go_simp; omega)
    try simp only [Act.put, List.setIfInBounds_toArray, List.set_cons_zero, List.set_cons_succ]
    refine take_on (i := 1) (v := .pointer (some ⟨sb, 0, none⟩)) rfl (by kernel_rfl) (by kernel_rfl) (by kernel_rfl) (fun _ _ _ h => h) (by kernel_rfl) (fun W' hSW => ?_) (by assumption) ?_
    · (try dsimp only at hSW)
      first | (go_simp; done) | exact rfl | (go_simp; rfl) | (go_simp; omega)
    try simp only [Act.put, List.setIfInBounds_toArray, List.set_cons_zero, List.set_cons_succ]
    refine take_on (i := 2) (v := .pointer (some ⟨sb, 3, none⟩)) rfl (by kernel_rfl) (by kernel_rfl) (by kernel_rfl) (fun _ _ _ h => h) (by kernel_rfl) (fun W' hSW => ?_) (by assumption) ?_
    · (try dsimp only at hSW)
      first | (go_simp; done) | exact rfl | (go_simp; rfl) | (go_simp; omega)
    try simp only [Act.put, List.setIfInBounds_toArray, List.set_cons_zero, List.set_cons_succ]
    refine take_on (i := 3) (v := .map (some mb)) rfl (by kernel_rfl) (by kernel_rfl) (by kernel_rfl) (fun _ _ _ h => h) (by kernel_rfl) (fun W' hSW => ?_) (by assumption) ?_
    · (try dsimp only at hSW)
      first | (go_simp; done) | exact rfl | (go_simp; rfl) | (go_simp; omega)
    try simp only [Act.put, List.setIfInBounds_toArray, List.set_cons_zero, List.set_cons_succ]
    refine take_on (i := 4) (v := .int .i64 q1) rfl (by kernel_rfl) (by kernel_rfl) (by kernel_rfl) (fun _ _ _ h => h) (by kernel_rfl) (fun W' hSW => ?_) (by assumption) ?_
    · (try dsimp only at hSW)
      first | (go_simp; done) | exact rfl | (go_simp; rfl) | (go_simp; omega)
    try simp only [Act.put, List.setIfInBounds_toArray, List.set_cons_zero, List.set_cons_succ]
    refine take_on (i := 5) (v := .agg #[.int .i64 q1, .string (bs q2), .int .i64 q3]) rfl (by kernel_rfl) (by kernel_rfl) (by kernel_rfl) (fun _ _ _ h => h) (by kernel_rfl) (fun W' hSW => ?_) (by assumption) ?_
    · (try dsimp only at hSW)
      first | (go_simp; done) | exact rfl | (go_simp; rfl) | (go_simp; omega)
    try simp only [Act.put, List.setIfInBounds_toArray, List.set_cons_zero, List.set_cons_succ]
    refine take_call (i := 6) rfl (by kernel_rfl) (by kernel_rfl) (fun K hK => ?_)
    go_simp
    refine hK.out _ _ HA.out (fun hHeld2 => ?_)
    clear hK K hrun
    try simp only [Act.put, List.setIfInBounds_toArray, List.set_cons_zero, List.set_cons_succ]
    refine wpAnyH_done (by kernel_rfl) ?_ _
    clear hHeld hHeld2 p0 p1 p2 d3 HA
    have v4 : V2.cell? ⟨sb, 4, none⟩ = some (.slice a L.length cap) := by rw [cells_in HV.out.2.1]; rfl
    go_wp2_with fail
    refine (HDr.out _ HV.out.1.block HV.out.1.size).mono ?_
    rintro e w3 ⟨v, rfl, hrow, hbe⟩
    obtain ⟨va, vq, vc, rfl⟩ : ∃ va vq vc, v = .slice va vq vc := by
      obtain ⟨A, c, rfl, _⟩ := ownsRow_cells hrow
      exact ⟨A, _, c, rfl⟩
    have hz3 := hbe.size
    have HAd := Lib.hid (HAdd.out va vq vc w3 (own_le hrow (Nat.zero_le _)))
    have f3 : Fr0 none' V2 w3 := below_to0 hbe
    have hd3 := (f3.block sb (Array.getElem?_eq_some_iff.1 HV.out.2.1).1 id).trans HV.out.2.1
    have y4 := thaw_in hd3 4
    have x4 := cells_in hd3 4
    simp at x4
    have hrl := hrow.lt
    have Hrl := Lib.hid (show ∀ g, (Value.slice va vq vc).ownBlock = some g → w.heap.size ≤ g ∧ g < w3.heap.size from fun g hg => by have := hrl g hg; have := HV.out.1.size; omega)
    have F3 := Lib.hid f3
    have Hd3 := Lib.hid hd3
    clear hrow hbe hrl f3 hz3 hd3 v4
    have hw4 : ∀ V4, w3.setCell ⟨sb, 4, none⟩ (.slice va vq vc) = V4 → V4.cell? ⟨sb, 4, none⟩ = some (.slice va vq vc) := fun V4 h => by
      rw [← h, cells_in (hd_turn Hd3.out (.int .i64 0) _).2]; rfl
    go_wp2_with fail
    obtain ⟨V4, hV4⟩ : ∃ V4, w3.setCell ⟨sb, 4, none⟩ (.slice va vq vc) = V4 := ⟨_, rfl⟩
    rw [hV4]
    have hd4 : V4.heap[sb]? = some (.cells #[.bool true, .int .i64 lim, .int .i64 nx, .map (some mb), .slice va vq vc] 40 (0, 0)) := by
      rw [← hV4]; exact (hd_turn Hd3.out (.int .i64 0) _).2
    have f4 : Fr0 (fun k => k = sb) w3 V4 := by rw [← hV4]; exact (Fr0.refl (fun k => k = sb) w3).setCell (b := sb) (o := 4) (fun _ => rfl) _
    refine (HAd.out V4 (f4.block) f4.size (fun g hg => by have := Hrl.out g hg; have := Hlt.out sb (.inl rfl); omega)).mono ?_
    rintro e w5 ⟨u, rfl, hrow, hbe⟩
    obtain ⟨ua, uq, uc, rfl⟩ : ∃ ua uq uc, u = .slice ua uq uc := by
      obtain ⟨A, c, rfl, _⟩ := ownsRow_cells hrow
      exact ⟨A, _, c, rfl⟩
    have f5 : Fr0 none' V4 w5 := below_to0 hbe
    have hd5 := (f5.block sb (Array.getElem?_eq_some_iff.1 hd4).1 id).trans hd4
    have y5 := thaw_in hd5 4
    have x5 := cells_in hd5 4
    simp at x5
    have hrl := hrow.lt
    have hz4 := f4.size
    have Hul := Lib.hid (show ∀ g, (Value.slice ua uq uc).ownBlock = some g → w.heap.size ≤ g ∧ g < w5.heap.size from fun g hg => by have := hrl g hg; have := HV.out.1.size; have := F3.out.size; omega)
    have Hfin := Lib.hid (show RenPost sb mb (.slice a L.length cap) lim nx (renP L q1 q2) q2 0 w (.returned (.tuple #[.string (bs q2), .int .i64 0])) (w5.setCell ⟨sb, 4, none⟩ (.slice ua uq uc)) from by
      have k1 := Hlt.out sb (.inl rfl)
      have k2 := Hlt.out mb (.inr (.inl rfl))
      have k3 := HV.out.1.size
      have fA : Fr0 (fun k => k = sb) w3 w5 := f4.trans' f5 (fun _ _ h => h.elim)
      have fB : Fr0 (fun k => k = sb) V2 (w5.setCell ⟨sb, 4, none⟩ (.slice ua uq uc)) := ((F3.out.mono (fun _ _ h => h.elim)).trans' fA (fun _ _ h => h)).setCell (fun _ => rfl) _
      refine ⟨rfl, .slice ua uq uc, ⟨(hd_turn hd5 (.int .i64 0) _).2, ownsMap_fr0 HV.out.2.2 fB (fun e => Hne.out.1 e.symm), ?_, Hok.out, Hne.out.1, fun g hg => ?_⟩, (HV.out.1.mono (fun _ _ h => .inr h)).trans' fB (fun _ _ h => .inl h), fun g hg => .inr (Hul.out g hg).1⟩
      · rw [← Hnm.out]
        exact own_le (ownsRow_fr0 hrow ((Fr0.refl (fun k => k = sb) w5).setCell (b := sb) (o := 4) (fun _ => rfl) _) (fun g hg e => by have := Hul.out g hg; omega)) (Nat.zero_le _)
      · have := Hul.out g hg; omega)
    clear hrow hbe hrl f5 hd5 hd4 f4 hz4 hV4 x4 y4 hw4
    go_wp2
    go_ret2
    exact Hfin.out
  · have hfr : nameP L s = none := nameP_none.2 (fun p hp e => hsq (by have := hfree p hp e; subst this; exact e))
    have HH := Lib.hid (fun (V : World) (hV : Fr0 none' w V) => has_is (h.later hV) s hs false (by rw [hfr]; rfl))
    have hsq2 : ((bs s).toList == (bs q2).toList) = false := by rw [str_eq]; exact beq_false_of_ne (fun e => hsq e.symm)
    clear h hq hG hq1 hq2 hin hD1 hD2 hokd hokr hlen hlenr hc hqn hbd hA1 hA2 hset hnot hdl hren hdat hfree hdel hs hsm hfr
    go_enter Tryz.func12, Tryz.ntmps12
    go_wp2_with fail
    refine HG.out.mono ?_
    rintro e w1 ⟨rfl, hf⟩
    simp only [ptV]
    obtain ⟨B, hB⟩ : ∃ B, w1.heap.size = B := ⟨_, rfl⟩
    obtain ⟨W, hW⟩ : ∃ W, w1.alloc (.cells #[.int .i64 q1, .string (bs q2), .int .i64 q3] 43) = W := ⟨_, rfl⟩
    have hx2 : W.heap[B]? = some (.cells #[.int .i64 q1, .string (bs q2), .int .i64 q3] 43 (0, 0)) := by rw [← hW, ← hB]; exact World.alloc_heap_new w1 _
    have x1 := cells_in hx2 1
    simp at x1
    have F := Lib.hid (show Fr0 none' w W by rw [← hW]; exact hf.alloc _)
    have HB1 := Lib.hid hx2
    have HBz := Lib.hid (show w.heap.size ≤ B by rw [← hB]; exact hf.size)
    clear hf hx2
    go_wp2_with fail
    refine (HR.out _).mono ?_
    rintro e w2' ⟨rfl, rfl⟩
    go_wp2_with fail
    refine (HH.out _ F.out).mono ?_
    rintro e w2 ⟨rfl, hf⟩
    clear hB hW x1
    have HB2 := Lib.hid ((hf.block B (Array.getElem?_eq_some_iff.1 HB1.out).1 id).trans HB1.out)
    have x1 := cells_in HB2.out 1
    have y1 := thaw_in HB2.out 1
    simp at x1
    have F2 := Lib.hid (F.out.trans hf)
    clear hf
    go_wp2_with fail
    clear x1 y1
    obtain ⟨V, hV⟩ : ∃ V, w2.setCell ⟨B, 1, none⟩ (.string (bs s)) = V := ⟨_, rfl⟩
    rw [hV]
    have fV : Fr0 none' w V := by rw [← hV]; exact F2.out.setCell (fun h => by have := HBz.out; omega) _
    have hpV : V.heap[B]? = some (.cells #[.int .i64 q1, .string (bs s), .int .i64 q3] 43) := by
      rw [← hV]; simp [World.setCell, Array.getElem?_modify, HB2.out]
    have hdV := (H.out.later fV).hd
    have mpV : V.drew.ownsMap Tryz.prog 3 ptR mb L.length (datP L) := (H.out.later fV).mp.drew
    obtain ⟨V2, hrun, hm2, hturn⟩ := mpV.store intK Tryz.underlying38 (by have := Hsm.out; unfold maxLen; omega) Hkq.out (val := ptV ⟨q1, s, q3⟩) (ptR_ptV _)
    rw [Hdat.out] at hm2
    have hm2 := ownsMap_tight hm2
    rw [size_dat] at hm2
    obtain ⟨es, clock, es', clock', hes, hVe⟩ := hturn
    have fV2 : Fr0 (fun k => k = mb) V V2 := by rw [hVe]; exact (Fr0.refl (fun k => k = mb) V).drew.setBlock (fun _ => rfl) _
    have fw2 : Fr0 (fun k => k = mb) w V2 := (fV.mono (fun _ _ h => h.elim)).trans' fV2 (fun _ _ h => h)
    simp only [ptV] at hrun
    have g1 := Hlt.out sb (.inl rfl)
    have g2 := Hlt.out mb (.inr (.inl rfl))
    have g3 := HBz.out
    have p0 := cells_in hpV 0
    have p1 := cells_in hpV 1
    have p2 := cells_in hpV 2
    simp at p0 p1 p2
    have d3 : V.cell? ⟨sb, 3, none⟩ = some (.map (some mb)) := by rw [cells_in hdV]; rfl
    have a1 := cells_in ((fV2.block B (Array.getElem?_eq_some_iff.1 hpV).1 (by omega)).trans hpV) 0
    have a2 := cells_in ((fV2.block B (Array.getElem?_eq_some_iff.1 hpV).1 (by omega)).trans hpV) 1
    have a3 := cells_in ((fV2.block B (Array.getElem?_eq_some_iff.1 hpV).1 (by omega)).trans hpV) 2
    simp at a1 a2 a3
    have a4 : V2.cell? ⟨sb, 3, none⟩ = some (.map (some mb)) := by rw [cells_in ((fV2.block sb (Array.getElem?_eq_some_iff.1 hdV).1 Hne.out.1).trans hdV)]; rfl
    have HV := Lib.hid (show Fr0 (fun k => k = mb) w V2 ∧ V2.heap[sb]? = _ ∧ V2.ownsMap Tryz.prog 3 ptR mb (renP L q1 s).length (datP (renP L q1 s)) from ⟨fw2, (fV2.block sb (Array.getElem?_eq_some_iff.1 hdV).1 Hne.out.1).trans hdV, hm2⟩)
    have HA := Lib.hid (show _ ∧ _ ∧ _ ∧ _ from ⟨a1, a2, a3, a4⟩)
    clear hVe hes fV2 fw2 hm2 mpV hdV hpV fV hV g1 g2 g3 a1 a2 a3 a4
    refine wp_region_held_drew (S := fun W' => W'.cell? ⟨B, 0, none⟩ = some (.int .i64 q1) ∧ W'.cell? ⟨B, 1, none⟩ = some (.string (bs s)) ∧ W'.cell? ⟨B, 2, none⟩ = some (.int .i64 q3) ∧ W'.cell? ⟨sb, 3, none⟩ = some (.map (some mb))) (by kernel_rfl) ⟨p0, p1, p2, d3⟩ (fun hHeld => ?_)
    refine take_on (i := 0) (v := .pointer (some ⟨sb, 0, none⟩)) rfl (by kernel_rfl) (by kernel_rfl) (by kernel_rfl) (fun _ _ _ h => h) (by kernel_rfl) (fun W' hSW => ?_) (by assumption) ?_
    · (try dsimp only at hSW)
      first | (go_simp; done) | exact rfl | (go_simp; rfl) | (go_simp; omega)
    try simp only [Act.put, List.setIfInBounds_toArray, List.set_cons_zero, List.set_cons_succ]
    refine take_on (i := 1) (v := .pointer (some ⟨sb, 0, none⟩)) rfl (by kernel_rfl) (by kernel_rfl) (by kernel_rfl) (fun _ _ _ h => h) (by kernel_rfl) (fun W' hSW => ?_) (by assumption) ?_
    · (try dsimp only at hSW)
      first | (go_simp; done) | exact rfl | (go_simp; rfl) | (go_simp; omega)
    try simp only [Act.put, List.setIfInBounds_toArray, List.set_cons_zero, List.set_cons_succ]
    refine take_on (i := 2) (v := .pointer (some ⟨sb, 3, none⟩)) rfl (by kernel_rfl) (by kernel_rfl) (by kernel_rfl) (fun _ _ _ h => h) (by kernel_rfl) (fun W' hSW => ?_) (by assumption) ?_
    · (try dsimp only at hSW)
      first | (go_simp; done) | exact rfl | (go_simp; rfl) | (go_simp; omega)
    try simp only [Act.put, List.setIfInBounds_toArray, List.set_cons_zero, List.set_cons_succ]
    refine take_on (i := 3) (v := .map (some mb)) rfl (by kernel_rfl) (by kernel_rfl) (by kernel_rfl) (fun _ _ _ h => h) (by kernel_rfl) (fun W' hSW => ?_) (by assumption) ?_
    · (try dsimp only at hSW)
      first | (go_simp; done) | exact rfl | (go_simp; rfl) | (go_simp; omega)
    try simp only [Act.put, List.setIfInBounds_toArray, List.set_cons_zero, List.set_cons_succ]
    refine take_on (i := 4) (v := .int .i64 q1) rfl (by kernel_rfl) (by kernel_rfl) (by kernel_rfl) (fun _ _ _ h => h) (by kernel_rfl) (fun W' hSW => ?_) (by assumption) ?_
    · (try dsimp only at hSW)
      first | (go_simp; done) | exact rfl | (go_simp; rfl) | (go_simp; omega)
    try simp only [Act.put, List.setIfInBounds_toArray, List.set_cons_zero, List.set_cons_succ]
    refine take_on (i := 5) (v := .agg #[.int .i64 q1, .string (bs s), .int .i64 q3]) rfl (by kernel_rfl) (by kernel_rfl) (by kernel_rfl) (fun _ _ _ h => h) (by kernel_rfl) (fun W' hSW => ?_) (by assumption) ?_
    · (try dsimp only at hSW)
      first | (go_simp; done) | exact rfl | (go_simp; rfl) | (go_simp; omega)
    try simp only [Act.put, List.setIfInBounds_toArray, List.set_cons_zero, List.set_cons_succ]
    refine take_call (i := 6) rfl (by kernel_rfl) (by kernel_rfl) (fun K hK => ?_)
    go_simp
    refine hK.out _ _ HA.out (fun hHeld2 => ?_)
    clear hK K hrun
    try simp only [Act.put, List.setIfInBounds_toArray, List.set_cons_zero, List.set_cons_succ]
    refine wpAnyH_done (by kernel_rfl) ?_ _
    clear hHeld hHeld2 p0 p1 p2 d3 HA
    have v4 : V2.cell? ⟨sb, 4, none⟩ = some (.slice a L.length cap) := by rw [cells_in HV.out.2.1]; rfl
    go_wp2_with fail
    refine (HDr.out _ HV.out.1.block HV.out.1.size).mono ?_
    rintro e w3 ⟨v, rfl, hrow, hbe⟩
    obtain ⟨va, vq, vc, rfl⟩ : ∃ va vq vc, v = .slice va vq vc := by
      obtain ⟨A, c, rfl, _⟩ := ownsRow_cells hrow
      exact ⟨A, _, c, rfl⟩
    have hz3 := hbe.size
    have HAd := Lib.hid (HAdd.out va vq vc w3 (own_le hrow (Nat.zero_le _)))
    have f3 : Fr0 none' V2 w3 := below_to0 hbe
    have hd3 := (f3.block sb (Array.getElem?_eq_some_iff.1 HV.out.2.1).1 id).trans HV.out.2.1
    have y4 := thaw_in hd3 4
    have x4 := cells_in hd3 4
    simp at x4
    have hrl := hrow.lt
    have Hrl := Lib.hid (show ∀ g, (Value.slice va vq vc).ownBlock = some g → w.heap.size ≤ g ∧ g < w3.heap.size from fun g hg => by have := hrl g hg; have := HV.out.1.size; omega)
    have F3 := Lib.hid f3
    have Hd3 := Lib.hid hd3
    clear hrow hbe hrl f3 hz3 hd3 v4
    have hw4 : ∀ V4, w3.setCell ⟨sb, 4, none⟩ (.slice va vq vc) = V4 → V4.cell? ⟨sb, 4, none⟩ = some (.slice va vq vc) := fun V4 h => by
      rw [← h, cells_in (hd_turn Hd3.out (.int .i64 0) _).2]; rfl
    go_wp2_with fail
    obtain ⟨V4, hV4⟩ : ∃ V4, w3.setCell ⟨sb, 4, none⟩ (.slice va vq vc) = V4 := ⟨_, rfl⟩
    rw [hV4]
    have hd4 : V4.heap[sb]? = some (.cells #[.bool true, .int .i64 lim, .int .i64 nx, .map (some mb), .slice va vq vc] 40 (0, 0)) := by
      rw [← hV4]; exact (hd_turn Hd3.out (.int .i64 0) _).2
    have f4 : Fr0 (fun k => k = sb) w3 V4 := by rw [← hV4]; exact (Fr0.refl (fun k => k = sb) w3).setCell (b := sb) (o := 4) (fun _ => rfl) _
    refine (HAd.out V4 (f4.block) f4.size (fun g hg => by have := Hrl.out g hg; have := Hlt.out sb (.inl rfl); omega)).mono ?_
    rintro e w5 ⟨u, rfl, hrow, hbe⟩
    obtain ⟨ua, uq, uc, rfl⟩ : ∃ ua uq uc, u = .slice ua uq uc := by
      obtain ⟨A, c, rfl, _⟩ := ownsRow_cells hrow
      exact ⟨A, _, c, rfl⟩
    have f5 : Fr0 none' V4 w5 := below_to0 hbe
    have hd5 := (f5.block sb (Array.getElem?_eq_some_iff.1 hd4).1 id).trans hd4
    have y5 := thaw_in hd5 4
    have x5 := cells_in hd5 4
    simp at x5
    have hrl := hrow.lt
    have hz4 := f4.size
    have Hul := Lib.hid (show ∀ g, (Value.slice ua uq uc).ownBlock = some g → w.heap.size ≤ g ∧ g < w5.heap.size from fun g hg => by have := hrl g hg; have := HV.out.1.size; have := F3.out.size; omega)
    have Hfin := Lib.hid (show RenPost sb mb (.slice a L.length cap) lim nx (renP L q1 s) q2 0 w (.returned (.tuple #[.string (bs q2), .int .i64 0])) (w5.setCell ⟨sb, 4, none⟩ (.slice ua uq uc)) from by
      have k1 := Hlt.out sb (.inl rfl)
      have k2 := Hlt.out mb (.inr (.inl rfl))
      have k3 := HV.out.1.size
      have fA : Fr0 (fun k => k = sb) w3 w5 := f4.trans' f5 (fun _ _ h => h.elim)
      have fB : Fr0 (fun k => k = sb) V2 (w5.setCell ⟨sb, 4, none⟩ (.slice ua uq uc)) := ((F3.out.mono (fun _ _ h => h.elim)).trans' fA (fun _ _ h => h)).setCell (fun _ => rfl) _
      refine ⟨rfl, .slice ua uq uc, ⟨(hd_turn hd5 (.int .i64 0) _).2, ownsMap_fr0 HV.out.2.2 fB (fun e => Hne.out.1 e.symm), ?_, Hok.out, Hne.out.1, fun g hg => ?_⟩, (HV.out.1.mono (fun _ _ h => .inr h)).trans' fB (fun _ _ h => .inl h), fun g hg => .inr (Hul.out g hg).1⟩
      · rw [← Hnm.out]
        exact own_le (ownsRow_fr0 hrow ((Fr0.refl (fun k => k = sb) w5).setCell (b := sb) (o := 4) (fun _ => rfl) _) (fun g hg e => by have := Hul.out g hg; omega)) (Nat.zero_le _)
      · have := Hul.out g hg; omega)
    clear hrow hbe hrl f5 hd5 hd4 f4 hz4 hV4 x4 y4 hw4
    go_wp2
    go_ret2
    exact Hfin.out
end Go.Proofs.YtieeloealklkgaaGreatDoor

/-
  Rows of ports; the laws' own comparison of ports.
-/
namespace Go.Proofs.YtieeloealklkgaaGreatDoor
open Go.RowKit Go.Maps
attribute [local go_sem ↓] Go.wp_at_zero Go.wp_at_succ

/-- The three cells of a port. -/
def PtAt (w : World) (g o : Nat) (p : Pt) : Prop := w.cell? ⟨g, o, none⟩ = some (.int .i64 p.number) ∧ w.cell? ⟨g, o + 1, none⟩ = some (.string (bs p.name)) ∧ w.cell? ⟨g, o + 2, none⟩ = some (.int .i64 p.process)
def PtsIn (w : World) (a : Option Addr) (L : List Pt) : Prop := ∀ i p, L[i]? = some p → ∃ g o, a = some ⟨g, o, none⟩ ∧ PtAt w g (o + i * 3) p
def PtsAt (w : World) (v : Value) (L : List Pt) : Prop := ∃ a cap, v = .slice a L.length cap ∧ PtsIn w a L
theorem PtAt.later {w w' : World} {g o : Nat} {p : Pt} (h : PtAt w g o p) (hf : Fr0 none' w w') : PtAt w' g o p := ⟨hf.later h.1, hf.later h.2.1, hf.later h.2.2⟩
theorem PtAt.fr0 {S : Nat → Prop} {w w' : World} {g o : Nat} {p : Pt} (h : PtAt w g o p) (hf : Fr0 S w w') (hS : ¬ S g) : PtAt w' g o p := by
  have hl := World.block_lt_of_cell? _ _ h.1
  exact ⟨(hf.cell (p := ⟨g, o, none⟩) hl hS).trans h.1, (hf.cell (p := ⟨g, o + 1, none⟩) hl hS).trans h.2.1, (hf.cell (p := ⟨g, o + 2, none⟩) hl hS).trans h.2.2⟩
theorem PtsIn.fr0 {S : Nat → Prop} {w w' : World} {a : Option Addr} {L : List Pt} (h : PtsIn w a L) (hf : Fr0 S w w') (hS : ∀ g o s, a = some ⟨g, o, s⟩ → ¬ S g) : PtsIn w' a L := fun i p hp => by
  obtain ⟨g, o, rfl, hc⟩ := h i p hp
  exact ⟨g, o, rfl, hc.fr0 hf (hS g o none rfl)⟩
theorem PtsIn.later {w w' : World} {a : Option Addr} {L : List Pt} (h : PtsIn w a L) (hf : Fr0 none' w w') : PtsIn w' a L := h.fr0 hf (fun _ _ _ _ h => h)
theorem PtsAt.of_own {w : World} {base : Nat} {v : Value} {n : Nat} {L : List Pt} (h : w.ownsRow base 43 3 v n (flatP L)) (hn : L.length = n) : PtsAt w v L := by
  have hl := h.1
  rcases h.2 with ⟨rfl, h0⟩ | ⟨g, cap, cur, rfl, hb, hg, hn', hcm, hs, ht⟩
  · have : L = [] := List.eq_nil_of_length_eq_zero (by omega)
    subst this
    exact ⟨none, 0, rfl, fun i p hp => by simp at hp⟩
  · refine ⟨_, cap, by rw [hn], fun i p hp => ⟨g, 0, rfl, ?_, ?_, ?_⟩⟩
    all_goals
      have hi := (List.getElem?_eq_some_iff.1 hp).1
      have h1 : ∀ j, j < n * 3 → cur.toList[j]? = (flatP L)[j]? := fun j hj => by rw [← ht, List.getElem?_take_of_lt hj]
      have h2 := flatP_at L i
      rw [cells_in hg, ← Array.getElem?_toList, Nat.zero_add]
    · have := h2 0 p hp (by omega); rw [Nat.add_zero] at this; rw [h1 _ (by omega), this]; rfl
    · rw [h1 _ (by omega), h2 1 p hp (by omega)]; rfl
    · rw [h1 _ (by omega), h2 2 p hp (by omega)]; rfl
theorem PtsIn.nil (w : World) (a : Option Addr) : PtsIn w a [] := fun i p hp => by simp at hp

/-- Whether two ports are the same. -/
def samePt (p q : Pt) : Bool := decide (p = q)
theorem samePt_eq (p q : Pt) : samePt p q = decide (p = q) := rfl
@[go_sem] theorem samePt_self (p : Pt) : samePt p p = true := decide_eq_true rfl
theorem samePt_ne {p q : Pt} (h : p ≠ q) : samePt p q = false := decide_eq_false h
theorem pt_eq (p q : Pt) : (decide (p.number = q.number) && ((bs p.name).toList == (bs q.name).toList) && decide (p.process = q.process)) = decide (p = q) := by
  rw [str_eq, Bool.eq_iff_iff]
  obtain ⟨a, b, c⟩ := p
  obtain ⟨x, y, z⟩ := q
  simp [and_assoc]
theorem run_eql_pt (a c a' c' : Int) (b b' : Bs) (w : World) : (binOp .eql 43 (.agg #[.int .i64 a, .string (bs b), .int .i64 c]) (.agg #[.int .i64 a', .string (bs b'), .int .i64 c'])).run Tryz.prog w = .ok (.bool (samePt ⟨a, b, c⟩ ⟨a', b', c'⟩)) w := by
  rw [samePt_eq, ← pt_eq]
  by_cases h1 : a = a'
  · by_cases h2 : ((bs b).toList == (bs b').toList) = true
    · by_cases h3 : c = c' <;> go_simp
    · have h2 : ((bs b).toList == (bs b').toList) = false := by simpa using h2
      go_simp
  · go_simp
theorem run_neq_pt (a c a' c' : Int) (b b' : Bs) (w : World) : (binOp .neq 43 (.agg #[.int .i64 a, .string (bs b), .int .i64 c]) (.agg #[.int .i64 a', .string (bs b'), .int .i64 c'])).run Tryz.prog w = .ok (.bool (!samePt ⟨a, b, c⟩ ⟨a', b', c'⟩)) w := by
  rw [samePt_eq, ← pt_eq]
  by_cases h1 : a = a'
  · by_cases h2 : ((bs b).toList == (bs b').toList) = true
    · by_cases h3 : c = c' <;> go_simp
    · have h2 : ((bs b).toList == (bs b').toList) = false := by simpa using h2
      go_simp
  · go_simp
theorem run_neq_rpt (a c a' c' : Int) (b b' : Bs) (w : World) : (binOp .neq 68 (.agg #[.int .i64 a, .string (bs b), .int .i64 c]) (.agg #[.int .i64 a', .string (bs b'), .int .i64 c'])).run Tryz.prog w = .ok (.bool (!samePt ⟨a, b, c⟩ ⟨a', b', c'⟩)) w := by
  rw [samePt_eq, ← pt_eq]
  by_cases h1 : a = a'
  · by_cases h2 : ((bs b).toList == (bs b').toList) = true
    · by_cases h3 : c = c' <;> go_simp
    · have h2 : ((bs b).toList == (bs b').toList) = false := by simpa using h2
      go_simp
  · go_simp
attribute [local go_sem high] run_neq_rpt
set_option maxRecDepth 100000 in
set_option maxHeartbeats 2000000 in
theorem ports_any (a a' : Option Addr) (n n' cap cap' : Nat) (xs ys : List Pt) (w : World) (hn : xs.length = n) (hn' : ys.length = n') (hm : n ≤ 1000000) (hm' : n' ≤ 1000000)
    (hc : PtsIn w a xs) (hc' : PtsIn w a' ys) :
    Calls Tryz.prog 45 #[.slice a n cap, .slice a' n' cap'] w fun e w' => e = .returned (.bool (decide (xs = ys))) ∧ Fr0 none' w w' := by
  obtain ⟨R, hR⟩ : ∃ R, decide (xs = ys) = R := ⟨_, rfl⟩
  rw [hR]
  have HR := Lib.hid hR
  have Hn := Lib.hid hn
  have Hn' := Lib.hid hn'
  have Hc := Lib.hid hc
  have Hc' := Lib.hid hc'
  clear hR hn hn' hc hc'
  by_cases hnn : n = n'
  · subst hnn
    have d0 : ((n : Int) != (n : Int)) = false := by simp
    go_enter Tryz.func45, Tryz.ntmps45
    go_wp2
    clear d0
    go_loopw [14] (fun i wr => ∃ k : Nat, k ≤ n ∧ i = .int .i64 k ∧ Hid (xs.take k = ys.take k) ∧ Hid (Fr0 none' w wr)) (fun i _ => n - (Go.RowKit.intOf i).toNat)
    case atStart => exact ⟨0, Nat.zero_le _, rfl, rfl, Fr0.refl _ _⟩
    case round =>
      obtain ⟨k, hk, rfl, hpre, hb⟩ := hrel
      by_cases hlt : k < n
      · have h1 : k < xs.length := by rw [Hn.out]; exact hlt
        have h2 : k < ys.length := by rw [Hn'.out]; exact hlt
        obtain ⟨x, hx⟩ : ∃ x, xs[k]? = some x := ⟨_, List.getElem?_eq_getElem h1⟩
        obtain ⟨y, hy⟩ : ∃ y, ys[k]? = some y := ⟨_, List.getElem?_eq_getElem h2⟩
        obtain ⟨g, o, rfl, hcx⟩ := Hc.out k x hx
        obtain ⟨g', o', rfl, hcy⟩ := Hc'.out k y hy
        obtain ⟨x0, x1, x2⟩ := hcx.later hb.out
        have hcy := Lib.hid (hcy.later hb.out)
        have hx' := Lib.hid hx
        have hy' := Lib.hid hy
        obtain ⟨B, hB⟩ : ∃ B, wr.heap.size = B := ⟨_, rfl⟩
        obtain ⟨W, hW⟩ : ∃ W, wr.alloc (.cells #[.int .i64 x.number, .string (bs x.name), .int .i64 x.process] 43) = W := ⟨_, rfl⟩
        have hx2 : W.heap[B]? = some (.cells #[.int .i64 x.number, .string (bs x.name), .int .i64 x.process] 43 (0, 0)) := by rw [← hW, ← hB]; exact World.alloc_heap_new wr _
        have z0 := cells_in hx2 0
        have z1 := cells_in hx2 1
        have z2 := cells_in hx2 2
        simp at z0 z1 z2
        have FW := Lib.hid (show Fr0 none' w W by rw [← hW]; exact hb.out.alloc _)
        obtain ⟨y0, y1, y2⟩ := hcy.out.later (show Fr0 none' wr W by rw [← hW]; exact (Fr0.refl _ _).alloc _)
        clear hx hy h1 h2 hx2 hb
        have c1 : (0 : Int) ≤ (k : Int) := by omega
        have c2 : (k : Int) < (n : Int) := by omega
        by_cases hxy : x = y
        · subst hxy
          go_wp2
          go_quiet (fail)

          go_wp2
          refine ⟨⟨k + 1, by omega, by go_num, by unfold Hid; rw [List.take_add_one, List.take_add_one, hpre.out, hx'.out, hy'.out], by first | exact FW | exact ⟨FW.out.os, FW.out.tape, FW.out.output, FW.out.size, FW.out.block⟩⟩, ?_⟩
          simp [Go.RowKit.intOf]; omega
        · have d1 : samePt ⟨x.number, x.name, x.process⟩ ⟨y.number, y.name, y.process⟩ = false := samePt_ne hxy
          have hres : Hid (false = R) := by
            unfold Hid; rw [← HR.out]
            refine (decide_eq_false (fun h => hxy ?_)).symm
            have := hx'.out; rw [h, hy'.out] at this; exact (Option.some.inj this).symm
          clear hxy
          go_wp2
          go_quiet (fail)

          go_wp2
          go_ret
          exact ⟨ret_bool hres.out, by first | exact FW.out | exact ⟨FW.out.os, FW.out.tape, FW.out.output, FW.out.size, FW.out.block⟩⟩
      · have hres : Hid (true = R) := by
          unfold Hid; rw [← HR.out]
          refine (decide_eq_true ?_).symm
          have := hpre.out
          rwa [List.take_of_length_le (by rw [Hn.out]; omega), List.take_of_length_le (by rw [Hn'.out]; omega)] at this
        go_wp2
        go_ret
        exact ⟨ret_bool hres.out, hb⟩
  · have hres : Hid (false = R) := by
      unfold Hid; rw [← HR.out]
      refine (decide_eq_false (fun h => hnn ?_)).symm
      rw [← Hn.out, ← Hn'.out, h]
    have d0 : ((n : Int) != (n' : Int)) = true := by simp; omega
    clear hnn
    go_enter Tryz.func45, Tryz.ntmps45
    go_wp2
    go_ret
    exact ⟨ret_bool hres.out, Fr0.refl _ _⟩
end Go.Proofs.YtieeloealklkgaaGreatDoor

/-
  slices.Equal at ports and at strings; slices.ContainsFunc at ports.
-/
namespace Go.Proofs.YtieeloealklkgaaGreatDoor
open Go.RowKit Go.Maps
attribute [local go_sem ↓] Go.wp_at_zero Go.wp_at_succ
section
attribute [local go_sem high] run_neq_pt
end
theorem Cells.later {w w' : World} {a : Option Addr} {xs : List Value} (h : Cells w a xs) (hf : Fr0 none' w w') : Cells w' a xs := fun j x hj => by
  obtain ⟨b, off, h1, h2⟩ := h j x hj
  exact ⟨b, off, h1, hf.later h2⟩
end Go.Proofs.YtieeloealklkgaaGreatDoor

/-
  slices.ContainsFunc at ports, with the closures of Made.
-/
namespace Go.Proofs.YtieeloealklkgaaGreatDoor
open Go.RowKit Go.Maps
attribute [local go_sem ↓] Go.wp_at_zero Go.wp_at_succ
attribute [local go_sem high] run_neq_pt

instance : Inhabited Pt := ⟨noPt⟩
end Go.Proofs.YtieeloealklkgaaGreatDoor
