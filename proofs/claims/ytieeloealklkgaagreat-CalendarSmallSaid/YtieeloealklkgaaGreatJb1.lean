/-
  Spaces: what each function of the package does, and what the laws make of it.
-/
import Derived.Test.YtieeloealklkgaaGreatJa1
import Derived.WalkKit
import Derived.Deep.WholeRow
import Derived.Deep.QuietTactic
import Derived.BigQuiet
import Derived.Deep.RegionLaw
import Derived.Deep.LoopGhost
import Derived.Lib.SliceRun
import Derived.Shelf.RegionOpenPlain
import Derived.Laws.CopyRow
import Derived.Lib.AppendZerosOnto
import Derived.Lib.Overlaps
import Derived.Laws.Externs
import Derived.Shelf.Spec.SlicesInsert
import Derived.Test.YtieeloealklkgaaGreatJa2
set_option linter.unusedSimpArgs false
set_option linter.unusedVariables false
set_option maxRecDepth 100000

/-
  Events and queues of events; plain Lean.
-/
namespace Go.Proofs.YtieeloealklkgaaGreat

/-- An event: its key, for whom it is, what it says. -/
structure Ev where
 key : Key3
 to : Int
 value : Int
deriving DecidableEq, Inhabited
def zeroE : Ev := ⟨zeroK, 0, 0⟩
def Ev.name (x : Ev) : Int × Int := (x.key.source, x.key.seq)
/-- In the order of keys. -/
def AscE (E : List Ev) : Prop := E.Pairwise (fun a b => cmpK a.key b.key < 0)
/-- Each name once. -/
def OnceE (E : List Ev) : Prop := (E.map Ev.name).Nodup
def insE (x : Ev) : List Ev → List Ev
 | [] => [x]
 | y :: r => if cmpK y.key x.key < 0 then y :: insE x r else x :: y :: r
def delE (p : Int × Int) (E : List Ev) : List Ev := E.filter (fun x => x.name != p)
def findE (p : Int × Int) (E : List Ev) : Option Ev := E.find? (fun x => x.name == p)

theorem insE_perm (x : Ev) (E : List Ev) : (insE x E).Perm (x :: E) := by
 induction E with
 | nil => exact List.Perm.refl _
 | cons y r ih =>
  rw [insE]
  split
  ·exact (ih.cons y).trans (List.Perm.swap _ _ _)
  ·exact List.Perm.refl _
theorem insE_mem {x y : Ev} {E : List Ev} : y ∈ insE x E ↔ y = x ∨ y ∈ E := by rw [(insE_perm x E).mem_iff, List.mem_cons]
theorem insE_length (x : Ev) (E : List Ev) : (insE x E).length = E.length + 1 := by rw [(insE_perm x E).length_eq, List.length_cons]
theorem OnceE.inj {E : List Ev} (h : OnceE E) {a b : Ev} (ha : a ∈ E) (hb : b ∈ E) (e : a.name = b.name) : a = b := by
 induction E with
 | nil => cases ha
 | cons x r ih =>
  have h' := List.nodup_cons.1 h
  rcases List.mem_cons.1 ha with h1 | h1 <;> rcases List.mem_cons.1 hb with h2 | h2
  ·rw [h1, h2]
  ·subst h1; exact absurd (List.mem_map.2 ⟨b, h2, e.symm⟩) h'.1
  ·subst h2; exact absurd (List.mem_map.2 ⟨a, h1, e⟩) h'.1
  ·exact ih h'.2 h1 h2
theorem OnceE.perm {E F : List Ev} (h : OnceE E) (hp : E.Perm F) : OnceE F := (hp.map _).nodup_iff.1 h
theorem insE_once {x : Ev} {E : List Ev} (h : OnceE E) (hn : ∀ y ∈ E, y.name ≠ x.name) : OnceE (insE x E) := by
 refine OnceE.perm (E := x :: E) ?_ (insE_perm x E).symm
 refine List.nodup_cons.2 ⟨fun hm => ?_, h⟩
 obtain ⟨y, hy, e⟩ := List.mem_map.1 hm
 exact hn y hy e
theorem name_key {a b : Ev} (h : a.key = b.key) : a.name = b.name := by unfold Ev.name; rw [h]
theorem insE_asc {x : Ev} {E : List Ev} (h : AscE E) (hn : ∀ y ∈ E, y.name ≠ x.name) : AscE (insE x E) := by
 induction E with
 | nil => exact List.pairwise_singleton _ _
 | cons y r ih =>
  have h' := List.pairwise_cons.1 h
  rw [insE]
  split
  ·next hlt =>
   refine List.pairwise_cons.2 ⟨fun z hz => ?_, ih h'.2 (fun z hz => hn z (List.mem_cons_of_mem _ hz))⟩
   rcases insE_mem.1 hz with rfl | hz
   ·exact hlt
   ·exact h'.1 z hz
  ·next hge =>
   have h0 : cmpK x.key y.key < 0 := by
    have h1 := cmpK_anti x.key y.key
    have h2 : cmpK y.key x.key ≠ 0 := fun e => hn y List.mem_cons_self (name_key ((cmpK_eq _ _).1 e))
    omega
   refine List.pairwise_cons.2 ⟨fun z hz => ?_, h⟩
   rcases List.mem_cons.1 hz with rfl | hz
   ·exact h0
   ·exact cmpK_trans _ _ _ h0 (h'.1 z hz)
theorem delE_asc {p : Int × Int} {E : List Ev} (h : AscE E) : AscE (delE p E) := List.Pairwise.filter _ h
theorem delE_once {p : Int × Int} {E : List Ev} (h : OnceE E) : OnceE (delE p E) := (List.filter_sublist.map _).nodup h
theorem delE_perm {E : List Ev} (h : OnceE E) {x : Ev} (hx : x ∈ E) : E.Perm (x :: delE x.name E) := by
 induction E with
 | nil => cases hx
 | cons y r ih =>
  have h' := List.nodup_cons.1 h
  rcases List.mem_cons.1 hx with h1 | h1
  ·subst h1
   have : delE x.name (x :: r) = r := by
    unfold delE
    rw [List.filter_cons_of_neg (by simp)]
    refine List.filter_eq_self.2 (fun y hy => ?_)
    simp only [bne_iff_ne, ne_eq]
    exact fun e => h'.1 (List.mem_map.2 ⟨y, hy, e⟩)
   rw [this]
  ·have hne : y.name ≠ x.name := fun e => h'.1 (List.mem_map.2 ⟨x, h1, e.symm⟩)
   have h3 : delE x.name (y :: r) = y :: delE x.name r := by unfold delE; rw [List.filter_cons_of_pos (by simp [hne])]
   rw [h3]
   exact ((ih h'.2 h1).cons y).trans (List.Perm.swap _ _ _)
theorem delE_none {p : Int × Int} {E : List Ev} (h : ∀ x ∈ E, x.name ≠ p) : delE p E = E := by
 refine List.filter_eq_self.2 (fun x hx => ?_)
 simp only [bne_iff_ne, ne_eq]
 exact h x hx
theorem delE_first {x : Ev} {r : List Ev} (h : OnceE (x :: r)) : delE x.name (x :: r) = r := by
 unfold delE
 rw [List.filter_cons_of_neg (by simp)]
 refine List.filter_eq_self.2 (fun y hy => ?_)
 simp only [bne_iff_ne, ne_eq]
 exact fun e => (List.nodup_cons.1 h).1 (List.mem_map.2 ⟨y, hy, e⟩)
theorem findE_some {p : Int × Int} {x : Ev} {E : List Ev} (h : OnceE E) : findE p E = some x ↔ x ∈ E ∧ x.name = p := by
 constructor
 ·intro h1
  have h2 := List.find?_some h1
  exact ⟨List.mem_of_find?_eq_some h1, by simpa using h2⟩
 ·rintro ⟨h1, rfl⟩
  cases hf : findE x.name E with
  | none =>
   have := List.find?_eq_none.1 hf x h1
   simp at this
  | some y =>
   have h2 := List.find?_some hf
   rw [h.inj (List.mem_of_find?_eq_some hf) h1 (by simpa using h2)]
theorem findE_none {p : Int × Int} {E : List Ev} : findE p E = none ↔ ∀ x ∈ E, x.name ≠ p := by
 unfold findE
 rw [List.find?_eq_none]
 simp
/-- Two lists in order with the same events are one. -/
theorem asc_ext {E F : List Ev} (hE : AscE E) (hF : AscE F) (hp : E.Perm F) : E = F := by
 refine List.Perm.eq_of_pairwise (le := fun a b : Ev => cmpK a.key b.key < 0) (fun a b _ _ h1 h2 => ?_) hE hF hp
 have := cmpK_anti a.key b.key
 omega

/-! ### Events at places -/
abbrev Pd := Ev × Nat
def entX (y : Pd) : Ent := ⟨y.1.key, y.2⟩
def insX (x : Pd) : List Pd → List Pd
 | [] => [x]
 | y :: r => if cmpK y.1.key x.1.key < 0 then y :: insX x r else x :: y :: r
theorem insX_fst (x : Pd) (X : List Pd) : (insX x X).map Prod.fst = insE x.1 (X.map Prod.fst) := by
 induction X with
 | nil => rfl
 | cons y r ih =>
  rw [insX, List.map_cons, insE]
  split
  ·rw [List.map_cons, ih]
  ·rfl
theorem insX_perm (x : Pd) (X : List Pd) : (insX x X).Perm (x :: X) := by
 induction X with
 | nil => exact List.Perm.refl _
 | cons y r ih =>
  rw [insX]
  split
  ·exact (ih.cons y).trans (List.Perm.swap _ _ _)
  ·exact List.Perm.refl _
theorem insX_mem {x y : Pd} {X : List Pd} : y ∈ insX x X ↔ y = x ∨ y ∈ X := by rw [(insX_perm x X).mem_iff, List.mem_cons]
theorem insX_ent (x : Pd) (X : List Pd) (h : ∀ y ∈ X, y.1.key ≠ x.1.key) : (insX x X).map entX = insL (entX x) (X.map entX) := by
 induction X with
 | nil => rfl
 | cons y r ih =>
  rw [insX, List.map_cons, insL]
  have hk : (ordE (entX y) (entX x) < 0) ↔ cmpK y.1.key x.1.key < 0 := by
   rw [ordE_lt]
   constructor
   ·rintro (h1 | h1)
    ·exact h1
    ·exact absurd h1.1 (h y List.mem_cons_self)
   ·exact .inl
  by_cases hc : cmpK y.1.key x.1.key < 0
  ·rw [if_pos hc, if_pos (hk.2 hc), List.map_cons, ih (fun z hz => h z (List.mem_cons_of_mem _ hz))]
  ·rw [if_neg hc, if_neg (fun h => hc (hk.1 h))]
   rfl
def delX (p : Nat) (X : List Pd) : List Pd := X.filter (fun y => y.2 != p)
theorem delX_ent (p : Nat) (X : List Pd) : (delX p X).map entX = delL p (X.map entX) := by
 unfold delX delL
 rw [List.filter_map]
 rfl
theorem delX_mem {p : Nat} {y : Pd} {X : List Pd} : y ∈ delX p X ↔ y ∈ X ∧ y.2 ≠ p := by simp [delX]
theorem delX_fst {X : List Pd} (h1 : OnceE (X.map Prod.fst)) (h2 : (X.map Prod.snd).Nodup) {y : Pd} (hy : y ∈ X) : (delX y.2 X).map Prod.fst = delE y.1.name (X.map Prod.fst) := by
 unfold delX delE
 rw [List.filter_map]
 congr 1
 refine List.filter_congr (fun z hz => ?_)
 have key : z.2 = y.2 ↔ z.1.name = y.1.name := by
  have hinj : ∀ {a b : Pd}, a ∈ X → b ∈ X → (a.2 = b.2 ∨ a.1.name = b.1.name) → a = b := by
   intro a b ha hb
   clear hy hz
   induction X with
   | nil => cases ha
   | cons x r ih =>
    have g1 := List.nodup_cons.1 h1
    have g2 := List.nodup_cons.1 h2
    rcases List.mem_cons.1 ha with e1 | e1 <;> rcases List.mem_cons.1 hb with e2 | e2
    ·intro _; rw [e1, e2]
    ·subst e1
     rintro (e | e)
     ·exact absurd (List.mem_map.2 ⟨b, e2, e.symm⟩) g2.1
     ·exact absurd (by rw [e]; exact List.mem_map.2 ⟨b.1, List.mem_map.2 ⟨b, e2, rfl⟩, rfl⟩) g1.1
    ·subst e2
     rintro (e | e)
     ·exact absurd (List.mem_map.2 ⟨a, e1, e⟩) g2.1
     ·exact absurd (by rw [← e]; exact List.mem_map.2 ⟨a.1, List.mem_map.2 ⟨a, e1, rfl⟩, rfl⟩) g1.1
    ·exact ih g1.2 g2.2 e1 e2
  exact ⟨fun e => by rw [hinj hz hy (.inl e)], fun e => by rw [hinj hz hy (.inr e)]⟩
 by_cases hc : z.2 = y.2
 ·simp [hc, key.1 hc]
 ·have : z.1.name ≠ y.1.name := fun e => hc (key.2 e)
  rw [show (z.2 != y.2) = true from bne_iff_ne.2 hc]
  exact (show (z.1.name != y.1.name) = true from bne_iff_ne.2 this).symm
/-
  The table of places: a chain of free ones; plain Lean.
-/

/-- A place: its life, whether it is taken, the free place behind it. -/
structure Pl where
 life : Nat
 taken : Bool
 next : Int
deriving Inhabited
/-- The free places, one behind the other. -/
def Chain (P : List Pl) : Int → List Nat → Prop
 | a, [] => a = -1
 | a, p :: r => a = (p : Int) ∧ ∃ x, P[p]? = some x ∧ x.taken = false ∧ Chain P x.next r
theorem Chain.set {P : List Pl} {q : Nat} (y : Pl) : ∀ {F : List Nat} {a : Int}, Chain P a F → q ∉ F → Chain (P.set q y) a F
 | [], _, h, _ => h
 | p :: r, a, h, hq => by
  obtain ⟨h1, x, h2, h3, h4⟩ := h
  have hne : q ≠ p := fun e => hq (by rw [e]; exact List.mem_cons_self)
  exact ⟨h1, x, by rw [List.getElem?_set_ne hne]; exact h2, h3, h4.set y (fun h => hq (List.mem_cons_of_mem _ h))⟩
/-- The places of a queue: X stand at theirs, F are free; lives are at most T. -/
structure PlOk (n : Nat) (X : List Pd) (F : List Nat) (P : List Pl) (first : Int) (T : Nat) : Prop where
 perm : (F ++ X.map Prod.snd).Perm (List.range n)
 len : P.length = n
 chain : Chain P first F
 tk : ∀ y ∈ X, ∃ x, P[y.2]? = some x ∧ x.taken = true
 life : ∀ (p : Nat) x, P[p]? = some x → x.life ≤ T
theorem PlOk.nodup {n : Nat} {X : List Pd} {F : List Nat} {P : List Pl} {first : Int} {T : Nat} (h : PlOk n X F P first T) : (F ++ X.map Prod.snd).Nodup := h.perm.nodup_iff.2 List.nodup_range
theorem PlOk.count {n : Nat} {X : List Pd} {F : List Nat} {P : List Pl} {first : Int} {T : Nat} (h : PlOk n X F P first T) : F.length + X.length = n := by
 have := h.perm.length_eq
 simpa using this
theorem PlOk.flt {n : Nat} {X : List Pd} {F : List Nat} {P : List Pl} {first : Int} {T : Nat} (h : PlOk n X F P first T) {p : Nat} (hp : p ∈ F) : p < n :=
 List.mem_range.1 (h.perm.mem_iff.1 (List.mem_append_left _ hp))
theorem PlOk.xlt {n : Nat} {X : List Pd} {F : List Nat} {P : List Pl} {first : Int} {T : Nat} (h : PlOk n X F P first T) {y : Pd} (hy : y ∈ X) : y.2 < n :=
 List.mem_range.1 (h.perm.mem_iff.1 (List.mem_append_right _ (List.mem_map.2 ⟨y, hy, rfl⟩)))
theorem PlOk.mono {n : Nat} {X : List Pd} {F : List Nat} {P : List Pl} {first : Int} {T T' : Nat} (h : PlOk n X F P first T) (hT : T ≤ T') : PlOk n X F P first T' :=
 ⟨h.perm, h.len, h.chain, h.tk, fun p x hx => Nat.le_trans (h.life p x hx) hT⟩
/-- The first free place is taken. -/
theorem PlOk.take {n : Nat} {X : List Pd} {F : List Nat} {P : List Pl} {first : Int} {T : Nat} {p : Nat} (h : PlOk n X (p :: F) P first T) (e : Ev) :
  first = (p : Int) ∧ ∃ x, P[p]? = some x ∧ PlOk n (insX (e, p) X) F (P.set p ⟨x.life + 1, true, -1⟩) x.next (T + 1) := by
 obtain ⟨h1, x, h2, h3, h4⟩ := h.chain
 have hnd := List.nodup_cons.1 h.nodup
 have hlt := h.flt List.mem_cons_self
 refine ⟨h1, x, h2, ?_, by rw [List.length_set]; exact h.len, h4.set _ (fun hm => hnd.1 (List.mem_append_left _ hm)), fun y hy => ?_, fun q y hy => ?_⟩
 ·refine List.Perm.trans ?_ h.perm
  refine (List.Perm.append_left F ((insX_perm (e, p) X).map Prod.snd)).trans ?_
  rw [List.map_cons]
  exact List.perm_middle
 ·rcases insX_mem.1 hy with rfl | hy
  ·exact ⟨_, List.getElem?_set_self (by rw [h.len]; exact hlt), rfl⟩
  ·obtain ⟨z, h5, h6⟩ := h.tk y hy
   have hne : p ≠ y.2 := fun e => hnd.1 (List.mem_append_right _ (List.mem_map.2 ⟨y, hy, e.symm⟩))
   exact ⟨z, by rw [List.getElem?_set_ne hne]; exact h5, h6⟩
 ·by_cases hq : p = q
  ·subst hq
   rw [List.getElem?_set_self (by rw [h.len]; exact hlt)] at hy
   cases hy
   have := h.life p x h2
   show x.life + 1 ≤ T + 1
   omega
  ·rw [List.getElem?_set_ne hq] at hy
   have := h.life q y hy
   omega
theorem map_snd_del {X : List Pd} {y : Pd} (hd : (X.map Prod.snd).Nodup) (hy : y ∈ X) : (X.map Prod.snd).Perm (y.2 :: (delX y.2 X).map Prod.snd) := by
 induction X with
 | nil => cases hy
 | cons z r ih =>
  have h' := List.nodup_cons.1 hd
  rcases List.mem_cons.1 hy with h1 | h1
  ·subst h1
   have : delX y.2 (y :: r) = r := by
    unfold delX
    rw [List.filter_cons_of_neg (by simp)]
    refine List.filter_eq_self.2 (fun z hz => ?_)
    simp only [bne_iff_ne, ne_eq]
    exact fun e => h'.1 (List.mem_map.2 ⟨z, hz, e⟩)
   rw [this]
   exact List.Perm.refl _
  ·have hne : z.2 ≠ y.2 := fun e => h'.1 (List.mem_map.2 ⟨y, h1, e.symm⟩)
   have h3 : delX y.2 (z :: r) = z :: delX y.2 r := by unfold delX; rw [List.filter_cons_of_pos (by simp [hne])]
   rw [h3, List.map_cons, List.map_cons]
   exact ((ih h'.2 h1).cons z.2).trans (List.Perm.swap _ _ _)
/-- A place is given back. -/
theorem PlOk.give {n : Nat} {X : List Pd} {F : List Nat} {P : List Pl} {first : Int} {T : Nat} (h : PlOk n X F P first T) {y : Pd} (hy : y ∈ X) :
  ∃ x, P[y.2]? = some x ∧ x.taken = true ∧ PlOk n (delX y.2 X) (y.2 :: F) (P.set y.2 ⟨x.life, false, first⟩) y.2 T := by
 obtain ⟨x, h1, h2⟩ := h.tk y hy
 have hnd := List.nodup_append.1 h.nodup
 have hlt := h.xlt hy
 have hF : y.2 ∉ F := fun hm => hnd.2.2 _ hm _ (List.mem_map.2 ⟨y, hy, rfl⟩) rfl
 refine ⟨x, h1, h2, ?_, by rw [List.length_set]; exact h.len, ⟨rfl, _, List.getElem?_set_self (by rw [h.len]; exact hlt), rfl, h.chain.set _ hF⟩, fun z hz => ?_, fun q z hz => ?_⟩
 ·refine List.Perm.trans ?_ h.perm
  have h3 := map_snd_del hnd.2.1 hy
  exact (List.perm_middle.symm).trans (List.Perm.append_left F h3.symm)
 ·obtain ⟨hz1, hz2⟩ := delX_mem.1 hz
  obtain ⟨u, h5, h6⟩ := h.tk z hz1
  exact ⟨u, by rw [List.getElem?_set_ne (Ne.symm hz2)]; exact h5, h6⟩
 ·by_cases hq : y.2 = q
  ·subst hq
   rw [List.getElem?_set_self (by rw [h.len]; exact hlt)] at hz
   cases hz
   exact h.life _ x h1
  ·rw [List.getElem?_set_ne hq] at hz
   exact h.life q z hz
/-- All places free, one behind the other. -/
def newP (n j : Nat) : List Pl := (List.range n).map fun i => if j ≤ i then ⟨0, false, if i + 1 < n then (i : Int) + 1 else -1⟩ else ⟨0, false, 0⟩
theorem newP_length (n j : Nat) : (newP n j).length = n := by simp [newP]
theorem newP_all (n : Nat) : newP n n = List.replicate n ⟨0, false, 0⟩ := by
 refine List.ext_getElem? (fun i => ?_)
 unfold newP
 rw [List.getElem?_map, List.getElem?_replicate]
 by_cases hi : i < n
 ·rw [List.getElem?_range hi, if_pos hi, Option.map_some, if_neg (by omega)]
 ·rw [if_neg hi, List.getElem?_eq_none (by simp; omega)]; rfl
theorem newP_set {n j : Nat} (hj : j < n) : (newP n (j + 1)).set j ⟨0, false, if j + 1 < n then (j : Int) + 1 else -1⟩ = newP n j := by
 refine List.ext_getElem? (fun i => ?_)
 by_cases hi : i = j
 ·subst hi
  rw [List.getElem?_set_self (by rw [newP_length]; exact hj)]
  unfold newP
  rw [List.getElem?_map, List.getElem?_range hj, Option.map_some, if_pos (Nat.le_refl _)]
 ·rw [List.getElem?_set_ne (Ne.symm hi)]
  unfold newP
  rw [List.getElem?_map, List.getElem?_map]
  by_cases hn : i < n
  ·rw [List.getElem?_range hn, Option.map_some, Option.map_some]
   by_cases h1 : j + 1 ≤ i
   ·simp only [show j ≤ i by omega, h1, if_true]
   ·simp only [show ¬ j ≤ i by omega, h1, if_false]
  ·rw [List.getElem?_eq_none (by simp; omega)]; rfl
def firstP (n j : Nat) : Int := if j < n then j else -1
theorem newP_at {n i : Nat} (hi : i < n) : (newP n 0)[i]? = some ⟨0, false, firstP n (i + 1)⟩ := by
 unfold newP firstP
 rw [List.getElem?_map, List.getElem?_range hi, Option.map_some, if_pos (Nat.zero_le _)]
 rfl
theorem new_chain (n k : Nat) : ∀ j, j + k = n → Chain (newP n 0) (firstP n j) (List.range' j k) := by
 induction k with
 | zero => intro j hj; simp only [List.range'_zero, Chain, firstP]; rw [if_neg (by omega)]
 | succ k ih =>
  intro j hj
  rw [List.range'_succ]
  refine ⟨by unfold firstP; rw [if_pos (by omega)], _, newP_at (by omega), rfl, ih (j + 1) (by omega)⟩
theorem new_ok (n : Nat) : PlOk n [] (List.range n) (newP n 0) (firstP n 0) 0 := by
 refine ⟨by simp, newP_length _ _, ?_, (fun y hy => by cases hy), fun p x hx => ?_⟩
 ·rw [List.range_eq_range']; exact new_chain n n 0 (by omega)
 ·have hp : p < n := by have := (List.getElem?_eq_some_iff.1 hx).1; rwa [newP_length] at this
  rw [newP_at hp] at hx
  cases hx
  exact Nat.le_refl _
end Go.Proofs.YtieeloealklkgaaGreat

/-
  The table of places in memory; New.
-/
namespace Go.Proofs.YtieeloealklkgaaGreat
open Go Go.RowKit
attribute [local go_sem ↓] Go.wp_at_zero Go.wp_at_succ
attribute [local go_sem] Oper.semAt_some wide_fn wide_depth wide_fnR wide_depthR

/-- A place as cells. -/
def cpl (x : Pl) : List Value := [.int .i64 x.life, .bool x.taken, .int .i64 x.next]
theorem cpl_len (x : Pl) : (cpl x).length = 3 := rfl
def flatPl (P : List Pl) : List Value := P.flatMap cpl
theorem cells_in {w : World} {b : Nat} {cu : Array Value} {ty : TypeId} (h : w.heap[b]? = some (.cells cu ty (0, 0))) (o : Nat) : w.cell? ⟨b, o, none⟩ = cu[o]? := by simp [World.cell?, h]
theorem thaw_in {w : World} {b : Nat} {cu : Array Value} {ty : TypeId} (h : w.heap[b]? = some (.cells cu ty (0, 0))) (o : Nat) : w.frozen? ⟨b, o, none⟩ = false := by simp [World.frozen?, h]
theorem heap_set_cell {w : World} {b o : Nat} {cu : Array Value} {ty : TypeId} (h : w.heap[b]? = some (.cells cu ty (0, 0))) (v : Value) : (w.setCell ⟨b, o, none⟩ v).heap[b]? = some (.cells (cu.setIfInBounds o v) ty (0, 0)) := by
 simp [World.setCell, Array.getElem?_modify, h]
/-- A table: its block, the block of its places. -/
structure SlotsIs (w : World) (sb pb n : Nat) (P : List Pl) (first : Int) : Prop where
 hd : w.heap[sb]? = some (.cells #[.slice (some ⟨pb, 0, none⟩) n n, .int .i64 4294967296, .int .i64 first] 145 (0, 0))
 pl : w.heap[pb]? = some (.cells (flatPl P).toArray 147 (0, 0))
 len : P.length = n
 ne : sb ≠ pb
def lfoot (sb pb : Nat) : Nat → Prop := fun k => k = sb ∨ k = pb
variable {w w' : World} {sb pb n : Nat} {P : List Pl} {first : Int}
theorem SlotsIs.lt (h : SlotsIs w sb pb n P first) : ∀ k, lfoot sb pb k → k < w.heap.size := by
 rintro k (rfl | rfl)
 ·exact (Array.getElem?_eq_some_iff.1 h.hd).1
 ·exact (Array.getElem?_eq_some_iff.1 h.pl).1
theorem SlotsIs.fr0 {S : Nat → Prop} (h : SlotsIs w sb pb n P first) (hf : Fr0 S w w') (hs : ∀ k, lfoot sb pb k → ¬ S k) : SlotsIs w' sb pb n P first :=
 ⟨(hf.block _ (h.lt _ (.inl rfl)) (hs _ (.inl rfl))).trans h.hd, (hf.block _ (h.lt _ (.inr rfl)) (hs _ (.inr rfl))).trans h.pl, h.len, h.ne⟩
theorem SlotsIs.later (h : SlotsIs w sb pb n P first) (hf : Fr0 none' w w') : SlotsIs w' sb pb n P first := h.fr0 hf (fun _ _ h => h)
theorem SlotsIs.c0 (h : SlotsIs w sb pb n P first) : w.cell? ⟨sb, 0, none⟩ = some (.slice (some ⟨pb, 0, none⟩) n n) := by rw [cells_in h.hd]; rfl
theorem SlotsIs.c1 (h : SlotsIs w sb pb n P first) : w.cell? ⟨sb, 1, none⟩ = some (.int .i64 4294967296) := by rw [cells_in h.hd]; rfl
theorem SlotsIs.c2 (h : SlotsIs w sb pb n P first) : w.cell? ⟨sb, 2, none⟩ = some (.int .i64 first) := by rw [cells_in h.hd]; rfl
theorem SlotsIs.place (h : SlotsIs w sb pb n P first) {p : Nat} {x : Pl} (hx : P[p]? = some x) :
  w.cell? ⟨pb, p * 3, none⟩ = some (.int .i64 x.life) ∧ w.cell? ⟨pb, p * 3 + 1, none⟩ = some (.bool x.taken) ∧ w.cell? ⟨pb, p * 3 + 2, none⟩ = some (.int .i64 x.next) := by
 refine ⟨?_, ?_, ?_⟩ <;> rw [cells_in h.pl, List.getElem?_toArray]
 ·exact flat_some cpl_len hx (j := 0) (by omega) rfl
 ·exact flat_some cpl_len hx (j := 1) (by omega) rfl
 ·exact flat_some cpl_len hx (j := 2) (by omega) rfl
theorem SlotsIs.thaw (h : SlotsIs w sb pb n P first) (o : Nat) : w.frozen? ⟨pb, o, none⟩ = false := thaw_in h.pl o
theorem SlotsIs.thawS (h : SlotsIs w sb pb n P first) (o : Nat) : w.frozen? ⟨sb, o, none⟩ = false := thaw_in h.hd o
/-- One cell of a place is written. -/
theorem SlotsIs.put (h : SlotsIs w sb pb n P first) {p j : Nat} {x x' : Pl} {v : Value} (hx : P[p]? = some x) (hj : j < 3) (hv : cpl x' = (cpl x).set j v) : SlotsIs (w.setCell ⟨pb, p * 3 + j, none⟩ v) sb pb n (P.set p x') first := by
 refine ⟨?_, ?_, by rw [List.length_set]; exact h.len, h.ne⟩
 ·rw [Below.heap_setCell _ _ _ _ h.ne]; exact h.hd
 ·have e : (flatPl P).set (p * 3 + j) v = flatPl (P.set p x') := flat_set cpl_len hx hj hv
  rw [heap_set_cell h.pl, List.setIfInBounds_toArray, e]
theorem SlotsIs.putF (h : SlotsIs w sb pb n P first) (f : Int) : SlotsIs (w.setCell ⟨sb, 2, none⟩ (.int .i64 f)) sb pb n P f := by
 refine ⟨?_, ?_, h.len, h.ne⟩
 ·rw [heap_set_cell h.hd]; rfl
 ·rw [Below.heap_setCell _ _ _ _ (Ne.symm h.ne)]; exact h.pl
end Go.Proofs.YtieeloealklkgaaGreat

/-
  Lists of events in order: put one by one, taken before a time; plain Lean.
-/
namespace Go.Proofs.YtieeloealklkgaaGreat

/-- Events put one by one. -/
def putsE (l : List Ev) (E : List Ev) : List Ev := l.foldl (fun E x => insE x E) E
theorem putsE_cons (x : Ev) (l E : List Ev) : putsE (x :: l) E = putsE l (insE x E) := rfl
theorem putsE_append (l m E : List Ev) : putsE (l ++ m) E = putsE m (putsE l E) := by unfold putsE; rw [List.foldl_append]
theorem putsE_snoc (l : List Ev) (x : Ev) (E : List Ev) : putsE (l ++ [x]) E = insE x (putsE l E) := by rw [putsE_append]; rfl
theorem putsE_perm : ∀ (l E : List Ev), (putsE l E).Perm (l ++ E)
 | [], E => List.Perm.refl _
 | x :: l, E => by
  rw [putsE_cons]
  refine (putsE_perm l (insE x E)).trans ?_
  refine (List.Perm.append_left l (insE_perm x E)).trans ?_
  exact List.perm_middle
theorem putsE_mem {l E : List Ev} {y : Ev} : y ∈ putsE l E ↔ y ∈ l ∨ y ∈ E := by rw [(putsE_perm l E).mem_iff, List.mem_append]
theorem putsE_length (l E : List Ev) : (putsE l E).length = l.length + E.length := by rw [(putsE_perm l E).length_eq, List.length_append]
theorem once_cons {x : Ev} {l : List Ev} : OnceE (x :: l) ↔ (∀ y ∈ l, y.name ≠ x.name) ∧ OnceE l := by
 unfold OnceE
 rw [List.map_cons, List.nodup_cons, List.mem_map]
 constructor
 ·rintro ⟨h1, h2⟩
  exact ⟨fun y hy e => h1 ⟨y, hy, e⟩, h2⟩
 ·rintro ⟨h1, h2⟩
  exact ⟨fun ⟨y, hy, e⟩ => h1 y hy e, h2⟩
theorem putsE_asc : ∀ {l E : List Ev}, AscE E → OnceE (l ++ E) → AscE (putsE l E)
 | [], E, h, _ => h
 | x :: l, E, h, ho => by
  rw [putsE_cons]
  have h1 := once_cons.1 ho
  refine putsE_asc (insE_asc h (fun y hy => h1.1 y (List.mem_append_right _ hy))) ?_
  refine OnceE.perm ho ?_
  exact (List.perm_middle.symm).trans (List.Perm.append_left l (insE_perm x E).symm)
theorem asc_puts {E : List Ev} (h : AscE E) (ho : OnceE E) : putsE E [] = E := by
 refine asc_ext (putsE_asc List.Pairwise.nil (by rw [List.append_nil]; exact ho)) h ?_
 have := putsE_perm E []
 rwa [List.append_nil] at this
/-! ### Before a time -/
def befE (t : Int) (E : List Ev) : List Ev := E.filter (fun x => decide (x.key.time < t))
def aftE (t : Int) (E : List Ev) : List Ev := E.filter (fun x => !decide (x.key.time < t))
theorem time_le {a b : Ev} (h : cmpK a.key b.key < 0) : a.key.time ≤ b.key.time := by
 have := (cmpK_lt a.key b.key).1 h
 omega
theorem bef_aft {t : Int} : ∀ {E : List Ev}, AscE E → E = befE t E ++ aftE t E
 | [], _ => rfl
 | x :: r, h => by
  have h' := List.pairwise_cons.1 h
  by_cases hx : x.key.time < t
  ·have e1 : befE t (x :: r) = x :: befE t r := by unfold befE; rw [List.filter_cons_of_pos (by simpa using hx)]
   have e2 : aftE t (x :: r) = aftE t r := by unfold aftE; rw [List.filter_cons_of_neg (by simpa using hx)]
   rw [e1, e2, List.cons_append, ← bef_aft h'.2]
  ·have e1 : befE t (x :: r) = [] := by
    unfold befE
    rw [List.filter_eq_nil_iff]
    intro y hy
    rcases List.mem_cons.1 hy with rfl | hy
    ·simpa using hx
    ·have := time_le (h'.1 y hy)
     simp
     omega
   have e2 : aftE t (x :: r) = x :: r := by
    unfold aftE
    rw [List.filter_eq_self]
    intro y hy
    rcases List.mem_cons.1 hy with rfl | hy
    ·simpa using hx
    ·have := time_le (h'.1 y hy)
     simp
     omega
   rw [e1, e2]
   rfl
theorem befE_stop {t : Int} {x : Ev} {r : List Ev} (h : AscE (x :: r)) (hx : ¬ x.key.time < t) : befE t (x :: r) = [] ∧ aftE t (x :: r) = x :: r := by
 have h' := List.pairwise_cons.1 h
 refine ⟨?_, ?_⟩
 ·unfold befE
  rw [List.filter_eq_nil_iff]
  intro y hy
  rcases List.mem_cons.1 hy with rfl | hy
  ·simpa using hx
  ·have := time_le (h'.1 y hy)
   simp
   omega
 ·unfold aftE
  rw [List.filter_eq_self]
  intro y hy
  rcases List.mem_cons.1 hy with rfl | hy
  ·simpa using hx
  ·have := time_le (h'.1 y hy)
   simp
   omega
theorem asc_sub {E F : List Ev} (h : AscE E) (hs : F.Sublist E) : AscE F := List.Pairwise.sublist hs h
theorem once_sub {E F : List Ev} (h : OnceE E) (hs : F.Sublist E) : OnceE F := (hs.map _).nodup h
end Go.Proofs.YtieeloealklkgaaGreat

/-
  Events in memory.
-/
namespace Go.Proofs.YtieeloealklkgaaGreat
open Go Go.RowKit

/-- An event as cells, as a value. -/
def cev (x : Ev) : List Value := [.int .i64 x.key.time, .int .i64 x.key.source, .int .i64 x.key.seq, .int .i64 x.to, .int .i64 x.value]
theorem cev_len (x : Ev) : (cev x).length = 5 := rfl
def evV (x : Ev) : Value := .agg #[.int .i64 x.key.time, .int .i64 x.key.source, .int .i64 x.key.seq, .int .i64 x.to, .int .i64 x.value]
def flatEv (E : List Ev) : List Value := E.flatMap cev
def RightE (x : Ev) : Prop := RightK x.key ∧ 1 ≤ x.to ∧ x.to ≤ 16
instance (x : Ev) : Decidable (RightE x) := by unfold RightE; infer_instance
/-! ### Rows of events -/
def EAt (w : World) (g o : Nat) (x : Ev) : Prop := w.cell? ⟨g, o, none⟩ = some (.int .i64 x.key.time) ∧ w.cell? ⟨g, o + 1, none⟩ = some (.int .i64 x.key.source) ∧ w.cell? ⟨g, o + 2, none⟩ = some (.int .i64 x.key.seq) ∧ w.cell? ⟨g, o + 3, none⟩ = some (.int .i64 x.to) ∧ w.cell? ⟨g, o + 4, none⟩ = some (.int .i64 x.value)
def EsIn (w : World) (a : Option Addr) (E : List Ev) : Prop := ∀ i x, E[i]? = some x → ∃ g o, a = some ⟨g, o, none⟩ ∧ EAt w g (o + i * 5) x
theorem EAt.fr0 {S : Nat → Prop} {w w' : World} {g o : Nat} {x : Ev} (h : EAt w g o x) (hf : Fr0 S w w') (hS : ¬ S g) : EAt w' g o x := by
 have hl := World.block_lt_of_cell? _ _ h.1
 exact ⟨(hf.cell (p := ⟨g, o, none⟩) hl hS).trans h.1, (hf.cell (p := ⟨g, o + 1, none⟩) hl hS).trans h.2.1, (hf.cell (p := ⟨g, o + 2, none⟩) hl hS).trans h.2.2.1, (hf.cell (p := ⟨g, o + 3, none⟩) hl hS).trans h.2.2.2.1, (hf.cell (p := ⟨g, o + 4, none⟩) hl hS).trans h.2.2.2.2⟩
theorem EAt.later {w w' : World} {g o : Nat} {x : Ev} (h : EAt w g o x) (hf : Fr0 none' w w') : EAt w' g o x := h.fr0 hf (fun h => h)
theorem EsIn.fr0 {S : Nat → Prop} {w w' : World} {a : Option Addr} {E : List Ev} (h : EsIn w a E) (hf : Fr0 S w w') (hS : ∀ g o s, a = some ⟨g, o, s⟩ → ¬ S g) : EsIn w' a E := fun i x hx => by
 obtain ⟨g, o, rfl, hc⟩ := h i x hx
 exact ⟨g, o, rfl, hc.fr0 hf (hS g o none rfl)⟩
theorem EsIn.later {w w' : World} {a : Option Addr} {E : List Ev} (h : EsIn w a E) (hf : Fr0 none' w w') : EsIn w' a E := h.fr0 hf (fun _ _ _ _ h => h)
theorem esIn_nil (w : World) (a : Option Addr) : EsIn w a [] := fun i x h => by simp at h
end Go.Proofs.YtieeloealklkgaaGreat

/-
  slices.Equal at events.
-/
namespace Go.Proofs.YtieeloealklkgaaGreat
open Go Go.RowKit
attribute [local go_sem ↓] Go.wp_at_zero Go.wp_at_succ

/-- Whether two events are the same. -/
def sameE (p q : Ev) : Bool := decide (p = q)
@[go_sem] theorem sameE_self (p : Ev) : sameE p p = true := decide_eq_true rfl
theorem sameE_ne {p q : Ev} (h : p ≠ q) : sameE p q = false := decide_eq_false h
theorem sameE_is (a b c d e a' b' c' d' e' : Int) : sameE ⟨⟨a, b, c⟩, d, e⟩ ⟨⟨a', b', c'⟩, d', e'⟩ = ((a == a' && (b == b' && c == c')) && (d == d' && e == e')) := by
 unfold sameE
 simp only [Ev.mk.injEq, Key3.mk.injEq]
 rw [Bool.eq_iff_iff]; simp
set_option maxHeartbeats 1000000 in
theorem run_neq_ev (a b c d e a' b' c' d' e' : Int) (w : World) : (binOp .neq 30 (.agg #[.int .i64 a, .int .i64 b, .int .i64 c, .int .i64 d, .int .i64 e]) (.agg #[.int .i64 a', .int .i64 b', .int .i64 c', .int .i64 d', .int .i64 e'])).run Tryz.prog w = .ok (.bool (!sameE ⟨⟨a, b, c⟩, d, e⟩ ⟨⟨a', b', c'⟩, d', e'⟩)) w := by
 rw [sameE_is]
 go_simp
 by_cases h1 : a = a' <;> by_cases h2 : b = b' <;> by_cases h3 : c = c' <;> by_cases h4 : d = d' <;> by_cases h5 : e = e' <;> simp [h1, h2, h3, h4, h5]
section
attribute [local go_sem high] run_neq_ev
set_option maxHeartbeats 2000000 in
theorem sameEs_any (a a' : Option Addr) (n n' cap cap' : Nat) (xs ys : List Ev) (w : World) (hn : xs.length = n) (hn' : ys.length = n') (hm : n ≤ 1000000) (hm' : n' ≤ 1000000)
  (hc : EsIn w a xs) (hc' : EsIn w a' ys) :
  Calls Tryz.prog 31 #[.slice a n cap, .slice a' n' cap'] w fun e w' => e = .returned (.bool (decide (xs = ys))) ∧ Fr0 none' w w' := by
 obtain ⟨R, hR⟩ : ∃ R, decide (xs = ys) = R := ⟨_, rfl⟩
 rw [hR]
 have HR := Lib.hid hR
 have Hn := Lib.hid hn
 have Hn' := Lib.hid hn'
 have Hc := Lib.hid hc
 have Hc' := Lib.hid hc'
 clear hR hn hn' hc hc'
 by_cases hnn : n = n'
 ·subst hnn
  have d0 : ((n : Int) != (n : Int)) = false := by simp
  go_enter Tryz.func31, Tryz.ntmps31
  go_wp2
  clear d0
  go_loopw [13] (fun i wr => ∃ k : Nat, k ≤ n ∧ i = .int .i64 k ∧ Hid (xs.take k = ys.take k) ∧ Hid (Fr0 none' w wr)) (fun i _ => n - (Go.RowKit.intOf i).toNat)
  case atStart => exact ⟨0, Nat.zero_le _, rfl, rfl, Fr0.refl _ _⟩
  case round =>
   obtain ⟨k, hk, rfl, hpre, hb⟩ := hrel
   by_cases hlt : k < n
   ·have h1 : k < xs.length := by rw [Hn.out]; exact hlt
    have h2 : k < ys.length := by rw [Hn'.out]; exact hlt
    obtain ⟨x, hx⟩ : ∃ x, xs[k]? = some x := ⟨_, List.getElem?_eq_getElem h1⟩
    obtain ⟨y, hy⟩ : ∃ y, ys[k]? = some y := ⟨_, List.getElem?_eq_getElem h2⟩
    obtain ⟨g, o, rfl, hcx⟩ := Hc.out k x hx
    obtain ⟨g', o', rfl, hcy⟩ := Hc'.out k y hy
    obtain ⟨x0, x1, x2, x3, x4⟩ := hcx.later hb.out
    have hcy := Lib.hid (hcy.later hb.out)
    have hx' := Lib.hid hx
    have hy' := Lib.hid hy
    obtain ⟨y0, y1, y2, y3, y4⟩ := hcy.out
    have FW := hb
    clear hx hy h1 h2
    have c1 : (0 : Int) ≤ (k : Int) := by omega
    have c2 : (k : Int) < (n : Int) := by omega
    by_cases hxy : x = y
    ·subst hxy
     have d1 : sameE x x = true := sameE_self x
     go_wp2
     go_quiet (fail)

     go_wp2
     refine ⟨⟨k + 1, by omega, by go_num, by unfold Hid; rw [List.take_add_one, List.take_add_one, hpre.out, hx'.out, hy'.out], by first | exact FW | exact ⟨FW.out.os, FW.out.tape, FW.out.output, FW.out.size, FW.out.block⟩⟩, ?_⟩
     simp [Go.RowKit.intOf]; omega
    ·have d1 : sameE ⟨⟨x.key.time, x.key.source, x.key.seq⟩, x.to, x.value⟩ ⟨⟨y.key.time, y.key.source, y.key.seq⟩, y.to, y.value⟩ = false := sameE_ne hxy
     have hres : Hid (false = R) := by
      unfold Hid; rw [← HR.out]
      refine (decide_eq_false (fun h => hxy ?_)).symm
      have := hx'.out; rw [h, hy'.out] at this; exact (Option.some.inj this).symm
     clear hxy
     go_wp2
     go_quiet (fail)

     go_wp2
     go_ret
     exact ⟨ret_bool hres.out, by first | exact FW.out | exact ⟨FW.out.os, FW.out.tape, FW.out.output, FW.out.size, FW.out.block⟩⟩
   ·have hres : Hid (true = R) := by
     unfold Hid; rw [← HR.out]
     refine (decide_eq_true ?_).symm
     have := hpre.out
     rwa [List.take_of_length_le (by rw [Hn.out]; omega), List.take_of_length_le (by rw [Hn'.out]; omega)] at this
    go_wp2
    go_ret
    exact ⟨ret_bool hres.out, hb⟩
 ·have hres : Hid (false = R) := by
   unfold Hid; rw [← HR.out]
   refine (decide_eq_false (fun h => hnn ?_)).symm
   rw [← Hn.out, ← Hn'.out, h]
  have d0 : ((n : Int) != (n' : Int)) = true := by simp; omega
  clear hnn
  go_enter Tryz.func31, Tryz.ntmps31
  go_wp2
  go_ret
  exact ⟨ret_bool hres.out, Fr0.refl _ _⟩
end
end Go.Proofs.YtieeloealklkgaaGreat

/-
  Rows of events: their cells; slices.Clone.
-/
namespace Go.Proofs.YtieeloealklkgaaGreat
open Go Go.RowKit
attribute [local go_sem ↓] Go.wp_at_zero Go.wp_at_succ
attribute [local go_sem] Oper.semAt_some wide_fn wide_depth wide_fnR wide_depthR

theorem flatEv_length (L : List Ev) : (flatEv L).length = L.length * 5 := flat_len cev_len L
theorem flatEv_append (a b : List Ev) : flatEv (a ++ b) = flatEv a ++ flatEv b := by simp [flatEv]
theorem flatEv_cons (x : Ev) (b : List Ev) : flatEv (x :: b) = cev x ++ flatEv b := by simp [flatEv]
theorem flatEv_single (x : Ev) : flatEv [x] = cev x := by simp [flatEv]
theorem flatEv_one (L : List Ev) : ∀ v ∈ flatEv L, v.oneCell' = true := fun v hv => by
 simp only [flatEv, List.mem_flatMap] at hv
 obtain ⟨p, _, hv⟩ := hv
 simp only [cev, List.mem_cons, List.not_mem_nil, or_false] at hv
 rcases hv with rfl | rfl | rfl | rfl | rfl <;> rfl
theorem flatEv_take (L : List Ev) : ∀ i, flatEv (L.take i) = (flatEv L).take (i * 5) := by
 induction L with
 | nil => intro i; simp [flatEv]
 | cons x r ih =>
  intro i
  cases i with
  | zero => simp [flatEv]
  | succ i =>
   rw [List.take_succ_cons, flatEv_cons, flatEv_cons, ih, show (i + 1) * 5 = (cev x).length + i * 5 by rw [cev_len]; omega, List.take_length_add_append]
theorem flatEv_drop (L : List Ev) : ∀ i, flatEv (L.drop i) = (flatEv L).drop (i * 5) := by
 induction L with
 | nil => intro i; simp [flatEv]
 | cons x r ih =>
  intro i
  cases i with
  | zero => simp
  | succ i =>
   rw [List.drop_succ_cons, flatEv_cons, ih, show (i + 1) * 5 = (cev x).length + i * 5 by rw [cev_len]; omega, List.drop_length_add_append]
/-- The cells of a row, one after the other. -/
theorem EsIn.flat {w : World} {g o : Nat} {L : List Ev} (h : EsIn w (some ⟨g, o, none⟩) L) (j : Nat) (u : Value) (hj : (flatEv L)[j]? = some u) : w.cell? ⟨g, o + j, none⟩ = some u := by
 have hlt : j < L.length * 5 := by rw [← flatEv_length]; exact (List.getElem?_eq_some_iff.1 hj).1
 have hk : j / 5 < L.length := by omega
 obtain ⟨g', o', e, c0, c1, c2, c3, c4⟩ := h (j / 5) L[j / 5] (List.getElem?_eq_getElem hk)
 injection e with e
 injection e with e1 e2
 subst e1; subst e2
 have h3 := flat_at cev_len L (j / 5) (j % 5) (by omega)
 rw [show j / 5 * 5 + j % 5 = j by omega, List.getElem?_eq_getElem hk] at h3
 have h3 : some u = (cev L[j / 5])[j % 5]? := hj.symm.trans h3
 have : j % 5 = 0 ∨ j % 5 = 1 ∨ j % 5 = 2 ∨ j % 5 = 3 ∨ j % 5 = 4 := by omega
 rcases this with h | h | h | h | h
 ·rw [h] at h3; rw [show o + j = o + j / 5 * 5 by omega, h3]; exact c0
 ·rw [h] at h3; rw [show o + j = o + j / 5 * 5 + 1 by omega, h3]; exact c1
 ·rw [h] at h3; rw [show o + j = o + j / 5 * 5 + 2 by omega, h3]; exact c2
 ·rw [h] at h3; rw [show o + j = o + j / 5 * 5 + 3 by omega, h3]; exact c3
 ·rw [h] at h3; rw [show o + j = o + j / 5 * 5 + 4 by omega, h3]; exact c4
theorem EsIn.of_flat {w : World} {g o : Nat} {L : List Ev} (h : ∀ j u, (flatEv L)[j]? = some u → w.cell? ⟨g, o + j, none⟩ = some u) : EsIn w (some ⟨g, o, none⟩) L := fun i x hx => by
 refine ⟨g, o, rfl, ?_, ?_, ?_, ?_, ?_⟩
 ·exact h (i * 5) _ (flat_some cev_len hx (j := 0) (by omega) rfl)
 ·rw [Nat.add_assoc]; exact h (i * 5 + 1) _ (flat_some cev_len hx (j := 1) (by omega) rfl)
 ·rw [Nat.add_assoc]; exact h (i * 5 + 2) _ (flat_some cev_len hx (j := 2) (by omega) rfl)
 ·rw [Nat.add_assoc]; exact h (i * 5 + 3) _ (flat_some cev_len hx (j := 3) (by omega) rfl)
 ·rw [Nat.add_assoc]; exact h (i * 5 + 4) _ (flat_some cev_len hx (j := 4) (by omega) rfl)
theorem EsIn.of_cells {w : World} {g n : Nat} {cu : Array Value} {ty : TypeId} {L : List Ev} (hg : w.heap[g]? = some (.cells cu ty (0, 0))) (ht : cu.toList.take (n * 5) = flatEv L) : EsIn w (some ⟨g, 0, none⟩) L :=
 EsIn.of_flat (fun j u hj => by
  rw [Nat.zero_add, cells_in hg, ← Array.getElem?_toList]
  rw [← ht, List.getElem?_take] at hj
  split at hj
  ·exact hj
  ·cases hj)
theorem EsIn.of_own {w : World} {base : Nat} {v : Value} {n : Nat} {L : List Ev} (h : w.ownsRow base 30 5 v n (flatEv L)) : ∃ a cap, v = .slice a n cap ∧ L.length = n ∧ EsIn w a L := by
 have hl : L.length = n := by have := h.1; rw [flatEv_length] at this; omega
 rcases h.2 with ⟨rfl, h0⟩ | ⟨g, cap, cur, rfl, hb, hg, hn', hcm, hs, ht⟩
 ·have : L = [] := List.eq_nil_of_length_eq_zero (by omega)
  subst this
  exact ⟨none, 0, by rw [h0], hl, esIn_nil _ _⟩
 ·exact ⟨_, cap, rfl, hl, EsIn.of_cells hg ht⟩
theorem EsIn.take {w : World} {a : Option Addr} {L : List Ev} (h : EsIn w a L) (i : Nat) : EsIn w a (L.take i) := fun j x hx => by
 rw [List.getElem?_take] at hx
 split at hx
 ·exact h j x hx
 ·cases hx
theorem EsIn.drop {w : World} {g o : Nat} {L : List Ev} (h : EsIn w (some ⟨g, o, none⟩) L) (i : Nat) : EsIn w (some ⟨g, o + i * 5, none⟩) (L.drop i) :=
 EsIn.of_flat (fun j u hj => by
  rw [flatEv_drop, List.getElem?_drop] at hj
  rw [Nat.add_assoc]
  exact h.flat _ u hj)
theorem EsIn.src {w : World} {a : Option Addr} {L : List Ev} {n : Nat} (h : EsIn w a L) (hn : L.length = n) (cap : Nat) {tx e' : TypeId} (hk : Tryz.prog.underlying tx = some (.slice e')) : Src Tryz.prog 5 tx (.slice a n cap) n (flatEv L) w := by
 cases a with
 | none =>
  have hL : L = [] := by
   clear hn
   cases L with
   | nil => rfl
   | cons p r => obtain ⟨g, o, e, _⟩ := h 0 p rfl; cases e
  subst hL
  subst hn
  exact Src.ofNil w hk cap
 | some ad =>
  refine Src.ofSlice w hk ad n cap (flatEv L) (by rw [flatEv_length, hn]) (fun j u hj => ?_) (flatEv_one L)
  obtain ⟨g, o, s⟩ := ad
  obtain ⟨p, hp⟩ : ∃ p, L[0]? = some p := by
   cases L with
   | nil => simp [flatEv] at hj
   | cons p r => exact ⟨p, rfl⟩
  obtain ⟨g', o', e, _⟩ := h 0 p hp
  cases e
  rw [Addr.add_lit]
  exact h.flat j u hj
theorem info_event0 : (Tryz.prog.info? 30).map (fun i => (i.zero, i.size, i.bytes)) = some (some (.agg #[.int .i64 0, .int .i64 0, .int .i64 0, .int .i64 0, .int .i64 0]), 5, 40) := by kernel_rfl
set_option maxHeartbeats 2000000 in
/-- Clone of a list of events at any address. -/
theorem CloneE {w : World} {a : Option Addr} {n cap : Nat} (L : List Ev) (h : EsIn w a L) (hl : L.length = n) (hn : n ≤ 1000000) :
  Calls Tryz.prog 26 #[.slice a n cap] w fun e w' => ∃ v, e = .returned v ∧ w'.ownsRow w.heap.size 30 5 v n (flatEv L) ∧ Fr0 none' w w' := by
 obtain ⟨i0, hi0, hz0, hz1, hz2⟩ := info_parts info_event0
 have q22 : ∀ (w : World) (a : Option Addr) (n c n' c' : Nat), (binOp .eql 22 (.slice a n c) (.slice none n' c')).run Tryz.prog w = .ok (.bool a.isNone) w := fun w a n c n' c' => Lib.run_eql_slice_nil w _ _ a n c n' c' Tryz.underlying22
 cases a with
 | none =>
  have hL : L = [] := by
   cases L with
   | nil => rfl
   | cons p r => obtain ⟨g, o, e, _⟩ := h 0 p rfl; cases e
  subst hL
  obtain rfl : n = 0 := by rw [← hl]; rfl
  go_enter Tryz.func26, Tryz.ntmps26
  go_wp2
  go_ret
  exact ⟨_, rfl, World.ownsRow_nil _ _ _ _, Fr0.refl _ _⟩
 | some a =>
  have hsrc := Lib.hid (fun (W : World) (hf : Fr0 none' w W) => (h.later hf).src hl cap Tryz.underlying22)
  clear h hl
  go_enter Tryz.func26, Tryz.ntmps26
  go_wp2_with (at_builtin; refine wpList_append_k rfl _ _ 22 22 rfl w.heap.size 30 i0 (.agg #[.int .i64 0, .int .i64 0, .int .i64 0, .int .i64 0, .int .i64 0]) 5 40 Tryz.underlying22 hi0 hz0 hz1 hz2 rfl (by decide) (.slice (some ⟨w.heap.size, 0, none⟩) 0 0) 0 _ rfl (World.ownsRow_made w #[] 0 (Nat.le_refl _) (Nat.zero_le _) (by simp)) (.slice (some a) n cap) n _ rfl (hsrc.out _ ((Fr0.refl _ _).alloc _)) (by unfold maxLen; omega) (by omega) (by simp) ?_; intro v' w1 hown hgrow hdr hob)
  go_wp2
  go_ret
  exact ⟨_, rfl, by simpa using hown, ((Fr0.refl none' w).alloc _).grown hgrow (fun k hk hlt => by have : w.heap.size = k := Option.some.inj hk; omega)⟩
/-
  slices.Insert at events, of one event, into an own row.
-/

/-- copy into a row, of elements of several cells. -/
theorem run_copy_row_k {P : Program} (w : World) (dT sT ty elem : TypeId) (g o dLen dCap : Nat) (a : Addr) (sLen sCap : Nat) (cur : Array Value) (t : TypeId) (cs : List Value) (size n : Nat)
  (hu : P.underlying dT = some (.slice elem)) (hs : (P.info? elem).map (·.size) = some size)
  (hg : w.heap[g]? = some (.cells cur t (0, 0))) (hn : n = Nat.min sLen dLen) (hc : cs.length = n * size)
  (hsrc : ∀ j v, cs[j]? = some v → w.cell? (a.add j) = some v) (hfit : o + cs.length ≤ cur.size) (h1 : ∀ v ∈ cs, v.oneCell' = true) :
  (Builtin.copy_ #[dT, sT] ty #[.slice (some ⟨g, o, none⟩) dLen dCap, .slice (some a) sLen sCap]).run P w =
   .ok (goInt n) (w.setRow g (cur.toList.take o ++ cs ++ cur.toList.drop (o + cs.length)).toArray) := by
 have hl := run_loadCells_list (P := P) w a cs hsrc
 have hst := run_storeCells_at P g o t cs 0 cur w hg (by simpa using hfit) h1
 cases hq : P.info? elem with
 | none => simp [hq] at hs
 | some i =>
  have hi : i.size = size := by simpa [hq] using hs
  simp [Builtin.copy_, run_underlying hu, Builtin.lenOf, Builtin.firstCells, sizeOf, typeInfo, hq, hi, ← hn, ← hc, hl, hst]
theorem ins_row {α : Type} {cu A B X : List α} {a b x : Nat} (h : cu.take (a + b) = A ++ B) (hA : A.length = a) (hB : B.length = b) (hX : X.length = x) (hc : a + b + x ≤ cu.length) :
  ∃ D, (cu.take (a + x) ++ B ++ cu.drop (a + x + b)).take a ++ X ++ (cu.take (a + x) ++ B ++ cu.drop (a + x + b)).drop (a + x) = A ++ X ++ B ++ D ∧ D.length + (a + x + b) = cu.length := by
 have h1 : (cu.take (a + x)).length = a + x := by rw [List.length_take]; omega
 have h2 : (cu.take (a + x) ++ B ++ cu.drop (a + x + b)).take a = A := by
  rw [List.append_assoc, List.take_append_of_le_length (by omega), List.take_take, show min a (a + x) = min a (a + b) by omega, ← List.take_take, h, ← hA, List.take_left]
 have h3 : (cu.take (a + x) ++ B ++ cu.drop (a + x + b)).drop (a + x) = B ++ cu.drop (a + x + b) := by
  rw [List.append_assoc]
  exact List.drop_left' h1
 rw [h2, h3]
 exact ⟨cu.drop (a + x + b), by simp, by rw [List.length_drop]; omega⟩
theorem row_cells5 {w : World} {base : Nat} {e : TypeId} {g n cap : Nat} {xs : List Value} (h : w.ownsRow base e 5 (.slice (some ⟨g, 0, none⟩) n cap) n xs) :
  ∃ cur : Array Value, base ≤ g ∧ w.heap[g]? = some (.cells cur e (0, 0)) ∧ n ≤ cap ∧ cap ≤ maxLen ∧ cur.size = cap * 5 ∧ xs.length = n * 5 ∧ cur.toList.take (n * 5) = xs := by
 rcases h.2 with ⟨h0, _⟩ | ⟨g', cap', cur, h1, hb, hg, hn, hm, hs, ht⟩
 ·cases h0
 ·cases h1
  exact ⟨cur, hb, hg, hn, hm, hs, h.1, ht⟩
theorem size_event : (Tryz.prog.info? 30).map (·.size) = some 5 := by kernel_rfl
theorem own_setRow {w : World} {base g n cap : Nat} {e : TypeId} {cur : Array Value} {R xs D : List Value} (hg : w.heap[g]? = some (.cells cur e (0, 0))) (hb : base ≤ g) (hR : R = xs ++ D) (hx : xs.length = n * 5) (hl : R.length = cap * 5) (hn : n ≤ cap) (hc : cap ≤ maxLen) :
  (w.setRow g R.toArray).ownsRow base e 5 (.slice (some ⟨g, 0, none⟩) n cap) n xs := by
 refine ⟨hx, .inr ⟨g, cap, R.toArray, rfl, hb, setRow_heap w g cur _ e _ hg, hn, hc, by simpa using hl, ?_⟩⟩
 show R.take (n * 5) = xs
 rw [hR, ← hx, List.take_left]
theorem Fr0.setRow {S : Nat → Prop} {a w : World} (h : Fr0 S a w) {g : Nat} (hg : g < a.heap.size → S g) (r : Array Value) : Fr0 S a (w.setRow g r) :=
 ⟨h.os, h.tape, h.output, by have := h.size; simp; omega, fun k hk hs => (setRow_other w g k _ (fun e => hs (by subst e; exact hg hk))).trans (h.block k hk hs)⟩

set_option maxHeartbeats 4000000 in
theorem InsertE_shift {w : World} {base g n c i : Nat} (L : List Ev) (hrow : w.ownsRow base 30 5 (.slice (some ⟨g, 0, none⟩) n c) n (flatEv L)) (hi : i < n) (hroom : n + 1 ≤ c) (hn : n ≤ 100000) (x : Ev) {vb : Nat} (hx : w.heap[vb]? = some (.cells (cev x).toArray 30 (0, 0))) (hvb : vb ≠ g) :
  Calls Tryz.prog 185 #[.slice (some ⟨g, 0, none⟩) n c, .int .i64 i, .slice (some ⟨vb, 0, none⟩) 1 1] w fun e w' => e = .returned (.slice (some ⟨g, 0, none⟩) (n + 1) c) ∧ w'.ownsRow base 30 5 (.slice (some ⟨g, 0, none⟩) (n + 1) c) (n + 1) (flatEv (L.take i ++ x :: L.drop i)) ∧ Fr0 (fun k => k = g) w w' := by
 obtain ⟨cur, hbg, hg, hnc, hcm, hs, hxl, ht⟩ := row_cells5 hrow
 have hL : L.length = n := by rw [flatEv_length] at hxl; omega
 obtain ⟨R1, hR1⟩ : ∃ R1, R1 = cur.toList.take ((i + 1) * 5) ++ flatEv (L.drop i) ++ cur.toList.drop ((i + 1) * 5 + (flatEv (L.drop i)).length) := ⟨_, rfl⟩
 have hd : (flatEv (L.drop i)).length = (n - i) * 5 := by rw [flatEv_length, List.length_drop, hL]
 have htk : (flatEv (L.take i)).length = i * 5 := by rw [flatEv_length, List.length_take, hL, Nat.min_eq_left (by omega)]
 have hE : w.drew.heap[g]? = some (.cells cur 30 (0, 0)) := hg
 have hcp1 : ∀ ty dc sc, (Builtin.copy_ #[22, 22] ty #[.slice (some ⟨g, (i + 1) * 5, none⟩) (n - i) dc, .slice (some ⟨g, i * 5, none⟩) (n + 1 - i) sc]).run Tryz.prog w.drew = .ok (goInt ((n - i : Nat) : Int)) (w.drew.setRow g R1.toArray) := fun ty dc sc => by
  rw [hR1]
  refine run_copy_row_k w.drew _ _ ty 30 g ((i + 1) * 5) (n - i) dc ⟨g, i * 5, none⟩ (n + 1 - i) sc cur 30 (flatEv (L.drop i)) 5 (n - i) Tryz.underlying22 size_event hE (by simp only [Nat.min_def]; split <;> omega) hd (fun j v hj => ?_) (by rw [hd, hs]; omega) (flatEv_one _)
  rw [Addr.add_lit, cells_in hE]
  rw [flatEv_drop, List.getElem?_drop, ← ht, List.getElem?_take] at hj
  split at hj
  ·rw [← Array.getElem?_toList]; exact hj
  ·cases hj
 have hl1 : R1.length = c * 5 := by rw [hR1]; simp only [List.length_append, List.length_take, List.length_drop, Array.length_toList, hd, hs]; omega
 obtain ⟨W1, hW1⟩ : ∃ W1, W1 = w.drew.setRow g R1.toArray := ⟨_, rfl⟩
 rw [← hW1] at hcp1
 have hg1 : W1.heap[g]? = some (.cells R1.toArray 30 (0, 0)) := by rw [hW1]; exact setRow_heap w.drew g cur _ _ _ hE
 have hx1 : W1.heap[vb]? = some (.cells (cev x).toArray 30 (0, 0)) := by rw [hW1]; exact (setRow_other w.drew g vb _ hvb).trans hx
 obtain ⟨R2, hR2⟩ : ∃ R2, R2 = R1.take (i * 5) ++ cev x ++ R1.drop (i * 5 + (cev x).length) := ⟨_, rfl⟩
 have hcp2 : ∀ (W : World), W.heap = W1.heap → ∀ ty dc, (Builtin.copy_ #[22, 22] ty #[.slice (some ⟨g, i * 5, none⟩) (n + 1 - i) dc, .slice (some ⟨vb, 0, none⟩) 1 1]).run Tryz.prog W = .ok (goInt 1) (W.setRow g R2.toArray) := fun W hW ty dc => by
  have := run_copy_row_k (P := Tryz.prog) W 22 22 ty 30 g (i * 5) (n + 1 - i) dc ⟨vb, 0, none⟩ 1 1 R1.toArray 30 (cev x) 5 1 Tryz.underlying22 size_event (by rw [hW]; exact hg1) (by simp only [Nat.min_def]; split <;> omega) rfl (fun j v hj => by
   rw [Addr.add_lit, cells_in (hW ▸ hx1), Nat.zero_add, List.getElem?_toArray]; exact hj) (by simp only [List.size_toArray, hl1, cev_len]; omega) (by rw [← flatEv_single]; exact flatEv_one _)
  rw [hR2]
  exact this
 obtain ⟨D, hD, hDl⟩ := ins_row (cu := cur.toList) (A := flatEv (L.take i)) (B := flatEv (L.drop i)) (X := cev x) (a := i * 5) (b := (n - i) * 5) (x := 5) (by rw [show i * 5 + (n - i) * 5 = n * 5 by omega, ht, ← flatEv_append, List.take_append_drop]) htk hd rfl (by rw [Array.length_toList, hs]; omega)
 have hR2' : R2 = flatEv (L.take i ++ x :: L.drop i) ++ D := by
  rw [hR2, hR1, flatEv_append, flatEv_cons, cev_len, hd, show (i + 1) * 5 = i * 5 + 5 by omega, hD]
  simp
 have hfl : (flatEv (L.take i ++ x :: L.drop i)).length = (n + 1) * 5 := by rw [flatEv_length, List.length_append, List.length_cons, List.length_take, List.length_drop, hL]; omega
 have hl2 : R2.length = c * 5 := by rw [hR2', List.length_append, hfl]; rw [show cur.toList.length = c * 5 by rw [Array.length_toList, hs]] at hDl; omega
 have hfin : ∀ W : World, W.heap = W1.heap → W.os = W1.os → W.tape = W1.tape → W.output = W1.output → (W.setRow g R2.toArray).ownsRow base 30 5 (.slice (some ⟨g, 0, none⟩) (n + 1) c) (n + 1) (flatEv (L.take i ++ x :: L.drop i)) ∧ Fr0 (fun k => k = g) w (W.setRow g R2.toArray) := fun W e1 e2 e3 e4 => by
  refine ⟨own_setRow (cur := R1.toArray) (by rw [e1]; exact hg1) hbg hR2' hfl hl2 hroom hcm, ?_⟩
  have f1 : Fr0 (fun k => k = g) w W1 := by rw [hW1]; exact ((Fr0.refl (fun k => k = g) w).drew).setRow (fun _ => rfl) _
  have f2 : Fr0 (fun k => k = g) w W := ⟨e2.trans f1.os, e3.trans f1.tape, e4.trans f1.output, by rw [e1]; exact f1.size, fun k hk hs => by rw [e1]; exact f1.block k hk hs⟩
  exact f2.setRow (fun _ => rfl) _
 have hov : ∀ lb cb, (callFunc 188 #[.slice (some ⟨vb, 0, none⟩) 1 1, .slice (some ⟨g, (i + 1) * 5, none⟩) lb cb]).run Tryz.prog w = .ok (.value (.bool false)) w := fun lb cb => by
  rw [run_callFunc_extern Tryz.func188 (by kernel_rfl) (by kernel_rfl) (by kernel_rfl) (e := Extern.SlicesOverlaps.overlaps #[22, 22] #[4]) (by kernel_rfl),
   Lib.run_overlaps_apart w 22 4 30 Tryz.underlying22 5 Tryz.sizeOf30 ⟨vb, 0, none⟩ ⟨g, (i + 1) * 5, none⟩ 1 1 lb cb hvb 30 30 5 cur.size (by simp [World.shape?, hx, cev]) (by simp [World.shape?, hg]) (by rw [hs]; omega) (by simp [World.frozen?, hx]) (by simp [World.frozen?, hx])]
  rfl
 have mixed : Tryz.prog.follows Departure.mixedOrders = true := by kernel_rfl
 have hz1 : ¬ ((1 : Int) = 0) := by omega
 have hz2 : ¬ ((i : Int) = (n : Int)) := by omega
 have hw1 : IntKind.i64.wrap ((i : Int) + 1) = (i : Int) + 1 := by rw [IntKind.wrap_i64]; omega
 have hb1 : (0 : Int) ≤ (i : Int) + 1 := by omega
 have hin : i ≤ n := by omega
 have htn : ((i : Int) + 1).toNat = i + 1 := by omega
 have hb2 : ¬ (c = i + 1) := by omega
 have hb3 : (i : Int) ≤ (n : Int) := by omega
 have hb5 : (i : Int) ≤ (n : Int) + 1 := by omega
 have hb4 : ¬ (c = i) := by omega
 have HF := Lib.hid hfin
 have HE := Lib.hid hcp2
 clear hfin hcp2 hD hDl hR2' hfl hl2 hR2 hg1 hx1 hW1 hl1 hE hd htk hR1 hL hxl ht hs hg hrow hx
 go_enter Tryz.func185, Tryz.ntmps185
 go_wp2_with (simp only [hov])
 go_region_law_o (refine step_copy_runI rfl _ _ 22 22 rfl _ _ (by simp [Act.eval, Act.put]) (by simp [Act.eval, Act.put]) (hcp1 _ _ _) ?_)
 have hcp2 := HE.out W1 rfl
 go_wp2
 go_ret
 exact ⟨rfl, HF.out W1 rfl rfl rfl rfl⟩
set_option maxHeartbeats 4000000 in
theorem InsertE_end {w : World} {base n : Nat} {v : Value} (L : List Ev) (hrow : w.ownsRow base 30 5 v n (flatEv L)) (hn : n ≤ 100000) (x : Ev) {vb : Nat} (hx : w.heap[vb]? = some (.cells (cev x).toArray 30 (0, 0))) (hb : base ≤ w.heap.size) :
  Calls Tryz.prog 185 #[v, .int .i64 n, .slice (some ⟨vb, 0, none⟩) 1 1] w fun e w' => ∃ v', e = .returned v' ∧ w'.ownsRow base 30 5 v' (n + 1) (flatEv (L ++ [x])) ∧ Fr0 (fun k => v.ownBlock = some k) w w' ∧ (v'.ownBlock = v.ownBlock ∨ v'.ownBlock = some w.heap.size) := by
 obtain ⟨i0, hi0, hz0, hz1, hz2⟩ := info_parts info_event0
 have hxs : EsIn w (some ⟨vb, 0, none⟩) [x] := EsIn.of_cells (n := 1) hx (by simp [flatEv, cev])
 have hsrc := Lib.hid (hxs.src (n := 1) rfl 1 Tryz.underlying22)
 obtain ⟨a, cap, rfl, hl, _⟩ := EsIn.of_own hrow
 have Hrow := Lib.hid hrow
 have hz : ¬ ((1 : Int) = 0) := by omega
 have q1 : ((n : Int) == (n : Int)) = true := by simp
 have q2 : (n : Int) ≤ (n : Int) := Int.le_refl _
 clear hrow hx hxs hl
 go_enter Tryz.func185, Tryz.ntmps185
 go_wp2_with (at_builtin; refine wpList_append_k rfl _ _ 22 22 rfl base 30 i0 (.agg #[.int .i64 0, .int .i64 0, .int .i64 0, .int .i64 0, .int .i64 0]) 5 40 Tryz.underlying22 hi0 hz0 hz1 hz2 rfl (by decide) (.slice a n cap) n _ rfl Hrow.out (.slice (some ⟨vb, 0, none⟩) 1 1) 1 _ rfl hsrc.out (by unfold maxLen; omega) (by omega) hb ?_; intro v' w1 hown hgrow hdr hob)
 all_goals
  go_ret
  refine ⟨_, rfl, ?_, (Fr0.refl _ w).grown hgrow (fun k hk _ => by cases a <;> exact hk), by cases a <;> exact hob⟩
  rw [flatEv_append]
  exact hown
theorem ins_row2 {α : Type} {Z A B X : List α} {a b x : Nat} (hA : A.length = a) (hB : B.length = b) (hX : X.length = x) (hZ : x + b ≤ Z.length) :
  ∃ D, (((A ++ Z).take a ++ X ++ (A ++ Z).drop (a + x)).take (a + x)) ++ B ++ ((A ++ Z).take a ++ X ++ (A ++ Z).drop (a + x)).drop (a + x + b) = A ++ X ++ B ++ D ∧ D.length + (x + b) = Z.length := by
 have h1 : (A ++ Z).take a = A := by rw [← hA, List.take_left]
 have h2 : (A ++ Z).drop (a + x) = Z.drop x := by rw [← hA, List.drop_length_add_append]
 have h3 : (A ++ X).length = a + x := by rw [List.length_append, hA, hX]
 rw [h1, h2, List.take_left' h3, ← h3, List.drop_length_add_append, List.drop_drop]
 exact ⟨Z.drop (x + b), by simp, by rw [List.length_drop]; omega⟩
set_option maxHeartbeats 4000000 in
theorem InsertE_grow {w : World} {base g n c i : Nat} (L : List Ev) (hrow : w.ownsRow base 30 5 (.slice (some ⟨g, 0, none⟩) n c) n (flatEv L)) (hi : i < n) (hroom : ¬ n + 1 ≤ c) (hn : n ≤ 100000) (x : Ev) {vb : Nat} (hx : w.heap[vb]? = some (.cells (cev x).toArray 30 (0, 0))) (hbs : base ≤ w.heap.size) :
  Calls Tryz.prog 185 #[.slice (some ⟨g, 0, none⟩) n c, .int .i64 i, .slice (some ⟨vb, 0, none⟩) 1 1] w fun e w' => ∃ c', e = .returned (.slice (some ⟨w.heap.size, 0, none⟩) (n + 1) c') ∧ w'.ownsRow base 30 5 (.slice (some ⟨w.heap.size, 0, none⟩) (n + 1) c') (n + 1) (flatEv (L.take i ++ x :: L.drop i)) ∧ Fr0 none' w w' := by
 obtain ⟨cur, hbg, hg, hnc, hcm, hs, hxl, ht⟩ := row_cells5 hrow
 obtain ⟨i0, hi0, hz0, hz1, hz2⟩ := info_parts info_event0
 have hL : L.length = n := by rw [flatEv_length] at hxl; omega
 have hd : (flatEv (L.drop i)).length = (n - i) * 5 := by rw [flatEv_length, List.length_drop, hL]
 have htk : (flatEv (L.take i)).length = i * 5 := by rw [flatEv_length, List.length_take, hL, Nat.min_eq_left (by omega)]
 have hgl : g < w.heap.size := (Array.getElem?_eq_some_iff.1 hg).1
 have hvl : vb < w.heap.size := (Array.getElem?_eq_some_iff.1 hx).1
 have hcell : ∀ j v, (flatEv L)[j]? = some v → w.cell? ⟨g, j, none⟩ = some v := fun j v hj => by
  rw [cells_in hg, ← Array.getElem?_toList]
  rw [← ht, List.getElem?_take] at hj
  split at hj
  ·exact hj
  ·cases hj
 obtain ⟨G, hG⟩ : ∃ G, G = grownCap w (n + 1) c 30 := ⟨_, rfl⟩
 obtain ⟨z, hz⟩ : ∃ z : Value, z = .agg #[.int .i64 0, .int .i64 0, .int .i64 0, .int .i64 0, .int .i64 0] := ⟨_, rfl⟩
 have hGn : n + 1 ≤ G := by rw [hG]; exact grownCap_ge w _ _ _
 have hGm : G ≤ maxLen := by rw [hG]; exact grownCap_le_maxLen w (n + 1) c 30 (by unfold maxLen; omega)
 obtain ⟨Z, hZ⟩ : ∃ Z : List Value, Z = (Builtin.zeroCells z.cells (n + 1 - i) ++ Builtin.zeroCells z.cells (G - (n + 1))).toList := ⟨_, rfl⟩
 have hZl : Z.length = (G - i) * 5 := by
  rw [hZ, Array.length_toList, Array.size_append, size_zeroCells, size_zeroCells, hz]
  simp only [Value.cells, List.size_toArray, List.length_cons, List.length_nil]
  omega
 have hkk : (n : Int) + 1 - (i : Int) = ((n + 1 - i : Nat) : Int) := by omega
 have hik : i + (n + 1 - i) = n + 1 := by omega
 have hold : (Builtin.firstCells i0.size i (.slice (some ⟨g, 0, none⟩) i c)).run Tryz.prog w.drew = .ok (flatEv (L.take i)).toArray w.drew := by
  rw [hz1]
  refine run_firstCells_some w.drew 5 i ⟨g, 0, none⟩ i c (flatEv (L.take i)) htk (fun j v hj => ?_)
  rw [Addr.add_lit, Nat.zero_add]
  rw [flatEv_take, List.getElem?_take] at hj
  split at hj
  ·exact hcell j v hj
  ·cases hj
 have hrz : ∀ ty, (Builtin.append_ #[22, 3] ty #[.slice (some ⟨g, 0, none⟩) i c, .int .i64 ((n : Int) + 1 - (i : Int))]).run Tryz.prog w =
   .ok (.slice (some ⟨w.heap.size, 0, none⟩) (n + 1) G) (w.drew.alloc (.cells (flatEv (L.take i) ++ Z).toArray 30)) := fun ty => by
  have h := Lib.run_append_grow_zeros w 22 3 ty 30 i0 _ .i64 .i64 Tryz.underlying22 Tryz.underlying3 hi0 hz0 (some ⟨g, 0, none⟩) i c (flatEv (L.take i)) hold (n + 1 - i) (by omega) (by omega) (by omega) (by omega) (by rw [hz2]; omega) (by rw [hz2, hik]; exact growslice_fits (by omega) (by omega))
  rw [hik, ← hG, ← hz] at h
  rw [hkk, h, hZ]
  congr 3
  simp
 have hNr : ∀ (W : World), W.heap = (w.drew.alloc (.cells (flatEv (L.take i) ++ Z).toArray 30)).heap → W.heap[w.heap.size]? = some (.cells (flatEv (L.take i) ++ Z).toArray 30 (0, 0)) ∧ W.heap[vb]? = w.heap[vb]? ∧ W.heap[g]? = w.heap[g]? := fun W hW => by
  rw [hW]
  exact ⟨World.alloc_heap_new w.drew _, Below.heap_alloc w.drew _ vb hvl, Below.heap_alloc w.drew _ g hgl⟩
 obtain ⟨R1, hR1⟩ : ∃ R1, R1 = (flatEv (L.take i) ++ Z).take (i * 5) ++ cev x ++ (flatEv (L.take i) ++ Z).drop (i * 5 + 5) := ⟨_, rfl⟩
 obtain ⟨R2, hR2⟩ : ∃ R2, R2 = R1.take (i * 5 + 5) ++ flatEv (L.drop i) ++ R1.drop (i * 5 + 5 + (n - i) * 5) := ⟨_, rfl⟩
 have hcpA : ∀ (W : World), W.heap = (w.drew.alloc (.cells (flatEv (L.take i) ++ Z).toArray 30)).heap → ∀ ty dc, (Builtin.copy_ #[22, 22] ty #[.slice (some ⟨w.heap.size, i * 5, none⟩) (n + 1 - i) dc, .slice (some ⟨vb, 0, none⟩) 1 1]).run Tryz.prog W = .ok (goInt 1) (W.setRow w.heap.size R1.toArray) := fun W hW ty dc => by
  obtain ⟨h1, h2, h3⟩ := hNr W hW
  have := run_copy_row_k (P := Tryz.prog) W 22 22 ty 30 w.heap.size (i * 5) (n + 1 - i) dc ⟨vb, 0, none⟩ 1 1 _ 30 (cev x) 5 1 Tryz.underlying22 size_event h1 (by simp only [Nat.min_def]; split <;> omega) rfl (fun j v hj => by
   rw [Addr.add_lit, cells_in (h2.trans hx), Nat.zero_add, List.getElem?_toArray]; exact hj) (by simp only [List.size_toArray, List.length_append, htk, hZl, cev_len]; omega) (by rw [← flatEv_single]; exact flatEv_one _)
  rw [hR1]
  exact this
 have hl1 : R1.length = G * 5 := by
  rw [hR1]; simp only [List.length_append, List.length_take, List.length_drop, htk, hZl, cev_len]; omega
 have hcpB : ∀ (W V : World), V.heap = (w.drew.alloc (.cells (flatEv (L.take i) ++ Z).toArray 30)).heap → W.heap = (V.setRow w.heap.size R1.toArray).heap → ∀ ty dc sc, (Builtin.copy_ #[22, 22] ty #[.slice (some ⟨w.heap.size, (i + 1) * 5, none⟩) (n - i) dc, .slice (some ⟨g, i * 5, none⟩) (n - i) sc]).run Tryz.prog W = .ok (goInt ((n - i : Nat) : Int)) (W.setRow w.heap.size R2.toArray) := fun W V hV hW ty dc sc => by
  obtain ⟨h1, h2, h3⟩ := hNr V hV
  have e1 : W.heap[w.heap.size]? = some (.cells R1.toArray 30 (0, 0)) := by rw [hW]; exact setRow_heap V _ _ _ _ _ h1
  have e2 : W.heap[g]? = some (.cells cur 30 (0, 0)) := by rw [hW]; exact (setRow_other V _ g _ (by omega)).trans (h3.trans hg)
  have := run_copy_row_k (P := Tryz.prog) W 22 22 ty 30 w.heap.size ((i + 1) * 5) (n - i) dc ⟨g, i * 5, none⟩ (n - i) sc _ 30 (flatEv (L.drop i)) 5 (n - i) Tryz.underlying22 size_event e1 (by simp only [Nat.min_def]; split <;> omega) hd (fun j v hj => by
   rw [Addr.add_lit, cells_in e2, ← Array.getElem?_toList]
   rw [flatEv_drop, List.getElem?_drop, ← ht, List.getElem?_take] at hj
   split at hj
   ·exact hj
   ·cases hj) (by simp only [List.size_toArray, hl1, hd]; omega) (flatEv_one _)
  rw [this, hR2, hd, show (i + 1) * 5 = i * 5 + 5 by omega]
 obtain ⟨D, hD, hDl⟩ := ins_row2 (Z := Z) (A := flatEv (L.take i)) (B := flatEv (L.drop i)) (X := cev x) (a := i * 5) (b := (n - i) * 5) (x := 5) htk hd rfl (by rw [hZl]; omega)
 have hR2' : R2 = flatEv (L.take i ++ x :: L.drop i) ++ D := by
  rw [hR2, hR1, flatEv_append, flatEv_cons, hD]
  simp
 have hfl : (flatEv (L.take i ++ x :: L.drop i)).length = (n + 1) * 5 := by rw [flatEv_length, List.length_append, List.length_cons, List.length_take, List.length_drop, hL]; omega
 have hl2 : R2.length = G * 5 := by rw [hR2', List.length_append, hfl]; rw [hZl] at hDl; omega
 have hfin : ∀ (W V : World), V.heap = (w.drew.alloc (.cells (flatEv (L.take i) ++ Z).toArray 30)).heap → W.heap = (V.setRow w.heap.size R1.toArray).heap → W.os = w.os → W.tape = w.tape → W.output = w.output → (W.setRow w.heap.size R2.toArray).ownsRow base 30 5 (.slice (some ⟨w.heap.size, 0, none⟩) (n + 1) G) (n + 1) (flatEv (L.take i ++ x :: L.drop i)) ∧ Fr0 none' w (W.setRow w.heap.size R2.toArray) := fun W V hV hW e1 e2 e3 => by
  obtain ⟨h1, h2, h3⟩ := hNr V hV
  have g1 : W.heap[w.heap.size]? = some (.cells R1.toArray 30 (0, 0)) := by rw [hW]; exact setRow_heap V _ _ _ _ _ h1
  refine ⟨own_setRow (cur := R1.toArray) g1 hbs hR2' hfl hl2 hGn hGm, ?_⟩
  have f1 : Fr0 none' w (w.drew.alloc (.cells (flatEv (L.take i) ++ Z).toArray 30)) := (Fr0.refl _ w).drew.alloc _
  have f2 : Fr0 none' w W := ⟨e1, e2, e3, by rw [hW]; have := f1.size; rw [← hV] at this; simpa using this, fun k hk _ => by rw [hW]; exact (setRow_other V _ k _ (by omega)).trans (by rw [hV]; exact f1.block k hk id)⟩
  exact f2.setRow (fun h => absurd h (Nat.lt_irrefl _)) _
 have mixed : Tryz.prog.follows Departure.mixedOrders = true := by kernel_rfl
 have hy1 : ¬ ((1 : Int) = 0) := by omega
 have hy2 : ¬ ((i : Int) = (n : Int)) := by omega
 have hy3 : (c : Int) < (n : Int) + 1 := by omega
 have hw1 : IntKind.i64.wrap ((i : Int) + 1) = (i : Int) + 1 := by rw [IntKind.wrap_i64]; omega
 have hb1 : (0 : Int) ≤ (i : Int) + 1 := by omega
 have hin : i ≤ n := by omega
 have hin2 : i ≤ c := by omega
 have htn : ((i : Int) + 1).toNat = i + 1 := by omega
 have hb3 : (i : Int) ≤ (n : Int) := by omega
 have hb5 : (i : Int) ≤ (n : Int) + 1 := by omega
 have hGi : ¬ (G = i) := by omega
 have hGim : ¬ (G = i + 1) := by omega
 have hci : ¬ (c = i) := by omega
 have HF := Lib.hid hfin
 have HA := Lib.hid hcpA
 have HB := Lib.hid hcpB
 clear hfin hcpA hcpB hD hDl hR2' hfl hl2 hR2 hNr hl1 hR1 hold hik hkk hZl hZ hz hG hcell hd htk hL hxl ht hs hg hrow hx hi0 hz0 hz1 hz2
 go_enter Tryz.func185, Tryz.ntmps185
 obtain ⟨V, hV⟩ : ∃ V, w.drew.alloc (.cells (flatEv (L.take i) ++ Z).toArray 30) = V := ⟨_, rfl⟩
 rw [hV] at hrz HA HB HF
 have hca := HA.out V rfl
 have hcb := HB.out (V.setRow w.heap.size R1.toArray).drew V rfl rfl
 go_wp2_with (first
  | (at_builtin; refine Lib.wpList_append_run _ rfl _ _ _ _ rfl _ _ rfl rfl _ _ (hrz _) ?_))
 go_region_law_o (refine step_copy_runI rfl _ _ 22 22 rfl _ _ (by simp [Act.eval, Act.put]) (by simp [Act.eval, Act.put]) (hcb _ _ _) ?_)
 go_wp2
 go_ret
 exact ⟨G, rfl, HF.out (V.setRow w.heap.size R1.toArray).drew V rfl rfl (by rw [← hV]; rfl) (by rw [← hV]; rfl) (by rw [← hV]; rfl)⟩
/-- slices.Insert of one event. -/
theorem InsertE {w : World} {base n i : Nat} {v : Value} (L : List Ev) (hrow : w.ownsRow base 30 5 v n (flatEv L)) (hi : i ≤ n) (hn : n ≤ 100000) (x : Ev) {vb : Nat} (hx : w.heap[vb]? = some (.cells (cev x).toArray 30 (0, 0))) (hvb : v.ownBlock ≠ some vb) (hbs : base ≤ w.heap.size) :
  Calls Tryz.prog 185 #[v, .int .i64 i, .slice (some ⟨vb, 0, none⟩) 1 1] w fun e w' => ∃ v', e = .returned v' ∧ w'.ownsRow base 30 5 v' (n + 1) (flatEv (L.take i ++ x :: L.drop i)) ∧ Fr0 (fun k => v.ownBlock = some k) w w' ∧ (v'.ownBlock = v.ownBlock ∨ v'.ownBlock = some w.heap.size) := by
 obtain ⟨a, c, rfl, hl, _⟩ := EsIn.of_own hrow
 by_cases h : i = n
 ·subst h
  have := InsertE_end L hrow hn x hx hbs
  rwa [← hl, List.take_length, List.drop_length, hl]
 ·rcases hrow.2 with ⟨h0, h1⟩ | ⟨g, c', cur, h1, _⟩
  ·omega
  ·injection h1 with h1 _ h2
   subst h1; subst h2
   by_cases hc : n + 1 ≤ c
   ·refine (InsertE_shift L hrow (by omega) hc hn x hx (fun e => hvb (by rw [e]; rfl))).mono ?_
    rintro e w' ⟨rfl, h3, h4⟩
    exact ⟨_, rfl, h3, h4.mono (fun k _ hk => by rw [hk]; rfl), .inl rfl⟩
   ·refine (InsertE_grow L hrow (by omega) hc hn x hx hbs).mono ?_
    rintro e w' ⟨c', rfl, h3, h4⟩
    exact ⟨_, rfl, h3, h4.mono (fun _ _ h => h.elim), .inr rfl⟩
end Go.Proofs.YtieeloealklkgaaGreat

/-
  slices.Delete at events, of one event.
-/
namespace Go.Proofs.YtieeloealklkgaaGreat
open Go Go.RowKit
attribute [local go_sem ↓] Go.wp_at_zero Go.wp_at_succ

theorem zero_ev (w : World) : (zeroValue 30).run Tryz.prog w = .ok (.agg #[.int .i64 0, .int .i64 0, .int .i64 0, .int .i64 0, .int .i64 0]) w := Tryz.zeroValue30 w
theorem run_clear_k {P : Program} (w : World) (t e ty : TypeId) (z : Value) (ht : P.underlying t = some (.slice e)) (hv : ∀ w, (zeroValue e).run P w = .ok z w) (b o n c : Nat) (news : List Value) (hz : (Builtin.zeroCells z.cells n).toList = news) (h1 : ∀ u ∈ news, u.oneCell' = true) (hn : 0 < n)
  (hc : ∀ j, j < news.length → (w.cell? ⟨b, o + j, none⟩).isSome = true) (hf : ∀ j, j < news.length → w.frozen? ⟨b, o + j, none⟩ = false) :
  (Builtin.clear_ #[t] ty #[.slice (some ⟨b, o, none⟩) n c]).run P w = .ok (.tuple #[]) (w.setCells b o news) := by
 have hst := run_storeCells_cells (P := P) b o news 0 w (by simpa using hc) (by simpa using hf) h1
 simp only [Nat.add_zero] at hst
 obtain ⟨m, rfl⟩ : ∃ m, n = m + 1 := ⟨n - 1, by omega⟩
 simp [Builtin.clear_, run_underlying ht, hv, hz, hst]

theorem below_setCells0 {S : Nat → Prop} {b : Nat} {a : World} (hb : S b) : ∀ (vs : List Value) (o : Nat) (w : World), Fr0 S a w → Fr0 S a (w.setCells b o vs)
 | [], _, _, h => h
 | v :: r, o, w, h => below_setCells0 hb r (o + 1) _ (h.setCell (fun _ => hb) v)
set_option maxHeartbeats 4000000 in
/-- Delete of one event, on an own row. -/
theorem DeleteE {w : World} {base g n cap i j : Nat} (P : List Ev) (hrow : w.ownsRow base 30 5 (.slice (some ⟨g, 0, none⟩) n cap) n (flatEv P)) (hi : i < n) (hij : j = i + 1) (hn : n ≤ 100000) :
  Calls Tryz.prog 187 #[.slice (some ⟨g, 0, none⟩) n cap, .int .i64 i, .int .i64 j] w fun e w' => e = .returned (.slice (some ⟨g, 0, none⟩) (n - 1) cap) ∧ w'.ownsRow base 30 5 (.slice (some ⟨g, 0, none⟩) (n - 1) cap) (n - 1) (flatEv (P.eraseIdx i)) ∧ Fr0 (fun k => k = g) w w' := by
 obtain ⟨i0, hi0, hz0, hz1, hz2⟩ := info_parts info_event0
 obtain ⟨cur, hbg, hg, hnc, hcm, hs, hxl, htk⟩ := row_cells5 hrow
 have hget : ∀ j, j < n * 5 → cur[j]? = (flatEv P)[j]? := fun j hj => by rw [← htk, List.getElem?_take, if_pos hj, Array.getElem?_toList]
 have hPl : P.length = n := by rw [flatEv_length] at hxl; omega
 obtain ⟨news, hnews⟩ : ∃ news, news = (flatEv P).drop (j * 5) := ⟨_, rfl⟩
 have hnl : news.length = (n - j) * 5 := by rw [hnews, List.length_drop, hxl]; omega
 have hcell : ∀ t, t < n * 5 → w.cell? ⟨g, t, none⟩ = (flatEv P)[t]? := fun t ht => by rw [cells_in hg, hget t ht]
 obtain ⟨A, hA, hsrc⟩ : ∃ A : Addr, (if cap = j then some (⟨g, 0, none⟩ : Addr) else some ⟨g, j * 5, none⟩) = some A ∧ Hid (∀ t u, news[t]? = some u → w.drew.cell? (A.add t) = some u) := by
  by_cases h : cap = j
  ·refine ⟨⟨g, 0, none⟩, by simp [h], fun t u hu => ?_⟩
   have h0 : news.length = 0 := by rw [hnl]; omega
   rw [List.length_eq_zero_iff.1 h0] at hu
   simp at hu
  ·refine ⟨⟨g, j * 5, none⟩, by simp [h], fun t u hu => ?_⟩
   have ht := (List.getElem?_eq_some_iff.1 hu).1
   rw [Addr.add_lit]
   refine (hcell _ (by rw [hnl] at ht; omega)).trans ?_
   rw [hnews, List.getElem?_drop] at hu
   exact hu
 have s2 : Hid (∀ u ∈ news, u.oneCell' = true) := fun u hu => flatEv_one P u (List.mem_of_mem_drop (hnews ▸ hu))
 have s3 : Hid (∀ t, t < news.length → (w.drew.cell? ⟨g, 0 + i * 5 + t, none⟩).isSome = true ∧ w.drew.frozen? ⟨g, 0 + i * 5 + t, none⟩ = false) := fun t ht => by
  rw [hnl] at ht
  refine ⟨?_, thaw_in hg _⟩
  rw [Nat.zero_add]
  show (w.cell? _).isSome = true
  rw [cells_in hg, Array.getElem?_eq_getElem (by omega)]; rfl
 obtain ⟨W1, hW1⟩ : ∃ W1, W1 = w.drew.setCells g (0 + i * 5) news := ⟨_, rfl⟩
 have h1 : W1.heap[g]? = some (.cells (over cur (0 + i * 5) news) 30 (0, 0)) := by rw [hW1]; exact heap_setCells_at _ _ _ _ hg
 have f1 : Fr0 (fun k => k = g) w W1 := by rw [hW1]; exact below_setCells0 (S := fun k => k = g) rfl _ _ _ (Fr0.refl _ w).drew
 have hcl : ∀ ty, (Builtin.clear_ #[22] ty #[.slice (some ⟨g, (i + (n - j)) * 5, none⟩) (n - (i + (n - j))) (cap - (i + (n - j)))]).run Tryz.prog W1 = .ok (.tuple #[]) (W1.setCells g ((n - 1) * 5) [.int .i64 0, .int .i64 0, .int .i64 0, .int .i64 0, .int .i64 0]) := fun ty => by
  rw [show i + (n - j) = n - 1 by omega, show n - (n - 1) = 1 by omega]
  exact run_clear_k W1 _ _ ty _ Tryz.underlying22 zero_ev g _ _ _ _ (by kernel_rfl) (by simp [Value.oneCell']) (by omega) (fun t ht => by
   rw [cells_in h1, Array.getElem?_eq_getElem (by rw [over_size]; simp at ht; omega)]; rfl) (fun t ht => thaw_in h1 _)
 have Hij := Lib.hid hij
 have mixed : Tryz.prog.follows Departure.mixedOrders = true := by kernel_rfl
 have c1 : i ≤ j := by omega
 have c2 : j ≤ n := by omega
 have c3 : i ≤ cap := by omega
 have c4 : j ≤ cap := by omega
 have c5 : (i : Int) ≠ (j : Int) := by omega
 clear hij
 have Hg := Lib.hid hg
 have H1 := Lib.hid h1
 have HW := Lib.hid hW1
 have F1 := Lib.hid f1
 have Hn := Lib.hid hnews
 have HGet := Lib.hid hget
 have Hbg := Lib.hid hbg
 clear hg h1 hW1 f1 hnews hrow hget hcell htk hbg
 go_enter Tryz.func187, Tryz.ntmps187
 go_wp2_with fail
 go_region_law_o (refine step_append_room rfl (.tmp 22) (.tmp 25) 22 rfl 30 i0 5 Tryz.underlying22 hi0 hz1 g 0 i cap (by simp [Act.eval, Act.put]) A (n - j) (cap - j) news (by simp [Act.eval, Act.put]) hnl hsrc.out s2.out (by omega) s3.out ?_; rw [← HW.out])
 go_wp2
 go_ret
 have hij := Hij.out
 have h2 := heap_setCells_at [.int .i64 0, .int .i64 0, .int .i64 0, .int .i64 0, .int .i64 0] ((n - 1) * 5) W1 _ H1.out
 have hel : (P.eraseIdx i).length = n - 1 := by rw [List.length_eraseIdx_of_lt (by omega)]; omega
 refine ⟨by rw [show i + (n - j) = n - 1 by omega]; rfl, ⟨by rw [flatEv_length, hel], .inr ⟨g, cap, _, rfl, Hbg.out, h2, by omega, hcm, by rw [over_size, over_size]; exact hs, ?_⟩⟩, below_setCells0 (S := fun k => k = g) rfl _ _ _ F1.out⟩
 apply List.ext_getElem?
 intro t
 by_cases ht : t < (n - 1) * 5
 ·rw [List.getElem?_take, if_pos ht, Array.getElem?_toList, over_get, if_neg (by omega), over_get, hnl, Nat.zero_add]
  have e1 : t / 5 * 5 + t % 5 = t := by omega
  have e2 := flat_at cev_len (P.eraseIdx i) (t / 5) (t % 5) (by omega)
  rw [e1] at e2
  have e3 := flat_at cev_len P (t / 5) (t % 5) (by omega)
  have e4 := flat_at cev_len P (t / 5 + 1) (t % 5) (by omega)
  rw [e1] at e3
  rw [show (t / 5 + 1) * 5 + t % 5 = t + 5 by omega] at e4
  show _ = (flatEv (P.eraseIdx i))[t]?
  refine Eq.trans ?_ e2.symm
  rw [List.getElem?_eraseIdx]
  by_cases h : i * 5 ≤ t
  ·rw [if_pos ⟨h, by omega, by omega⟩, Hn.out, List.getElem?_drop, if_neg (by omega), show j * 5 + (t - i * 5) = t + 5 by omega]
   exact e4
  ·rw [if_neg (by omega), if_pos (by omega)]
   exact (HGet.out t (by omega)).trans e3
 ·rw [List.getElem?_eq_none (by rw [List.length_take]; omega), List.getElem?_eq_none (by rw [flatEv_length, hel]; omega)]
end Go.Proofs.YtieeloealklkgaaGreat

/-
  The laws' helpers: less, inOrder, made, at.
-/
namespace Go.Proofs.YtieeloealklkgaaGreat
open Go Go.RowKit
attribute [local go_sem ↓] Go.wp_at_zero Go.wp_at_succ
attribute [local go_sem] Oper.semAt_some wide_fn wide_depth wide_fnR wide_depthR

/-- How many of a list come before an event, from its head on. -/
def cntE (x : Ev) : List Ev → Nat
 | [] => 0
 | y :: r => if cmpK y.key x.key < 0 then cntE x r + 1 else 0
theorem cntE_le (x : Ev) : ∀ E, cntE x E ≤ E.length
 | [] => Nat.le_refl _
 | y :: r => by
  rw [cntE]
  split
  ·have := cntE_le x r; rw [List.length_cons]; omega
  ·exact Nat.zero_le _
theorem cntE_ins (x : Ev) : ∀ E, insE x E = E.take (cntE x E) ++ x :: E.drop (cntE x E)
 | [] => rfl
 | y :: r => by
  rw [insE, cntE]
  split
  ·rw [cntE_ins x r]; rfl
  ·rfl
theorem cntE_lt (x : Ev) : ∀ (E : List Ev) (k : Nat) (y : Ev), k ≤ cntE x E → E[k]? = some y → (cmpK y.key x.key < 0 ↔ k < cntE x E)
 | [], k, y, _, hy => by simp at hy
 | z :: r, k, y, hk, hy => by
  rw [cntE] at hk ⊢
  cases k with
  | zero =>
   simp only [List.getElem?_cons_zero, Option.some.injEq] at hy
   subst hy
   split
   ·next h => exact ⟨fun _ => by omega, fun _ => h⟩
   ·next h => exact ⟨fun g => absurd g h, fun g => absurd g (Nat.lt_irrefl _)⟩
  | succ k =>
   simp only [List.getElem?_cons_succ] at hy
   split at hk
   ·next h =>
    rw [if_pos h, cntE_lt x r k y (by omega) hy]
    omega
   ·omega
/-
  slices.IndexFunc at events.
-/

/-- The first index of what is so; -1 if there is none. -/
def idxI (f : Ev → Bool) (L : List Ev) : Int := match L.findIdx? f with
 | some i => i
 | none => -1
theorem idxI_at {f : Ev → Bool} {L : List Ev} {k : Nat} {x : Ev} (h : ∀ y ∈ L.take k, f y = false) (hx : L[k]? = some x) (hf : f x = true) : idxI f L = k := by
 unfold idxI
 have : L.findIdx? f = some k := by
  rw [List.findIdx?_eq_some_iff_getElem]
  obtain ⟨hk, e⟩ := List.getElem?_eq_some_iff.1 hx
  refine ⟨hk, by rw [e]; exact hf, fun j hj => ?_⟩
  have hjl : j < L.length := by omega
  have := h L[j] (List.mem_take_iff_getElem.2 ⟨j, by omega, rfl⟩)
  simp [this]
 rw [this]
theorem idxI_none {f : Ev → Bool} {L : List Ev} (h : ∀ y ∈ L, f y = false) : idxI f L = -1 := by
 unfold idxI
 have : L.findIdx? f = none := by
  rw [List.findIdx?_eq_none_iff]
  exact h
 rw [this]
set_option maxHeartbeats 2000000 in
theorem IndexE {w : World} {a : Option Addr} {n cap : Nat} (L : List Ev) (h : EsIn w a L) (hl : L.length = n) (hn : n ≤ 1000000) (g : Nat) (lb : Array Value) (f : Ev → Bool)
  (eg : ∀ args w, (callFunc g args).run Tryz.prog w = .ok (.enter g args) w)
  (hf : ∀ x W, Fr0 none' w W → Calls Tryz.prog g (#[evV x] ++ lb) W fun e w' => e = .returned (.bool (f x)) ∧ Fr0 none' W w') :
  Calls Tryz.prog 72 #[.slice a n cap, .func (.func g) #[] lb] w fun e w' => e = .returned (.int .i64 (idxI f L)) ∧ Fr0 none' w w' := by
 obtain ⟨R, hR⟩ : ∃ R, idxI f L = R := ⟨_, rfl⟩
 rw [hR]
 have HR := Lib.hid hR
 have H := Lib.hid h
 have Hl := Lib.hid hl
 have Hf := Lib.hid hf
 clear h hl hf hR
 go_enter Tryz.func72, Tryz.ntmps72
 go_wp2_with fail
 go_loopw [5, 8] (fun _ i wr => ∃ k : Nat, k ≤ n ∧ i = .int .i64 k ∧ Hid (∀ y ∈ L.take k, f y = false) ∧ Hid (Fr0 none' w wr)) (fun _ i _ => n - (Go.RowKit.intOf i).toNat)
 case atStart => exact ⟨0, Nat.zero_le _, rfl, by unfold Hid; simp, Fr0.refl _ _⟩
 case round =>
  obtain ⟨k, hk, rfl, hpre, hfr⟩ := hrel
  by_cases hlt : k < n
  ·obtain ⟨x, hx⟩ : ∃ x, L[k]? = some x := ⟨_, List.getElem?_eq_getElem (by rw [Hl.out]; exact hlt)⟩
   obtain ⟨g2, o, rfl, hxc⟩ := H.out k x hx
   obtain ⟨x0, x1, x2, x3, x4⟩ := hxc.later hfr.out
   have Hx := Lib.hid hx
   have k1 : (0 : Int) ≤ (k : Int) := by omega
   have k2 : (k : Int) < (n : Int) := by omega
   clear hx hxc
   go_wp2_with fail
   refine (Hf.out x wr hfr.out).mono ?_
   rintro e w2 ⟨rfl, hf2⟩
   have hfin := Lib.hid (hfr.out.trans hf2)
   cases hfx : f x
   ·have hnext := Lib.hid (show ∀ y ∈ L.take (k + 1), f y = false from fun y hy => by
     rw [List.take_add_one, Hx.out, List.mem_append] at hy
     rcases hy with hy | hy
     ·exact hpre.out y hy
     ·simp at hy; subst hy; exact hfx)
    clear hf2 hfx
    go_wp2
    go_roundw
    case rel => exact ⟨k + 1, by omega, by go_num, hnext, hfin⟩
    case measure => simp [Go.RowKit.intOf]; omega
   ·have hres := Lib.hid (show (k : Int) = R by rw [← HR.out]; exact (idxI_at hpre.out Hx.out hfx).symm)
    clear hf2 hfx
    go_wp2
    go_ret
    exact ⟨by rw [← hres.out]; rfl, hfin.out⟩
  ·have hkn : k = n := by omega
   have hres := Lib.hid (show (-1 : Int) = R by rw [← HR.out]; exact (idxI_none (fun y hy => hpre.out y (by rw [List.take_of_length_le (by rw [Hl.out]; omega)]; exact hy))).symm)
   go_wp2
   go_ret
   exact ⟨by rw [← hres.out]; rfl, hfr.out⟩
/-
  merge: before, Runs, Sorted, Same.
-/

theorem before_any (x y : Ev) (w : World) : Calls Tryz.prog 78 #[evV x, evV y] w fun e w' => e = .returned (.bool (decide (cmpK x.key y.key < 0))) ∧ Fr0 none' w w' := by
 have HC := Lib.hid (Compare_any x.key y.key)
 obtain ⟨c, hc⟩ : ∃ c, cmpK x.key y.key = c := ⟨_, rfl⟩
 obtain ⟨f, hf⟩ : ∃ c, fieldK x.key y.key = c := ⟨_, rfl⟩
 rw [hc, hf] at HC
 rw [hc]
 clear hc hf
 unfold evV
 unfold keyV at HC
 go_enter Tryz.func78, Tryz.ntmps78
 go_wp2_with fail
 refine (HC.out _).mono ?_
 rintro e w' ⟨rfl, hf⟩
 go_wp2
 go_ret
 exact ⟨rfl, (((Fr0.refl _ _).alloc _).alloc _).trans hf.to0⟩
/-- The runs of a list: those that have ended, and where the last one began. -/
def runS (l : List Ev) : Nat → List (Nat × Nat) × Nat
 | 0 => ([], 0)
 | i + 1 => match l[i - 1]?, l[i]? with
  | some a, some b => if 0 < i ∧ ¬ cmpK a.key b.key < 0 then ((runS l i).1 ++ [((runS l i).2, i)], i) else runS l i
  | _, _ => runS l i
def runsE (l : List Ev) : List (Nat × Nat) := if 0 < l.length then (runS l l.length).1 ++ [((runS l l.length).2, l.length)] else []
def pairC (p : Nat × Nat) : List Value := [.int .i64 (p.1 : Nat), .int .i64 (p.2 : Nat)]
def flatPr (l : List (Nat × Nat)) : List Value := l.flatMap pairC
theorem runS_le (l : List Ev) : ∀ i, (runS l i).1.length ≤ i ∧ (runS l i).2 ≤ i
 | 0 => ⟨Nat.le_refl _, Nat.le_refl _⟩
 | i + 1 => by
  have h := runS_le l i
  rw [runS]
  split
  ·split
   ·refine ⟨?_, by simp⟩
    rw [List.length_append, List.length_singleton]; omega
   ·exact ⟨by omega, by omega⟩
  ·exact ⟨by omega, by omega⟩
theorem runS_asc {l : List Ev} : ∀ i, i ≤ l.length → ((runS l i).1 = [] ↔ ∀ j a b, j + 1 < i → l[j]? = some a → l[j + 1]? = some b → cmpK a.key b.key < 0)
 | 0, _ => ⟨fun _ j a b h => by omega, fun _ => rfl⟩
 | i + 1, hi => by
  have ih := runS_asc (l := l) i (by omega)
  have hi1 : l[i]? = some l[i] := List.getElem?_eq_getElem (by omega)
  have hi0 : l[i - 1]? = some l[i - 1] := List.getElem?_eq_getElem (by omega)
  rw [runS]
  rw [hi0, hi1]
  simp only
  by_cases h : 0 < i ∧ ¬ cmpK l[i - 1].key l[i].key < 0
  ·rw [if_pos h]
   refine ⟨fun e => by simp at e, fun hall => ?_⟩
   exact absurd (hall (i - 1) l[i - 1] l[i] (by omega) hi0 (by rw [Nat.sub_add_cancel h.1]; exact hi1)) h.2
  ·rw [if_neg h, ih]
   refine ⟨fun hall j a b hj ha hb => ?_, fun hall j a b hj ha hb => hall j a b (by omega) ha hb⟩
   by_cases hji : j + 1 < i
   ·exact hall j a b hji ha hb
   ·have hj2 : j = i - 1 := by omega
    subst hj2
    rw [hi0] at ha
    rw [show i - 1 + 1 = i by omega, hi1] at hb
    injection ha with ha
    injection hb with hb
    subst ha hb
    exact Classical.not_not.1 (fun hn => h ⟨by omega, hn⟩)
theorem asc_adj {l : List Ev} : AscE l ↔ ∀ j a b, l[j]? = some a → l[j + 1]? = some b → cmpK a.key b.key < 0 := by
 constructor
 ·intro h j a b ha hb
  obtain ⟨h1, e1⟩ := List.getElem?_eq_some_iff.1 ha
  obtain ⟨h2, e2⟩ := List.getElem?_eq_some_iff.1 hb
  rw [← e1, ← e2]
  exact List.pairwise_iff_getElem.1 h j (j + 1) h1 h2 (by omega)
 ·induction l with
  | nil => exact fun _ => List.Pairwise.nil
  | cons x r ih =>
   intro h
   have hr := ih (fun j a b ha hb => h (j + 1) a b (by simpa using ha) (by simpa using hb))
   refine List.pairwise_cons.2 ⟨fun y hy => ?_, hr⟩
   cases r with
   | nil => simp at hy
   | cons z t =>
    have hz : cmpK x.key z.key < 0 := h 0 x z rfl rfl
    rcases List.mem_cons.1 hy with rfl | hy
    ·exact hz
    ·exact cmpK_trans _ _ _ hz ((List.pairwise_cons.1 hr).1 y hy)
instance (l : List Ev) : Decidable (AscE l) := by unfold AscE; infer_instance
theorem runs_asc (l : List Ev) : decide ((runsE l).length < 2) = decide (AscE l) := by
 refine decide_eq_decide.2 ?_
 unfold runsE
 by_cases h : 0 < l.length
 ·rw [if_pos h, List.length_append, List.length_singleton, asc_adj]
  have h1 := runS_asc (l := l) l.length (Nat.le_refl _)
  refine ⟨fun hl j a b ha hb => ?_, fun hall => ?_⟩
  ·have h2 : (runS l l.length).1 = [] := List.eq_nil_of_length_eq_zero (by omega)
   exact h1.1 h2 j a b ((List.getElem?_eq_some_iff.1 hb).1) ha hb
  ·have h2 := h1.2 (fun j a b _ ha hb => hall j a b ha hb)
   rw [h2]
   simp
 ·have : l = [] := List.eq_nil_of_length_eq_zero (by omega)
  subst this
  rw [if_neg h]
  exact ⟨fun _ => List.Pairwise.nil, fun _ => by simp⟩
theorem flatPr_snoc (l : List (Nat × Nat)) (x : Nat × Nat) : flatPr (l ++ [x]) = flatPr l ++ pairC x := by simp [flatPr]
theorem info_pair : (Tryz.prog.info? 120).map (fun i => (i.zero, i.size, i.bytes)) = some (some (.agg #[.int .i64 0, .int .i64 0]), 2, 16) := by kernel_rfl
set_option maxHeartbeats 2000000 in
/-- A run ends. -/
theorem runEnd_any {w : World} {base ob fb m n f : Nat} {v : Value} {rs : List (Nat × Nat)} (ho : Box w ob v) (hf : Box w fb (.int .i64 (f : Nat))) (hr : w.ownsRow base 120 2 v m (flatPr rs)) (hne : ob ≠ fb) (hob : v.ownBlock ≠ some ob) (hfb : v.ownBlock ≠ some fb) (hm : m ≤ 100000) (hbs : base ≤ w.heap.size) :
  Calls Tryz.prog 77 #[.int .i64 (n : Nat), .pointer (some ⟨ob, 0, none⟩), .pointer (some ⟨fb, 0, none⟩)] w fun e w' => (∃ u, e = .returned u) ∧ ∃ v', Box w' ob v' ∧ Box w' fb (.int .i64 (n : Nat)) ∧ w'.ownsRow base 120 2 v' (m + 1) (flatPr (rs ++ [(f, n)])) ∧ Fr0 (fun k => k = ob ∨ k = fb ∨ v.ownBlock = some k) w w' ∧ (v'.ownBlock = v.ownBlock ∨ v'.ownBlock = some (w.heap.size + 1)) := by
 obtain ⟨i0, hi0, hz0, hz1, hz2⟩ := info_parts info_pair
 have c0 := ho.cell
 have f0 := ho.frozen
 have c1 := hf.cell
 have f1 := hf.frozen
 have hsrc := Src.newRow (P := Tryz.prog) (size := 2) (tx := 118) (ty := 120) w Tryz.underlying118 1 1 (pairC (f, n)) rfl (by simp [Value.oneCell', pairC])
 simp only [pairC] at hsrc
 have HB := Lib.hid hr
 have HO := Lib.hid ho
 have HF := Lib.hid hf
 have Hne := Lib.hid hne
 have Hob := Lib.hid hob
 have Hfb := Lib.hid hfb
 clear hr hne hob hfb ho hf
 go_enter Tryz.func77, Tryz.ntmps77
 go_wp2_with (at_builtin; go_loud (refine wpList_append_k rfl _ _ 118 118 rfl base 120 i0 (.agg #[.int .i64 0, .int .i64 0]) 2 16 Tryz.underlying118 hi0 hz0 hz1 hz2 rfl (by decide) v m _ rfl (HB.out.alloc _) (.slice (some ⟨w.heap.size, 0, none⟩) 1 1) 1 _ rfl hsrc (by unfold maxLen; omega) (by omega) (by simp; omega) ?_); intro v' w1 hown' hgrow hdr hob; obtain ⟨g', cap', rfl⟩ := ownsRow_k_succ hown'; have hfg := ((Fr0.refl (fun k => v.ownBlock = some k) w).alloc _).grown hgrow (fun k hk _ => hk); have hb1 := HO.out.fr0 hfg Hob.out; have hc1 := hb1.cell; have hf1 := hb1.frozen; have hb2 := HF.out.fr0 hfg Hfb.out; have hfs := (Fr0.refl (fun k => k = ob) w1).setCell (b := ob) (o := 0) (fun _ => rfl) (.slice (some ⟨g', 0, none⟩) (m + 1) cap'); have hb3 := hb2.fr0 hfs (fun e => Hne.out e.symm); have hc3 := hb3.cell; have hf3 := hb3.frozen)
 have hbo := hb1.set (.slice (some ⟨g', 0, none⟩) (m + 1) cap')
 have hfs2 := (Fr0.refl (fun k => k = fb) (w1.setCell ⟨ob, 0, none⟩ (.slice (some ⟨g', 0, none⟩) (m + 1) cap'))).setCell (b := fb) (o := 0) (fun _ => rfl) (.int .i64 (n : Nat))
 have hg1 : (Value.slice (some ⟨g', 0, none⟩) (m + 1) cap').ownBlock ≠ some ob := fun e => by
  rcases hob with h | h
  ·exact Hob.out (h.symm.trans e)
  ·rw [h, World.size_alloc] at e
   have e := Option.some.inj e
   have := HO.out.lt
   omega
 have hg2 : (Value.slice (some ⟨g', 0, none⟩) (m + 1) cap').ownBlock ≠ some fb := fun e => by
  rcases hob with h | h
  ·exact Hfb.out (h.symm.trans e)
  ·rw [h, World.size_alloc] at e
   have e := Option.some.inj e
   have := HF.out.lt
   omega
 have hrow := ownsRow_setCell_other (ownsRow_setCell_other hown' (a := ⟨ob, 0, none⟩) hg1 (.slice (some ⟨g', 0, none⟩) (m + 1) cap')) (a := ⟨fb, 0, none⟩) hg2 (.int .i64 (n : Nat))
 have hlast : Fr0 (fun k => k = ob ∨ k = fb ∨ v.ownBlock = some k) w ((w1.setCell ⟨ob, 0, none⟩ (.slice (some ⟨g', 0, none⟩) (m + 1) cap')).setCell ⟨fb, 0, none⟩ (.int .i64 (n : Nat))) :=
  ((hfg.mono (fun _ _ h => .inr (.inr h))).trans' hfs (fun _ _ h => .inl h)).trans' hfs2 (fun _ _ h => .inr (.inl h))
 have hob2 : (Value.slice (some ⟨g', 0, none⟩) (m + 1) cap').ownBlock = v.ownBlock ∨ (Value.slice (some ⟨g', 0, none⟩) (m + 1) cap').ownBlock = some (w.heap.size + 1) := by
  rcases hob with h | h
  ·exact .inl h
  ·exact .inr (by rw [h, World.size_alloc])
 have hb9 := hbo.fr0 hfs2 Hne.out
 have hb8 := hb3.set (.int .i64 (n : Nat))
 clear hbo hfs2 hfs hb3 hc3 hf3
 obtain ⟨W9, hW9⟩ : ∃ W, (w1.setCell ⟨ob, 0, none⟩ (.slice (some ⟨g', 0, none⟩) (m + 1) cap')).setCell ⟨fb, 0, none⟩ (.int .i64 (n : Nat)) = W := ⟨_, rfl⟩
 rw [hW9] at hb9 hb8 hrow hlast
 go_end0
 rw [hW9]
 exact ⟨⟨_, rfl⟩, _, hb9, hb8, by rw [flatPr_snoc]; exact hrow, hlast, hob2⟩
/-
  merge: Runs, Sorted.
-/

theorem runS_one (L : List Ev) : runS L (0 + 1) = runS L 0 := by
 conv => lhs; unfold runS
 split
 ·rw [if_neg (fun h => absurd h.1 (Nat.lt_irrefl 0))]
 ·rfl
/-- What Runs keeps. -/
def RunsAt (w wr : World) (L : List Ev) (k : Nat) : Prop := ∃ v, Box wr w.heap.size v ∧ Box wr (w.heap.size + 1) (.int .i64 ((runS L k).2 : Nat)) ∧ wr.ownsRow (w.heap.size + 2) 120 2 v (runS L k).1.length (flatPr (runS L k).1) ∧ Fr0 none' w wr
set_option maxHeartbeats 2000000 in
theorem Runs_any {w : World} {a : Option Addr} {n cap : Nat} (L : List Ev) (h : EsIn w a L) (hl : L.length = n) (hn : n ≤ 10000) :
  Calls Tryz.prog 53 #[.slice a n cap] w fun e w' => ∃ v, e = .returned v ∧ w'.ownsRow w.heap.size 120 2 v (runsE L).length (flatPr (runsE L)) ∧ Fr0 none' w w' := by
 have H := Lib.hid h
 have Hl := Lib.hid hl
 clear h hl
 go_enter Tryz.func53, Tryz.ntmps53
 go_wp2_with fail
 go_loopw [6, 10] (fun _ i wr => ∃ k : Nat, k ≤ n ∧ i = .int .i64 k ∧ Hid (RunsAt w wr L k)) (fun _ i _ => n - (Go.RowKit.intOf i).toNat)
 case atStart =>
  have hb0 : Box (w.alloc (.cells #[.slice none 0 0] 118)) w.heap.size (.slice none 0 0) := Box.new w _ _
  have hb1 := Box.new (w.alloc (.cells #[.slice none 0 0] 118)) (.int .i64 0) 3
  rw [World.size_alloc] at hb1
  exact ⟨0, Nat.zero_le _, rfl, _, hb0.fr0 ((Fr0.refl none' _).alloc _) id, hb1, World.ownsRow_nil _ _ _ _, ((Fr0.refl _ _).alloc _).alloc _⟩
 case round =>
  obtain ⟨k, hk, rfl, hR⟩ := hrel
  by_cases hlt : k < n
  ·obtain ⟨y, hy⟩ : ∃ y, L[k]? = some y := ⟨_, List.getElem?_eq_getElem (by rw [Hl.out]; exact hlt)⟩
   have k1 : (0 : Int) ≤ (k : Int) := by omega
   have k2 : (k : Int) < (n : Int) := by omega
   obtain ⟨v, hb1, hb2, hrow, hfr⟩ := hR.out
   obtain ⟨g2, o, rfl, hyc⟩ := H.out k y hy
   have HY := Lib.hid (hyc.later hfr)
   have Hy := Lib.hid hy
   have Hfr := Lib.hid hfr
   clear hy hyc
   by_cases h0 : k = 0
   ·subst h0
    have d1 : decide (((0 : Nat) : Int) > 0) = false := rfl
    have d2 : decide ((0 : Int) < ((0 : Nat) : Int)) = false := rfl
    clear hb1 hb2 hrow hfr
    go_wp2_with fail
    refine wp_region_held_drew (S := fun W' => Fr0 none' wr W') (by kernel_rfl) ((Fr0.refl none' wr).drew) (fun hHeld => ?_)
    refine tk0 (i := 0) (v := .int .i64 ((0 : Nat) : Int)) ?_
    try simp only[pUt,pUn,sEt,sEz,sEs]
    refine tk0 (i := 1) (v := .bool false) ?_
    try simp only[pUt,pUn,sEt,sEz,sEs]
    refine tk0 (i := 2) (v := .bool false) ?_
    try simp only[pUt,pUn,sEt,sEz,sEs]
    refine tkf (i := 3) ?_
    try simp only[pUt,pUn,sEt,sEz,sEs]
    refine tkf (i := 4) ?_
    try simp only[pUt,pUn,sEt,sEz,sEs]
    refine tkf (i := 5) ?_
    try simp only[pUt,pUn,sEt,sEz,sEs]
    refine tkf (i := 6) ?_
    try simp only[pUt,pUn,sEt,sEz,sEs]
    refine tkf (i := 7) ?_
    try simp only[pUt,pUn,sEt,sEz,sEs]
    refine tkf (i := 8) ?_
    try simp only[pUt,pUn,sEt,sEz,sEs]
    refine tkf (i := 9) ?_
    try simp only[pUt,pUn,sEt,sEz,sEs]
    refine tkf (i := 10) ?_
    try simp only[pUt,pUn,sEt,sEz,sEs]
    refine tkf (i := 11) ?_
    try simp only[pUt,pUn,sEt,sEz,sEs]
    refine tkf (i := 12) ?_
    try simp only[pUt,pUn,sEt,sEz,sEs]
    refine tkf (i := 13) ?_
    try simp only[pUt,pUn,sEt,sEz,sEs]
    refine tk0 (i := 14) (v := .bool false) ?_
    try simp only[pUt,pUn,sEt,sEz,sEs]
    refine wpAnyH_done (by kernel_rfl) ?_ _
    have hR1 : Hid (RunsAt w wr.drew L (0 + 1)) := by
     obtain ⟨v, hb1, hb2, hrow, hfr⟩ := hR.out
     have e := runS_one L
     unfold RunsAt
     rw [e]
     exact ⟨v, hb1.fr0 hHeld id, hb2.fr0 hHeld id, ownsRow_fr0 hrow hHeld (fun _ _ h => h), hfr.trans hHeld⟩
    clear hHeld d1 d2
    go_wp2_with fail
    go_roundw
    case rel => exact ⟨0 + 1, by omega, by go_num, hR1⟩
    case measure => simp [Go.RowKit.intOf]; omega
   ·obtain ⟨x, hx⟩ : ∃ y, L[k - 1]? = some y := ⟨_, List.getElem?_eq_getElem (by rw [Hl.out]; omega)⟩
    obtain ⟨g3, o3, e3, hxc⟩ := H.out (k - 1) x hx
    injection e3 with e3
    injection e3 with e3 e4
    subst e3 e4
    have HX := Lib.hid (hxc.later hfr)
    have Hx := Lib.hid hx
    have d1 : decide ((k : Int) > 0) = true := decide_eq_true (by omega)
    have d2 : decide ((0 : Int) < (k : Int)) = true := decide_eq_true (by omega)
    obtain ⟨j, hj⟩ : ∃ j, k - 1 = j := ⟨_, rfl⟩
    rw [hj] at HX Hx
    have hj1 : (k : Int) - 1 = (j : Int) := by omega
    have k3 : (0 : Int) ≤ (j : Int) := by omega
    have k4 : (j : Int) < (n : Int) := by omega
    have Hj := Lib.hid hj
    have Hj1 := Lib.hid hj1
    have k5 : IntKind.i64.wrap ((k : Int) - 1) = (j : Int) := by rw [hj1]; exact IntWalk.i64_in _ (by omega)
    obtain ⟨b, hb⟩ : ∃ b, decide (cmpK x.key y.key < 0) = b := ⟨_, rfl⟩
    have HB := Lib.hid hb
    clear hx hxc hj hj1 hb1 hb2 hrow hfr
    go_wp2_with fail
    refine wp_region_held_drew (S := fun W' => Fr0 none' wr W') (by kernel_rfl) ((Fr0.refl none' wr).drew) (fun hHeld => ?_)
    refine tk0 (i := 0) (v := .int .i64 (k : Int)) ?_
    try simp only[pUt,pUn,sEt,sEz,sEs]
    refine tk0 (i := 1) (v := .bool true) ?_
    try simp only[pUt,pUn,sEt,sEz,sEs]
    refine tk0 (i := 2) (v := .bool true) ?_
    try simp only[pUt,pUn,sEt,sEz,sEs]
    refine tk0 (i := 3) (v := .slice (some ⟨g2, o, none⟩) n cap) ?_
    try simp only[pUt,pUn,sEt,sEz,sEs]
    refine tk0 (i := 4) (v := .int .i64 (k : Int)) ?_
    try simp only[pUt,pUn,sEt,sEz,sEs]
    refine tk0 (i := 5) (v := .int .i64 (j : Int)) ?_
    try simp only[pUt,pUn,sEt,sEz,sEs]
    refine tk0 (i := 6) (v := .pointer (some ⟨g2, o + j * 5, none⟩)) ?_
    try simp only[pUt,pUn,sEt,sEz,sEs]
    refine tkn (i := 7) (v := evV x) (fun W' hSW => ?_) ?_
    ·obtain ⟨x0, x1, x2, x3, x4⟩ := HX.out.later hSW
     first|go_simp;done|exact rfl|go_simp;rfl|go_simp;omega
    try simp only[pUt,pUn,sEt,sEz,sEs]
    refine tk0 (i := 8) (v := .slice (some ⟨g2, o, none⟩) n cap) ?_
    try simp only[pUt,pUn,sEt,sEz,sEs]
    refine tk0 (i := 9) (v := .int .i64 (k : Int)) ?_
    try simp only[pUt,pUn,sEt,sEz,sEs]
    refine tk0 (i := 10) (v := .pointer (some ⟨g2, o + k * 5, none⟩)) ?_
    try simp only[pUt,pUn,sEt,sEz,sEs]
    refine tkn (i := 11) (v := evV y) (fun W' hSW => ?_) ?_
    ·obtain ⟨x0, x1, x2, x3, x4⟩ := HY.out.later hSW
     first|go_simp;done|exact rfl|go_simp;rfl|go_simp;omega
    try simp only[pUt,pUn,sEt,sEz,sEs]
    refine take_call (i := 12) rfl (by kernel_rfl) (by kernel_rfl) (fun K hK => ?_)
    go_simp
    refine (before_any x y _).mono ?_
    rintro e wA ⟨rfl, hfA⟩
    rw [HB.out]
    have FA := Lib.hid (hHeld.trans hfA)
    clear hfA
    go_wp2_with fail
    refine hK.out _ _ FA.out (fun hHeld => ?_)
    clear hK K
    try simp only[pUt,pUn,sEt,sEz,sEs]
    refine tk0 (i := 13) (v := .bool (!b)) ?_
    try simp only[pUt,pUn,sEt,sEz,sEs]
    refine tk0 (i := 14) (v := .bool (!b)) ?_
    try simp only[pUt,pUn,sEt,sEz,sEs]
    refine wpAnyH_done (by kernel_rfl) ?_ _
    have hR2 : Hid (RunsAt w wA L k) := by
     obtain ⟨v, hb1, hb2, hrow, hfr⟩ := hR.out
     exact ⟨v, hb1.fr0 hHeld id, hb2.fr0 hHeld id, ownsRow_fr0 hrow hHeld (fun _ _ h => h), hfr.trans hHeld⟩
    have Hf2 := Lib.hid (hR2.out.choose_spec.2.2.2)
    clear hHeld FA hR Hfr HX HY hb d1 d2 k5
    cases b
    ·have e : runS L (k + 1) = ((runS L k).1 ++ [((runS L k).2, k)], k) := by
      rw [runS, Hj.out, Hx.out, Hy.out]
      exact if_pos ⟨by omega, of_decide_eq_false HB.out⟩
     obtain ⟨v, hb1, hb2, hrow, hfr⟩ := hR2.out
     have hov : v.ownBlock ≠ some w.heap.size := fun e => by have := (hrow.lt _ e).1; omega
     have hov2 : v.ownBlock ≠ some (w.heap.size + 1) := fun e => by have := (hrow.lt _ e).1; omega
     have hle := (runS_le L k).1
     have hsz := hb2.lt
     have HC := Lib.hid (runEnd_any (n := k) hb1 hb2 hrow (by omega) hov hov2 (by omega) (by omega))
     have HO1 := Lib.hid hrow
     have He := Lib.hid e
     have Hsz := Lib.hid hsz
     clear hov hov2 hle hb1 hb2 hrow hfr HB e hsz
     go_wp2_with fail
     refine HC.out.mono ?_
     rintro e w3 ⟨⟨u, rfl⟩, v', hb1, hb2, hrow, hfr, _⟩
     have hR3 : Hid (RunsAt w w3 L (k + 1)) := by
      unfold RunsAt
      rw [He.out]
      refine ⟨v', hb1, hb2, by rw [List.length_append, List.length_singleton]; exact hrow, Hf2.out.trans' hfr (fun i hi h => ?_)⟩
      rcases h with h | h | h
      ·omega
      ·omega
      ·have := (HO1.out.lt _ h).1; omega
     clear hb1 hb2 hrow hfr
     go_wp2_with fail
     go_roundw
     case rel => exact ⟨k + 1, by omega, by go_num, hR3⟩
     case measure => simp [Go.RowKit.intOf]; omega
    ·have e : runS L (k + 1) = runS L k := by
      rw [runS, Hj.out, Hx.out, Hy.out]
      exact if_neg (fun h => h.2 (of_decide_eq_true HB.out))
     have hR3 : Hid (RunsAt w wA L (k + 1)) := by
      unfold RunsAt
      rw [e]
      exact hR2.out
     clear hR2 e HB Hf2
     go_wp2_with fail
     go_roundw
     case rel => exact ⟨k + 1, by omega, by go_num, hR3⟩
     case measure => simp [Go.RowKit.intOf]; omega
  ·have hkn : k = n := by omega
   subst hkn
   obtain ⟨v, hb1, hb2, hrow, hfr⟩ := hR.out
   by_cases h0 : k = 0
   ·subst h0
    have d1 : decide (((0 : Nat) : Int) > 0) = false := rfl
    have d2 : decide ((0 : Int) < ((0 : Nat) : Int)) = false := rfl
    have e : runsE L = (runS L 0).1 := by
     unfold runsE
     rw [Hl.out, if_neg (by omega)]
     rfl
    have c0 := hb1.cell
    rw [← e] at hrow
    have HO1 := Lib.hid (ownsRow_k_mono hrow (by omega : w.heap.size ≤ w.heap.size + 2))
    have HF := Lib.hid hfr
    clear hb1 hb2 hrow hfr hR e
    go_wp2_with fail
    go_ret
    exact ⟨_, rfl, HO1.out, HF.out⟩
   ·have d1 : decide ((k : Int) > 0) = true := decide_eq_true (by omega)
    have d2 : decide ((0 : Int) < (k : Int)) = true := decide_eq_true (by omega)
    have e : runsE L = (runS L k).1 ++ [((runS L k).2, k)] := by
     unfold runsE
     rw [Hl.out, if_pos (by omega)]
    have hov : v.ownBlock ≠ some w.heap.size := fun e => by have := (hrow.lt _ e).1; omega
    have hov2 : v.ownBlock ≠ some (w.heap.size + 1) := fun e => by have := (hrow.lt _ e).1; omega
    have hle := (runS_le L k).1
    have hsz := hb2.lt
    have HC := Lib.hid (runEnd_any (n := k) hb1 hb2 hrow (by omega) hov hov2 (by omega) (by omega))
    have HO1 := Lib.hid hrow
    have He := Lib.hid e
    have HF := Lib.hid hfr
    clear hov hov2 hle hb1 hb2 hrow e hfr hR hsz
    go_wp2_with fail
    refine HC.out.mono ?_
    rintro e w3 ⟨⟨u, rfl⟩, v', hb1, hb2, hrow, hfr, _⟩
    have c0 := hb1.cell
    have h1 := ownsRow_k_mono hrow (by omega : w.heap.size ≤ w.heap.size + 2)
    have HO2 := Lib.hid (show w3.ownsRow w.heap.size 120 2 v' (runsE L).length (flatPr (runsE L)) by rw [He.out, List.length_append, List.length_singleton]; exact h1)
    have HF2 := Lib.hid (show Fr0 none' w w3 from HF.out.trans' hfr (fun i hi h => by
     rcases h with h | h | h
     ·omega
     ·omega
     ·have := (HO1.out.lt _ h).1; omega))
    clear hb1 hb2 hrow hfr h1
    go_wp2_with fail
    go_ret
    exact ⟨_, rfl, HO2.out, HF2.out⟩
set_option maxHeartbeats 2000000 in
theorem Sorted_any {w : World} {a : Option Addr} {n cap : Nat} (L : List Ev) (h : EsIn w a L) (hl : L.length = n) (hn : n ≤ 10000) :
  Calls Tryz.prog 46 #[.slice a n cap] w fun e w' => e = .returned (.bool (decide (AscE L))) ∧ Fr0 none' w w' := by
 have HC := Lib.hid (Runs_any (cap := cap) L h hl hn)
 rw [← runs_asc L]
 obtain ⟨m, hm⟩ : ∃ m, (runsE L).length = m := ⟨_, rfl⟩
 rw [hm] at HC ⊢
 have e : decide ((m : Int) < 2) = decide (m < 2) := decide_eq_decide.2 (by omega)
 obtain ⟨b, hb⟩ : ∃ b, decide (m < 2) = b := ⟨_, rfl⟩
 rw [hb] at e ⊢
 clear h hl hm
 go_enter Tryz.func46, Tryz.ntmps46
 go_wp2_with fail
 refine HC.out.mono ?_
 rintro e w1 ⟨v, rfl, hrow, hfr⟩
 obtain ⟨va, vc, rfl⟩ : ∃ va vc, v = .slice va m vc := by
  rcases hrow.2 with ⟨rfl, h0⟩ | ⟨g, cap, cur, rfl, _⟩
  ·exact ⟨none, 0, by rw [h0]⟩
  ·exact ⟨_, cap, rfl⟩
 have HF := Lib.hid hfr
 clear hrow hfr
 go_wp2_with fail
 go_ret
 exact ⟨rfl, HF.out⟩
theorem EsIn.nil_len {w : World} {L : List Ev} (h : EsIn w none L) : L = [] := by
 cases L with
 | nil => rfl
 | cons x r => obtain ⟨g, o, e, _⟩ := h 0 x rfl; cases e
theorem Same_any (a a' : Option Addr) (n n' cap cap' : Nat) (xs ys : List Ev) (w : World) (hn : xs.length = n) (hn' : ys.length = n') (hm : n ≤ 1000000) (hm' : n' ≤ 1000000)
  (hc : EsIn w a xs) (hc' : EsIn w a' ys) :
  Calls Tryz.prog 19 #[.slice a n cap, .slice a' n' cap'] w fun e w' => e = .returned (.bool (decide (xs = ys))) ∧ Fr0 none' w w' := by
 have HC := Lib.hid (sameEs_any a a' n n' cap cap' xs ys w hn hn' hm hm' hc hc')
 obtain ⟨b, hb⟩ : ∃ b, decide (xs = ys) = b := ⟨_, rfl⟩
 rw [hb] at HC ⊢
 clear hc hc' hb
 go_enter Tryz.func19, Tryz.ntmps19
 go_wp2_with fail
 refine HC.out.mono ?_
 rintro e w1 ⟨rfl, hf⟩
 go_wp2_with fail
 go_ret
 exact ⟨rfl, hf⟩
/-
  The queue in plain words: what Put and PutAll tell.
-/

/-- Whether the event with an index has a name that is there. -/
def dupB (E l : List Ev) (i : Nat) : Bool := match l[i]? with
 | some x => (E ++ l.take i).any (fun y => y.name == x.name)
 | none => false
/-- The first index of an event with a name that is there; -1 if there is none. -/
def dupI (E l : List Ev) : Int := match (List.range l.length).find? (dupB E l) with
 | some i => i
 | none => -1
theorem dupI_at {E l : List Ev} {k : Nat} (hk : k < l.length) (h : ∀ i, i < k → dupB E l i = false) (hd : dupB E l k = true) : dupI E l = k := by
 unfold dupI
 have : (List.range l.length).find? (dupB E l) = some k := by
  rw [List.find?_range_eq_some]
  exact ⟨hd, List.mem_range.2 hk, fun j hj => by simp [h j hj]⟩
 rw [this]
theorem dupI_none {E l : List Ev} (h : ∀ i, i < l.length → dupB E l i = false) : dupI E l = -1 := by
 unfold dupI
 have : (List.range l.length).find? (dupB E l) = none := by
  rw [List.find?_eq_none]
  intro i hi
  rw [h i (List.mem_range.1 hi)]
  simp
 rw [this]
/-- What check tells. -/
def chkE (E l : List Ev) : Int × Int := if 0 ≤ idxI (fun x => !decide (RightE x)) l then (idxI (fun x => !decide (RightE x)) l, 100) else if 0 ≤ dupI E l then (dupI E l, 101) else (-1, 0)
theorem idxI_cases (f : Ev → Bool) (L : List Ev) : (idxI f L = -1 ∧ ∀ x ∈ L, f x = false) ∨ ∃ k : Nat, idxI f L = k ∧ k < L.length ∧ ∃ x, L[k]? = some x ∧ f x = true ∧ ∀ y ∈ L.take k, f y = false := by
 unfold idxI
 cases h : L.findIdx? f with
 | none =>
  rw [List.findIdx?_eq_none_iff] at h
  exact .inl ⟨rfl, h⟩
 | some k =>
  rw [List.findIdx?_eq_some_iff_getElem] at h
  obtain ⟨hk, h1, h2⟩ := h
  refine .inr ⟨k, rfl, hk, L[k], List.getElem?_eq_getElem hk, h1, fun y hy => ?_⟩
  obtain ⟨j, hj, rfl⟩ := List.mem_take_iff_getElem.1 hy
  have := h2 j (by omega)
  simpa using this
theorem dupI_cases (E l : List Ev) : (dupI E l = -1 ∧ ∀ i, i < l.length → dupB E l i = false) ∨ ∃ k : Nat, dupI E l = k ∧ k < l.length ∧ dupB E l k = true ∧ ∀ i, i < k → dupB E l i = false := by
 unfold dupI
 cases h : (List.range l.length).find? (dupB E l) with
 | none =>
  rw [List.find?_eq_none] at h
  exact .inl ⟨rfl, fun i hi => by simpa using h i (List.mem_range.2 hi)⟩
 | some k =>
  rw [List.find?_range_eq_some] at h
  exact .inr ⟨k, rfl, List.mem_range.1 h.2.1, h.1, fun i hi => by simpa using h.2.2 i hi⟩
/-- Where nothing is there twice, all names are different. -/
theorem dup_once {E l : List Ev} (hE : OnceE E) (h : ∀ i, i < l.length → dupB E l i = false) : OnceE (l ++ E) := by
 have key : ∀ k, k ≤ l.length → OnceE (l.take k ++ E) := by
  intro k
  induction k with
  | zero => intro _; simpa using hE
  | succ k ih =>
   intro hk
   have h1 := ih (by omega)
   obtain ⟨x, hx⟩ : ∃ x, l[k]? = some x := ⟨_, List.getElem?_eq_getElem (by omega)⟩
   have h2 := h k (by omega)
   unfold dupB at h2
   rw [hx] at h2
   simp only [List.any_append, Bool.or_eq_false_iff, List.any_eq_false, beq_iff_eq] at h2
   rw [List.take_add_one, hx]
   refine OnceE.perm (E := x :: (l.take k ++ E)) (once_cons.2 ⟨fun y hy => ?_, h1⟩) ?_
   ·rcases List.mem_append.1 hy with hy | hy
    ·exact h2.2 y hy
    ·exact h2.1 y hy
   ·simp only [Option.toList_some, List.append_assoc, List.singleton_append]
    exact List.perm_middle.symm
 have := key l.length (Nat.le_refl _)
 rwa [List.take_length] at this
/-- What PutAll tells; what it makes. -/
def allV (n : Nat) (E l : List Ev) : Int × Int := if (chkE E l).2 ≠ 0 then chkE E l else if n - E.length < l.length then (-1, 4) else (-1, 0)
def allE (n : Nat) (E l : List Ev) : List Ev := if (allV n E l).2 = 0 then putsE l E else E
theorem chkE_ok {E l : List Ev} (h : (chkE E l).2 = 0) : (∀ x ∈ l, RightE x) ∧ (∀ i, i < l.length → dupB E l i = false) ∧ chkE E l = (-1, 0) := by
 unfold chkE at h ⊢
 rcases idxI_cases (fun x => !decide (RightE x)) l with ⟨hi, hall⟩ | ⟨k, hi, _⟩
 ·rw [hi, if_neg (by omega)] at h ⊢
  rcases dupI_cases E l with ⟨hd, hn⟩ | ⟨k, hd, _⟩
  ·rw [hd, if_neg (by omega)]
   exact ⟨fun x hx => by simpa using hall x hx, hn, rfl⟩
  ·rw [hd, if_pos (by omega)] at h
   exact absurd h (by simp)
 ·rw [hi, if_pos (by omega)] at h
  exact absurd h (by simp)
theorem bef_cut {t : Int} {E : List Ev} {k : Nat} (h : AscE E) (h1 : ∀ y ∈ E.take k, y.key.time < t) (h2 : ∀ y, E[k]? = some y → ¬ y.key.time < t) : befE t E = E.take k ∧ aftE t E = E.drop k := by
 have hb1 : befE t (E.take k) = E.take k := List.filter_eq_self.2 (fun y hy => by simpa using h1 y hy)
 have ha1 : aftE t (E.take k) = [] := List.filter_eq_nil_iff.2 (fun y hy => by simpa using h1 y hy)
 have hd : befE t (E.drop k) = [] ∧ aftE t (E.drop k) = E.drop k := by
  cases hE : E.drop k with
  | nil => exact ⟨rfl, rfl⟩
  | cons y r =>
   refine befE_stop ?_ (h2 y ?_)
   ·rw [← hE]; exact asc_sub h (List.drop_sublist _ _)
   ·have : (E.drop k)[0]? = some y := by rw [hE]; rfl
    rwa [List.getElem?_drop, Nat.add_zero] at this
 have e1 : befE t E = befE t (E.take k) ++ befE t (E.drop k) := by
  unfold befE
  rw [← List.filter_append, List.take_append_drop]
 have e2 : aftE t E = aftE t (E.take k) ++ aftE t (E.drop k) := by
  unfold aftE
  rw [← List.filter_append, List.take_append_drop]
 rw [e1, e2, hb1, ha1, hd.1, hd.2, List.append_nil, List.nil_append]
 exact ⟨rfl, rfl⟩
theorem dup_of_once {E l : List Ev} (h : OnceE (l ++ E)) (i : Nat) : dupB E l i = false := by
 unfold dupB
 split
 ·next x hx =>
  obtain ⟨hi, he⟩ := List.getElem?_eq_some_iff.1 hx
  have hl : l = l.take i ++ x :: l.drop (i + 1) := by
   rw [← he, ← List.drop_eq_getElem_cons hi, List.take_append_drop]
  have hp : OnceE (x :: (l.take i ++ l.drop (i + 1) ++ E)) := by
   refine h.perm ?_
   conv => lhs; rw [hl]
   rw [List.append_assoc, List.append_assoc, List.cons_append]
   exact List.perm_middle
  have h1 := (once_cons.1 hp).1
  rw [List.any_eq_false]
  intro y hy
  have := h1 y (by
   rcases List.mem_append.1 hy with hy | hy
   ·exact List.mem_append_right _ hy
   ·exact List.mem_append_left _ (List.mem_append_left _ hy))
  simpa using this
 ·rfl
theorem chk_of_ok {E l : List Ev} (hr : ∀ x ∈ l, RightE x) (ho : OnceE (l ++ E)) : chkE E l = (-1, 0) := by
 unfold chkE
 have h1 : idxI (fun x => !decide (RightE x)) l = -1 := by
  rcases idxI_cases (fun x => !decide (RightE x)) l with ⟨hi, hall⟩ | ⟨k, hi, hk, x, hx, hf, _⟩
  ·exact hi
  ·have := hr x (List.mem_of_getElem? hx)
   simp [this] at hf
 have h2 : dupI E l = -1 := dupI_none (fun i _ => dup_of_once ho i)
 rw [h1, h2, if_neg (by omega), if_neg (by omega)]
theorem all_ok {n : Nat} {E l : List Ev} (hr : ∀ x ∈ l, RightE x) (ho : OnceE (l ++ E)) (hroom : E.length + l.length ≤ n) : allV n E l = (-1, 0) ∧ allE n E l = putsE l E := by
 have h : allV n E l = (-1, 0) := by
  unfold allV
  rw [chk_of_ok hr ho, if_neg (by simp), if_neg (by omega)]
 refine ⟨h, ?_⟩
 unfold allE
 rw [h, if_pos rfl]
/-- The index of the event with a name; -1 if there is none. -/
def atE (p : Int × Int) (E : List Ev) : Int := idxI (fun x => x.name == p) E
theorem at_find (p : Int × Int) (E : List Ev) : (atE p E = -1 ∧ findE p E = none) ∨ ∃ (k : Nat) (x : Ev), atE p E = k ∧ E[k]? = some x ∧ findE p E = some x ∧ x.name = p ∧ ∀ y ∈ E.take k, y.name ≠ p := by
 unfold atE
 rcases idxI_cases (fun y => y.name == p) E with ⟨h1, h2⟩ | ⟨k, h1, _, y, hy, hyn, hpre⟩
 ·exact .inl ⟨h1, findE_none.2 (fun y hy => by simpa using h2 y hy)⟩
 ·refine .inr ⟨k, y, h1, hy, ?_, by simpa using hyn, fun z hz => by simpa using hpre z hz⟩
  obtain ⟨hi, he⟩ := List.getElem?_eq_some_iff.1 hy
  have hl : E = E.take k ++ y :: E.drop (k + 1) := by rw [← he, ← List.drop_eq_getElem_cons hi, List.take_append_drop]
  unfold findE
  rw [hl, List.find?_append, List.find?_eq_none.2 (fun z hz => by have := hpre z hz; simpa using this), List.find?_cons, hyn]
  rfl
theorem one_bad {n : Nat} {E : List Ev} {x : Ev} (h : ¬ RightE x) : (allV n E [x]).2 = 100 ∧ allE n E [x] = E := by
 have hi : idxI (fun x => !decide (RightE x)) [x] = 0 := by
  unfold idxI
  simp [List.findIdx?_cons, h]
 have hc : chkE E [x] = (0, 100) := by
  unfold chkE
  rw [hi, if_pos (by omega)]
 have hv : allV n E [x] = (0, 100) := by
  unfold allV
  rw [hc, if_pos (by simp)]
 unfold allE
 rw [hv, if_neg (by simp)]
 exact ⟨rfl, rfl⟩
theorem one_ok {n : Nat} {E : List Ev} {x : Ev} (h : RightE x) : (allV n E [x]).2 = (if 0 ≤ atE x.name E then 101 else if n - E.length < 1 then 4 else 0) ∧ allE n E [x] = (if 0 ≤ atE x.name E then E else if n - E.length < 1 then E else insE x E) ∧ (¬ 0 ≤ atE x.name E → ∀ y ∈ E, y.name ≠ x.name) := by
 have hi : idxI (fun x => !decide (RightE x)) [x] = -1 := idxI_none (fun y hy => by rw [List.mem_singleton.1 hy]; simp [h])
 have hd : dupB E [x] 0 = E.any (fun y => y.name == x.name) := by
  unfold dupB
  simp
 have hat : (0 ≤ atE x.name E) ↔ E.any (fun y => y.name == x.name) = true := by
  unfold atE
  rcases idxI_cases (fun y => y.name == x.name) E with ⟨h1, h2⟩ | ⟨k, h1, _, y, hy, hyn, _⟩
  ·rw [h1]
   constructor
   ·intro h; omega
   ·intro h
    obtain ⟨y, hy, hyn⟩ := List.any_eq_true.1 h
    rw [h2 y hy] at hyn
    cases hyn
  ·rw [h1]
   refine ⟨fun _ => List.any_eq_true.2 ⟨y, List.mem_of_getElem? hy, hyn⟩, fun _ => by omega⟩
 by_cases hh : 0 ≤ atE x.name E
 ·have hdd : dupI E [x] = (0 : Nat) := dupI_at (by simp) (fun i hi => by omega) (by rw [hd]; exact hat.1 hh)
  have hc : chkE E [x] = (0, 101) := by
   unfold chkE
   rw [hi, hdd, if_neg (by omega), if_pos (by omega)]; rfl
  have hv : allV n E [x] = (0, 101) := by
   unfold allV
   rw [hc, if_pos (by simp)]
  unfold allE
  rw [hv]
  exact ⟨(if_pos hh).symm, (if_neg (by simp)).trans (if_pos hh).symm, fun h => absurd hh h⟩
 ·have hdf : dupB E [x] 0 = false := by
   rw [hd, Bool.eq_false_iff]
   exact fun h => hh (hat.2 h)
  have hdd : dupI E [x] = -1 := dupI_none (fun i hi => by
   have : i = 0 := by simpa using hi
   subst this
   exact hdf)
  have hc : chkE E [x] = (-1, 0) := by
   unfold chkE
   rw [hi, hdd, if_neg (by omega), if_neg (by omega)]
  rw [if_neg hh, if_neg hh]
  have hnn : ∀ y ∈ E, y.name ≠ x.name := fun y hy e => by
   rw [hd] at hdf
   have := List.any_eq_false.1 hdf y hy
   simp [e] at this
  by_cases hr : n - E.length < 1
  ·have hv : allV n E [x] = (-1, 4) := by
    unfold allV
    rw [hc, if_neg (by simp), if_pos (by simpa using hr)]
   unfold allE
   rw [hv]
   exact ⟨(if_pos hr).symm, (if_neg (by simp)).trans (if_pos hr).symm, fun _ => hnn⟩
  ·have hv : allV n E [x] = (-1, 0) := by
    unfold allV
    rw [hc, if_neg (by simp), if_neg (by simpa using hr)]
   unfold allE
   rw [hv]
   exact ⟨(if_neg hr).symm, (if_pos rfl).trans (if_neg hr).symm, fun _ => hnn⟩
theorem allV_bad {n : Nat} {E l : List Ev} {i : Nat} {x : Ev} (h : ∀ y ∈ l.take i, RightE y) (hx : l[i]? = some x) (hr : ¬ RightE x) : allV n E l = ((i : Int), 100) ∧ allE n E l = E := by
 have hi : idxI (fun x => !decide (RightE x)) l = i := idxI_at (fun y hy => by simp [h y hy]) hx (by simp [hr])
 have hc : chkE E l = ((i : Int), 100) := by
  unfold chkE
  rw [hi, if_pos (by omega)]
 have hv : allV n E l = ((i : Int), 100) := by
  unfold allV
  rw [hc, if_pos (by simp)]
 refine ⟨hv, ?_⟩
 unfold allE
 rw [hv, if_neg (by simp)]
theorem allV_dup {n : Nat} {E l : List Ev} {i : Nat} (h : ∀ y ∈ l, RightE y) (hi : i < l.length) (hp : ∀ j, j < i → dupB E l j = false) (hd : dupB E l i = true) : allV n E l = ((i : Int), 101) ∧ allE n E l = E := by
 have h1 : idxI (fun x => !decide (RightE x)) l = -1 := idxI_none (fun y hy => by simp [h y hy])
 have h2 := dupI_at hi hp hd
 have hc : chkE E l = ((i : Int), 101) := by
  unfold chkE
  rw [h1, h2, if_neg (by omega), if_pos (by omega)]
 have hv : allV n E l = ((i : Int), 101) := by
  unfold allV
  rw [hc, if_pos (by simp)]
 refine ⟨hv, ?_⟩
 unfold allE
 rw [hv, if_neg (by simp)]
theorem allV_full {n : Nat} {E l : List Ev} (h : ∀ y ∈ l, RightE y) (hd : ∀ j, j < l.length → dupB E l j = false) (hf : n - E.length < l.length) : allV n E l = (-1, 4) ∧ allE n E l = E := by
 have h1 : idxI (fun x => !decide (RightE x)) l = -1 := idxI_none (fun y hy => by simp [h y hy])
 have h2 := dupI_none hd
 have hc : chkE E l = (-1, 0) := by
  unfold chkE
  rw [h1, h2, if_neg (by omega), if_neg (by omega)]
 have hv : allV n E l = (-1, 4) := by
  unfold allV
  rw [hc, if_neg (by simp), if_pos hf]
 refine ⟨hv, ?_⟩
 unfold allE
 rw [hv, if_neg (by simp)]
theorem allV_ok {n : Nat} {E l : List Ev} (h : ∀ y ∈ l, RightE y) (hd : ∀ j, j < l.length → dupB E l j = false) (hf : ¬ n - E.length < l.length) : allV n E l = (-1, 0) ∧ allE n E l = putsE l E := by
 have h1 : idxI (fun x => !decide (RightE x)) l = -1 := idxI_none (fun y hy => by simp [h y hy])
 have h2 := dupI_none hd
 have hc : chkE E l = (-1, 0) := by
  unfold chkE
  rw [h1, h2, if_neg (by omega), if_neg (by omega)]
 have hv : allV n E l = (-1, 0) := by
  unfold allV
  rw [hc, if_neg (by simp), if_neg hf]
 refine ⟨hv, ?_⟩
 unfold allE
 rw [hv, if_pos rfl]
/-- One of the events is put. -/
theorem puts_step {n j : Nat} {E l : List Ev} {x : Ev} (ho : OnceE (l ++ E)) (hr : ∀ y ∈ l, RightE y) (hx : l[j]? = some x) (hroom : E.length + l.length ≤ n) : (allV n (putsE (l.take j) E) [x]).2 = 0 ∧ allE n (putsE (l.take j) E) [x] = putsE (l.take (j + 1)) E := by
 have hj := (List.getElem?_eq_some_iff.1 hx).1
 have hsn : l.take (j + 1) = l.take j ++ [x] := by rw [List.take_add_one, hx]; rfl
 have ho2 : OnceE ([x] ++ putsE (l.take j) E) := by
  have h1 : OnceE (l.take (j + 1) ++ E) := once_sub ho (List.Sublist.append (List.take_sublist _ _) (List.Sublist.refl _))
  rw [hsn] at h1
  refine h1.perm ?_
  rw [List.append_assoc]
  refine List.perm_append_comm_assoc .. |>.trans ?_
  exact List.Perm.append_left _ (putsE_perm _ _).symm
 obtain ⟨e1, e2⟩ := all_ok (n := n) (E := putsE (l.take j) E) (l := [x]) (fun y hy => by rw [List.mem_singleton.1 hy]; exact hr x (List.mem_of_getElem? hx)) ho2 (by rw [putsE_length, List.length_take, List.length_singleton]; omega)
 refine ⟨by rw [e1], ?_⟩
 rw [e2, ← putsE_append, ← hsn]
theorem at_pos (p : Int × Int) (E : List Ev) : (0 ≤ atE p E) ↔ E.any (fun y => y.name == p) = true := by
 rcases at_find p E with ⟨h1, h2⟩ | ⟨k, x, h1, hx, _, hn, _⟩
 ·rw [h1]
  rw [findE_none] at h2
  constructor
  ·intro h; omega
  ·intro h
   obtain ⟨y, hy, hyn⟩ := List.any_eq_true.1 h
   exact absurd (by simpa using hyn) (h2 y hy)
 ·rw [h1]
  exact ⟨fun _ => List.any_eq_true.2 ⟨x, List.mem_of_getElem? hx, by simpa using hn⟩, fun _ => by omega⟩
theorem dup_at {E l : List Ev} {i : Nat} {x : Ev} (hx : l[i]? = some x) : dupB E l i = (decide (0 ≤ atE x.name E) || decide (0 ≤ atE x.name (l.take i))) := by
 unfold dupB
 rw [hx]
 simp only [List.any_append]
 congr 1
 ·rw [Bool.eq_iff_iff, decide_eq_true_iff, at_pos]
 ·rw [Bool.eq_iff_iff, decide_eq_true_iff, at_pos]
theorem ev_set5 {W : World} {q : Nat} {c0 c1 c2 c3 c4 : Value} {ty : TypeId} (h : W.heap[q]? = some (.cells #[c0, c1, c2, c3, c4] ty (0, 0))) (a b c d e : Value) :
  (((((W.setCell ⟨q, 0, none⟩ a).setCell ⟨q, 1, none⟩ b).setCell ⟨q, 2, none⟩ c).setCell ⟨q, 3, none⟩ d).setCell ⟨q, 4, none⟩ e).heap[q]? = some (.cells #[a, b, c, d, e] ty (0, 0)) := by
 have h1 := heap_set_cell (o := 0) h a
 have h2 := heap_set_cell (o := 1) h1 b
 have h3 := heap_set_cell (o := 2) h2 c
 have h4 := heap_set_cell (o := 3) h3 d
 have h5 := heap_set_cell (o := 4) h4 e
 exact h5
theorem once_split {E : List Ev} (h : OnceE E) {i : Nat} {x : Ev} (hx : E[i]? = some x) : E = E.take i ++ x :: E.drop (i + 1) ∧ (∀ y ∈ E.take i, y.name ≠ x.name) ∧ (∀ y ∈ E.drop (i + 1), y.name ≠ x.name) := by
 obtain ⟨hi, he⟩ := List.getElem?_eq_some_iff.1 hx
 have hl : E = E.take i ++ x :: E.drop (i + 1) := by
  rw [← he, ← List.drop_eq_getElem_cons hi, List.take_append_drop]
 have hp : OnceE (x :: (E.take i ++ E.drop (i + 1))) := by
  refine h.perm ?_
  conv => lhs; rw [hl]
  exact List.perm_middle
 have h1 := (once_cons.1 hp).1
 exact ⟨hl, fun y hy => h1 y (List.mem_append_left _ hy), fun y hy => h1 y (List.mem_append_right _ hy)⟩
theorem del_at {E : List Ev} (h : OnceE E) {i : Nat} {x : Ev} (hx : E[i]? = some x) : delE x.name E = E.eraseIdx i := by
 obtain ⟨h1, h2, h3⟩ := once_split h hx
 rw [List.eraseIdx_eq_take_drop_succ]
 conv => lhs; rw [h1]
 unfold delE
 rw [List.filter_append, List.filter_cons_of_neg (by simp), List.filter_eq_self.2 (fun y hy => by simpa using h2 y hy), List.filter_eq_self.2 (fun y hy => by simpa using h3 y hy)]
theorem find_at {E : List Ev} (h : OnceE E) {i : Nat} {x : Ev} (hx : E[i]? = some x) : findE x.name E = some x := by
 obtain ⟨h1, h2, h3⟩ := once_split h hx
 unfold findE
 rw [h1, List.find?_append, List.find?_eq_none.2 (fun y hy => by simpa using h2 y hy)]
 simp
theorem delE_some {E : List Ev} (h : OnceE E) {i : Nat} {x : Ev} (hx : E[i]? = some x) : delE x.name E = E.take i ++ E.drop (i + 1) := by
 obtain ⟨hi, he⟩ := List.getElem?_eq_some_iff.1 hx
 have hl : E = E.take i ++ x :: E.drop (i + 1) := by
  rw [← he, ← List.drop_eq_getElem_cons hi, List.take_append_drop]
 have hp : OnceE (x :: (E.take i ++ E.drop (i + 1))) := by
  refine h.perm ?_
  conv => lhs; rw [hl]
  exact List.perm_middle
 have h1 := (once_cons.1 hp).1
 conv => lhs; rw [hl]
 unfold delE
 rw [List.filter_append, List.filter_cons_of_neg (by simp), List.filter_eq_self.2 (fun y hy => by simpa using h1 y (List.mem_append_left _ hy)), List.filter_eq_self.2 (fun y hy => by simpa using h1 y (List.mem_append_right _ hy))]
theorem QRight_is (x : Ev) (w : World) : Calls Tryz.prog 47 #[evV x] w fun e w' => e = .returned (.bool (decide (RightE x))) ∧ Fr0 none' w w' := by
 have HR := Lib.hid (Right_any x.key)
 obtain ⟨b, hbe⟩ : ∃ b, decide (RightE x) = b := ⟨_, rfl⟩
 rw [hbe]
 have HB := Lib.hid hbe
 clear hbe
 unfold evV
 go_enter Tryz.func47, Tryz.ntmps47
 go_wp2_with fail
 obtain ⟨q, hq⟩ : ∃ q, w.heap.size = q := ⟨_, rfl⟩
 obtain ⟨W1, hW1⟩ : ∃ W, w.alloc (.cells #[.int .i64 x.key.time, .int .i64 x.key.source, .int .i64 x.key.seq, .int .i64 x.to, .int .i64 x.value] 30) = W := ⟨_, rfl⟩
 have hb : W1.heap[q]? = some (.cells #[.int .i64 x.key.time, .int .i64 x.key.source, .int .i64 x.key.seq, .int .i64 x.to, .int .i64 x.value] 30 (0, 0)) := by rw [← hW1, ← hq]; exact World.alloc_heap_new w _
 have F1 := Lib.hid (show Fr0 none' w W1 by rw [← hW1]; exact (Fr0.refl _ _).alloc _)
 rw [hW1]
 try rw [hq]
 clear hW1 hq
 refine (HR.out _).mono ?_
 rintro e w2 ⟨rfl, hf⟩
 have hb2 := (hf.block q (Array.getElem?_eq_some_iff.1 hb).1 id).trans hb
 have y3 := cells_in hb2 3
 simp at y3
 have F2 := Lib.hid (F1.out.trans hf)
 clear hf hb hb2
 by_cases h1 : RightK x.key
 ·have e1 : decide (RightK x.key) = true := decide_eq_true h1
  rw [e1]
  by_cases h2 : 1 ≤ x.to
  ·have d2 : decide (1 ≤ x.to) = true := decide_eq_true h2
   by_cases h3 : x.to ≤ 16
   ·have d3 : decide (x.to ≤ 16) = true := decide_eq_true h3
    obtain rfl : b = true := by rw [← HB.out]; exact decide_eq_true ⟨h1, h2, h3⟩
    clear h1 h2 h3 e1
    go_wp2_with fail
    go_ret
    exact ⟨rfl, F2.out⟩
   ·have d3 : decide (x.to ≤ 16) = false := decide_eq_false h3
    obtain rfl : b = false := by rw [← HB.out]; exact decide_eq_false (fun h => h3 h.2.2)
    clear h1 h2 h3 e1
    go_wp2_with fail
    go_ret
    exact ⟨rfl, F2.out⟩
  ·have d2 : decide (1 ≤ x.to) = false := decide_eq_false h2
   obtain rfl : b = false := by rw [← HB.out]; exact decide_eq_false (fun h => h2 h.2.1)
   clear h1 h2 e1
   go_wp2_with fail
   go_ret
   exact ⟨rfl, F2.out⟩
 ·have e1 : decide (RightK x.key) = false := decide_eq_false h1
  rw [e1]
  obtain rfl : b = false := by rw [← HB.out]; exact decide_eq_false (fun h => h1 h.1)
  clear h1 e1
  go_wp2_with fail
  go_ret
  exact ⟨rfl, F2.out⟩
/-- Where a slice's rest starts. -/
def dR (cap n : Nat) (a : Option Addr) : Option Addr := if cap = n then a else a.map (fun x => x.add (n * 5))
theorem EsIn.restR {W : World} {a : Option Addr} {S : List Ev} (h : EsIn W a S) {cap : Nat} (hc : S.length ≤ cap) (n : Nat) : EsIn W (dR cap n a) (S.drop n) := by
 unfold dR
 split
 ·next e =>
  rw [List.drop_of_length_le (by omega)]
  exact esIn_nil W a
 ·cases a with
  | none =>
   intro i x hx
   rw [List.getElem?_drop] at hx
   obtain ⟨g, o, e, _⟩ := h _ x hx
   cases e
  | some A =>
   intro i x hx
   have hx' := hx
   rw [List.getElem?_drop] at hx'
   obtain ⟨g, o, e, _⟩ := h _ x hx'
   injection e with e
   subst e
   have h1 := h.drop n i x hx
   rw [Option.map_some, Addr.add_mid]
   exact h1
/-
  calendar: find; merge: Cut.
-/

theorem findOne_any {w : World} {sb qb : Nat} {s q : Int} (x : Ev) (hs : Box w sb (.int .i64 s)) (hq : Box w qb (.int .i64 q)) :
  Calls Tryz.prog 73 #[evV x, .pointer (some ⟨sb, 0, none⟩), .pointer (some ⟨qb, 0, none⟩)] w fun e w' => e = .returned (.bool (x.name == (s, q))) ∧ Fr0 none' w w' := by
 have e0 : (x.name == (s, q)) = (x.key.source == s && x.key.seq == q) := rfl
 rw [e0]
 obtain ⟨W, hW⟩ : ∃ W, w.alloc (.cells #[.int .i64 x.key.time, .int .i64 x.key.source, .int .i64 x.key.seq, .int .i64 x.to, .int .i64 x.value] 30) = W := ⟨_, rfl⟩
 have hf : Fr0 none' w W := by rw [← hW]; exact (Fr0.refl _ _).alloc _
 have c1 := (hs.fr0 hf id).cell
 have c2 := (hq.fr0 hf id).cell
 have HF := Lib.hid hf
 clear hs hq e0 hf
 unfold evV
 subst hW
 cases h1 : x.key.source == s
 ·go_enter Tryz.func73, Tryz.ntmps73
  go_wp2_with fail
  go_ret
  exact ⟨rfl, HF.out⟩
 ·go_enter Tryz.func73, Tryz.ntmps73
  go_wp2_with fail
  go_ret
  exact ⟨rfl, HF.out⟩
theorem findC_any {w : World} {a : Option Addr} {n cap : Nat} (L : List Ev) (h : EsIn w a L) (hl : L.length = n) (hn : n ≤ 10000) (p : Int × Int) :
  Calls Tryz.prog 48 #[.slice a n cap, .int .i64 p.1, .int .i64 p.2] w fun e w' => e = .returned (.int .i64 (idxI (fun x => x.name == p) L)) ∧ Fr0 none' w w' := by
 obtain ⟨s, q⟩ := p
 simp only
 obtain ⟨W1, hW1⟩ : ∃ W, (w.alloc (.cells #[.int .i64 s] 3)).alloc (.cells #[.int .i64 q] 3) = W := ⟨_, rfl⟩
 have hf : Fr0 none' w W1 := by rw [← hW1]; exact ((Fr0.refl _ _).alloc _).alloc _
 have hb0 : Box (w.alloc (.cells #[.int .i64 s] 3)) w.heap.size (.int .i64 s) := Box.new w _ _
 have hb1 : Box W1 w.heap.size (.int .i64 s) := by rw [← hW1]; exact hb0.fr0 ((Fr0.refl none' _).alloc _) id
 have hb2 := Box.new (w.alloc (.cells #[.int .i64 s] 3)) (.int .i64 q) 3
 rw [World.size_alloc, hW1] at hb2
 have HC := Lib.hid (IndexE (cap := cap) L (h.later hf) hl (by omega) 73 #[.pointer (some ⟨w.heap.size, 0, none⟩), .pointer (some ⟨w.heap.size + 1, 0, none⟩)] (fun x => x.name == (s, q)) (fun _ _ => rfl)
  (fun x W hfW => findOne_any x (hb1.fr0 hfW id) (hb2.fr0 hfW id)))
 have HF := Lib.hid hf
 obtain ⟨R, hR⟩ : ∃ R, idxI (fun x => x.name == (s, q)) L = R := ⟨_, rfl⟩
 rw [hR] at HC ⊢
 clear h hl hf hb0 hb1 hb2 hR
 go_enter Tryz.func48, Tryz.ntmps48
 subst hW1
 go_wp2_with fail
 refine HC.out.mono ?_
 rintro e w2 ⟨rfl, hf2⟩
 have HF2 := Lib.hid (HF.out.trans hf2)
 clear hf2
 go_wp2_with fail
 go_ret
 exact ⟨rfl, HF2.out⟩
theorem cutOne_any {w : World} {tb : Nat} {t : Int} (x : Ev) (ht : Box w tb (.int .i64 t)) :
  Calls Tryz.prog 190 #[evV x, .pointer (some ⟨tb, 0, none⟩)] w fun e w' => e = .returned (.bool (!decide (x.key.time < t))) ∧ Fr0 none' w w' := by
 obtain ⟨W, hW⟩ : ∃ W, w.alloc (.cells #[.int .i64 x.key.time, .int .i64 x.key.source, .int .i64 x.key.seq, .int .i64 x.to, .int .i64 x.value] 30) = W := ⟨_, rfl⟩
 have hf : Fr0 none' w W := by rw [← hW]; exact (Fr0.refl _ _).alloc _
 have c1 := (ht.fr0 hf id).cell
 have HF := Lib.hid hf
 clear ht hf
 have e1 : decide (x.key.time ≥ t) = !decide (x.key.time < t) := by
  rw [← decide_not]
  exact decide_eq_decide.2 (by omega)
 have e2 : decide (t ≤ x.key.time) = !decide (x.key.time < t) := e1
 obtain ⟨b, hb⟩ : ∃ b, (!decide (x.key.time < t)) = b := ⟨_, rfl⟩
 rw [hb] at e1 e2 ⊢
 clear hb
 unfold evV
 subst hW
 go_enter Tryz.func190, Tryz.ntmps190
 go_wp2_with fail
 go_ret
 exact ⟨rfl, HF.out⟩
/-- Where a list in order is cut. -/
theorem cut_at {t : Int} {E : List Ev} (h : AscE E) {k : Nat} (hk : (if idxI (fun x => !decide (x.key.time < t)) E < 0 then (E.length : Int) else idxI (fun x => !decide (x.key.time < t)) E) = k) : befE t E = E.take k ∧ aftE t E = E.drop k ∧ k ≤ E.length := by
 rcases idxI_cases (fun x : Ev => !decide (x.key.time < t)) E with ⟨h1, h2⟩ | ⟨j, h1, hj, x, hx, hfx, hp⟩
 ·rw [h1, if_pos (by omega)] at hk
  have hk : E.length = k := by omega
  subst hk
  obtain ⟨e1, e2⟩ := bef_cut (t := t) h (k := E.length) (fun y hy => by
   rw [List.take_length] at hy
   have := h2 y hy
   simpa using this) (fun y hy => by simp at hy)
  exact ⟨e1, e2, Nat.le_refl _⟩
 ·rw [h1, if_neg (by omega)] at hk
  have hk : j = k := by omega
  subst hk
  obtain ⟨e1, e2⟩ := bef_cut (t := t) h (k := j) (fun y hy => by simpa using hp y hy) (fun y hy => by rw [hx] at hy; cases hy; simpa using hfx)
  exact ⟨e1, e2, by omega⟩
/-
  slices.BinarySearchFunc at events.
-/

theorem putCmp_any (x y : Ev) (w : World) : Calls Tryz.prog 184 #[evV x, evV y] w fun e w' => e = .returned (.int .i64 (cmpK x.key y.key)) ∧ Fr0 none' w w' := by
 have HC := Lib.hid (Compare_any x.key y.key)
 obtain ⟨c, hc⟩ : ∃ c, cmpK x.key y.key = c := ⟨_, rfl⟩
 obtain ⟨f, hf⟩ : ∃ c, fieldK x.key y.key = c := ⟨_, rfl⟩
 rw [hc, hf] at HC
 rw [hc]
 clear hc hf
 unfold evV
 unfold keyV at HC
 go_enter Tryz.func184, Tryz.ntmps184
 go_wp2_with fail
 refine (HC.out _).mono ?_
 rintro e w' ⟨rfl, hf⟩
 go_wp2
 go_ret
 exact ⟨rfl, (((Fr0.refl _ _).alloc _).alloc _).trans hf.to0⟩
theorem asc_step {E : List Ev} (h : AscE E) {i j : Nat} {a b : Ev} (hij : i < j) (ha : E[i]? = some a) (hb : E[j]? = some b) : cmpK a.key b.key < 0 := by
 obtain ⟨h1, e1⟩ := List.getElem?_eq_some_iff.1 ha
 obtain ⟨h2, e2⟩ := List.getElem?_eq_some_iff.1 hb
 rw [← e1, ← e2]
 exact List.pairwise_iff_getElem.1 h i j h1 h2 hij
theorem cntE_at {E : List Ev} {x : Ev} {i : Nat} (hi : i ≤ E.length) (h1 : ∀ t y, t < i → E[t]? = some y → cmpK y.key x.key < 0) (h2 : ∀ t y, i ≤ t → E[t]? = some y → 0 ≤ cmpK y.key x.key) : cntE x E = i := by
 have hle := cntE_le x E
 rcases Nat.lt_trichotomy (cntE x E) i with h | h | h
 ·obtain ⟨y, hy⟩ : ∃ y, E[cntE x E]? = some y := ⟨_, List.getElem?_eq_getElem (by omega)⟩
  have h3 := (cntE_lt x E (cntE x E) y (Nat.le_refl _) hy).1 (h1 _ y h hy)
  omega
 ·exact h
 ·obtain ⟨y, hy⟩ : ∃ y, E[i]? = some y := ⟨_, List.getElem?_eq_getElem (by omega)⟩
  have h3 := (cntE_lt x E i y (Nat.le_of_lt h) hy).2 h
  have := h2 i y (Nat.le_refl _) hy
  omega
set_option maxHeartbeats 4000000 in
theorem bsearchE {w : World} {a : Option Addr} {n cap : Nat} (L : List Ev) (k : Ev) (hP : EsIn w a L) (hl : L.length = n) (hn : n ≤ 100000) (hI : AscE L) :
  Calls Tryz.prog 183 #[.slice a n cap, evV k, .func (.func 184) #[] #[]] w fun e w' => (∃ b, e = .returned (.tuple #[.int .i64 (cntE k L), .bool b])) ∧ Fr0 none' w w' := by
 have HC := Lib.hid (fun x W => putCmp_any x k W)
 have HP := Lib.hid hP
 have Hl := Lib.hid hl
 have HI := Lib.hid hI
 obtain ⟨C, hC⟩ : ∃ C, cntE k L = C := ⟨_, rfl⟩
 rw [hC]
 have HCC := Lib.hid hC
 clear hP hl hI hC
 simp only [evV] at HC ⊢
 go_enter Tryz.func183, Tryz.ntmps183
 go_wp2
 obtain ⟨B, hB⟩ : ∃ B, w.heap.size = B := ⟨_, rfl⟩
 obtain ⟨W0, hW0⟩ : ∃ W0, w.alloc (.cells #[.int .i64 k.key.time, .int .i64 k.key.source, .int .i64 k.key.seq, .int .i64 k.to, .int .i64 k.value] 30) = W0 := ⟨_, rfl⟩
 have K0 := Lib.hid (show W0.heap[B]? = some (.cells (cev k).toArray 30 (0, 0)) by rw [← hW0, ← hB]; exact World.alloc_heap_new w _)
 have F0 := Lib.hid (show Fr0 none' w W0 by rw [← hW0]; exact (Fr0.refl _ _).alloc _)
 rw [hW0, hB]
 clear hW0 hB
 go_loopw [9, 10] (fun a b wr => ∃ (i j : Nat), a = .int .i64 i ∧ b = .int .i64 j ∧ i ≤ j ∧ j ≤ n ∧ Hid ((∀ t y, t < i → L[t]? = some y → cmpK y.key k.key < 0) ∧ ∀ t y, j ≤ t → L[t]? = some y → 0 ≤ cmpK y.key k.key) ∧ Hid (Fr0 none' W0 wr)) (fun a b _ => (Go.RowKit.intOf b - Go.RowKit.intOf a).toNat)
 case atStart => exact ⟨0, n, rfl, rfl, Nat.zero_le _, Nat.le_refl _, ⟨fun t y ht _ => absurd ht (Nat.not_lt_zero _), fun t y h1 h2 => by have := (List.getElem?_eq_some_iff.1 h2).1; have := Hl.out; omega⟩, Fr0.refl _ _⟩
 case round =>
  obtain ⟨i, j, rfl, rfl, hij, hjn, hinv, hf⟩ := hrel
  by_cases hlt : i < j
  ·obtain ⟨h, hh⟩ : ∃ h, (i + j) / 2 = h := ⟨_, rfl⟩
   have hhb : i ≤ h ∧ h < j := by omega
   obtain ⟨x, hxx⟩ : ∃ x, L[h]? = some x := ⟨_, List.getElem?_eq_getElem (by rw [Hl.out]; omega)⟩
   obtain ⟨g, o, rfl, hx⟩ := HP.out h x hxx
   have Hxx := Lib.hid hxx
   have x0 := hx.later (F0.out.trans hf.out)
   have hk := (hf.out.block B (Array.getElem?_eq_some_iff.1 K0.out).1 id).trans K0.out
   have d0 : decide ((i : Int) < (j : Int)) = true := decide_eq_true (by omega)
   have e1 : IntKind.i64.wrap ((i : Int) + (j : Int)) = ((i + j : Nat) : Int) := by rw [IntWalk.i64_in _ (by omega)]; push_cast; rfl
   have e2 : IntKind.u64.wrap ((i + j : Nat) : Int) = ((i + j : Nat) : Int) := by rw [IntKind.wrap_u64]; omega
   have e3 : ((i + j : Nat) : Int) / 2 = (h : Int) := by omega
   have e4 : IntKind.i64.wrap (h : Int) = (h : Int) := IntWalk.i64_in _ (by omega)
   have e5 : IntKind.i64.wrap ((h : Int) + 1) = (h : Int) + 1 := IntWalk.i64_in _ (by omega)
   have b1 : (0 : Int) ≤ (h : Int) := by omega
   have b2 : (h : Int) < (n : Int) := by omega
   obtain ⟨s, hs⟩ : ∃ s, i + j = s := ⟨_, rfl⟩
   rw [hs] at e1 e2 e3
   have Hh := Lib.hid hhb
   have Hlt := Lib.hid hlt
   have X0 := Lib.hid x0
   have HK := Lib.hid hk
   clear hxx hx hh hhb hs hk hlt x0
   go_wp2
   refine wp_region_held_drew (S := fun W' => EAt W' g (o + h * 5) x ∧ W'.heap[B]? = some (.cells (cev k).toArray 30 (0, 0)) ∧ Fr0 none' W0 W') (by kernel_rfl) ⟨X0.out, HK.out, hf.out.drew⟩ (fun hHeld => ?_)
   clear X0 HK hf
   refine tk1 (i := 0) (v := .func (.func 184) #[] #[]) ?_
   try simp only[pUt,pUn,sEt,sEz,sEs]
   refine tk1 (i := 1) (v := .slice (some ⟨g, o, none⟩) n cap) ?_
   try simp only[pUt,pUn,sEt,sEz,sEs]
   refine tk1 (i := 2) (v := .int .i64 h) ?_
   try simp only[pUt,pUn,sEt,sEz,sEs]
   refine tk1 (i := 3) (v := .pointer (some ⟨g, o + h * 5, none⟩)) ?_
   try simp only[pUt,pUn,sEt,sEz,sEs]
   refine tkn (i := 4) (v := .agg #[.int .i64 x.key.time, .int .i64 x.key.source, .int .i64 x.key.seq, .int .i64 x.to, .int .i64 x.value]) (fun W' hSW => ?_) ?_
   ·obtain ⟨⟨x0, x1, x2, x3, x4⟩, hk, _⟩ := hSW
    have k0 := cells_in hk 0
    have k1 := cells_in hk 1
    have k2 := cells_in hk 2
    have k3 := cells_in hk 3
    have k4 := cells_in hk 4
    simp [cev] at k0 k1 k2 k3 k4
    clear hk
    first|go_simp;done|exact rfl|go_simp;rfl|go_simp;omega
   try simp only[pUt,pUn,sEt,sEz,sEs]
   refine tkn (i := 5) (v := .agg #[.int .i64 k.key.time, .int .i64 k.key.source, .int .i64 k.key.seq, .int .i64 k.to, .int .i64 k.value]) (fun W' hSW => ?_) ?_
   ·obtain ⟨⟨x0, x1, x2, x3, x4⟩, hk, _⟩ := hSW
    have k0 := cells_in hk 0
    have k1 := cells_in hk 1
    have k2 := cells_in hk 2
    have k3 := cells_in hk 3
    have k4 := cells_in hk 4
    simp [cev] at k0 k1 k2 k3 k4
    clear hk
    first|go_simp;done|exact rfl|go_simp;rfl|go_simp;omega
   try simp only[pUt,pUn,sEt,sEz,sEs]
   refine take_call (i := 6) rfl (by kernel_rfl) (by kernel_rfl) (fun K hK => ?_)
   go_simp
   refine (HC.out _ _).mono ?_
   rintro e w1 ⟨rfl, hf1⟩
   obtain ⟨c, hc⟩ : ∃ c, cmpK x.key k.key = c := ⟨_, rfl⟩
   rw [hc]
   have Hc := Lib.hid hc
   have hS := (show EAt w1 g (o + h * 5) x ∧ w1.heap[B]? = some (.cells (cev k).toArray 30 (0, 0)) ∧ Fr0 none' W0 w1 from ⟨hHeld.1.later hf1, (hf1.block B (Array.getElem?_eq_some_iff.1 hHeld.2.1).1 id).trans hHeld.2.1, hHeld.2.2.trans hf1⟩)
   have HS := Lib.hid hS
   clear hHeld hf1 hc hS
   go_wp2_with fail
   refine hK.out _ _ HS.out (fun hHeld => ?_)
   clear hK K
   try simp only[pUt,pUn,sEt,sEz,sEs]
   by_cases hc0 : c < 0
   ·have d1 : decide (c < 0) = true := decide_eq_true hc0
    refine tk1 (i := 7) (v := .bool true) ?_
    try simp only[pUt,pUn,sEt,sEz,sEs]
    refine wpAnyH_done (by kernel_rfl) ?_ _
    clear d1
    have Hc0 := Lib.hid hc0
    clear hHeld hc0
    go_wp2
    have hh := Hh.out
    refine ⟨⟨h + 1, j, by simp, rfl, by omega, by omega, ⟨fun t y ht hy => ?_, hinv.out.2⟩, HS.out.2.2⟩, by simp [Go.RowKit.intOf]; omega⟩
    by_cases e : t = h
    ·subst e
     rw [Hxx.out] at hy
     cases hy
     rw [Hc.out]; exact Hc0.out
    ·have h1 := asc_step HI.out (i := t) (j := h) (by omega) hy Hxx.out
     have h2 : cmpK x.key k.key < 0 := by rw [Hc.out]; exact Hc0.out
     exact cmpK_trans _ _ _ h1 h2
   ·have d1 : decide (c < 0) = false := decide_eq_false hc0
    refine tk1 (i := 7) (v := .bool false) ?_
    try simp only[pUt,pUn,sEt,sEz,sEs]
    refine wpAnyH_done (by kernel_rfl) ?_ _
    clear d1
    have Hc0 := Lib.hid hc0
    clear hHeld hc0
    go_wp2
    have hh := Hh.out
    have hc0 := Hc0.out
    refine ⟨⟨i, h, rfl, rfl, by omega, by omega, ⟨hinv.out.1, fun t y ht1 hy => ?_⟩, HS.out.2.2⟩, by simp [Go.RowKit.intOf]; omega⟩
    have h2 : ¬ cmpK x.key k.key < 0 := by rw [Hc.out]; omega
    by_cases e : t = h
    ·subst e
     rw [Hxx.out] at hy
     cases hy
     omega
    ·have h1 := asc_step HI.out (i := h) (j := t) (by omega) Hxx.out hy
     have h4 : cmpK y.key k.key < 0 → False := fun h5 => by
      have := cmpK_trans _ _ _ h1 h5; omega
     exact Int.not_lt.1 (fun h5 => h4 h5)
  ·obtain rfl : i = j := by omega
   have d0 : decide ((i : Int) < (i : Int)) = false := decide_eq_false (by omega)
   have hC : C = i := by rw [← HCC.out]; exact cntE_at (by rw [Hl.out]; omega) hinv.out.1 hinv.out.2
   subst hC
   by_cases hin : C < n
   ·have d1 : decide ((C : Int) < (n : Int)) = true := decide_eq_true (by omega)
    obtain ⟨x, hxx⟩ : ∃ x, L[C]? = some x := ⟨_, List.getElem?_eq_getElem (by rw [Hl.out]; omega)⟩
    obtain ⟨g, o, rfl, hx⟩ := HP.out C x hxx
    have x0 := hx.later (F0.out.trans hf.out)
    have hk := (hf.out.block B (Array.getElem?_eq_some_iff.1 K0.out).1 id).trans K0.out
    have b1 : (0 : Int) ≤ (C : Int) := by omega
    have b2 : (C : Int) < (n : Int) := by omega
    have Hin := Lib.hid hin
    have X0 := Lib.hid x0
    have HK := Lib.hid hk
    clear hxx hx hk hin x0
    go_wp2
    refine wp_region_held_drew (S := fun W' => EAt W' g (o + C * 5) x ∧ W'.heap[B]? = some (.cells (cev k).toArray 30 (0, 0)) ∧ Fr0 none' W0 W') (by kernel_rfl) ⟨X0.out, HK.out, hf.out.drew⟩ (fun hHeld => ?_)
    clear X0 HK hf
    refine tk1 (i := 0) (v := .int .i64 C) ?_
    try simp only[pUt,pUn,sEt,sEz,sEs]
    refine tk1 (i := 1) (v := .int .i64 C) ?_
    try simp only[pUt,pUn,sEt,sEz,sEs]
    refine tk1 (i := 2) (v := .int .i64 n) ?_
    try simp only[pUt,pUn,sEt,sEz,sEs]
    refine tk1 (i := 3) (v := .bool true) ?_
    try simp only[pUt,pUn,sEt,sEz,sEs]
    refine tk1 (i := 4) (v := .bool true) ?_
    try simp only[pUt,pUn,sEt,sEz,sEs]
    refine tk1 (i := 5) (v := .func (.func 184) #[] #[]) ?_
    try simp only[pUt,pUn,sEt,sEz,sEs]
    refine tk1 (i := 6) (v := .slice (some ⟨g, o, none⟩) n cap) ?_
    try simp only[pUt,pUn,sEt,sEz,sEs]
    refine tk1 (i := 7) (v := .int .i64 C) ?_
    try simp only[pUt,pUn,sEt,sEz,sEs]
    refine tk1 (i := 8) (v := .pointer (some ⟨g, o + C * 5, none⟩)) ?_
    try simp only[pUt,pUn,sEt,sEz,sEs]
    refine tkn (i := 9) (v := .agg #[.int .i64 x.key.time, .int .i64 x.key.source, .int .i64 x.key.seq, .int .i64 x.to, .int .i64 x.value]) (fun W' hSW => ?_) ?_
    ·obtain ⟨⟨x0, x1, x2, x3, x4⟩, hk, _⟩ := hSW
     have k0 := cells_in hk 0
     have k1 := cells_in hk 1
     have k2 := cells_in hk 2
     have k3 := cells_in hk 3
     have k4 := cells_in hk 4
     simp [cev] at k0 k1 k2 k3 k4
     clear hk
     first|go_simp;done|exact rfl|go_simp;rfl|go_simp;omega
    try simp only[pUt,pUn,sEt,sEz,sEs]
    refine tkn (i := 10) (v := .agg #[.int .i64 k.key.time, .int .i64 k.key.source, .int .i64 k.key.seq, .int .i64 k.to, .int .i64 k.value]) (fun W' hSW => ?_) ?_
    ·obtain ⟨⟨x0, x1, x2, x3, x4⟩, hk, _⟩ := hSW
     have k0 := cells_in hk 0
     have k1 := cells_in hk 1
     have k2 := cells_in hk 2
     have k3 := cells_in hk 3
     have k4 := cells_in hk 4
     simp [cev] at k0 k1 k2 k3 k4
     clear hk
     first|go_simp;done|exact rfl|go_simp;rfl|go_simp;omega
    try simp only[pUt,pUn,sEt,sEz,sEs]
    refine take_call (i := 11) rfl (by kernel_rfl) (by kernel_rfl) (fun K hK => ?_)
    go_simp
    refine (HC.out _ _).mono ?_
    rintro e w1 ⟨rfl, hf1⟩
    obtain ⟨c, hc⟩ : ∃ c, cmpK x.key k.key = c := ⟨_, rfl⟩
    rw [hc]
    have Hc := Lib.hid hc
    have hS := (show EAt w1 g (o + C * 5) x ∧ w1.heap[B]? = some (.cells (cev k).toArray 30 (0, 0)) ∧ Fr0 none' W0 w1 from ⟨hHeld.1.later hf1, (hf1.block B (Array.getElem?_eq_some_iff.1 hHeld.2.1).1 id).trans hHeld.2.1, hHeld.2.2.trans hf1⟩)
    have HS := Lib.hid hS
    clear hHeld hf1 hc hS
    go_wp2_with fail
    refine hK.out _ _ HS.out (fun hHeld => ?_)
    clear hK K
    try simp only[pUt,pUn,sEt,sEz,sEs]
    obtain ⟨R, hR⟩ : ∃ R, (c == 0) = R := ⟨_, rfl⟩
    refine tk1 (i := 12) (v := .bool R) ?_
    try simp only[pUt,pUn,sEt,sEz,sEs]
    clear hR
    refine tk1 (i := 13) (v := .bool R) ?_
    try simp only[pUt,pUn,sEt,sEz,sEs]
    refine tk1 (i := 14) (v := .int .i64 C) ?_
    try simp only[pUt,pUn,sEt,sEz,sEs]
    refine tk1 (i := 15) (v := .bool R) ?_
    try simp only[pUt,pUn,sEt,sEz,sEs]
    refine wpAnyH_done (by kernel_rfl) ?_ _
    clear hHeld d1
    go_wp2
    go_ret2
    exact ⟨⟨R, rfl⟩, F0.out.trans HS.out.2.2⟩
   ·have d1 : decide ((C : Int) < (n : Int)) = false := decide_eq_false (by omega)
    go_wp2
    refine wp_region_held_drew (S := fun W' => Fr0 none' W0 W') (by kernel_rfl) hf.out.drew (fun hHeld => ?_)
    clear hf
    refine tk1 (i := 0) (v := .int .i64 C) ?_
    try simp only[pUt,pUn,sEt,sEz,sEs]
    refine tk1 (i := 1) (v := .int .i64 C) ?_
    try simp only[pUt,pUn,sEt,sEz,sEs]
    refine tk1 (i := 2) (v := .int .i64 n) ?_
    try simp only[pUt,pUn,sEt,sEz,sEs]
    refine tk1 (i := 3) (v := .bool false) ?_
    try simp only[pUt,pUn,sEt,sEz,sEs]
    refine tk1 (i := 4) (v := .bool false) ?_
    try simp only[pUt,pUn,sEt,sEz,sEs]
    refine tkf (i := 5) ?_
    try simp only[pUt,pUn,sEt,sEz,sEs]
    refine tkf (i := 6) ?_
    try simp only[pUt,pUn,sEt,sEz,sEs]
    refine tkf (i := 7) ?_
    try simp only[pUt,pUn,sEt,sEz,sEs]
    refine tkf (i := 8) ?_
    try simp only[pUt,pUn,sEt,sEz,sEs]
    refine tkf (i := 9) ?_
    try simp only[pUt,pUn,sEt,sEz,sEs]
    refine tkf (i := 10) ?_
    try simp only[pUt,pUn,sEt,sEz,sEs]
    refine tkf (i := 11) ?_
    try simp only[pUt,pUn,sEt,sEz,sEs]
    refine tkf (i := 12) ?_
    try simp only[pUt,pUn,sEt,sEz,sEs]
    refine tk1 (i := 13) (v := .bool false) ?_
    try simp only[pUt,pUn,sEt,sEz,sEs]
    refine tk1 (i := 14) (v := .int .i64 C) ?_
    try simp only[pUt,pUn,sEt,sEz,sEs]
    refine tk1 (i := 15) (v := .bool false) ?_
    try simp only[pUt,pUn,sEt,sEz,sEs]
    refine wpAnyH_done (by kernel_rfl) ?_ _
    have HS := Lib.hid hHeld
    clear hHeld d1
    go_wp2
    go_ret2
    exact ⟨⟨false, rfl⟩, F0.out.trans HS.out⟩
end Go.Proofs.YtieeloealklkgaaGreat

/-
  Calendars: what acts do, in plain words.
-/
namespace Go.Proofs.YtieeloealklkgaaGreat
open Go Go.RowKit

/-- An act, and what it tells. -/
structure Ca where
 kind : Int
 x : Ev
 time : Int
deriving DecidableEq
structure Tl where
 err : Int
 evs : List Ev
deriving DecidableEq
/-- An act on the events of a calendar. -/
def takeC : List Ev → List Ev × Tl
 | [] => ([], ⟨6, []⟩)
 | x :: r => (r, ⟨0, [x]⟩)
def cancelC (p : Int × Int) (E : List Ev) : List Ev × Tl := match findE p E with
 | none => (E, ⟨6, []⟩)
 | some y => (delE p E, ⟨0, [y]⟩)
def doC (n : Nat) (E : List Ev) (a : Ca) : List Ev × Tl :=
 if a.kind = 1 then (allE n E [a.x], ⟨(allV n E [a.x]).2, []⟩)
 else if a.kind = 2 then takeC E
 else if a.kind = 3 then (aftE a.time E, ⟨0, befE a.time E⟩)
 else if a.kind = 4 then cancelC a.x.name E
 else ([], ⟨0, E⟩)
/-- The events after acts, and what they tell. -/
def stC (n : Nat) (E : List Ev) (l : List Ca) : List Ev := l.foldl (fun E a => (doC n E a).1) E
def tlC (n : Nat) : List Ev → List Ca → List Tl
 | _, [] => []
 | E, a :: r => (doC n E a).2 :: tlC n (doC n E a).1 r
theorem stC_cons (n : Nat) (E : List Ev) (a : Ca) (r : List Ca) : stC n E (a :: r) = stC n (doC n E a).1 r := rfl
theorem stC_append (n : Nat) (E : List Ev) (a b : List Ca) : stC n E (a ++ b) = stC n (stC n E a) b := by unfold stC; rw [List.foldl_append]
theorem tlC_append (n : Nat) : ∀ (a b : List Ca) (E : List Ev), tlC n E (a ++ b) = tlC n E a ++ tlC n (stC n E a) b
 | [], b, E => rfl
 | x :: r, b, E => by rw [List.cons_append, tlC, tlC, tlC_append n r b, stC_cons]; rfl
theorem tlC_length (n : Nat) : ∀ (a : List Ca) (E : List Ev), (tlC n E a).length = a.length
 | [], _ => rfl
 | x :: r, E => by rw [tlC, List.length_cons, tlC_length n r, List.length_cons]
theorem stC_snoc {n : Nat} {E : List Ev} {l : List Ca} {k : Nat} {a : Ca} (h : l[k]? = some a) : stC n E (l.take (k + 1)) = (doC n (stC n E (l.take k)) a).1 := by
 rw [List.take_add_one, h, stC_append]; rfl
theorem tlC_snoc {n : Nat} {E : List Ev} {l : List Ca} {k : Nat} {a : Ca} (h : l[k]? = some a) : tlC n E (l.take (k + 1)) = tlC n E (l.take k) ++ [(doC n (stC n E (l.take k)) a).2] := by
 rw [List.take_add_one, h, tlC_append]; rfl
theorem tlC_at {n : Nat} {E : List Ev} {l : List Ca} {k : Nat} {a : Ca} (h : l[k]? = some a) : (tlC n E l)[k]? = some (doC n (stC n E (l.take k)) a).2 := by
 have hk := (List.getElem?_eq_some_iff.1 h).1
 have h1 : l = l.take k ++ a :: l.drop (k + 1) := by
  obtain ⟨hk, e⟩ := List.getElem?_eq_some_iff.1 h
  rw [← e, List.getElem_cons_drop, List.take_append_drop]
 have h2 : (tlC n E (l.take k)).length = k := by rw [tlC_length, List.length_take]; omega
 have h3 : tlC n E l = tlC n E (l.take k) ++ (doC n (stC n E (l.take k)) a).2 :: tlC n (doC n (stC n E (l.take k)) a).1 (l.drop (k + 1)) := by
  conv => lhs; rw [h1]
  rw [tlC_append]
  rfl
 rw [h3, List.getElem?_append_right (by omega), h2]
 simp
/-- A calendar that is right. -/
structure GoodE (n : Nat) (E : List Ev) : Prop where
 asc : AscE E
 once : OnceE E
 right : ∀ x ∈ E, RightE x
 le : E.length ≤ n
theorem GoodE.nil (n : Nat) : GoodE n [] := ⟨List.Pairwise.nil, List.nodup_nil, fun _ h => by simp at h, Nat.zero_le _⟩
theorem GoodE.sub {n : Nat} {E F : List Ev} (h : GoodE n E) (hs : F.Sublist E) : GoodE n F := ⟨asc_sub h.asc hs, once_sub h.once hs, fun x hx => h.right x (hs.subset hx), Nat.le_trans hs.length_le h.le⟩
/-- What a put does. -/
theorem put_cases (n : Nat) (E : List Ev) (x : Ev) (hn : E.length ≤ n) : (¬ RightE x ∧ (allV n E [x]).2 = 100 ∧ allE n E [x] = E) ∨ (RightE x ∧ (∃ y ∈ E, y.name = x.name) ∧ (allV n E [x]).2 = 101 ∧ allE n E [x] = E) ∨
  (RightE x ∧ (∀ y ∈ E, y.name ≠ x.name) ∧ E.length = n ∧ (allV n E [x]).2 = 4 ∧ allE n E [x] = E) ∨ (RightE x ∧ (∀ y ∈ E, y.name ≠ x.name) ∧ E.length < n ∧ (allV n E [x]).2 = 0 ∧ allE n E [x] = insE x E) := by
 by_cases hr : RightE x
 ·obtain ⟨h1, h2, h3⟩ := one_ok (n := n) (E := E) hr
  by_cases ha : 0 ≤ atE x.name E
  ·rw [if_pos ha] at h1 h2
   refine .inr (.inl ⟨hr, ?_, h1, h2⟩)
   unfold atE at ha
   rcases idxI_cases (fun y => y.name == x.name) E with ⟨h4, _⟩ | ⟨k, _, _, y, hy, hyn, _⟩
   ·rw [h4] at ha; omega
   ·exact ⟨y, List.mem_of_getElem? hy, by simpa using hyn⟩
  ·rw [if_neg ha] at h1 h2
   by_cases hf : n - E.length < 1
   ·rw [if_pos hf] at h1 h2
    exact .inr (.inr (.inl ⟨hr, h3 ha, by omega, h1, h2⟩))
   ·rw [if_neg hf] at h1 h2
    exact .inr (.inr (.inr ⟨hr, h3 ha, by omega, h1, h2⟩))
 ·obtain ⟨h1, h2⟩ := one_bad (n := n) (E := E) hr
  exact .inl ⟨hr, h1, h2⟩
theorem GoodE.put {n : Nat} {E : List Ev} (h : GoodE n E) (x : Ev) : GoodE n (allE n E [x]) := by
 rcases put_cases n E x h.le with ⟨_, _, e⟩ | ⟨_, _, _, e⟩ | ⟨_, _, _, _, e⟩ | ⟨hr, hn, hl, _, e⟩
 ·rw [e]; exact h
 ·rw [e]; exact h
 ·rw [e]; exact h
 ·rw [e]
  exact ⟨insE_asc h.asc hn, insE_once h.once hn, fun y hy => (insE_mem.1 hy).elim (fun e => e ▸ hr) (h.right y), by rw [insE_length]; omega⟩
theorem GoodE.take {n : Nat} {E : List Ev} (h : GoodE n E) : GoodE n (takeC E).1 := by
 cases E with
 | nil => exact h
 | cons x r => exact h.sub (List.sublist_cons_self x r)
theorem GoodE.cancel {n : Nat} {E : List Ev} (h : GoodE n E) (p : Int × Int) : GoodE n (cancelC p E).1 := by
 unfold cancelC
 cases findE p E with
 | none => exact h
 | some y => exact h.sub List.filter_sublist
theorem GoodE.act {n : Nat} {E : List Ev} (h : GoodE n E) (a : Ca) : GoodE n (doC n E a).1 := by
 unfold doC
 split
 ·exact h.put a.x
 ·split
  ·exact h.take
  ·split
   ·exact h.sub List.filter_sublist
   ·split
    ·exact h.cancel a.x.name
    ·exact GoodE.nil n
theorem GoodE.acts {n : Nat} : ∀ (l : List Ca) {E : List Ev}, GoodE n E → GoodE n (stC n E l)
 | [], _, h => h
 | a :: r, _, h => GoodE.acts r (h.act a)
/-- What is told is in order, and no more than is there. -/
theorem told_good {n : Nat} {E : List Ev} (h : GoodE n E) (a : Ca) : GoodE n (doC n E a).2.evs := by
 unfold doC
 split
 ·exact GoodE.nil n
 ·split
  ·cases E with
   | nil => exact GoodE.nil n
   | cons x r => exact h.sub (List.singleton_sublist.2 List.mem_cons_self)
  ·split
   ·exact h.sub List.filter_sublist
   ·split
    ·unfold cancelC
     cases hf : findE a.x.name E with
     | none => exact GoodE.nil n
     | some y => exact h.sub (List.singleton_sublist.2 ((findE_some h.once).1 hf).1)
    ·exact h
/-- The index of the first act of no kind. -/
def oddC (l : List Ca) : Int := match l.findIdx? (fun a => !decide (1 ≤ a.kind ∧ a.kind ≤ 5)) with
 | some i => i
 | none => -1
theorem oddC_cases (l : List Ca) : (oddC l = -1 ∧ ∀ a ∈ l, 1 ≤ a.kind ∧ a.kind ≤ 5) ∨ ∃ k : Nat, oddC l = k ∧ ∃ a, l[k]? = some a ∧ ¬ (1 ≤ a.kind ∧ a.kind ≤ 5) ∧ ∀ b ∈ l.take k, 1 ≤ b.kind ∧ b.kind ≤ 5 := by
 unfold oddC
 cases h : l.findIdx? (fun a => !decide (1 ≤ a.kind ∧ a.kind ≤ 5)) with
 | none =>
  rw [List.findIdx?_eq_none_iff] at h
  exact .inl ⟨rfl, fun a ha => by simpa using h a ha⟩
 | some k =>
  rw [List.findIdx?_eq_some_iff_getElem] at h
  obtain ⟨hk, h1, h2⟩ := h
  refine .inr ⟨k, rfl, l[k], List.getElem?_eq_getElem hk, by simp at h1; omega, fun y hy => ?_⟩
  obtain ⟨j, hj, rfl⟩ := List.mem_take_iff_getElem.1 hy
  have := h2 j (by omega)
  simpa using this
theorem oddC_none {l : List Ca} (h : ∀ a ∈ l, 1 ≤ a.kind ∧ a.kind ≤ 5) : oddC l = -1 := by
 rcases oddC_cases l with ⟨h1, _⟩ | ⟨k, _, a, ha, hn, _⟩
 ·exact h1
 ·exact absurd (h a (List.mem_of_getElem? ha)) hn
theorem oddC_at {l : List Ca} {k : Nat} {a : Ca} (h : ∀ b ∈ l.take k, 1 ≤ b.kind ∧ b.kind ≤ 5) (ha : l[k]? = some a) (hn : ¬ (1 ≤ a.kind ∧ a.kind ≤ 5)) : oddC l = k := by
 rcases oddC_cases l with ⟨_, h2⟩ | ⟨j, h1, b, hb, hbn, hp⟩
 ·exact absurd (h2 a (List.mem_of_getElem? ha)) hn
 ·rw [h1]
  rcases Nat.lt_trichotomy j k with hj | hj | hj
  ·exact absurd (h b (List.mem_of_getElem? (by rw [List.getElem?_take, if_pos hj]; exact hb))) hbn
  ·rw [hj]
  ·exact absurd (hp a (List.mem_of_getElem? (by rw [List.getElem?_take, if_pos hj]; exact ha))) hn
/-- Whether a list is a right calendar. -/
def RightC (l : List Ev) (cap : Int) : Prop := (0 ≤ cap ∧ cap ≤ 256) ∧ (l.length : Int) ≤ cap ∧ AscE l ∧ (∀ x ∈ l, RightE x) ∧ OnceE l
theorem RightC.good {l : List Ev} {n : Nat} (h : RightC l n) : GoodE n l := ⟨h.2.2.1, h.2.2.2.2, h.2.2.2.1, by have := h.2.1; omega⟩
theorem GoodE.rightC {l : List Ev} {n : Nat} (h : GoodE n l) (hn : n ≤ 256) : RightC l n := ⟨⟨by omega, by omega⟩, by have := h.le; omega, h.asc, h.right, h.once⟩
open Classical in
/-- What Play returns: the events, what the acts told, the index, the error. -/
noncomputable def playC (l : List Ev) (cap : Int) (acts : List Ca) : List Ev × List Tl × Int × Int :=
 if RightC l cap then (if 0 ≤ oddC acts then ([], [], oddC acts, 121) else (stC cap.toNat l acts, tlC cap.toNat l acts, -1, 0)) else ([], [], -1, 120)
theorem playC_ok {l : List Ev} {n : Nat} {acts : List Ca} (h : GoodE n l) (hn : n ≤ 256) (hk : ∀ a ∈ acts, 1 ≤ a.kind ∧ a.kind ≤ 5) : playC l n acts = (stC n l acts, tlC n l acts, -1, 0) := by
 unfold playC
 rw [if_pos (h.rightC hn), if_neg (by rw [oddC_none hk]; omega)]
 rfl
end Go.Proofs.YtieeloealklkgaaGreat

/-
  calendar: a list's methods.
-/
namespace Go.Proofs.YtieeloealklkgaaGreat
open Go Go.RowKit
attribute [local go_sem ↓] Go.wp_at_zero Go.wp_at_succ
attribute [local go_sem] Oper.semAt_some wide_fn wide_depth wide_fnR wide_depthR

/-- A calendar at a block. -/
structure LIs (w : World) (lb n : Nat) (E : List Ev) (ft : Nat → Prop) : Prop where
 row : ∃ v, w.heap[lb]? = some (.cells #[v, .int .i64 n] 107 (0, 0)) ∧ w.ownsRow 0 30 5 v E.length (flatEv E) ∧ v.ownBlock ≠ some lb ∧ ∀ g, v.ownBlock = some g → ft g
 good : GoodE n E
 small : n ≤ 1000
 foot : ft lb
 lt : ∀ k, ft k → k < w.heap.size
theorem LIs.fr0 {w w' : World} {lb n : Nat} {E : List Ev} {ft S : Nat → Prop} (h : LIs w lb n E ft) (hf : Fr0 S w w') (hS : ∀ k, ft k → ¬ S k) : LIs w' lb n E ft := by
 obtain ⟨v, h1, h2, h3, h4⟩ := h.row
 exact ⟨⟨v, (hf.block lb (h.lt lb h.foot) (hS lb h.foot)).trans h1, ownsRow_fr0 h2 hf (fun g hg => hS g (h4 g hg)), h3, h4⟩, h.good, h.small, h.foot, fun k hk => Nat.lt_of_lt_of_le (h.lt k hk) hf.size⟩
theorem LIs.later {w w' : World} {lb n : Nat} {E : List Ev} {ft : Nat → Prop} (h : LIs w lb n E ft) (hf : Fr0 none' w w') : LIs w' lb n E ft := h.fr0 hf (fun _ _ h => h)
set_option maxHeartbeats 2000000 in
theorem LIs.take_none {w : World} {lb n : Nat} {E : List Ev} {ft : Nat → Prop} (h : LIs w lb n E ft) (i : Int) (hi : i < 0 ∨ (E.length : Int) ≤ i) :
  Calls Tryz.prog 182 #[.pointer (some ⟨lb, 0, none⟩), .int .i64 i] w fun e w' => e = .returned (.tuple #[evV zeroE, .int .i64 6]) ∧ Fr0 none' w w' := by
 obtain ⟨v, h1, h2, h3, h4⟩ := h.row
 obtain ⟨a, cap, rfl, hl, _⟩ := EsIn.of_own h2
 obtain ⟨W0, hW0⟩ : ∃ W, w.alloc (.cells #[.int .i64 0, .int .i64 0, .int .i64 0, .int .i64 0, .int .i64 0] 30) = W := ⟨_, rfl⟩
 have hf : Fr0 none' w W0 := by rw [← hW0]; exact (Fr0.refl _ _).alloc _
 have h1 := (hf.block lb (h.lt lb h.foot) id).trans h1
 have b0 : W0.heap[w.heap.size]? = some (.cells #[.int .i64 0, .int .i64 0, .int .i64 0, .int .i64 0, .int .i64 0] 30 (0, 0)) := by rw [← hW0]; exact World.alloc_heap_new _ _
 have c0 := cells_in h1 0
 have c1 := cells_in h1 1
 have y0 := cells_in b0 0
 have y1 := cells_in b0 1
 have y2 := cells_in b0 2
 have y3 := cells_in b0 3
 have y4 := cells_in b0 4
 simp at c0 c1 y0 y1 y2 y3 y4
 obtain ⟨m, hm⟩ : ∃ m, E.length = m := ⟨_, rfl⟩
 rw [hm] at c0 hi
 have HF := Lib.hid hf
 clear h h1 h2 h3 h4 hl b0 hf
 subst hW0
 by_cases h0 : i < 0
 ·have d1 : decide (i < 0) = true := decide_eq_true h0
  clear hi h0
  go_enter Tryz.func182, Tryz.ntmps182
  go_wp2_with fail
  exact bodyPost_ret (v := .tuple #[evV zeroE, .int .i64 6]) (by simp [results, Tryz.results182, go_sem, y0, y1, y2, y3, y4, evV, zeroE, zeroK]) rfl ⟨rfl, HF.out⟩
 ·have d1 : decide (i < 0) = false := decide_eq_false h0
  have d2 : decide (i ≥ (m : Int)) = true := decide_eq_true (by omega)
  have d3 : decide ((m : Int) ≤ i) = true := decide_eq_true (by omega)
  clear hi h0
  go_enter Tryz.func182, Tryz.ntmps182
  go_wp2_with fail
  exact bodyPost_ret (v := .tuple #[evV zeroE, .int .i64 6]) (by simp [results, Tryz.results182, go_sem, y0, y1, y2, y3, y4, evV, zeroE, zeroK]) rfl ⟨rfl, HF.out⟩
set_option maxHeartbeats 2000000 in
theorem LIs.take_some {w : World} {lb n i : Nat} {E : List Ev} {ft : Nat → Prop} {x : Ev} (h : LIs w lb n E ft) (hx : E[i]? = some x) :
  Calls Tryz.prog 182 #[.pointer (some ⟨lb, 0, none⟩), .int .i64 (i : Nat)] w fun e w' => e = .returned (.tuple #[evV x, .int .i64 0]) ∧ LIs w' lb n (E.eraseIdx i) ft ∧ Fr0 ft w w' := by
 obtain ⟨v, h1, h2, h3, h4⟩ := h.row
 obtain ⟨a, cap, rfl, hl, hE⟩ := EsIn.of_own h2
 have hil := (List.getElem?_eq_some_iff.1 hx).1
 obtain ⟨g, o, rfl, hxc⟩ := hE i x hx
 have ho : o = 0 := by
  rcases h2.2 with ⟨h0, _⟩ | ⟨g', cap', cur, e, _⟩
  ·cases h0
  ·injection e with e; injection e with e; injection e
 subst ho
 rw [Nat.zero_add] at hxc
 obtain ⟨m, hm⟩ : ∃ m, E.length = m := ⟨_, rfl⟩
 rw [hm] at h1 h2 h3 h4 hil
 obtain ⟨W0, hW0⟩ : ∃ W, w.alloc (.cells #[.int .i64 0, .int .i64 0, .int .i64 0, .int .i64 0, .int .i64 0] 30) = W := ⟨_, rfl⟩
 have hf : Fr0 none' w W0 := by rw [← hW0]; exact (Fr0.refl _ _).alloc _
 have h1 := (hf.block lb (h.lt lb h.foot) id).trans h1
 have b0 : W0.heap[w.heap.size]? = some (.cells #[.int .i64 0, .int .i64 0, .int .i64 0, .int .i64 0, .int .i64 0] 30 (0, 0)) := by rw [← hW0]; exact World.alloc_heap_new _ _
 obtain ⟨W1, hW1⟩ : ∃ W, W0.alloc (.cells #[.int .i64 x.key.time, .int .i64 x.key.source, .int .i64 x.key.seq, .int .i64 x.to, .int .i64 x.value] 30) = W := ⟨_, rfl⟩
 have hf1 : Fr0 none' W0 W1 := by rw [← hW1]; exact (Fr0.refl _ _).alloc _
 have z0 : W0.heap.size = w.heap.size + 1 := by rw [← hW0, World.size_alloc]
 have h1' := (hf1.block lb (Array.getElem?_eq_some_iff.1 h1).1 id).trans h1
 have b1 : W1.heap[w.heap.size]? = some (.cells #[.int .i64 0, .int .i64 0, .int .i64 0, .int .i64 0, .int .i64 0] 30 (0, 0)) := (hf1.block _ (by omega) id).trans b0
 have b2 : W1.heap[w.heap.size + 1]? = some (.cells #[.int .i64 x.key.time, .int .i64 x.key.source, .int .i64 x.key.seq, .int .i64 x.to, .int .i64 x.value] 30 (0, 0)) := by rw [← hW1, ← z0]; exact World.alloc_heap_new _ _
 have c0 := cells_in h1 0
 have c2 := cells_in h1' 0
 simp at c0 c2
 obtain ⟨x0, x1, x2, x3, x4⟩ := hxc.later hf
 have k1 : (0 : Int) ≤ (i : Int) := by omega
 have k2 : (i : Int) < (m : Int) := by omega
 have d1 : decide ((i : Int) < 0) = false := decide_eq_false (by omega)
 have d2 : decide ((i : Int) ≥ (m : Int)) = false := decide_eq_false (by omega)
 have d3 : decide ((m : Int) ≤ (i : Int)) = false := decide_eq_false (by omega)
 have d4 : decide (m ≤ i) = false := decide_eq_false (by omega)
 have hm1 : m ≤ 1000 := by have := h.good.le; have := h.small; omega
 have k5 : IntKind.i64.wrap ((i : Int) + 1) = ((i + 1 : Nat) : Int) := by rw [IntWalk.i64_in _ (by omega)]; push_cast; rfl
 have HI := Lib.hid h
 have Hx := Lib.hid hx
 have HD := Lib.hid (DeleteE (j := i + 1) E (ownsRow_fr0 h2 (hf.trans hf1) (fun _ _ h => h)) hil rfl (by omega))
 have H1 := Lib.hid h1'
 have H3 := Lib.hid h3
 have H4 := Lib.hid h4
 have HF := Lib.hid (hf.trans hf1)
 have HB1 := Lib.hid b1
 have HB2 := Lib.hid b2
 have Hm := Lib.hid hm
 have Hlb := Lib.hid (h.lt lb h.foot)
 have Hg := Lib.hid (h.lt g (h4 g rfl))
 clear h hx hE h1 h2 h3 h4 hl hf b0 b1 b2 hm hxc h1' hf1 z0
 subst hW1
 subst hW0
 go_enter Tryz.func182, Tryz.ntmps182
 go_wp2_with fail
 refine HD.out.mono ?_
 rintro e w2 ⟨rfl, hrow, hf2⟩
 have h2 := (hf2.block lb (Array.getElem?_eq_some_iff.1 H1.out).1 (fun e => H3.out (by rw [e]; rfl))).trans H1.out
 have b1 := (hf2.block _ (Array.getElem?_eq_some_iff.1 HB1.out).1 (fun e => by have := Hg.out; omega)).trans HB1.out
 have b2 := (hf2.block _ (Array.getElem?_eq_some_iff.1 HB2.out).1 (fun e => by have := Hg.out; omega)).trans HB2.out
 obtain ⟨W3, hW3⟩ : ∃ W, w2.setCell ⟨lb, 0, none⟩ (.slice (some ⟨g, 0, none⟩) (m - 1) cap) = W := ⟨_, rfl⟩
 have f3 : Fr0 (fun k => k = lb) w2 W3 := by rw [← hW3]; exact (Fr0.refl (fun k => k = lb) w2).setCell (fun _ => rfl) _
 have h3 : W3.heap[lb]? = some (.cells #[.slice (some ⟨g, 0, none⟩) (m - 1) cap, .int .i64 n] 107 (0, 0)) := by rw [← hW3]; exact heap_set_cell h2 _
 have b3 := (f3.block _ (Array.getElem?_eq_some_iff.1 b1).1 (fun e => by have := Hlb.out; omega)).trans b1
 have b4 := (f3.block _ (Array.getElem?_eq_some_iff.1 b2).1 (fun e => by have := Hlb.out; omega)).trans b2
 have u0 := cells_in h2 0
 have t0 := thaw_in h2 0
 simp at u0
 have y0 := cells_in b4 0
 have y1 := cells_in b4 1
 have y2 := cells_in b4 2
 have y3 := cells_in b4 3
 have y4 := cells_in b4 4
 have q0 := thaw_in b3 0
 have q1 := thaw_in b3 1
 have q2 := thaw_in b3 2
 have q3 := thaw_in b3 3
 have q4 := thaw_in b3 4
 have r0 := cells_in b3 0
 have r1 := cells_in b3 1
 have r2 := cells_in b3 2
 have r3 := cells_in b3 3
 have r4 := cells_in b3 4
 simp at y0 y1 y2 y3 y4 r0 r1 r2 r3 r4
 have e6 := ev_set5 b3 (.int .i64 x.key.time) (.int .i64 x.key.source) (.int .i64 x.key.seq) (.int .i64 x.to) (.int .i64 x.value)
 have f6 : Fr0 (fun k => k = w.heap.size) W3 (((((W3.setCell ⟨w.heap.size, 0, none⟩ (.int .i64 x.key.time)).setCell ⟨w.heap.size, 1, none⟩ (.int .i64 x.key.source)).setCell ⟨w.heap.size, 2, none⟩ (.int .i64 x.key.seq)).setCell ⟨w.heap.size, 3, none⟩ (.int .i64 x.to)).setCell ⟨w.heap.size, 4, none⟩ (.int .i64 x.value)) :=
  (((((Fr0.refl (fun k => k = w.heap.size) W3).setCell (fun _ => rfl) _).setCell (fun _ => rfl) _).setCell (fun _ => rfl) _).setCell (fun _ => rfl) _).setCell (fun _ => rfl) _
 have hrow3 : W3.ownsRow 0 30 5 (.slice (some ⟨g, 0, none⟩) (m - 1) cap) (m - 1) (flatEv (E.eraseIdx i)) := by rw [← hW3]; exact ownsRow_setCell_other hrow (fun e => H3.out (by rw [← e]; rfl)) _
 have HR := Lib.hid hrow3
 have H2 := Lib.hid h3
 have F2 := Lib.hid (show Fr0 ft w W3 from ((HF.out.mono (S' := ft) (fun _ _ h => h.elim)).trans' hf2 (fun k _ e => H4.out k (by rw [e]; rfl))).trans' f3 (fun k _ e => by rw [e]; exact HI.out.foot))
 have HE := Lib.hid e6
 have F6 := Lib.hid f6
 have Hq := Lib.hid b3
 clear hrow hf2 h2 b1 b2 f3 h3 b3 b4 e6 f6 hrow3 c0 c2 x0 x1 x2 x3 x4 HD
 subst hW3
 go_wp2_with fail
 clear y0 y1 y2 y3 y4
 have y0 := cells_in HE.out 0
 have y1 := cells_in HE.out 1
 have y2 := cells_in HE.out 2
 have y3 := cells_in HE.out 3
 have y4 := cells_in HE.out 4
 simp at y0 y1 y2 y3 y4
 have hl9 : (E.eraseIdx i).length = m - 1 := by rw [List.length_eraseIdx, Hm.out, if_pos hil]
 refine bodyPost_ret (v := .tuple #[evV x, .int .i64 0]) (by simp [results, Tryz.results182, go_sem, y0, y1, y2, y3, y4, evV]) rfl ⟨rfl, ⟨⟨.slice (some ⟨g, 0, none⟩) (m - 1) cap, ?_, ?_, fun e => H3.out (by rw [← e]; rfl), fun k e => H4.out k (by rw [← e]; rfl)⟩, HI.out.good.sub (List.eraseIdx_sublist _ _), HI.out.small, HI.out.foot, fun k hk => ?_⟩, ?_⟩
 ·exact (F6.out.block lb (Array.getElem?_eq_some_iff.1 H2.out).1 (fun e => by have := Hlb.out; omega)).trans H2.out
 ·rw [hl9]
  exact ownsRow_fr0 HR.out F6.out (fun g' e e2 => by have e : g = g' := Option.some.inj e; have e2 : g' = w.heap.size := e2; have := Hg.out; omega)
 ·have h1 := HI.out.lt k hk
  have h2 := F2.out.size
  have h3 := F6.out.size
  omega
 ·exact F2.out.trans' F6.out (fun k hk e => by have e : k = w.heap.size := e; omega)
/-
  calendar: a list's Take, Cancel, Clear, All, TakeBefore.
-/

/-- The event that is told, if any. -/
def Tl.first (t : Tl) : Ev := t.evs.headD zeroE
set_option maxHeartbeats 2000000 in
theorem LIs.take {w : World} {lb n : Nat} {E : List Ev} {ft : Nat → Prop} (h : LIs w lb n E ft) :
  Calls Tryz.prog 180 #[.pointer (some ⟨lb, 0, none⟩)] w fun e w' => e = .returned (.tuple #[evV (takeC E).2.first, .int .i64 (takeC E).2.err]) ∧ LIs w' lb n (takeC E).1 ft ∧ Fr0 ft w w' := by
 have HI := Lib.hid h
 obtain ⟨W0, hW0⟩ : ∃ W, w.alloc (.cells #[.int .i64 0, .int .i64 0, .int .i64 0, .int .i64 0, .int .i64 0] 30) = W := ⟨_, rfl⟩
 have hf0 : Fr0 none' w W0 := by rw [← hW0]; exact (Fr0.refl _ _).alloc _
 have hb0 : W0.heap[w.heap.size]? = some (.cells #[.int .i64 0, .int .i64 0, .int .i64 0, .int .i64 0, .int .i64 0] 30 (0, 0)) := by rw [← hW0]; exact World.alloc_heap_new _ _
 have F0 := Lib.hid hf0
 have B0 := Lib.hid hb0
 have HC : Hid (Calls Tryz.prog 182 #[.pointer (some ⟨lb, 0, none⟩), .int .i64 0] W0 fun e w' => e = .returned (.tuple #[evV (takeC E).2.first, .int .i64 (takeC E).2.err]) ∧ LIs w' lb n (takeC E).1 ft ∧ Fr0 ft W0 w') := by
  cases E with
  | nil =>
   refine ((h.later hf0).take_none 0 (.inr (by simp))).mono ?_
   rintro e w' ⟨rfl, hf⟩
   exact ⟨rfl, (h.later hf0).later hf, hf.mono (fun _ _ h => h.elim)⟩
  | cons x r => exact (h.later hf0).take_some (i := 0) (x := x) rfl
 obtain ⟨v, hv⟩ : ∃ v, (takeC E).2.first = v := ⟨_, rfl⟩
 obtain ⟨c, hc⟩ : ∃ v, (takeC E).2.err = v := ⟨_, rfl⟩
 rw [hv, hc] at HC ⊢
 clear h hv hc hf0 hb0
 unfold evV at HC ⊢
 subst hW0
 go_enter Tryz.func180, Tryz.ntmps180
 go_wp2_with fail
 refine HC.out.mono ?_
 rintro e w1 ⟨rfl, hl, hf⟩
 have HL := Lib.hid hl
 have HF := Lib.hid hf
 have b1 := (hf.block w.heap.size (Array.getElem?_eq_some_iff.1 B0.out).1 (fun hk => Nat.lt_irrefl _ (HI.out.lt _ hk))).trans B0.out
 clear hl hf
 have q0 := thaw_in b1 0
 have q1 := thaw_in b1 1
 have q2 := thaw_in b1 2
 have q3 := thaw_in b1 3
 have q4 := thaw_in b1 4
 have r0 := cells_in b1 0
 have r1 := cells_in b1 1
 have r2 := cells_in b1 2
 have r3 := cells_in b1 3
 have r4 := cells_in b1 4
 simp at r0 r1 r2 r3 r4
 have B1 := Lib.hid b1
 clear b1
 go_wp2_with fail
 have e6 := ev_set5 B1.out (.int .i64 v.key.time) (.int .i64 v.key.source) (.int .i64 v.key.seq) (.int .i64 v.to) (.int .i64 v.value)
 have f6 : Fr0 (fun k => k = w.heap.size) w1 (((((w1.setCell ⟨w.heap.size, 0, none⟩ (.int .i64 v.key.time)).setCell ⟨w.heap.size, 1, none⟩ (.int .i64 v.key.source)).setCell ⟨w.heap.size, 2, none⟩ (.int .i64 v.key.seq)).setCell ⟨w.heap.size, 3, none⟩ (.int .i64 v.to)).setCell ⟨w.heap.size, 4, none⟩ (.int .i64 v.value)) :=
  (((((Fr0.refl (fun k => k = w.heap.size) w1).setCell (fun _ => rfl) _).setCell (fun _ => rfl) _).setCell (fun _ => rfl) _).setCell (fun _ => rfl) _).setCell (fun _ => rfl) _
 generalize (((((w1.setCell ⟨w.heap.size, 0, none⟩ (.int .i64 v.key.time)).setCell ⟨w.heap.size, 1, none⟩ (.int .i64 v.key.source)).setCell ⟨w.heap.size, 2, none⟩ (.int .i64 v.key.seq)).setCell ⟨w.heap.size, 3, none⟩ (.int .i64 v.to)).setCell ⟨w.heap.size, 4, none⟩ (.int .i64 v.value)) = VV at e6 f6 ⊢
 have y0 := cells_in e6 0
 have y1 := cells_in e6 1
 have y2 := cells_in e6 2
 have y3 := cells_in e6 3
 have y4 := cells_in e6 4
 simp at y0 y1 y2 y3 y4
 have hk9 : ∀ k, ft k → ¬ (k = w.heap.size) := fun k hk e => by have := HI.out.lt k hk; omega
 have hfr9 : Fr0 ft w VV := (((F0.out.mono (S' := ft) (fun _ _ h => h.elim)).trans HF.out).trans' f6 (fun k hk e => by have e : k = w.heap.size := e; omega))
 exact bodyPost_ret (v := .tuple #[evV v, .int .i64 c]) (by simp [results, Tryz.results180, go_sem, y0, y1, y2, y3, y4, evV]) rfl ⟨rfl, HL.out.fr0 f6 hk9, hfr9⟩
theorem idx_name {E : List Ev} (h : OnceE E) (p : Int × Int) : (idxI (fun x => x.name == p) E = -1 ∧ findE p E = none) ∨ ∃ (k : Nat) (x : Ev), idxI (fun x => x.name == p) E = k ∧ E[k]? = some x ∧ findE p E = some x ∧ delE p E = E.eraseIdx k := by
 rcases idxI_cases (fun x : Ev => x.name == p) E with ⟨h1, h2⟩ | ⟨k, h1, _, x, hx, hfx, _⟩
 ·exact .inl ⟨h1, findE_none.2 (fun y hy => by simpa using h2 y hy)⟩
 ·have hn : x.name = p := by simpa using hfx
  subst hn
  exact .inr ⟨k, x, h1, hx, find_at h hx, del_at h hx⟩
set_option maxHeartbeats 2000000 in
theorem LIs.cancel {w : World} {lb n : Nat} {E : List Ev} {ft : Nat → Prop} (h : LIs w lb n E ft) (p : Int × Int) :
  Calls Tryz.prog 177 #[.pointer (some ⟨lb, 0, none⟩), .int .i64 p.1, .int .i64 p.2] w fun e w' => e = .returned (.tuple #[evV (cancelC p E).2.first, .int .i64 (cancelC p E).2.err]) ∧ LIs w' lb n (cancelC p E).1 ft ∧ Fr0 ft w w' := by
 have HI := Lib.hid h
 obtain ⟨W0, hW0⟩ : ∃ W, w.alloc (.cells #[.int .i64 0, .int .i64 0, .int .i64 0, .int .i64 0, .int .i64 0] 30) = W := ⟨_, rfl⟩
 have hf0 : Fr0 none' w W0 := by rw [← hW0]; exact (Fr0.refl _ _).alloc _
 have hb0 : W0.heap[w.heap.size]? = some (.cells #[.int .i64 0, .int .i64 0, .int .i64 0, .int .i64 0, .int .i64 0] 30 (0, 0)) := by rw [← hW0]; exact World.alloc_heap_new _ _
 have F0 := Lib.hid hf0
 have B0 := Lib.hid hb0
 obtain ⟨v0, h1, h2, h3, h4⟩ := (h.later hf0).row
 obtain ⟨a, cap, rfl, hl, hE⟩ := EsIn.of_own h2
 have c0 := cells_in h1 0
 simp at c0
 have hEl : E.length ≤ 10000 := by have := h.good.le; have := h.small; omega
 have HFI := Lib.hid (findC_any (n := E.length) (cap := cap) E hE rfl hEl p)
 have HC : Hid (∀ W, Fr0 none' W0 W → Calls Tryz.prog 182 #[.pointer (some ⟨lb, 0, none⟩), .int .i64 (idxI (fun x => x.name == p) E)] W fun e w' => e = .returned (.tuple #[evV (cancelC p E).2.first, .int .i64 (cancelC p E).2.err]) ∧ LIs w' lb n (cancelC p E).1 ft ∧ Fr0 ft W w') := fun W hW => by
  rcases idx_name h.good.once p with ⟨e1, e2⟩ | ⟨k, x, e1, hx, e2, e3⟩
  ·rw [e1]
   unfold cancelC
   rw [e2]
   refine (((h.later hf0).later hW).take_none (-1) (.inl (by omega))).mono ?_
   rintro e w' ⟨rfl, hf⟩
   exact ⟨rfl, ((h.later hf0).later hW).later hf, hf.mono (fun _ _ h => h.elim)⟩
  ·rw [e1]
   unfold cancelC
   rw [e2, e3]
   exact ((h.later hf0).later hW).take_some hx
 obtain ⟨v, hv⟩ : ∃ v, (cancelC p E).2.first = v := ⟨_, rfl⟩
 obtain ⟨c, hc⟩ : ∃ v, (cancelC p E).2.err = v := ⟨_, rfl⟩
 obtain ⟨ix, hix⟩ : ∃ v, idxI (fun x => x.name == p) E = v := ⟨_, rfl⟩
 obtain ⟨m, hm⟩ : ∃ v, E.length = v := ⟨_, rfl⟩
 rw [hv, hc] at HC ⊢
 rw [hix] at HC HFI
 rw [hm] at HFI c0
 clear h hv hc hf0 hb0 h1 h2 h3 h4 hl hE hEl hix hm
 unfold evV at HC ⊢
 subst hW0
 go_enter Tryz.func177, Tryz.ntmps177
 go_wp2_with fail
 refine HFI.out.mono ?_
 rintro e w5 ⟨rfl, hf5⟩
 have F5 := Lib.hid hf5
 clear hf5
 go_wp2_with fail
 refine (HC.out w5 F5.out).mono ?_
 rintro e w1 ⟨rfl, hl, hf⟩
 have HL := Lib.hid hl
 have HF := Lib.hid ((F5.out.mono (S' := ft) (fun _ _ h => h.elim)).trans hf)
 have b1 := (HF.out.block w.heap.size (Array.getElem?_eq_some_iff.1 B0.out).1 (fun hk => Nat.lt_irrefl _ (HI.out.lt _ hk))).trans B0.out
 clear hl hf
 have q0 := thaw_in b1 0
 have q1 := thaw_in b1 1
 have q2 := thaw_in b1 2
 have q3 := thaw_in b1 3
 have q4 := thaw_in b1 4
 have r0 := cells_in b1 0
 have r1 := cells_in b1 1
 have r2 := cells_in b1 2
 have r3 := cells_in b1 3
 have r4 := cells_in b1 4
 simp at r0 r1 r2 r3 r4
 have B1 := Lib.hid b1
 clear b1
 go_wp2_with fail
 have e6 := ev_set5 B1.out (.int .i64 v.key.time) (.int .i64 v.key.source) (.int .i64 v.key.seq) (.int .i64 v.to) (.int .i64 v.value)
 have f6 : Fr0 (fun k => k = w.heap.size) w1 (((((w1.setCell ⟨w.heap.size, 0, none⟩ (.int .i64 v.key.time)).setCell ⟨w.heap.size, 1, none⟩ (.int .i64 v.key.source)).setCell ⟨w.heap.size, 2, none⟩ (.int .i64 v.key.seq)).setCell ⟨w.heap.size, 3, none⟩ (.int .i64 v.to)).setCell ⟨w.heap.size, 4, none⟩ (.int .i64 v.value)) :=
  (((((Fr0.refl (fun k => k = w.heap.size) w1).setCell (fun _ => rfl) _).setCell (fun _ => rfl) _).setCell (fun _ => rfl) _).setCell (fun _ => rfl) _).setCell (fun _ => rfl) _
 generalize (((((w1.setCell ⟨w.heap.size, 0, none⟩ (.int .i64 v.key.time)).setCell ⟨w.heap.size, 1, none⟩ (.int .i64 v.key.source)).setCell ⟨w.heap.size, 2, none⟩ (.int .i64 v.key.seq)).setCell ⟨w.heap.size, 3, none⟩ (.int .i64 v.to)).setCell ⟨w.heap.size, 4, none⟩ (.int .i64 v.value)) = VV at e6 f6 ⊢
 have y0 := cells_in e6 0
 have y1 := cells_in e6 1
 have y2 := cells_in e6 2
 have y3 := cells_in e6 3
 have y4 := cells_in e6 4
 simp at y0 y1 y2 y3 y4
 have hk9 : ∀ k, ft k → ¬ (k = w.heap.size) := fun k hk e => by have := HI.out.lt k hk; omega
 have hfr9 : Fr0 ft w VV := (((F0.out.mono (S' := ft) (fun _ _ h => h.elim)).trans HF.out).trans' f6 (fun k hk e => by have e : k = w.heap.size := e; omega))
 exact bodyPost_ret (v := .tuple #[evV v, .int .i64 c]) (by simp [results, Tryz.results177, go_sem, y0, y1, y2, y3, y4, evV]) rfl ⟨rfl, HL.out.fr0 f6 hk9, hfr9⟩
set_option maxHeartbeats 2000000 in
theorem LIs.all {w : World} {lb n : Nat} {E : List Ev} {ft : Nat → Prop} (h : LIs w lb n E ft) :
  Calls Tryz.prog 176 #[.pointer (some ⟨lb, 0, none⟩)] w fun e w' => ∃ v, e = .returned v ∧ w'.ownsRow w.heap.size 30 5 v E.length (flatEv E) ∧ Fr0 none' w w' := by
 obtain ⟨v0, h1, h2, h3, h4⟩ := h.row
 obtain ⟨a, cap, rfl, hl, hE⟩ := EsIn.of_own h2
 have c0 := cells_in h1 0
 simp at c0
 have hEl : E.length ≤ 10000 := by have := h.good.le; have := h.small; omega
 have HC := Lib.hid (CloneE (n := E.length) (cap := cap) E hE rfl (by omega))
 obtain ⟨m, hm⟩ : ∃ v, E.length = v := ⟨_, rfl⟩
 rw [hm] at HC c0 ⊢
 clear h h1 h2 h3 h4 hl hE hEl
 go_enter Tryz.func176, Tryz.ntmps176
 go_wp2_with fail
 refine HC.out.mono ?_
 rintro e w1 ⟨v, rfl, hr, hf⟩
 have HR := Lib.hid hr
 have HF := Lib.hid hf
 clear hr hf
 go_wp2_with fail
 go_ret
 exact ⟨v, rfl, HR.out, HF.out⟩
set_option maxHeartbeats 2000000 in
theorem LIs.clear {w : World} {lb n : Nat} {E : List Ev} {ft : Nat → Prop} (h : LIs w lb n E ft) :
  Calls Tryz.prog 178 #[.pointer (some ⟨lb, 0, none⟩)] w fun e w' => e = .returned (.tuple #[.int .i64 (E.length : Nat), .int .i64 0]) ∧ LIs w' lb n [] ft ∧ Fr0 ft w w' := by
 have HI := Lib.hid h
 obtain ⟨v0, h1, h2, h3, h4⟩ := h.row
 obtain ⟨a, cap, rfl, hl, hE⟩ := EsIn.of_own h2
 have c0 := cells_in h1 0
 have t0 := thaw_in h1 0
 simp at c0
 have hc := heap_set_cell (o := 0) h1 (.slice none 0 0)
 have hf : Fr0 ft w (w.setCell ⟨lb, 0, none⟩ (.slice none 0 0)) := (Fr0.refl ft w).setCell (fun _ => h.foot) _
 have n1 : (Value.slice none 0 0).ownBlock ≠ some lb := fun e => by cases e
 have n2 : ∀ g, (Value.slice none 0 0).ownBlock = some g → ft g := fun g e => by cases e
 have hc : (w.setCell ⟨lb, 0, none⟩ (.slice none 0 0)).heap[lb]? = some (.cells #[.slice none 0 0, .int .i64 n] 107 (0, 0)) := hc
 have HL := Lib.hid (show LIs (w.setCell ⟨lb, 0, none⟩ (.slice none 0 0)) lb n [] ft from ⟨⟨.slice none 0 0, hc, World.ownsRow_nil _ _ _ _, n1, n2⟩, GoodE.nil n, h.small, h.foot, fun k hk => Nat.lt_of_lt_of_le (h.lt k hk) hf.size⟩)
 have HF := Lib.hid hf
 obtain ⟨m, hm⟩ : ∃ v, E.length = v := ⟨_, rfl⟩
 rw [hm] at c0 ⊢
 clear h h1 h2 h3 h4 hl hE hc hf
 go_enter Tryz.func178, Tryz.ntmps178
 go_wp2_with fail
 go_ret2
 exact ⟨rfl, HL.out, HF.out⟩
/-
  calendar: a list's TakeBefore and Put; merge: Cut.
-/

set_option maxHeartbeats 2000000 in
theorem Cut_any {w : World} {a : Option Addr} {n cap : Nat} (L : List Ev) (h : EsIn w a L) (hl : L.length = n) (hn : n ≤ 10000) (hc : (a = none ∧ cap = 0) ∨ ∃ g, a = some ⟨g, 0, none⟩ ∧ n ≤ cap) (hA : AscE L) (t : Int) :
  Calls Tryz.prog 186 #[.slice a n cap, .int .i64 t] w fun e w' => ∃ v u, e = .returned (.tuple #[v, u, .int .i64 0]) ∧ w'.ownsRow w.heap.size 30 5 v (befE t L).length (flatEv (befE t L)) ∧ w'.ownsRow w.heap.size 30 5 u (aftE t L).length (flatEv (aftE t L)) ∧ (∀ g, v.ownBlock = some g → u.ownBlock ≠ some g) ∧ Fr0 none' w w' := by
 obtain ⟨W0, hW0⟩ : ∃ W, w.alloc (.cells #[.int .i64 t] 3) = W := ⟨_, rfl⟩
 have hf0 : Fr0 none' w W0 := by rw [← hW0]; exact (Fr0.refl _ _).alloc _
 have hb0 : Box W0 w.heap.size (.int .i64 t) := by rw [← hW0]; exact Box.new w _ _
 have HS := Lib.hid (Sorted_any (cap := cap) L (h.later hf0) hl hn)
 rw [show decide (AscE L) = true from decide_eq_true hA] at HS
 have HX := Lib.hid (fun (W : World) (hf : Fr0 none' W0 W) => IndexE (cap := cap) L ((h.later hf0).later hf) hl (by omega) 190 #[.pointer (some ⟨w.heap.size, 0, none⟩)] (fun x => !decide (x.key.time < t)) (fun _ _ => rfl)
  (fun x W' hfW => cutOne_any x ((hb0.fr0 hf id).fr0 hfW id)))
 obtain ⟨ix, hix⟩ : ∃ v, idxI (fun x => !decide (x.key.time < t)) L = v := ⟨_, rfl⟩
 rw [hix] at HX
 have hx0 : (ix = -1 ∧ befE t L = L.take n ∧ aftE t L = L.drop n) ∨ ∃ k : Nat, ix = k ∧ k < n ∧ befE t L = L.take k ∧ aftE t L = L.drop k := by
  rcases idxI_cases (fun x : Ev => !decide (x.key.time < t)) L with ⟨h1, _⟩ | ⟨k, h1, hk, _⟩
  ·obtain ⟨e1, e2, _⟩ := cut_at (t := t) hA (k := n) (by rw [h1, if_pos (by omega), hl])
   exact .inl ⟨by omega, e1, e2⟩
  ·obtain ⟨e1, e2, _⟩ := cut_at (t := t) hA (k := k) (by rw [h1, if_neg (by omega)])
   exact .inr ⟨k, by omega, by omega, e1, e2⟩
 have H := Lib.hid (h.later hf0)
 have Hl := Lib.hid hl
 have HF := Lib.hid hf0
 clear h hl hA hf0 hb0 hix
 rcases hc with ⟨rfl, rfl⟩ | ⟨g, rfl, hnc⟩
 ·have hL : L = [] := EsIn.nil_len H.out
  subst hL
  obtain rfl : n = 0 := by rw [← Hl.out]; rfl
  obtain rfl : ix = -1 := by
   rcases hx0 with ⟨h, _⟩ | ⟨k, _, hk, _⟩
   ·exact h
   ·omega
  have HC1 := Lib.hid (fun (W : World) (hf : Fr0 none' W0 W) => CloneE (a := none) (n := 0) (cap := 0) [] (esIn_nil W none) rfl (by omega))
  have HC2 := HC1
  obtain ⟨L, hL⟩ : ∃ L : List Ev, [] = L := ⟨_, rfl⟩
  have hb9 : befE t L = L.take 0 := by rw [← hL]; rfl
  have ha9 : aftE t L = L.drop 0 := by rw [← hL]; rfl
  have hl9 : L.length = 0 := by rw [← hL]; rfl
  rw [hL] at HC1 HC2 ⊢
  rw [hb9, ha9]
  have HC1 : Hid (∀ W, Fr0 none' W0 W → Calls Tryz.prog 26 #[.slice none 0 0] W fun e w' => ∃ v, e = .returned v ∧ w'.ownsRow W.heap.size 30 5 v 0 (flatEv (L.take 0)) ∧ Fr0 none' W w') := by rw [← hL]; rw [← hL] at HC1; exact HC1
  have HC2 : Hid (∀ W, Fr0 none' W0 W → Calls Tryz.prog 26 #[.slice none 0 0] W fun e w' => ∃ v, e = .returned v ∧ w'.ownsRow W.heap.size 30 5 v 0 (flatEv (L.drop 0)) ∧ Fr0 none' W w') := by rw [← hL]; rw [← hL] at HC2; exact HC2
  have Hl := Lib.hid hl9
  clear hb9 ha9 hl9 hL hx0
  subst hW0
  go_enter Tryz.func186, Tryz.ntmps186
  go_wp2_with fail
  refine HS.out.mono ?_
  rintro e w1 ⟨rfl, hf1⟩
  have F1 := Lib.hid hf1
  clear hf1
  go_wp2_with fail
  refine (HX.out w1 F1.out).mono ?_
  rintro e w2 ⟨rfl, hf2⟩
  have F2 := Lib.hid (F1.out.trans hf2)
  clear hf2
  go_wp2_with fail
  refine wp_region_held_drew (S := fun W' => Fr0 none' w2 W') (by kernel_rfl) ((Fr0.refl none' w2).drew) (fun hHeld => ?_)
  refine tk0 (i := 0) (v := .slice (none) (0) 0) ?_
  try simp only[pUt,pUn,sEt,sEz,sEs]
  refine tk0 (i := 1) (v := .int .i64 ((0 : Nat) : Int)) ?_
  try simp only[pUt,pUn,sEt,sEz,sEs]
  refine tk0 (i := 2) (v := .slice (none) (0) 0) ?_
  try simp only[pUt,pUn,sEt,sEz,sEs]
  refine tk0 (i := 4) (v := .slice (none) (0) 0) ?_
  try simp only[pUt,pUn,sEt,sEz,sEs]
  refine tk0 (i := 5) (v := .int .i64 ((0 : Nat) : Int)) ?_
  try simp only[pUt,pUn,sEt,sEz,sEs]
  refine tk0 (i := 6) (v := .slice (none) (0) (0)) ?_
  try simp only[pUt,pUn,sEt,sEz,sEs]
  refine take_call (i := 3) rfl (by kernel_rfl) (by kernel_rfl) (fun K hK => ?_)
  go_simp
  refine (HC1.out _ (F2.out.trans hHeld)).mono ?_
  rintro e w3 ⟨r1, rfl, hr1, hf3⟩
  have F3 := Lib.hid (hHeld.trans hf3)
  have R1 := Lib.hid (ownsRow_k_mono hr1 (HF.out.trans (F2.out.trans hHeld)).size)
  clear hf3 hr1
  go_wp2_with fail
  refine hK.out _ _ F3.out (fun hHeld => ?_)
  clear hK K
  try simp only[pUt,pUn,sEt,sEz,sEs]
  refine take_call (i := 7) rfl (by kernel_rfl) (by kernel_rfl) (fun K hK => ?_)
  go_simp
  refine (HC2.out _ (F2.out.trans hHeld)).mono ?_
  rintro e w4 ⟨r2, rfl, hr2, hf4⟩
  have F4 := Lib.hid (hHeld.trans hf4)
  have HD := Lib.hid (show ∀ g, r1.ownBlock = some g → r2.ownBlock ≠ some g from fun g h1 h2 => by
   have a1 := (R1.out.lt g h1).2
   have a2 := (hr2.lt g h2).1
   omega)
  have R1 := Lib.hid (ownsRow_fr0 R1.out hf4 (fun _ _ h => h))
  have R2 := Lib.hid (ownsRow_k_mono hr2 (HF.out.trans (F2.out.trans hHeld)).size)
  clear hf4 hr2
  go_wp2_with fail
  refine hK.out _ _ F4.out (fun hHeld => ?_)
  clear hK K
  try simp only[pUt,pUn,sEt,sEz,sEs]
  refine tk0 (i := 8) (v := r1) ?_
  try simp only[pUt,pUn,sEt,sEz,sEs]
  refine tk0 (i := 9) (v := r2) ?_
  try simp only[pUt,pUn,sEt,sEz,sEs]
  refine tk0 (i := 10) (v := .int .i64 0) ?_
  try simp only[pUt,pUn,sEt,sEz,sEs]
  refine wpAnyH_done (by kernel_rfl) ?_ _
  have HFF := Lib.hid (HF.out.trans (F2.out.trans hHeld))
  clear hHeld
  go_wp2_with fail
  refine bodyPost_ret (v := .tuple #[r1, r2, .int .i64 0]) (by simp [results, Tryz.results186, go_sem]) rfl ⟨r1, r2, rfl, ?_, ?_, HD.out, HFF.out⟩
  ·rw [show (List.take (0) L).length = 0 by rw [List.length_take, Hl.out] <;> omega]
   exact R1.out
  ·rw [show (List.drop (0) L).length = 0 by rw [List.length_drop, Hl.out] <;> omega]
   exact R2.out
 ·rcases hx0 with ⟨rfl, e1, e2⟩ | ⟨k, rfl, hk, e1, e2⟩
  ·rw [e1, e2]
   have HC1 := Lib.hid (fun (W : World) (hf : Fr0 none' W0 W) => CloneE (n := n) (cap := cap) (L.take n) ((H.out.later hf).take n) (by rw [List.length_take, Hl.out]; omega) (by omega))
   have HC2 := Lib.hid (fun (W : World) (hf : Fr0 none' W0 W) => CloneE (n := 0) (cap := cap - n) (L.drop n) ((H.out.later hf).restR (by rw [Hl.out]; exact hnc) n) (by rw [List.length_drop, Hl.out]; omega) (by omega))
   have hdR : (if cap = n then some (⟨g, 0, none⟩ : Addr) else some ⟨g, n * 5, none⟩) = dR cap n (some ⟨g, 0, none⟩) := by unfold dR; rw [Option.map_some, Addr.add_lit, Nat.zero_add]
   have m2 : (n : Int) ≤ (cap : Int) := by omega
   clear e1 e2
   subst hW0
   go_enter Tryz.func186, Tryz.ntmps186
   go_wp2_with fail
   refine HS.out.mono ?_
   rintro e w1 ⟨rfl, hf1⟩
   have F1 := Lib.hid hf1
   clear hf1
   go_wp2_with fail
   refine (HX.out w1 F1.out).mono ?_
   rintro e w2 ⟨rfl, hf2⟩
   have F2 := Lib.hid (F1.out.trans hf2)
   clear hf2
   go_wp2_with fail
   refine wp_region_held_drew (S := fun W' => Fr0 none' w2 W') (by kernel_rfl) ((Fr0.refl none' w2).drew) (fun hHeld => ?_)
   refine tk0 (i := 0) (v := .slice (some ⟨g, 0, none⟩) (n) cap) ?_
   try simp only[pUt,pUn,sEt,sEz,sEs]
   refine tk0 (i := 1) (v := .int .i64 ((n : Nat) : Int)) ?_
   try simp only[pUt,pUn,sEt,sEz,sEs]
   refine tk0 (i := 2) (v := .slice (some ⟨g, 0, none⟩) (n) cap) ?_
   try simp only[pUt,pUn,sEt,sEz,sEs]
   refine tk0 (i := 4) (v := .slice (some ⟨g, 0, none⟩) (n) cap) ?_
   try simp only[pUt,pUn,sEt,sEz,sEs]
   refine tk0 (i := 5) (v := .int .i64 ((n : Nat) : Int)) ?_
   try simp only[pUt,pUn,sEt,sEz,sEs]
   refine tk0 (i := 6) (v := .slice (dR cap n (some ⟨g, 0, none⟩)) (0) (cap - n)) ?_
   try simp only[pUt,pUn,sEt,sEz,sEs]
   refine take_call (i := 3) rfl (by kernel_rfl) (by kernel_rfl) (fun K hK => ?_)
   go_simp
   refine (HC1.out _ (F2.out.trans hHeld)).mono ?_
   rintro e w3 ⟨r1, rfl, hr1, hf3⟩
   have F3 := Lib.hid (hHeld.trans hf3)
   have R1 := Lib.hid (ownsRow_k_mono hr1 (HF.out.trans (F2.out.trans hHeld)).size)
   clear hf3 hr1
   go_wp2_with fail
   refine hK.out _ _ F3.out (fun hHeld => ?_)
   clear hK K
   try simp only[pUt,pUn,sEt,sEz,sEs]
   refine take_call (i := 7) rfl (by kernel_rfl) (by kernel_rfl) (fun K hK => ?_)
   go_simp
   refine (HC2.out _ (F2.out.trans hHeld)).mono ?_
   rintro e w4 ⟨r2, rfl, hr2, hf4⟩
   have F4 := Lib.hid (hHeld.trans hf4)
   have HD := Lib.hid (show ∀ g, r1.ownBlock = some g → r2.ownBlock ≠ some g from fun g h1 h2 => by
    have a1 := (R1.out.lt g h1).2
    have a2 := (hr2.lt g h2).1
    omega)
   have R1 := Lib.hid (ownsRow_fr0 R1.out hf4 (fun _ _ h => h))
   have R2 := Lib.hid (ownsRow_k_mono hr2 (HF.out.trans (F2.out.trans hHeld)).size)
   clear hf4 hr2
   go_wp2_with fail
   refine hK.out _ _ F4.out (fun hHeld => ?_)
   clear hK K
   try simp only[pUt,pUn,sEt,sEz,sEs]
   refine tk0 (i := 8) (v := r1) ?_
   try simp only[pUt,pUn,sEt,sEz,sEs]
   refine tk0 (i := 9) (v := r2) ?_
   try simp only[pUt,pUn,sEt,sEz,sEs]
   refine tk0 (i := 10) (v := .int .i64 0) ?_
   try simp only[pUt,pUn,sEt,sEz,sEs]
   refine wpAnyH_done (by kernel_rfl) ?_ _
   have HFF := Lib.hid (HF.out.trans (F2.out.trans hHeld))
   clear hHeld
   go_wp2_with fail
   refine bodyPost_ret (v := .tuple #[r1, r2, .int .i64 0]) (by simp [results, Tryz.results186, go_sem]) rfl ⟨r1, r2, rfl, ?_, ?_, HD.out, HFF.out⟩
   ·rw [show (List.take (n) L).length = n by rw [List.length_take, Hl.out] <;> omega]
    exact R1.out
   ·rw [show (List.drop (n) L).length = 0 by rw [List.length_drop, Hl.out] <;> omega]
    exact R2.out
  ·rw [e1, e2]
   have HC1 := Lib.hid (fun (W : World) (hf : Fr0 none' W0 W) => CloneE (n := k) (cap := cap) (L.take k) ((H.out.later hf).take k) (by rw [List.length_take, Hl.out]; omega) (by omega))
   have HC2 := Lib.hid (fun (W : World) (hf : Fr0 none' W0 W) => CloneE (n := n - k) (cap := cap - k) (L.drop k) ((H.out.later hf).restR (by rw [Hl.out]; exact hnc) k) (by rw [List.length_drop, Hl.out]) (by omega))
   have hdR : (if cap = k then some (⟨g, 0, none⟩ : Addr) else some ⟨g, k * 5, none⟩) = dR cap k (some ⟨g, 0, none⟩) := by unfold dR; rw [Option.map_some, Addr.add_lit, Nat.zero_add]
   have m1 : (k : Int) ≤ (n : Int) := by omega
   have m2 : (n : Int) ≤ (cap : Int) := by omega
   have m3 : (k : Int) ≤ (cap : Int) := by omega
   have m4 : (0 : Int) ≤ (k : Int) := by omega
   have d5 : decide ((k : Int) < 0) = false := decide_eq_false (by omega)
   clear e1 e2
   subst hW0
   go_enter Tryz.func186, Tryz.ntmps186
   go_wp2_with fail
   refine HS.out.mono ?_
   rintro e w1 ⟨rfl, hf1⟩
   have F1 := Lib.hid hf1
   clear hf1
   go_wp2_with fail
   refine (HX.out w1 F1.out).mono ?_
   rintro e w2 ⟨rfl, hf2⟩
   have F2 := Lib.hid (F1.out.trans hf2)
   clear hf2
   go_wp2_with fail
   refine wp_region_held_drew (S := fun W' => Fr0 none' w2 W') (by kernel_rfl) ((Fr0.refl none' w2).drew) (fun hHeld => ?_)
   refine tk0 (i := 0) (v := .slice (some ⟨g, 0, none⟩) (n) cap) ?_
   try simp only[pUt,pUn,sEt,sEz,sEs]
   refine tk0 (i := 1) (v := .int .i64 ((k : Nat) : Int)) ?_
   try simp only[pUt,pUn,sEt,sEz,sEs]
   refine tk0 (i := 2) (v := .slice (some ⟨g, 0, none⟩) (k) cap) ?_
   try simp only[pUt,pUn,sEt,sEz,sEs]
   refine tk0 (i := 4) (v := .slice (some ⟨g, 0, none⟩) (n) cap) ?_
   try simp only[pUt,pUn,sEt,sEz,sEs]
   refine tk0 (i := 5) (v := .int .i64 ((k : Nat) : Int)) ?_
   try simp only[pUt,pUn,sEt,sEz,sEs]
   refine tk0 (i := 6) (v := .slice (dR cap k (some ⟨g, 0, none⟩)) (n - k) (cap - k)) ?_
   try simp only[pUt,pUn,sEt,sEz,sEs]
   refine take_call (i := 3) rfl (by kernel_rfl) (by kernel_rfl) (fun K hK => ?_)
   go_simp
   refine (HC1.out _ (F2.out.trans hHeld)).mono ?_
   rintro e w3 ⟨r1, rfl, hr1, hf3⟩
   have F3 := Lib.hid (hHeld.trans hf3)
   have R1 := Lib.hid (ownsRow_k_mono hr1 (HF.out.trans (F2.out.trans hHeld)).size)
   clear hf3 hr1
   go_wp2_with fail
   refine hK.out _ _ F3.out (fun hHeld => ?_)
   clear hK K
   try simp only[pUt,pUn,sEt,sEz,sEs]
   refine take_call (i := 7) rfl (by kernel_rfl) (by kernel_rfl) (fun K hK => ?_)
   go_simp
   refine (HC2.out _ (F2.out.trans hHeld)).mono ?_
   rintro e w4 ⟨r2, rfl, hr2, hf4⟩
   have F4 := Lib.hid (hHeld.trans hf4)
   have HD := Lib.hid (show ∀ g, r1.ownBlock = some g → r2.ownBlock ≠ some g from fun g h1 h2 => by
    have a1 := (R1.out.lt g h1).2
    have a2 := (hr2.lt g h2).1
    omega)
   have R1 := Lib.hid (ownsRow_fr0 R1.out hf4 (fun _ _ h => h))
   have R2 := Lib.hid (ownsRow_k_mono hr2 (HF.out.trans (F2.out.trans hHeld)).size)
   clear hf4 hr2
   go_wp2_with fail
   refine hK.out _ _ F4.out (fun hHeld => ?_)
   clear hK K
   try simp only[pUt,pUn,sEt,sEz,sEs]
   refine tk0 (i := 8) (v := r1) ?_
   try simp only[pUt,pUn,sEt,sEz,sEs]
   refine tk0 (i := 9) (v := r2) ?_
   try simp only[pUt,pUn,sEt,sEz,sEs]
   refine tk0 (i := 10) (v := .int .i64 0) ?_
   try simp only[pUt,pUn,sEt,sEz,sEs]
   refine wpAnyH_done (by kernel_rfl) ?_ _
   have HFF := Lib.hid (HF.out.trans (F2.out.trans hHeld))
   clear hHeld
   go_wp2_with fail
   refine bodyPost_ret (v := .tuple #[r1, r2, .int .i64 0]) (by simp [results, Tryz.results186, go_sem]) rfl ⟨r1, r2, rfl, ?_, ?_, HD.out, HFF.out⟩
   ·rw [show (List.take (k) L).length = k by rw [List.length_take, Hl.out] <;> omega]
    exact R1.out
   ·rw [show (List.drop (k) L).length = n - k by rw [List.length_drop, Hl.out] <;> omega]
    exact R2.out
end Go.Proofs.YtieeloealklkgaaGreat

/-
  A region that draws, walked by hand, whose last operations wait for all others and may undo what the loads lean on.
-/
namespace Go.Proofs.YtieeloealklkgaaGreat
open Go Go.RowKit
variable {P : Program} {ops : Array Oper} {Q : Exit → Act → World → Prop} {md : Region.Mode} {S : World → Prop} {zs : List Nat}

/-- None of zs has run. -/
def undone (zs : List Nat) (listed : Array Bool) : Bool := zs.all (fun z => !listed.getD z true)
/-- Whatever order is picked from here on; S holds until one of zs has run. -/
def wpAnyY (P : Program) (md : Region.Mode) (ops : Array Oper) (Q : Exit → Act → World → Prop) (S : World → Prop) (zs : List Nat) : Nat → Array Bool → Act → World → Prop
 | 0, listed, a, w => Region.ready md ops listed = [] ∧ Q .normal a w
 | fuel + 1, listed, a, w =>
  (Region.ready md ops listed = [] → Q .normal a w) ∧
  ∀ i ∈ Region.ready md ops listed, wpOp P ops Q i (fun a' w' => (undone zs (listed.setIfInBounds i true) = false ∨ S w') ∧ wpAnyY P md ops Q S zs fuel (listed.setIfInBounds i true) a' w') a w
theorem wpAny_of_Y : ∀ (fuel : Nat) (listed : Array Bool) (a : Act) (w : World), wpAnyY P md ops Q S zs fuel listed a w → wpAny P md ops Q fuel listed a w
 | 0, _, _, _, h => h
 | fuel + 1, _, _, _, h => ⟨h.1, fun i hi => wpOp_mono (fun a' w' h' => wpAny_of_Y fuel _ a' w' h'.2) (h.2 i hi)⟩

theorem wpAnyY_first {i : Nat} {oi : Oper} {v : Value} (hi : ops[i]? = some oi) (hsel : ∀ (j : Nat) (o : Oper) cs b, ops[j]? = some o → o.op ≠ .select cs b)
  (hQ : ∀ c a w, Q (.panic c) (a.put oi.dst v) w → Q (.panic c) a w) (hz : ∀ z ∈ zs, ∀ listed : Array Bool, i ∈ Region.ready md ops listed → z ∈ Region.ready md ops listed → False) :
  ∀ (fuel : Nat) (listed : Array Bool) (a : Act) (w : World),
   (∀ j oj, ops[j]? = some oj → j ≠ i → listed.getD j true = false → (∀ e ∈ oj.after, Region.binds md e = true → e.on ≠ i) → oi.apart ops oj = true) →
   i ∈ Region.ready md ops listed → undone zs listed = true → YieldsIf P ops S oi v a → S w →
   wpAnyY P md ops Q S zs fuel (listed.setIfInBounds i true) (a.put oi.dst v) w → wpAnyY P md ops Q S zs (fuel + 1) listed a w := by
 intro fuel
 induction fuel with
 | zero =>
  intro listed a w _ hr hun0 hy hS H
  refine ⟨fun h => (by rw [h] at hr; cases hr), fun j hj => ?_⟩
  by_cases hji : j = i
  ·subst hji; exact hy.wpOp hi hS ⟨.inr hS, H⟩
  ·have := ready_mono hj hji
   rw [H.1] at this
   cases this
 | succ fuel ih =>
  intro listed a w hfree hr hun0 hy hS H
  refine ⟨fun h => (by rw [h] at hr; cases hr), fun j hj => ?_⟩
  by_cases hji : j = i
  ·subst hji; exact hy.wpOp hi hS ⟨.inr hS, H⟩
  ·have h1 := H.2 j (ready_mono hj hji)
   obtain ⟨hjun, oj, hoj, hall⟩ := mem_ready.1 hj
   have hnot : ∀ e ∈ oj.after, Region.binds md e = true → e.on ≠ i := fun e he hb heq => by
    have h1 := hall e he hb
    have h0 := (mem_ready.1 hr).1
    rw [heq] at h1
    rcases Nat.lt_or_ge i listed.size with h' | h'
    ·simp [h'] at h0 h1; rw [h0] at h1; cases h1
    ·simp [Array.getElem?_eq_none h'] at h1
   have h2 := wpOp_putIf hoj (hfree j oj hoj hji hjun hnot) (fun cs b => hsel i oi cs b hi) (fun cs b => hsel j oj cs b hoj) hQ hy h1
   have hfree' : ∀ k ok, ops[k]? = some ok → k ≠ i → (listed.setIfInBounds j true).getD k true = false →
     (∀ e ∈ ok.after, Region.binds md e = true → e.on ≠ i) → oi.apart ops ok = true := fun k ok hk hki hun hno => by
    refine hfree k ok hk hki ?_ hno
    by_cases hjk : j = k
    ·subst hjk; exact hjun
    ·rw [getD_set_ne true hjk] at hun; exact hun
   have hjz : ∀ z ∈ zs, z ≠ i ∧ z ≠ j := fun z h => ⟨fun e => hz z h listed hr (e ▸ hr), fun e => hz z h listed hr (e ▸ hj)⟩
   have hu1 : undone zs (listed.setIfInBounds j true) = true := by
    unfold undone at hun0 ⊢
    rw [List.all_eq_true] at hun0 ⊢
    intro z hm
    rw [getD_set_ne true (Ne.symm (hjz z hm).2)]
    exact hun0 z hm
   have hu2 : undone zs ((listed.setIfInBounds i true).setIfInBounds j true) = true := by
    unfold undone at hun0 ⊢
    rw [List.all_eq_true] at hun0 ⊢
    intro z hm
    rw [getD_set_ne true (Ne.symm (hjz z hm).2), getD_set_ne true (Ne.symm (hjz z hm).1)]
    exact hun0 z hm
   refine wpOp_mono (fun a' w' h3 => ?_) h2
   have hS' : S w' := h3.2.1.elim (fun h => by rw [hu2] at h; cases h) id
   refine ⟨.inr hS', ih (listed.setIfInBounds j true) a' w' hfree' (ready_mono hr (Ne.symm hji)) hu1 h3.1 hS' ?_⟩
   rw [Array.setIfInBounds_comm _ _ hji]
   exact h3.2.2

theorem waitsY_not {z i : Nat} (h : waits md ops z i = true) (listed : Array Bool) (hi : i ∈ Region.ready md ops listed) (hz : z ∈ Region.ready md ops listed) : False := by
 obtain ⟨_, oz, hoz, hall⟩ := mem_ready.1 hz
 unfold waits at h
 rw [hoz] at h
 obtain ⟨e, he, hb⟩ := List.any_eq_true.1 h
 replace he : e ∈ oz.after := by simpa using he
 simp only [Bool.and_eq_true, beq_iff_eq] at hb
 have h1 := hall e he hb.1
 have h0 := (mem_ready.1 hi).1
 rw [hb.2] at h1
 rcases Nat.lt_or_ge i listed.size with h' | h'
 ·simp [h'] at h0 h1; rw [h0] at h1; cases h1
 ·simp [Array.getElem?_eq_none h'] at h1
variable {i : Nat} {oi : Oper} {fuel : Nat} {listed : Array Bool} {a : Act} {w : World}
theorem takeY_on {v : Value} (hi : ops.toList[i]? = some oi) (hz : zs.all (fun z => waits md ops z i) = true) (hu : undone zs listed = true)
  (hs : Region.noSelect ops = true) (hf : Region.free md ops listed i = true) (hr : (Region.ready md ops listed).contains i = true)
  (hQ : ∀ c a w, Q (.panic c) (a.put oi.dst v) w → Q (.panic c) a w) (hw : Region.wanted oi (yielded ops a.tmps) = true) (hy : ∀ w, S w → (execOp a.eval oi).run P w = .ok (.value v) w) (hS : S w)
  (h : wpAnyY P md ops Q S zs fuel (listed.setIfInBounds i true) (a.put oi.dst v) w) : wpAnyY P md ops Q S zs (fuel + 1) listed a w :=
 wpAnyY_first (op_at hi) (Region.noSelect_spec hs) hQ (fun z hm l h1 h2 => waitsY_not (List.all_eq_true.1 hz z hm) l h1 h2) fuel listed a w (Region.free_spec (op_at hi) hf) (by simpa using hr) hu (.inl ⟨hw, hy⟩) hS h
theorem takeY_call (hi : ops.toList[i]? = some oi) (hr : Region.ready md ops listed = [i]) (hw : Region.wanted oi (yielded ops a.tmps) = true)
  (h : ∀ K' : Act → World → Prop, Shut (∀ a w, (undone zs (listed.setIfInBounds i true) = false ∨ S w) → wpAnyY P md ops Q S zs fuel (listed.setIfInBounds i true) a w → K' a w) → Oper.wp P oi a w K' Q) : wpAnyY P md ops Q S zs (fuel + 1) listed a w := by
 refine ⟨fun h0 => (by rw [hr] at h0; cases h0), fun j hj => ?_⟩
 rw [hr] at hj
 obtain rfl : j = i := by simpa using hj
 exact wpOp_step (op_at hi) (fun K' hK => by rw [if_pos hw]; exact h K' (fun a w h1 h2 => hK a w ⟨h1, h2⟩))
theorem takeY_two {j : Nat} {oj : Oper} (hi : ops.toList[i]? = some oi) (hj : ops.toList[j]? = some oj) (hr : Region.ready md ops listed = [i, j]) (hwi : Region.wanted oi (yielded ops a.tmps) = true) (hwj : Region.wanted oj (yielded ops a.tmps) = true)
  (h1 : ∀ K' : Act → World → Prop, Shut (∀ a w, (undone zs (listed.setIfInBounds i true) = false ∨ S w) → wpAnyY P md ops Q S zs fuel (listed.setIfInBounds i true) a w → K' a w) → Oper.wp P oi a w K' Q)
  (h2 : ∀ K' : Act → World → Prop, Shut (∀ a w, (undone zs (listed.setIfInBounds j true) = false ∨ S w) → wpAnyY P md ops Q S zs fuel (listed.setIfInBounds j true) a w → K' a w) → Oper.wp P oj a w K' Q) : wpAnyY P md ops Q S zs (fuel + 1) listed a w := by
 refine ⟨fun h0 => (by rw [hr] at h0; cases h0), fun k hk => ?_⟩
 rw [hr] at hk
 rcases List.mem_cons.1 hk with rfl | hk
 ·exact wpOp_step (op_at hi) (fun K' hK => by rw [if_pos hwi]; exact h1 K' (fun a w h1 h2 => hK a w ⟨h1, h2⟩))
 ·obtain rfl : k = j := by simpa using hk
  exact wpOp_step (op_at hj) (fun K' hK => by rw [if_pos hwj]; exact h2 K' (fun a w h1 h2 => hK a w ⟨h1, h2⟩))
theorem wpAnyY_done (hr : Region.ready md ops listed = []) (h : Q .normal a w) : ∀ fuel, wpAnyY P md ops Q S zs fuel listed a w
 | 0 => ⟨hr, h⟩
 | _ + 1 => ⟨fun _ => h, by rw [hr]; simp⟩
theorem wp_region_Y {id : Nat} (hm : P.follows .mixedOrders = true)
  (h : wpAnyY P .any ops Q S zs ops.size (Array.replicate ops.size false) a w.drew) : (Code.region id ops true).wp P Q a w := wp_region_any hm (wpAny_of_Y _ _ _ _ h)
end Go.Proofs.YtieeloealklkgaaGreat

/-
  calendar: a list's TakeBefore and Put.
-/
namespace Go.Proofs.YtieeloealklkgaaGreat
open Go Go.RowKit
attribute [local go_sem ↓] Go.wp_at_zero Go.wp_at_succ
attribute [local go_sem] Oper.semAt_some wide_fn wide_depth wide_fnR wide_depthR

set_option maxHeartbeats 2000000 in
theorem LIs.takeBefore {w : World} {lb n : Nat} {E : List Ev} {ft : Nat → Prop} (h : LIs w lb n E ft) (t : Int) :
  Calls Tryz.prog 181 #[.pointer (some ⟨lb, 0, none⟩), .int .i64 t] w fun e w' => ∃ v ft', e = .returned v ∧ w'.ownsRow w.heap.size 30 5 v (befE t E).length (flatEv (befE t E)) ∧ LIs w' lb n (aftE t E) ft' ∧ (∀ k, ft' k → ft k ∨ w.heap.size ≤ k) ∧ (∀ g, v.ownBlock = some g → ¬ ft' g) ∧ Fr0 ft w w' := by
 have HI := Lib.hid h
 obtain ⟨v0, h1, h2, h3, h4⟩ := h.row
 obtain ⟨a, cap, rfl, hl, hE⟩ := EsIn.of_own h2
 have c0 := cells_in h1 0
 simp at c0
 have hEl : E.length ≤ 10000 := by have := h.good.le; have := h.small; omega
 have hcap : (a = none ∧ cap = 0) ∨ ∃ g, a = some ⟨g, 0, none⟩ ∧ E.length ≤ cap := by
  rcases h2.2 with ⟨e, h0⟩ | ⟨g, cap', cur, e, _, _, hn, _⟩
  ·injection e with e1 e2 e3
   exact .inl ⟨e1, e3⟩
  ·injection e with e1 e2 e3
   exact .inr ⟨g, e1, by rw [e3]; exact hn⟩
 have HC := Lib.hid (Cut_any (n := E.length) (cap := cap) E hE rfl hEl hcap h.good.asc t)
 have H1 := Lib.hid h1
 obtain ⟨m, hm⟩ : ∃ v, E.length = v := ⟨_, rfl⟩
 rw [hm] at HC c0 H1
 clear h h1 h2 h3 h4 hl hE hEl hcap hm
 go_enter Tryz.func181, Tryz.ntmps181
 go_wp2_with fail
 refine HC.out.mono ?_
 rintro e w1 ⟨v, u, rfl, hv, hu, hd, hf⟩
 obtain ⟨ua, uc, hue, _, _⟩ := EsIn.of_own hu
 obtain ⟨va, vc, hve, _, _⟩ := EsIn.of_own hv
 obtain ⟨ul, hul0⟩ : ∃ m, (aftE t E).length = m := ⟨_, rfl⟩
 obtain ⟨vl, hvl0⟩ : ∃ m, (befE t E).length = m := ⟨_, rfl⟩
 rw [hul0] at hu hue
 rw [hvl0] at hv hve
 rw [← hvl0] at hv
 rw [← hul0] at hu
 have h5 := (hf.block lb (Array.getElem?_eq_some_iff.1 H1.out).1 id).trans H1.out
 have t0 := thaw_in h5 0
 have c1 := cells_in h5 0
 simp at c1
 have hlb : lb < w.heap.size := HI.out.lt lb HI.out.foot
 have hf1 : Fr0 (fun k => k = lb) w1 (w1.setCell ⟨lb, 0, none⟩ u) := (Fr0.refl (fun k => k = lb) w1).setCell (fun _ => rfl) _
 have hvl : v.ownBlock ≠ some lb := fun e => by have := (hv.lt _ e).1; omega
 have hul : u.ownBlock ≠ some lb := fun e => by have := (hu.lt _ e).1; omega
 have hcell : (w1.setCell ⟨lb, 0, none⟩ u).heap[lb]? = some (.cells #[u, .int .i64 n] 107 (0, 0)) := heap_set_cell h5 _
 have HV := Lib.hid (ownsRow_fr0 hv hf1 (fun g hg e => hvl (by rw [hg, e])))
 have hu2 := ownsRow_fr0 hu hf1 (fun g hg e => hul (by rw [hg, e]))
 have hs1 := hf.size
 have hs2 := hf1.size
 have HL := Lib.hid (show LIs (w1.setCell ⟨lb, 0, none⟩ u) lb n (aftE t E) (fun k => k = lb ∨ u.ownBlock = some k) from
  ⟨⟨u, hcell, ownsRow_k_mono hu2 (Nat.zero_le _), hul, fun g hg => .inr hg⟩, HI.out.good.sub List.filter_sublist, HI.out.small, .inl rfl, fun k hk => by
   rcases hk with rfl | hk
   ·omega
   ·exact (hu2.lt k hk).2⟩)
 have HFT := Lib.hid (show ∀ k, (k = lb ∨ u.ownBlock = some k) → ft k ∨ w.heap.size ≤ k from fun k hk => by
  rcases hk with rfl | hk
  ·exact .inl HI.out.foot
  ·exact .inr (hu.lt k hk).1)
 have HDD := Lib.hid (show ∀ g, v.ownBlock = some g → ¬ (g = lb ∨ u.ownBlock = some g) from fun g hg h => by
  rcases h with rfl | h
  ·exact hvl hg
  ·exact hd g hg h)
 have HF := Lib.hid (show Fr0 ft w (w1.setCell ⟨lb, 0, none⟩ u) from (hf.mono (fun _ _ h => h.elim)).trans' hf1 (fun k _ e => by rw [e]; exact HI.out.foot))
 clear hv hu hd hf h5 hf1 hvl hul hcell hu2 hs1 hs2 hul0 hvl0
 subst hue
 subst hve
 go_wp2_with fail
 go_ret
 exact ⟨_, _, rfl, HV.out, HL.out, HFT.out, HDD.out, HF.out⟩
set_option maxHeartbeats 2000000 in
theorem LIs.put {w : World} {lb n : Nat} {E : List Ev} {ft : Nat → Prop} (h : LIs w lb n E ft) (x : Ev) :
  Calls Tryz.prog 179 #[.pointer (some ⟨lb, 0, none⟩), evV x] w fun e w' => e = .returned (.int .i64 (allV n E [x]).2) ∧ ∃ ft', LIs w' lb n (allE n E [x]) ft' ∧ (∀ k, ft' k → ft k ∨ w.heap.size ≤ k) ∧ Fr0 ft w w' := by
 have HI := Lib.hid h
 obtain ⟨v0, h1, h2, h3, h4⟩ := h.row
 obtain ⟨a, cap, rfl, hl, hE⟩ := EsIn.of_own h2
 have hEl : E.length ≤ 10000 := by have := h.good.le; have := h.small; omega
 obtain ⟨W0, hW0⟩ : ∃ W, w.alloc (.cells #[.int .i64 x.key.time, .int .i64 x.key.source, .int .i64 x.key.seq, .int .i64 x.to, .int .i64 x.value] 30) = W := ⟨_, rfl⟩
 have hf0 : Fr0 none' w W0 := by rw [← hW0]; exact (Fr0.refl _ _).alloc _
 have hb0 : W0.heap[w.heap.size]? = some (.cells #[.int .i64 x.key.time, .int .i64 x.key.source, .int .i64 x.key.seq, .int .i64 x.to, .int .i64 x.value] 30 (0, 0)) := by rw [← hW0]; exact World.alloc_heap_new _ _
 have HR := Lib.hid (QRight_is x)
 have HFI := Lib.hid (fun (W : World) (hW : Fr0 none' W0 W) => findC_any (n := E.length) (cap := cap) E ((hE.later hf0).later hW) rfl hEl x.name)
 have H1 := Lib.hid ((hf0.block lb (h.lt lb h.foot) id).trans h1)
 have B0 := Lib.hid hb0
 have F0 := Lib.hid hf0
 have HE := Lib.hid hE
 have HRow := Lib.hid h2
 have Hnlb := Lib.hid h3
 have Hft := Lib.hid h4
 clear h1 h2 h3 h4 hl hE hb0 hf0
 rcases put_cases n E x h.good.le with ⟨hr, e1, e2⟩ | ⟨hr, hn, e1, e2⟩ | ⟨hr, hn, hlen, e1, e2⟩ | ⟨hr, hn, hlen, e1, e2⟩
 ·rw [e1, e2]
  rw [show decide (RightE x) = false from decide_eq_false hr] at HR
  clear h hr e1 e2
  unfold evV at HR ⊢
  subst hW0
  go_enter Tryz.func179, Tryz.ntmps179
  go_wp2_with fail
  refine (HR.out _).mono ?_
  rintro e w1 ⟨rfl, hf⟩
  have F1 := Lib.hid (F0.out.trans hf)
  clear hf
  go_wp2_with fail
  go_ret
  exact ⟨rfl, ft, HI.out.later F1.out, fun k hk => .inl hk, F1.out.mono (fun _ _ h => h.elim)⟩
 ·rw [e1, e2]
  rw [show decide (RightE x) = true from decide_eq_true hr] at HR
  obtain ⟨k, hk⟩ : ∃ k : Nat, idxI (fun y => y.name == x.name) E = k := by
   rcases idxI_cases (fun y : Ev => y.name == x.name) E with ⟨_, h2⟩ | ⟨k, h1, _⟩
   ·obtain ⟨y, hy, hyn⟩ := hn
    have := h2 y hy
    simp [hyn] at this
   ·exact ⟨k, h1⟩
  rw [hk] at HFI
  have d1 : decide ((k : Int) ≥ 0) = true := decide_eq_true (by omega)
  have d2 : decide ((0 : Int) ≤ (k : Int)) = true := decide_eq_true (by omega)
  obtain ⟨m, hm⟩ : ∃ m, E.length = m := ⟨_, rfl⟩
  rw [hm] at HFI H1
  clear h hr e1 e2 hn hk hm hEl
  unfold evV at HR ⊢
  unfold Ev.name at HFI
  subst hW0
  go_enter Tryz.func179, Tryz.ntmps179
  go_wp2_with fail
  refine (HR.out _).mono ?_
  rintro e w1 ⟨rfl, hf⟩
  have F1 := Lib.hid hf
  have b1 := (hf.block w.heap.size (Array.getElem?_eq_some_iff.1 B0.out).1 id).trans B0.out
  have h1 := (hf.block lb (Array.getElem?_eq_some_iff.1 H1.out).1 id).trans H1.out
  have c0 := cells_in h1 0
  have c1 := cells_in h1 1
  have y0 := cells_in b1 0
  have y1 := cells_in b1 1
  have y2 := cells_in b1 2
  have y3 := cells_in b1 3
  have y4 := cells_in b1 4
  simp at c0 c1 y0 y1 y2 y3 y4
  clear hf b1 h1
  go_wp2_with fail
  have HZ := Lib.hid (fun (W' : World) (hf : Fr0 none' w1 W') => (⟨hf.later c0, hf.later y1, hf.later y2⟩ : W'.cell? ⟨lb, 0, none⟩ = some (.slice a m cap) ∧ W'.cell? ⟨w.heap.size, 1, none⟩ = some (.int .i64 x.key.source) ∧ W'.cell? ⟨w.heap.size, 2, none⟩ = some (.int .i64 x.key.seq)))
  clear c0 c1 y0 y1 y2 y3 y4
  refine wp_region_held_drew (S := fun W' => Fr0 none' w1 W') (by kernel_rfl) ((Fr0.refl none' w1).drew) (fun hHeld => ?_)
  refine tkn (i := 0) (v := .pointer (some ⟨lb, 0, none⟩)) (fun W' hSW => ?_) ?_
  ·obtain ⟨c0, y1, y2⟩ := HZ.out W' hSW
   first|go_simp;done|exact rfl|go_simp;rfl|go_simp;omega
  try simp only[pUt,pUn,sEt,sEz,sEs]
  refine tkn (i := 1) (v := .pointer (some ⟨lb, 0, none⟩)) (fun W' hSW => ?_) ?_
  ·obtain ⟨c0, y1, y2⟩ := HZ.out W' hSW
   first|go_simp;done|exact rfl|go_simp;rfl|go_simp;omega
  try simp only[pUt,pUn,sEt,sEz,sEs]
  refine tkn (i := 2) (v := .pointer (some ⟨lb, 0, none⟩)) (fun W' hSW => ?_) ?_
  ·obtain ⟨c0, y1, y2⟩ := HZ.out W' hSW
   first|go_simp;done|exact rfl|go_simp;rfl|go_simp;omega
  try simp only[pUt,pUn,sEt,sEz,sEs]
  refine tkn (i := 3) (v := .slice a m cap) (fun W' hSW => ?_) ?_
  ·obtain ⟨c0, y1, y2⟩ := HZ.out W' hSW
   first|go_simp;done|exact rfl|go_simp;rfl|go_simp;omega
  try simp only[pUt,pUn,sEt,sEz,sEs]
  refine tkn (i := 4) (v := .pointer (some ⟨w.heap.size, 0, none⟩)) (fun W' hSW => ?_) ?_
  ·obtain ⟨c0, y1, y2⟩ := HZ.out W' hSW
   first|go_simp;done|exact rfl|go_simp;rfl|go_simp;omega
  try simp only[pUt,pUn,sEt,sEz,sEs]
  refine tkn (i := 5) (v := .pointer (some ⟨w.heap.size, 1, none⟩)) (fun W' hSW => ?_) ?_
  ·obtain ⟨c0, y1, y2⟩ := HZ.out W' hSW
   first|go_simp;done|exact rfl|go_simp;rfl|go_simp;omega
  try simp only[pUt,pUn,sEt,sEz,sEs]
  refine tkn (i := 6) (v := .int .i64 x.key.source) (fun W' hSW => ?_) ?_
  ·obtain ⟨c0, y1, y2⟩ := HZ.out W' hSW
   first|go_simp;done|exact rfl|go_simp;rfl|go_simp;omega
  try simp only[pUt,pUn,sEt,sEz,sEs]
  refine tkn (i := 7) (v := .pointer (some ⟨w.heap.size, 0, none⟩)) (fun W' hSW => ?_) ?_
  ·obtain ⟨c0, y1, y2⟩ := HZ.out W' hSW
   first|go_simp;done|exact rfl|go_simp;rfl|go_simp;omega
  try simp only[pUt,pUn,sEt,sEz,sEs]
  refine tkn (i := 8) (v := .pointer (some ⟨w.heap.size, 2, none⟩)) (fun W' hSW => ?_) ?_
  ·obtain ⟨c0, y1, y2⟩ := HZ.out W' hSW
   first|go_simp;done|exact rfl|go_simp;rfl|go_simp;omega
  try simp only[pUt,pUn,sEt,sEz,sEs]
  refine tkn (i := 9) (v := .int .i64 x.key.seq) (fun W' hSW => ?_) ?_
  ·obtain ⟨c0, y1, y2⟩ := HZ.out W' hSW
   first|go_simp;done|exact rfl|go_simp;rfl|go_simp;omega
  try simp only[pUt,pUn,sEt,sEz,sEs]
  refine take_call (i := 10) rfl (by kernel_rfl) (by kernel_rfl) (fun K hK => ?_)
  go_simp
  refine (HFI.out _ (F1.out.trans hHeld)).mono ?_
  rintro e w2 ⟨rfl, hf⟩
  have F2 := Lib.hid (hHeld.trans hf)
  clear hf
  go_wp2_with fail
  refine hK.out _ _ F2.out (fun hHeld => ?_)
  clear hK K
  try simp only[pUt,pUn,sEt,sEz,sEs]
  refine tkn (i := 11) (v := .bool true) (fun W' hSW => ?_) ?_
  ·obtain ⟨c0, y1, y2⟩ := HZ.out W' hSW
   first|go_simp;done|exact rfl|go_simp;rfl|go_simp;omega
  try simp only[pUt,pUn,sEt,sEz,sEs]
  refine tkn (i := 12) (v := .bool true) (fun W' hSW => ?_) ?_
  ·obtain ⟨c0, y1, y2⟩ := HZ.out W' hSW
   first|go_simp;done|exact rfl|go_simp;rfl|go_simp;omega
  try simp only[pUt,pUn,sEt,sEz,sEs]
  refine wpAnyH_done (by kernel_rfl) ?_ _
  have F3 := Lib.hid ((F0.out.trans F1.out).trans hHeld)
  clear hHeld F2
  go_wp2_with fail
  go_ret
  exact ⟨rfl, ft, HI.out.later F3.out, fun k hk => .inl hk, F3.out.mono (fun _ _ h => h.elim)⟩
 ·rw [e1, e2]
  rw [show decide (RightE x) = true from decide_eq_true hr] at HR
  have hk : idxI (fun y => y.name == x.name) E = -1 := idxI_none (fun y hy => by simpa using hn y hy)
  rw [hk] at HFI
  rw [hlen] at HFI H1
  obtain ⟨m, hm⟩ : ∃ m, n = m := ⟨_, rfl⟩
  have HIn := HI
  rw [hm] at HFI H1
  have d5 : ((m : Int) == (n : Int)) = true := by rw [hm]; exact beq_self_eq_true _
  clear h hr e1 e2 hn hk hEl hlen
  unfold evV at HR ⊢
  unfold Ev.name at HFI
  subst hW0
  go_enter Tryz.func179, Tryz.ntmps179
  go_wp2_with fail
  refine (HR.out _).mono ?_
  rintro e w1 ⟨rfl, hf⟩
  have F1 := Lib.hid hf
  have b1 := (hf.block w.heap.size (Array.getElem?_eq_some_iff.1 B0.out).1 id).trans B0.out
  have h1 := (hf.block lb (Array.getElem?_eq_some_iff.1 H1.out).1 id).trans H1.out
  have c0 := cells_in h1 0
  have c1 := cells_in h1 1
  have y0 := cells_in b1 0
  have y1 := cells_in b1 1
  have y2 := cells_in b1 2
  have y3 := cells_in b1 3
  have y4 := cells_in b1 4
  simp at c0 c1 y0 y1 y2 y3 y4
  clear hf b1 h1
  have C0 := Lib.hid c0
  have C1 := Lib.hid c1
  go_wp2_with fail
  have HZ := Lib.hid (fun (W' : World) (hf : Fr0 none' w1 W') => (⟨hf.later c0, hf.later y1, hf.later y2⟩ : W'.cell? ⟨lb, 0, none⟩ = some (.slice a m cap) ∧ W'.cell? ⟨w.heap.size, 1, none⟩ = some (.int .i64 x.key.source) ∧ W'.cell? ⟨w.heap.size, 2, none⟩ = some (.int .i64 x.key.seq)))
  clear c0 c1 y0 y1 y2 y3 y4
  refine wp_region_held_drew (S := fun W' => Fr0 none' w1 W') (by kernel_rfl) ((Fr0.refl none' w1).drew) (fun hHeld => ?_)
  refine tkn (i := 0) (v := .pointer (some ⟨lb, 0, none⟩)) (fun W' hSW => ?_) ?_
  ·obtain ⟨c0, y1, y2⟩ := HZ.out W' hSW
   first|go_simp;done|exact rfl|go_simp;rfl|go_simp;omega
  try simp only[pUt,pUn,sEt,sEz,sEs]
  refine tkn (i := 1) (v := .pointer (some ⟨lb, 0, none⟩)) (fun W' hSW => ?_) ?_
  ·obtain ⟨c0, y1, y2⟩ := HZ.out W' hSW
   first|go_simp;done|exact rfl|go_simp;rfl|go_simp;omega
  try simp only[pUt,pUn,sEt,sEz,sEs]
  refine tkn (i := 2) (v := .pointer (some ⟨lb, 0, none⟩)) (fun W' hSW => ?_) ?_
  ·obtain ⟨c0, y1, y2⟩ := HZ.out W' hSW
   first|go_simp;done|exact rfl|go_simp;rfl|go_simp;omega
  try simp only[pUt,pUn,sEt,sEz,sEs]
  refine tkn (i := 3) (v := .slice a m cap) (fun W' hSW => ?_) ?_
  ·obtain ⟨c0, y1, y2⟩ := HZ.out W' hSW
   first|go_simp;done|exact rfl|go_simp;rfl|go_simp;omega
  try simp only[pUt,pUn,sEt,sEz,sEs]
  refine tkn (i := 4) (v := .pointer (some ⟨w.heap.size, 0, none⟩)) (fun W' hSW => ?_) ?_
  ·obtain ⟨c0, y1, y2⟩ := HZ.out W' hSW
   first|go_simp;done|exact rfl|go_simp;rfl|go_simp;omega
  try simp only[pUt,pUn,sEt,sEz,sEs]
  refine tkn (i := 5) (v := .pointer (some ⟨w.heap.size, 1, none⟩)) (fun W' hSW => ?_) ?_
  ·obtain ⟨c0, y1, y2⟩ := HZ.out W' hSW
   first|go_simp;done|exact rfl|go_simp;rfl|go_simp;omega
  try simp only[pUt,pUn,sEt,sEz,sEs]
  refine tkn (i := 6) (v := .int .i64 x.key.source) (fun W' hSW => ?_) ?_
  ·obtain ⟨c0, y1, y2⟩ := HZ.out W' hSW
   first|go_simp;done|exact rfl|go_simp;rfl|go_simp;omega
  try simp only[pUt,pUn,sEt,sEz,sEs]
  refine tkn (i := 7) (v := .pointer (some ⟨w.heap.size, 0, none⟩)) (fun W' hSW => ?_) ?_
  ·obtain ⟨c0, y1, y2⟩ := HZ.out W' hSW
   first|go_simp;done|exact rfl|go_simp;rfl|go_simp;omega
  try simp only[pUt,pUn,sEt,sEz,sEs]
  refine tkn (i := 8) (v := .pointer (some ⟨w.heap.size, 2, none⟩)) (fun W' hSW => ?_) ?_
  ·obtain ⟨c0, y1, y2⟩ := HZ.out W' hSW
   first|go_simp;done|exact rfl|go_simp;rfl|go_simp;omega
  try simp only[pUt,pUn,sEt,sEz,sEs]
  refine tkn (i := 9) (v := .int .i64 x.key.seq) (fun W' hSW => ?_) ?_
  ·obtain ⟨c0, y1, y2⟩ := HZ.out W' hSW
   first|go_simp;done|exact rfl|go_simp;rfl|go_simp;omega
  try simp only[pUt,pUn,sEt,sEz,sEs]
  refine take_call (i := 10) rfl (by kernel_rfl) (by kernel_rfl) (fun K hK => ?_)
  go_simp
  refine (HFI.out _ (F1.out.trans hHeld)).mono ?_
  rintro e w2 ⟨rfl, hf⟩
  have F2 := Lib.hid (hHeld.trans hf)
  clear hf
  go_wp2_with fail
  refine hK.out _ _ F2.out (fun hHeld => ?_)
  clear hK K
  try simp only[pUt,pUn,sEt,sEz,sEs]
  refine tkn (i := 11) (v := .bool false) (fun W' hSW => ?_) ?_
  ·obtain ⟨c0, y1, y2⟩ := HZ.out W' hSW
   first|go_simp;done|exact rfl|go_simp;rfl|go_simp;omega
  try simp only[pUt,pUn,sEt,sEz,sEs]
  refine tkn (i := 12) (v := .bool false) (fun W' hSW => ?_) ?_
  ·obtain ⟨c0, y1, y2⟩ := HZ.out W' hSW
   first|go_simp;done|exact rfl|go_simp;rfl|go_simp;omega
  try simp only[pUt,pUn,sEt,sEz,sEs]
  refine wpAnyH_done (by kernel_rfl) ?_ _
  have F3 := Lib.hid ((F0.out.trans F1.out).trans hHeld)
  have c0 := hHeld.later C0.out
  have c1 := hHeld.later C1.out
  clear hHeld F2
  go_wp2_with fail
  go_quiet (fail)
  have F4 := Lib.hid (F3.out.drewN nq)
  clear F3 c0 c1 C0 C1
  go_wp2
  go_ret
  exact ⟨rfl, ft, HI.out.later F4.out, fun k hk => .inl hk, F4.out.mono (fun _ _ h => h.elim)⟩
 ·rw [e1, e2]
  rw [show decide (RightE x) = true from decide_eq_true hr] at HR
  have hk : idxI (fun y => y.name == x.name) E = -1 := idxI_none (fun y hy => by simpa using hn y hy)
  rw [hk] at HFI
  obtain ⟨m, hm⟩ : ∃ m, E.length = m := ⟨_, rfl⟩
  rw [hm] at HFI H1 hlen
  have d5 : ((m : Int) == (n : Int)) = false := beq_eq_false_iff_ne.2 (by omega)
  have Hm := Lib.hid hm
  have He2 := Lib.hid e2
  clear h hr e1 e2 hn hk hEl hlen hm
  unfold evV at HR ⊢
  unfold Ev.name at HFI
  subst hW0
  go_enter Tryz.func179, Tryz.ntmps179
  go_wp2_with fail
  refine (HR.out _).mono ?_
  rintro e w1 ⟨rfl, hf⟩
  have F1 := Lib.hid hf
  have b1 := (hf.block w.heap.size (Array.getElem?_eq_some_iff.1 B0.out).1 id).trans B0.out
  have h1 := (hf.block lb (Array.getElem?_eq_some_iff.1 H1.out).1 id).trans H1.out
  have c0 := cells_in h1 0
  have c1 := cells_in h1 1
  have y0 := cells_in b1 0
  have y1 := cells_in b1 1
  have y2 := cells_in b1 2
  have y3 := cells_in b1 3
  have y4 := cells_in b1 4
  simp at c0 c1 y0 y1 y2 y3 y4
  clear hf b1 h1
  have C0 := Lib.hid c0
  have C1 := Lib.hid c1
  have HX := Lib.hid ((F1.out.block w.heap.size (Array.getElem?_eq_some_iff.1 B0.out).1 id).trans B0.out)
  have HL1 := Lib.hid ((F1.out.block lb (Array.getElem?_eq_some_iff.1 H1.out).1 id).trans H1.out)
  go_wp2_with fail
  have HZ := Lib.hid (fun (W' : World) (hf : Fr0 none' w1 W') => (⟨hf.later c0, hf.later y1, hf.later y2⟩ : W'.cell? ⟨lb, 0, none⟩ = some (.slice a m cap) ∧ W'.cell? ⟨w.heap.size, 1, none⟩ = some (.int .i64 x.key.source) ∧ W'.cell? ⟨w.heap.size, 2, none⟩ = some (.int .i64 x.key.seq)))
  clear c0 c1 y0 y1 y2 y3 y4
  refine wp_region_held_drew (S := fun W' => Fr0 none' w1 W') (by kernel_rfl) ((Fr0.refl none' w1).drew) (fun hHeld => ?_)
  refine tkn (i := 0) (v := .pointer (some ⟨lb, 0, none⟩)) (fun W' hSW => ?_) ?_
  ·obtain ⟨c0, y1, y2⟩ := HZ.out W' hSW
   first|go_simp;done|exact rfl|go_simp;rfl|go_simp;omega
  try simp only[pUt,pUn,sEt,sEz,sEs]
  refine tkn (i := 1) (v := .pointer (some ⟨lb, 0, none⟩)) (fun W' hSW => ?_) ?_
  ·obtain ⟨c0, y1, y2⟩ := HZ.out W' hSW
   first|go_simp;done|exact rfl|go_simp;rfl|go_simp;omega
  try simp only[pUt,pUn,sEt,sEz,sEs]
  refine tkn (i := 2) (v := .pointer (some ⟨lb, 0, none⟩)) (fun W' hSW => ?_) ?_
  ·obtain ⟨c0, y1, y2⟩ := HZ.out W' hSW
   first|go_simp;done|exact rfl|go_simp;rfl|go_simp;omega
  try simp only[pUt,pUn,sEt,sEz,sEs]
  refine tkn (i := 3) (v := .slice a m cap) (fun W' hSW => ?_) ?_
  ·obtain ⟨c0, y1, y2⟩ := HZ.out W' hSW
   first|go_simp;done|exact rfl|go_simp;rfl|go_simp;omega
  try simp only[pUt,pUn,sEt,sEz,sEs]
  refine tkn (i := 4) (v := .pointer (some ⟨w.heap.size, 0, none⟩)) (fun W' hSW => ?_) ?_
  ·obtain ⟨c0, y1, y2⟩ := HZ.out W' hSW
   first|go_simp;done|exact rfl|go_simp;rfl|go_simp;omega
  try simp only[pUt,pUn,sEt,sEz,sEs]
  refine tkn (i := 5) (v := .pointer (some ⟨w.heap.size, 1, none⟩)) (fun W' hSW => ?_) ?_
  ·obtain ⟨c0, y1, y2⟩ := HZ.out W' hSW
   first|go_simp;done|exact rfl|go_simp;rfl|go_simp;omega
  try simp only[pUt,pUn,sEt,sEz,sEs]
  refine tkn (i := 6) (v := .int .i64 x.key.source) (fun W' hSW => ?_) ?_
  ·obtain ⟨c0, y1, y2⟩ := HZ.out W' hSW
   first|go_simp;done|exact rfl|go_simp;rfl|go_simp;omega
  try simp only[pUt,pUn,sEt,sEz,sEs]
  refine tkn (i := 7) (v := .pointer (some ⟨w.heap.size, 0, none⟩)) (fun W' hSW => ?_) ?_
  ·obtain ⟨c0, y1, y2⟩ := HZ.out W' hSW
   first|go_simp;done|exact rfl|go_simp;rfl|go_simp;omega
  try simp only[pUt,pUn,sEt,sEz,sEs]
  refine tkn (i := 8) (v := .pointer (some ⟨w.heap.size, 2, none⟩)) (fun W' hSW => ?_) ?_
  ·obtain ⟨c0, y1, y2⟩ := HZ.out W' hSW
   first|go_simp;done|exact rfl|go_simp;rfl|go_simp;omega
  try simp only[pUt,pUn,sEt,sEz,sEs]
  refine tkn (i := 9) (v := .int .i64 x.key.seq) (fun W' hSW => ?_) ?_
  ·obtain ⟨c0, y1, y2⟩ := HZ.out W' hSW
   first|go_simp;done|exact rfl|go_simp;rfl|go_simp;omega
  try simp only[pUt,pUn,sEt,sEz,sEs]
  refine take_call (i := 10) rfl (by kernel_rfl) (by kernel_rfl) (fun K hK => ?_)
  go_simp
  refine (HFI.out _ (F1.out.trans hHeld)).mono ?_
  rintro e w2 ⟨rfl, hf⟩
  have F2 := Lib.hid (hHeld.trans hf)
  clear hf
  go_wp2_with fail
  refine hK.out _ _ F2.out (fun hHeld => ?_)
  clear hK K
  try simp only[pUt,pUn,sEt,sEz,sEs]
  refine tkn (i := 11) (v := .bool false) (fun W' hSW => ?_) ?_
  ·obtain ⟨c0, y1, y2⟩ := HZ.out W' hSW
   first|go_simp;done|exact rfl|go_simp;rfl|go_simp;omega
  try simp only[pUt,pUn,sEt,sEz,sEs]
  refine tkn (i := 12) (v := .bool false) (fun W' hSW => ?_) ?_
  ·obtain ⟨c0, y1, y2⟩ := HZ.out W' hSW
   first|go_simp;done|exact rfl|go_simp;rfl|go_simp;omega
  try simp only[pUt,pUn,sEt,sEz,sEs]
  refine wpAnyH_done (by kernel_rfl) ?_ _
  have F3 := Lib.hid (F1.out.trans hHeld)
  have c0 := hHeld.later C0.out
  have c1 := hHeld.later C1.out
  clear hHeld F2
  go_wp2_with fail
  go_quiet (fail)
  have F4 := Lib.hid (F3.out.drewN nq)
  have hX := (F4.out.block w.heap.size (Array.getElem?_eq_some_iff.1 B0.out).1 id).trans B0.out
  have hL := (F4.out.block lb (Array.getElem?_eq_some_iff.1 H1.out).1 id).trans H1.out
  clear F3 c0 c1 C0 C1 HX HL1
  have F4 := Lib.hid (F0.out.trans F4.out)
  generalize w2.drewN nq = W5 at F4 hX hL ⊢
  have HX := Lib.hid hX
  have HL := Lib.hid hL
  clear hX hL F1 HR HFI
  go_wp2_with fail
  have HZ := Lib.hid (fun (W' : World) (hf : Fr0 none' W5 W') => (⟨(hf.block lb (Array.getElem?_eq_some_iff.1 HL.out).1 id).trans HL.out, (hf.block _ (Array.getElem?_eq_some_iff.1 HX.out).1 id).trans HX.out⟩ : W'.heap[lb]? = some (.cells #[.slice a m cap, .int .i64 n] 107 (0, 0)) ∧ W'.heap[w.heap.size]? = some (.cells #[.int .i64 x.key.time, .int .i64 x.key.source, .int .i64 x.key.seq, .int .i64 x.to, .int .i64 x.value] 30 (0, 0))))
  refine wp_region_held_drew (S := fun W' => Fr0 none' W5 W') (by kernel_rfl) ((Fr0.refl none' W5).drew) (fun hHeld => ?_)
  refine tkn (i := 0) (v := .pointer (some ⟨lb, 0, none⟩)) (fun W' hSW => ?_) ?_
  ·obtain ⟨hL, hX⟩ := HZ.out W' hSW
   have y0 := cells_in hX 0
   have y1 := cells_in hX 1
   have y2 := cells_in hX 2
   have y3 := cells_in hX 3
   have y4 := cells_in hX 4
   have c0 := cells_in hL 0
   simp at c0 y0 y1 y2 y3 y4
   clear hL hX
   first|go_simp;done|exact rfl|go_simp;rfl|go_simp;omega
  try simp only[pUt,pUn,sEt,sEz,sEs]
  refine tkn (i := 1) (v := .pointer (some ⟨lb, 0, none⟩)) (fun W' hSW => ?_) ?_
  ·obtain ⟨hL, hX⟩ := HZ.out W' hSW
   have y0 := cells_in hX 0
   have y1 := cells_in hX 1
   have y2 := cells_in hX 2
   have y3 := cells_in hX 3
   have y4 := cells_in hX 4
   have c0 := cells_in hL 0
   simp at c0 y0 y1 y2 y3 y4
   clear hL hX
   first|go_simp;done|exact rfl|go_simp;rfl|go_simp;omega
  try simp only[pUt,pUn,sEt,sEz,sEs]
  refine tkn (i := 2) (v := .pointer (some ⟨lb, 0, none⟩)) (fun W' hSW => ?_) ?_
  ·obtain ⟨hL, hX⟩ := HZ.out W' hSW
   have y0 := cells_in hX 0
   have y1 := cells_in hX 1
   have y2 := cells_in hX 2
   have y3 := cells_in hX 3
   have y4 := cells_in hX 4
   have c0 := cells_in hL 0
   simp at c0 y0 y1 y2 y3 y4
   clear hL hX
   first|go_simp;done|exact rfl|go_simp;rfl|go_simp;omega
  try simp only[pUt,pUn,sEt,sEz,sEs]
  refine tkn (i := 3) (v := .slice a m cap) (fun W' hSW => ?_) ?_
  ·obtain ⟨hL, hX⟩ := HZ.out W' hSW
   have y0 := cells_in hX 0
   have y1 := cells_in hX 1
   have y2 := cells_in hX 2
   have y3 := cells_in hX 3
   have y4 := cells_in hX 4
   have c0 := cells_in hL 0
   simp at c0 y0 y1 y2 y3 y4
   clear hL hX
   first|go_simp;done|exact rfl|go_simp;rfl|go_simp;omega
  try simp only[pUt,pUn,sEt,sEz,sEs]
  refine tkn (i := 4) (v := .agg #[.int .i64 x.key.time, .int .i64 x.key.source, .int .i64 x.key.seq, .int .i64 x.to, .int .i64 x.value]) (fun W' hSW => ?_) ?_
  ·obtain ⟨hL, hX⟩ := HZ.out W' hSW
   have y0 := cells_in hX 0
   have y1 := cells_in hX 1
   have y2 := cells_in hX 2
   have y3 := cells_in hX 3
   have y4 := cells_in hX 4
   have c0 := cells_in hL 0
   simp at c0 y0 y1 y2 y3 y4
   clear hL hX
   first|go_simp;done|exact rfl|go_simp;rfl|go_simp;omega
  try simp only[pUt,pUn,sEt,sEz,sEs]
  refine take_call (i := 5) rfl (by kernel_rfl) (by kernel_rfl) (fun K hK => ?_)
  go_simp
  have hB := fun W (hf : Fr0 none' w W) => bsearchE (n := m) (cap := cap) E x (HE.out.later hf) Hm.out (by have := HI.out.good.le; have := HI.out.small; have := Hm.out; omega) HI.out.good.asc
  unfold evV at hB
  refine (hB _ (F4.out.trans hHeld)).mono ?_
  clear hB
  rintro e w6 ⟨⟨b6, rfl⟩, hf⟩
  have F6 := Lib.hid (hHeld.trans hf)
  clear hf
  go_wp2_with fail
  refine hK.out _ _ F6.out (fun hHeld => ?_)
  clear hK K
  try simp only[pUt,pUn,sEt,sEz,sEs]
  obtain ⟨c, hc⟩ : ∃ c, cntE x E = c := ⟨_, rfl⟩
  rw [hc]
  refine tkn (i := 6) (v := .tuple #[.int .i64 (c : Nat), .bool b6]) (fun W' hSW => ?_) ?_
  ·obtain ⟨hL, hX⟩ := HZ.out W' hSW
   have y0 := cells_in hX 0
   have y1 := cells_in hX 1
   have y2 := cells_in hX 2
   have y3 := cells_in hX 3
   have y4 := cells_in hX 4
   have c0 := cells_in hL 0
   simp at c0 y0 y1 y2 y3 y4
   clear hL hX
   first|go_simp;done|exact rfl|go_simp;rfl|go_simp;omega
  try simp only[pUt,pUn,sEt,sEz,sEs]
  refine tkn (i := 7) (v := .int .i64 (c : Nat)) (fun W' hSW => ?_) ?_
  ·obtain ⟨hL, hX⟩ := HZ.out W' hSW
   have y0 := cells_in hX 0
   have y1 := cells_in hX 1
   have y2 := cells_in hX 2
   have y3 := cells_in hX 3
   have y4 := cells_in hX 4
   have c0 := cells_in hL 0
   simp at c0 y0 y1 y2 y3 y4
   clear hL hX
   first|go_simp;done|exact rfl|go_simp;rfl|go_simp;omega
  try simp only[pUt,pUn,sEt,sEz,sEs]
  refine tkn (i := 8) (v := .bool b6) (fun W' hSW => ?_) ?_
  ·obtain ⟨hL, hX⟩ := HZ.out W' hSW
   have y0 := cells_in hX 0
   have y1 := cells_in hX 1
   have y2 := cells_in hX 2
   have y3 := cells_in hX 3
   have y4 := cells_in hX 4
   have c0 := cells_in hL 0
   simp at c0 y0 y1 y2 y3 y4
   clear hL hX
   first|go_simp;done|exact rfl|go_simp;rfl|go_simp;omega
  try simp only[pUt,pUn,sEt,sEz,sEs]
  refine tkn (i := 9) (v := .int .i64 (c : Nat)) (fun W' hSW => ?_) ?_
  ·obtain ⟨hL, hX⟩ := HZ.out W' hSW
   have y0 := cells_in hX 0
   have y1 := cells_in hX 1
   have y2 := cells_in hX 2
   have y3 := cells_in hX 3
   have y4 := cells_in hX 4
   have c0 := cells_in hL 0
   simp at c0 y0 y1 y2 y3 y4
   clear hL hX
   first|go_simp;done|exact rfl|go_simp;rfl|go_simp;omega
  try simp only[pUt,pUn,sEt,sEz,sEs]
  refine tkn (i := 10) (v := .bool b6) (fun W' hSW => ?_) ?_
  ·obtain ⟨hL, hX⟩ := HZ.out W' hSW
   have y0 := cells_in hX 0
   have y1 := cells_in hX 1
   have y2 := cells_in hX 2
   have y3 := cells_in hX 3
   have y4 := cells_in hX 4
   have c0 := cells_in hL 0
   simp at c0 y0 y1 y2 y3 y4
   clear hL hX
   first|go_simp;done|exact rfl|go_simp;rfl|go_simp;omega
  try simp only[pUt,pUn,sEt,sEz,sEs]
  refine wpAnyH_done (by kernel_rfl) ?_ _
  have Hc := Lib.hid hc
  have FW := Lib.hid (F4.out.trans hHeld)
  have hZ := HZ.out _ hHeld
  have hL := hZ.1
  have y0 := cells_in hZ.2 0
  have y1 := cells_in hZ.2 1
  have y2 := cells_in hZ.2 2
  have y3 := cells_in hZ.2 3
  have y4 := cells_in hZ.2 4
  have c0 := cells_in hZ.1 0
  simp at c0 y0 y1 y2 y3 y4
  have HZ := Lib.hid hZ
  clear hZ hL hc hHeld F6 HX HL F4
  go_wp2_with fail
  clear y0 y1 y2 y3 y4 c0
  refine wp_region_Y (zs := [11]) (S := fun W' => W'.heap[lb]? = some (.cells #[.slice a m cap, .int .i64 n] 107 (0, 0)) ∧ W'.heap[w.heap.size]? = some (.cells #[.int .i64 x.key.time, .int .i64 x.key.source, .int .i64 x.key.seq, .int .i64 x.to, .int .i64 x.value] 30 (0, 0))) (by kernel_rfl) ?_
  have FD := Lib.hid (FW.out.drew)
  have hHeld : (w6.drew).heap[lb]? = some (.cells #[.slice a m cap, .int .i64 n] 107 (0, 0)) ∧ (w6.drew).heap[w.heap.size]? = some (.cells #[.int .i64 x.key.time, .int .i64 x.key.source, .int .i64 x.key.seq, .int .i64 x.to, .int .i64 x.value] 30 (0, 0)) := HZ.out
  generalize w6.drew = W7 at FD hHeld ⊢
  clear HZ FW
  refine takeY_on (i := 0) (v := .pointer (some ⟨lb, 0, none⟩)) rfl (by kernel_rfl) (by kernel_rfl) (by kernel_rfl) (by kernel_rfl) (by kernel_rfl) (fun _ _ _ h => h) (by kernel_rfl) (fun W' hSW => ?_) (by assumption) ?_
  ·obtain ⟨hL, hX⟩ := hSW
   have y0 := cells_in hX 0
   have y1 := cells_in hX 1
   have y2 := cells_in hX 2
   have y3 := cells_in hX 3
   have y4 := cells_in hX 4
   have c0 := cells_in hL 0
   simp at c0 y0 y1 y2 y3 y4
   clear hL hX
   first|go_simp;done|exact rfl|go_simp;rfl|go_simp;omega
  try simp only[pUt,pUn,sEt,sEz,sEs]
  refine takeY_on (i := 1) (v := .pointer (some ⟨lb, 0, none⟩)) rfl (by kernel_rfl) (by kernel_rfl) (by kernel_rfl) (by kernel_rfl) (by kernel_rfl) (fun _ _ _ h => h) (by kernel_rfl) (fun W' hSW => ?_) (by assumption) ?_
  ·obtain ⟨hL, hX⟩ := hSW
   have y0 := cells_in hX 0
   have y1 := cells_in hX 1
   have y2 := cells_in hX 2
   have y3 := cells_in hX 3
   have y4 := cells_in hX 4
   have c0 := cells_in hL 0
   simp at c0 y0 y1 y2 y3 y4
   clear hL hX
   first|go_simp;done|exact rfl|go_simp;rfl|go_simp;omega
  try simp only[pUt,pUn,sEt,sEz,sEs]
  refine takeY_on (i := 2) (v := .pointer (some ⟨lb, 0, none⟩)) rfl (by kernel_rfl) (by kernel_rfl) (by kernel_rfl) (by kernel_rfl) (by kernel_rfl) (fun _ _ _ h => h) (by kernel_rfl) (fun W' hSW => ?_) (by assumption) ?_
  ·obtain ⟨hL, hX⟩ := hSW
   have y0 := cells_in hX 0
   have y1 := cells_in hX 1
   have y2 := cells_in hX 2
   have y3 := cells_in hX 3
   have y4 := cells_in hX 4
   have c0 := cells_in hL 0
   simp at c0 y0 y1 y2 y3 y4
   clear hL hX
   first|go_simp;done|exact rfl|go_simp;rfl|go_simp;omega
  try simp only[pUt,pUn,sEt,sEz,sEs]
  refine takeY_on (i := 3) (v := .pointer (some ⟨lb, 0, none⟩)) rfl (by kernel_rfl) (by kernel_rfl) (by kernel_rfl) (by kernel_rfl) (by kernel_rfl) (fun _ _ _ h => h) (by kernel_rfl) (fun W' hSW => ?_) (by assumption) ?_
  ·obtain ⟨hL, hX⟩ := hSW
   have y0 := cells_in hX 0
   have y1 := cells_in hX 1
   have y2 := cells_in hX 2
   have y3 := cells_in hX 3
   have y4 := cells_in hX 4
   have c0 := cells_in hL 0
   simp at c0 y0 y1 y2 y3 y4
   clear hL hX
   first|go_simp;done|exact rfl|go_simp;rfl|go_simp;omega
  try simp only[pUt,pUn,sEt,sEz,sEs]
  refine takeY_on (i := 4) (v := .slice a m cap) rfl (by kernel_rfl) (by kernel_rfl) (by kernel_rfl) (by kernel_rfl) (by kernel_rfl) (fun _ _ _ h => h) (by kernel_rfl) (fun W' hSW => ?_) (by assumption) ?_
  ·obtain ⟨hL, hX⟩ := hSW
   have y0 := cells_in hX 0
   have y1 := cells_in hX 1
   have y2 := cells_in hX 2
   have y3 := cells_in hX 3
   have y4 := cells_in hX 4
   have c0 := cells_in hL 0
   simp at c0 y0 y1 y2 y3 y4
   clear hL hX
   first|go_simp;done|exact rfl|go_simp;rfl|go_simp;omega
  try simp only[pUt,pUn,sEt,sEz,sEs]
  refine takeY_on (i := 5) (v := .int .i64 (c : Nat)) rfl (by kernel_rfl) (by kernel_rfl) (by kernel_rfl) (by kernel_rfl) (by kernel_rfl) (fun _ _ _ h => h) (by kernel_rfl) (fun W' hSW => ?_) (by assumption) ?_
  ·obtain ⟨hL, hX⟩ := hSW
   have y0 := cells_in hX 0
   have y1 := cells_in hX 1
   have y2 := cells_in hX 2
   have y3 := cells_in hX 3
   have y4 := cells_in hX 4
   have c0 := cells_in hL 0
   simp at c0 y0 y1 y2 y3 y4
   clear hL hX
   first|go_simp;done|exact rfl|go_simp;rfl|go_simp;omega
  try simp only[pUt,pUn,sEt,sEz,sEs]
  refine takeY_on (i := 6) (v := .agg #[.int .i64 x.key.time, .int .i64 x.key.source, .int .i64 x.key.seq, .int .i64 x.to, .int .i64 x.value]) rfl (by kernel_rfl) (by kernel_rfl) (by kernel_rfl) (by kernel_rfl) (by kernel_rfl) (fun _ _ _ h => h) (by kernel_rfl) (fun W' hSW => ?_) (by assumption) ?_
  ·obtain ⟨hL, hX⟩ := hSW
   have y0 := cells_in hX 0
   have y1 := cells_in hX 1
   have y2 := cells_in hX 2
   have y3 := cells_in hX 3
   have y4 := cells_in hX 4
   have c0 := cells_in hL 0
   simp at c0 y0 y1 y2 y3 y4
   clear hL hX
   first|go_simp;done|exact rfl|go_simp;rfl|go_simp;omega
  try simp only[pUt,pUn,sEt,sEz,sEs]
  refine takeY_call (i := 7) rfl (by kernel_rfl) (by kernel_rfl) (fun K hK => ?_)
  go_simp
  obtain ⟨V, hV⟩ : ∃ V, W7.alloc (.cells #[.int .i64 x.key.time, .int .i64 x.key.source, .int .i64 x.key.seq, .int .i64 x.to, .int .i64 x.value] 30) = V := ⟨_, rfl⟩
  obtain ⟨vb, hvb⟩ : ∃ b, W7.heap.size = b := ⟨_, rfl⟩
  have Hvb := Lib.hid (show w.heap.size < vb by rw [← hvb]; exact (Array.getElem?_eq_some_iff.1 hHeld.2).1)
  have hfa : Fr0 none' W7 V := by rw [← hV]; exact (Fr0.refl _ _).alloc _
  have hbv : V.heap[vb]? = some (.cells (cev x).toArray 30 (0, 0)) := by rw [← hV, ← hvb]; exact World.alloc_heap_new _ _
  have hHeld : V.heap[lb]? = some (.cells #[.slice a m cap, .int .i64 n] 107 (0, 0)) ∧ V.heap[w.heap.size]? = some (.cells #[.int .i64 x.key.time, .int .i64 x.key.source, .int .i64 x.key.seq, .int .i64 x.to, .int .i64 x.value] 30 (0, 0)) :=
   ⟨(hfa.block lb (Array.getElem?_eq_some_iff.1 hHeld.1).1 id).trans hHeld.1, (hfa.block _ (Array.getElem?_eq_some_iff.1 hHeld.2).1 id).trans hHeld.2⟩
  have FV := Lib.hid (FD.out.trans hfa)
  have HBV := Lib.hid hbv
  rw [hV]
  try rw [hvb]
  clear hV hvb hfa hbv
  refine hK.out _ _ (.inr hHeld) ?_
  clear hK K
  try simp only[pUt,pUn,sEt,sEz,sEs]
  have hown : (Value.slice a m cap).ownBlock ≠ some vb := fun e => by have := HI.out.lt vb (Hft.out vb (by rw [Hm.out]; exact e)); have := Hvb.out; omega
  have hrow := ownsRow_fr0 HRow.out FV.out (fun _ _ h => h)
  rw [Hm.out] at hrow
  have hm9 : m ≤ 1000 := by have := HI.out.good.le; have := HI.out.small; have := Hm.out; omega
  have hcm : c ≤ m := by rw [← Hc.out, ← Hm.out]; exact cntE_le x E
  have HIN := Lib.hid (InsertE (i := c) E hrow hcm (by omega) x HBV.out hown (Nat.zero_le _))
  clear hown hrow hm9 hcm
  refine takeY_call (i := 8) rfl (by kernel_rfl) (by kernel_rfl) (fun K hK => ?_)
  go_simp
  refine HIN.out.mono ?_
  rintro e w9 ⟨v', rfl, hrow, hfr, hob⟩
  have hg : ∀ k, (Value.slice a m cap).ownBlock = some k → k < w.heap.size ∧ k ≠ lb := fun k e => ⟨HI.out.lt k (Hft.out k (by rw [Hm.out]; exact e)), fun e2 => Hnlb.out (by rw [Hm.out, e, e2])⟩
  have hHeld : w9.heap[lb]? = some (.cells #[.slice a m cap, .int .i64 n] 107 (0, 0)) ∧ w9.heap[w.heap.size]? = some (.cells #[.int .i64 x.key.time, .int .i64 x.key.source, .int .i64 x.key.seq, .int .i64 x.to, .int .i64 x.value] 30 (0, 0)) :=
   ⟨(hfr.block lb (Array.getElem?_eq_some_iff.1 hHeld.1).1 (fun e => (hg lb e).2 rfl)).trans hHeld.1, (hfr.block _ (Array.getElem?_eq_some_iff.1 hHeld.2).1 (fun e => by have := (hg _ e).1; omega)).trans hHeld.2⟩
  obtain ⟨va, vc, hve⟩ : ∃ va vc, v' = .slice va (m + 1) vc := by
   obtain ⟨va, vc, h, _⟩ := EsIn.of_own hrow
   exact ⟨va, vc, h⟩
  have F9 := Lib.hid (show Fr0 ft w w9 from (FV.out.mono (S' := ft) (fun _ _ h => h.elim)).trans' hfr (fun k _ e => Hft.out k (by rw [Hm.out]; exact e)))
  have hv'lb : v'.ownBlock ≠ some lb := fun e => by
   rcases hob with h | h
   ·exact (hg lb (h.symm.trans e)).2 rfl
   ·rw [h] at e
    have e := Option.some.inj e
    have := FV.out.size
    have := HI.out.lt lb HI.out.foot
    omega
  have hfs : Fr0 (fun k => k = lb) w9 (w9.setCell ⟨lb, 0, none⟩ v') := (Fr0.refl (fun k => k = lb) w9).setCell (fun _ => rfl) _
  have hcell : (w9.setCell ⟨lb, 0, none⟩ v').heap[lb]? = some (.cells #[v', .int .i64 n] 107 (0, 0)) := heap_set_cell hHeld.1 _
  have hgood := HI.out.good.put x
  rw [He2.out] at hgood
  have hins : insE x E = E.take c ++ x :: E.drop c := by rw [← Hc.out]; exact cntE_ins x E
  have hrow9 := ownsRow_fr0 hrow hfs (fun g hgg e => hv'lb (by rw [hgg, e]))
  rw [← hins] at hrow9
  have hle9 : (insE x E).length = m + 1 := by rw [insE_length, Hm.out]
  have HLI := Lib.hid (show LIs (w9.setCell ⟨lb, 0, none⟩ v') lb n (insE x E) (fun k => k = lb ∨ v'.ownBlock = some k) from
   ⟨⟨v', hcell, by rw [hle9]; exact hrow9, hv'lb, fun g hgg => .inr hgg⟩, hgood, HI.out.small, .inl rfl, fun k hk => by
    rcases hk with rfl | hk
    ·have := HI.out.lt k HI.out.foot
     have := F9.out.size
     have := hfs.size
     omega
    ·exact (hrow9.lt k hk).2⟩)
  have HFT := Lib.hid (show ∀ k, (k = lb ∨ v'.ownBlock = some k) → ft k ∨ w.heap.size ≤ k from fun k hk => by
   rcases hk with rfl | hk
   ·exact .inl HI.out.foot
   ·rcases hob with h | h
    ·exact .inl (Hft.out k (by rw [Hm.out]; exact h.symm.trans hk))
    ·rw [h] at hk
     have hk := Option.some.inj hk
     have := FV.out.size
     exact .inr (by omega))
  have HFF := Lib.hid (show Fr0 ft w (w9.setCell ⟨lb, 0, none⟩ v') from F9.out.trans' hfs (fun k _ e => by have e : k = lb := e; rw [e]; exact HI.out.foot))
  have HH := Lib.hid hHeld
  clear hrow hfr hob hg hv'lb hfs hcell hgood hins hrow9 hle9 F9 HIN hHeld FV HBV Hvb
  subst hve
  go_wp2_with fail
  refine hK.out _ _ (.inr HH.out) ?_
  clear hK K
  try simp only[pUt,pUn,sEt,sEz,sEs]
  refine takeY_call (i := 9) rfl (by kernel_rfl) (by kernel_rfl) (fun K hK => ?_)
  go_simp
  refine hK.out _ _ (.inr HH.out) ?_
  clear hK K
  try simp only[pUt,pUn,sEt,sEz,sEs]
  refine takeY_call (i := 10) rfl (by kernel_rfl) (by kernel_rfl) (fun K hK => ?_)
  go_simp
  refine hK.out _ _ (.inr HH.out) ?_
  clear hK K
  try simp only[pUt,pUn,sEt,sEz,sEs]
  have t0 := thaw_in HH.out.1 0
  have c0 := cells_in HH.out.1 0
  simp at c0
  refine takeY_call (i := 11) rfl (by kernel_rfl) (by kernel_rfl) (fun K hK => ?_)
  go_simp
  refine hK.out _ _ (.inl (by kernel_rfl)) ?_
  clear hK K t0 c0
  try simp only[pUt,pUn,sEt,sEz,sEs]
  refine wpAnyY_done (by kernel_rfl) ?_ _
  go_wp2_with fail
  go_ret
  exact ⟨rfl, _, HLI.out, HFT.out, HFF.out⟩
/-
  calendar: an act on a list.
-/

/-- What one event told: it, or an error. -/
def OneT (t : Tl) : Prop := (t.err = 0 ∧ t.evs = [t.first]) ∨ (t.err ≠ 0 ∧ t.evs = [])
theorem takeC_one (E : List Ev) : OneT (takeC E).2 := by
 cases E with
 | nil => exact .inr ⟨by simp [takeC], rfl⟩
 | cons x r => exact .inl ⟨rfl, rfl⟩
theorem cancelC_one (p : Int × Int) (E : List Ev) : OneT (cancelC p E).2 := by
 unfold cancelC
 cases findE p E with
 | none => exact .inr ⟨by simp, rfl⟩
 | some x => exact .inl ⟨rfl, rfl⟩
set_option maxHeartbeats 1000000 in
theorem one_told {t : Tl} (ht : OneT t) (w : World) : Calls Tryz.prog 93 #[evV t.first, .int .i64 t.err] w fun e w' => ∃ v, e = .returned (.agg #[.int .i64 t.err, v]) ∧ w'.ownsRow w.heap.size 30 5 v t.evs.length (flatEv t.evs) ∧ Fr0 none' w w' := by
 obtain ⟨x, hx⟩ : ∃ x, t.first = x := ⟨_, rfl⟩
 obtain ⟨c, hc⟩ : ∃ x, t.err = x := ⟨_, rfl⟩
 unfold OneT at ht
 rw [hx, hc] at ht
 rw [hx, hc]
 unfold evV
 rcases ht with ⟨h0, h1⟩ | ⟨h0, h1⟩
 ·rw [h1]
  subst h0
  clear hx hc h1
  go_enter Tryz.func93, Tryz.ntmps93
  go_wp2_with fail
  obtain ⟨V1, hV1⟩ : ∃ V, w.alloc (.cells #[.int .i64 x.key.time, .int .i64 x.key.source, .int .i64 x.key.seq, .int .i64 x.to, .int .i64 x.value] 30) = V := ⟨_, rfl⟩
  have z1 : V1.heap.size = w.heap.size + 1 := by rw [← hV1, World.size_alloc]
  obtain ⟨V2, hV2⟩ : ∃ V, V1.alloc (.cells #[.int .i64 0, .slice (some ⟨w.heap.size + 1 + 1, 0, none⟩) 1 1] 56) = V := ⟨_, rfl⟩
  have z2 : V2.heap.size = w.heap.size + 1 + 1 := by rw [← hV2, World.size_alloc, z1]
  have b2 : V2.heap[w.heap.size + 1]? = some (.cells #[.int .i64 0, .slice (some ⟨w.heap.size + 1 + 1, 0, none⟩) 1 1] 56 (0, 0)) := by rw [← hV2, ← z1]; exact World.alloc_heap_new _ _
  obtain ⟨V3, hV3⟩ : ∃ V, V2.alloc (.cells (cev x).toArray 30) = V := ⟨_, rfl⟩
  have f3 : Fr0 none' V2 V3 := by rw [← hV3]; exact (Fr0.refl _ _).alloc _
  have b3 : V3.heap[w.heap.size + 1 + 1]? = some (.cells (cev x).toArray 30 (0, 0)) := by rw [← hV3, ← z2]; exact World.alloc_heap_new _ _
  have hF : Fr0 none' w V3 := ((show Fr0 none' w V1 by rw [← hV1]; exact (Fr0.refl _ _).alloc _).trans (show Fr0 none' V1 V2 by rw [← hV2]; exact (Fr0.refl _ _).alloc _)).trans f3
  have b4 := (f3.block _ (by omega) id).trans b2
  have y0 := cells_in b4 0
  have y1 := cells_in b4 1
  simp at y0 y1
  have hrow : V3.ownsRow w.heap.size 30 5 (.slice (some ⟨w.heap.size + 1 + 1, 0, none⟩) 1 1) 1 (flatEv [x]) := ⟨rfl, .inr ⟨_, 1, _, rfl, by omega, b3, Nat.le_refl _, by unfold maxLen; omega, rfl, rfl⟩⟩
  rw [show ((w.alloc _).alloc _).alloc _ = V3 from by rw [hV1, hV2]; exact hV3]
  exact bodyPost_ret (v := .agg #[.int .i64 0, .slice (some ⟨w.heap.size + 1 + 1, 0, none⟩) 1 1]) (by simp [results, Tryz.results93, go_sem, y0, y1]) rfl ⟨_, rfl, hrow, hF⟩
 ·rw [h1]
  have d1 : (c != 0) = true := by simpa using h0
  clear hx hc h1 h0
  go_enter Tryz.func93, Tryz.ntmps93
  go_wp2_with fail
  obtain ⟨V1, hV1⟩ : ∃ V, w.alloc (.cells #[.int .i64 x.key.time, .int .i64 x.key.source, .int .i64 x.key.seq, .int .i64 x.to, .int .i64 x.value] 30) = V := ⟨_, rfl⟩
  have z1 : V1.heap.size = w.heap.size + 1 := by rw [← hV1, World.size_alloc]
  obtain ⟨V2, hV2⟩ : ∃ V, V1.alloc (.cells #[.int .i64 c, .slice none 0 0] 56) = V := ⟨_, rfl⟩
  have b2 : V2.heap[w.heap.size + 1]? = some (.cells #[.int .i64 c, .slice none 0 0] 56 (0, 0)) := by rw [← hV2, ← z1]; exact World.alloc_heap_new _ _
  have hF : Fr0 none' w V2 := (show Fr0 none' w V1 by rw [← hV1]; exact (Fr0.refl _ _).alloc _).trans (show Fr0 none' V1 V2 by rw [← hV2]; exact (Fr0.refl _ _).alloc _)
  have y0 := cells_in b2 0
  have y1 := cells_in b2 1
  simp at y0 y1
  rw [hV1, hV2]
  exact bodyPost_ret (v := .agg #[.int .i64 c, .slice none 0 0]) (by simp [results, Tryz.results93, go_sem, y0, y1]) rfl ⟨_, rfl, World.ownsRow_nil _ _ _ _, hF⟩
end Go.Proofs.YtieeloealklkgaaGreat
