/-
  What a heap has, as a list in order; plain Lean.
-/
import Derived.Test.YtbpmdhngobdilaaHeapO
namespace Go.Proofs.Ytbpmdhngobdilaa

/-- A key: time, source, number; an entry: a key and a place. -/
structure Key3 where
  time : Int
  source : Int
  seq : Int
deriving DecidableEq, Inhabited
structure Ent where
  key : Key3
  place : Nat
deriving DecidableEq, Inhabited

def cmpI (a b : Int) : Int := if a < b then -1 else if b < a then 1 else 0
def cmpK (a b : Key3) : Int := if a.time ≠ b.time then cmpI a.time b.time else if a.source ≠ b.source then cmpI a.source b.source else cmpI a.seq b.seq
def fieldK (a b : Key3) : Int := if a.time ≠ b.time then 1 else if a.source ≠ b.source then 2 else if a.seq ≠ b.seq then 3 else 0
def ordE (a b : Ent) : Int := if cmpK a.key b.key ≠ 0 then cmpK a.key b.key else cmpI a.place b.place
theorem cmpI_eq (a b : Int) : cmpI a b = 0 ↔ a = b := by unfold cmpI; split <;> (try split) <;> omega
theorem cmpI_anti (a b : Int) : cmpI a b = - cmpI b a := by unfold cmpI; repeat' split <;> omega
theorem cmpI_lt (a b : Int) : cmpI a b < 0 ↔ a < b := by unfold cmpI; split <;> (try split) <;> omega
theorem cmpI_gt (a b : Int) : 0 < cmpI a b ↔ b < a := by unfold cmpI; split <;> (try split) <;> omega
theorem cmpK_eq (a b : Key3) : cmpK a b = 0 ↔ a = b := by
  obtain ⟨a1, a2, a3⟩ := a
  obtain ⟨b1, b2, b3⟩ := b
  simp only [cmpK, Key3.mk.injEq]
  have h1 := cmpI_eq a1 b1
  have h2 := cmpI_eq a2 b2
  have h3 := cmpI_eq a3 b3
  split
  · next h => exact ⟨fun e => absurd (h1.1 e) h, fun e => absurd e.1 h⟩
  · split
    · next h' h => exact ⟨fun e => absurd (h2.1 e) h, fun e => absurd e.2.1 h⟩
    · next h' h => exact ⟨fun e => ⟨Decidable.not_not.1 h', Decidable.not_not.1 h, h3.1 e⟩, fun e => h3.2 e.2.2⟩
theorem cmpK_anti (a b : Key3) : cmpK a b = - cmpK b a := by
  unfold cmpK
  have h1 := cmpI_anti a.time b.time
  have h2 := cmpI_anti a.source b.source
  have h3 := cmpI_anti a.seq b.seq
  by_cases e1 : a.time = b.time
  · by_cases e2 : a.source = b.source
    · rw [if_neg (by simp [e1]), if_neg (by simp [e2]), if_neg (by simp [e1]), if_neg (by simp [e2])]; exact h3
    · rw [if_neg (by simp [e1]), if_pos e2, if_neg (by simp [e1]), if_pos (fun h => e2 h.symm)]; exact h2
  · rw [if_pos e1, if_pos (fun h => e1 h.symm)]; exact h1
theorem cmpK_lt (a b : Key3) : cmpK a b < 0 ↔ a.time < b.time ∨ (a.time = b.time ∧ (a.source < b.source ∨ (a.source = b.source ∧ a.seq < b.seq))) := by
  unfold cmpK
  have h1 := cmpI_lt a.time b.time
  have h2 := cmpI_lt a.source b.source
  have h3 := cmpI_lt a.seq b.seq
  split
  · rw [h1]; omega
  · split
    · rw [h2]; omega
    · rw [h3]; omega
theorem cmpK_trans (a b c : Key3) (h1 : cmpK a b < 0) (h2 : cmpK b c < 0) : cmpK a c < 0 := by
  rw [cmpK_lt] at *; omega
theorem ordE_lt (a b : Ent) : ordE a b < 0 ↔ cmpK a.key b.key < 0 ∨ (a.key = b.key ∧ a.place < b.place) := by
  unfold ordE
  have h1 := cmpK_eq a.key b.key
  split
  · next h => exact ⟨fun e => .inl e, fun e => e.elim id (fun e => absurd (h1.2 e.1) h)⟩
  · next h =>
    have h := Decidable.not_not.1 h
    rw [cmpI_lt]
    exact ⟨fun e => .inr ⟨h1.1 h, by omega⟩, fun e => e.elim (fun e => by omega) (fun e => by omega)⟩
theorem ordE_ord : OrdC ordE where
  eq a b := by
    unfold ordE
    have h1 := cmpK_eq a.key b.key
    have h2 := cmpI_eq a.place b.place
    split
    · next h => exact ⟨fun e => absurd e h, fun e => absurd (h1.2 (by rw [e])) h⟩
    · next h =>
      have h := h1.1 (Decidable.not_not.1 h)
      rw [h2]
      exact ⟨fun e => by cases a; cases b; simp at h e; simp [h]; omega, fun e => by rw [e]⟩
  anti a b := by
    unfold ordE
    have h1 := cmpK_anti a.key b.key
    have h2 := cmpI_anti a.place b.place
    by_cases e : cmpK a.key b.key = 0
    · rw [if_neg (by simp [e]), if_neg (by simp; omega)]; exact h2
    · rw [if_pos e, if_pos (by omega)]; exact h1
  trans a b c h1 h2 := by
    rw [ordE_lt] at *
    rcases h1 with h1 | ⟨h1, h1'⟩
    · rcases h2 with h2 | ⟨h2, h2'⟩
      · exact .inl (cmpK_trans _ _ _ h1 h2)
      · exact .inl (by rw [← h2]; exact h1)
    · rcases h2 with h2 | ⟨h2, h2'⟩
      · exact .inl (by rw [h1]; exact h2)
      · exact .inr ⟨h1.trans h2, by omega⟩

/-- In order, each once. -/
def Sorted (L : List Ent) : Prop := L.Pairwise (fun a b => ordE a b < 0)
/-- An entry more; one less. -/
def insL (e : Ent) : List Ent → List Ent
  | [] => [e]
  | x :: r => if ordE x e < 0 then x :: insL e r else e :: x :: r
def delL (p : Nat) (L : List Ent) : List Ent := L.filter (fun e => e.place != p)
/-- The key of a place. -/
def look (L : List Ent) (p : Nat) : Option Key3 := (L.find? (fun e => e.place == p)).map (·.key)
/-- Each place once. -/
def Once (L : List Ent) : Prop := (L.map (·.place)).Nodup

theorem insL_perm (e : Ent) (L : List Ent) : (insL e L).Perm (L ++ [e]) := by
  induction L with
  | nil => exact List.Perm.refl _
  | cons x r ih =>
    rw [insL]
    split
    · exact ih.cons x
    · refine List.Perm.trans ?_ List.perm_append_comm
      exact List.Perm.refl _
theorem insL_mem {e x : Ent} {L : List Ent} : x ∈ insL e L ↔ x = e ∨ x ∈ L := by
  rw [(insL_perm e L).mem_iff]; simp [or_comm]
theorem insL_length (e : Ent) (L : List Ent) : (insL e L).length = L.length + 1 := by rw [(insL_perm e L).length_eq]; simp
theorem insL_sorted {e : Ent} {L : List Ent} (h : Sorted L) (hn : ∀ x ∈ L, x ≠ e) : Sorted (insL e L) := by
  induction L with
  | nil => simp [insL, Sorted]
  | cons x r ih =>
    have h' := List.pairwise_cons.1 h
    rw [insL]
    split
    · next hlt =>
      refine List.pairwise_cons.2 ⟨fun y hy => ?_, ih h'.2 (fun y hy => hn y (List.mem_cons_of_mem _ hy))⟩
      rcases insL_mem.1 hy with rfl | hy
      · exact hlt
      · exact h'.1 y hy
    · next hge =>
      have hne := hn x List.mem_cons_self
      have h0 : ordE e x < 0 := by
        have h1 := ordE_ord.anti e x
        have h2 : ordE x e ≠ 0 := fun h => hne ((ordE_ord.eq x e).1 h)
        omega
      refine List.pairwise_cons.2 ⟨fun y hy => ?_, h⟩
      rcases List.mem_cons.1 hy with rfl | hy
      · exact h0
      · exact ordE_ord.trans _ _ _ h0 (h'.1 y hy)
theorem delL_sorted {p : Nat} {L : List Ent} (h : Sorted L) : Sorted (delL p L) := List.Pairwise.filter _ h
theorem Once.inj {L : List Ent} (h : Once L) {a b : Ent} (ha : a ∈ L) (hb : b ∈ L) (e : a.place = b.place) : a = b := by
  induction L with
  | nil => cases ha
  | cons x r ih =>
    have h' := List.nodup_cons.1 h
    rcases List.mem_cons.1 ha with h1 | h1
    · rcases List.mem_cons.1 hb with h2 | h2
      · rw [h1, h2]
      · subst h1; exact absurd (List.mem_map.2 ⟨b, h2, e.symm⟩) h'.1
    · rcases List.mem_cons.1 hb with h2 | h2
      · subst h2; exact absurd (List.mem_map.2 ⟨a, h1, e⟩) h'.1
      · exact ih h'.2 h1 h2
theorem Once.perm {L M : List Ent} (h : Once L) (hp : L.Perm M) : Once M := (hp.map _).nodup_iff.1 h
theorem insL_once {e : Ent} {L : List Ent} (h : Once L) (hn : ∀ x ∈ L, x.place ≠ e.place) : Once (insL e L) := by
  refine Once.perm ?_ (insL_perm e L).symm
  unfold Once
  rw [List.map_append, List.nodup_append]
  exact ⟨h, by simp, fun a ha b hb => by
    obtain ⟨x, hx, rfl⟩ := List.mem_map.1 ha
    simp at hb; subst hb; exact hn x hx⟩
theorem delL_once {p : Nat} {L : List Ent} (h : Once L) : Once (delL p L) := (List.filter_sublist.map _).nodup h
theorem delL_mem {p : Nat} {x : Ent} {L : List Ent} : x ∈ delL p L ↔ x ∈ L ∧ x.place ≠ p := by simp [delL]

theorem look_some {L : List Ent} (h : Once L) {p : Nat} {k : Key3} : look L p = some k ↔ ⟨k, p⟩ ∈ L := by
  unfold look
  constructor
  · intro e
    obtain ⟨x, hx, rfl⟩ := Option.map_eq_some_iff.1 e
    have h1 := List.find?_some hx
    have h2 := List.mem_of_find?_eq_some hx
    have : x.place = p := by simpa using h1
    subst this; exact h2
  · intro e
    cases hf : L.find? (fun x => x.place == p) with
    | none => have := List.find?_eq_none.1 hf _ e; simp at this
    | some x =>
      have h1 := List.find?_some hf
      have h2 := List.mem_of_find?_eq_some hf
      have h3 : x.place = p := by simpa using h1
      have := h.inj h2 e h3
      subst this; rfl
theorem look_none {L : List Ent} {p : Nat} : look L p = none ↔ ∀ x ∈ L, x.place ≠ p := by
  unfold look
  rw [Option.map_eq_none_iff, List.find?_eq_none]
  simp
theorem opt_ext {α : Type} {a b : Option α} (h : ∀ k, a = some k ↔ b = some k) : a = b := by
  cases a with
  | none => cases b with
    | none => rfl
    | some y => exact ((h y).2 rfl)
  | some x => exact ((h x).1 rfl).symm
theorem look_ins {L : List Ent} (h : Once L) (e : Ent) (hn : ∀ x ∈ L, x.place ≠ e.place) (p : Nat) : look (insL e L) p = if p = e.place then some e.key else look L p := by
  refine opt_ext (fun k => ?_)
  rw [look_some (insL_once h hn), insL_mem]
  by_cases hp : p = e.place
  · rw [if_pos hp]
    subst hp
    constructor
    · rintro (h1 | h1)
      · rw [← h1]
      · exact absurd rfl (hn _ h1 : (⟨k, e.place⟩ : Ent).place ≠ e.place)
    · intro h1; injection h1 with h1; left; cases e; simp at h1; simp [h1]
  · rw [if_neg hp, look_some h]
    exact ⟨fun h1 => h1.elim (fun h1 => absurd (congrArg Ent.place h1) hp) id, .inr⟩
theorem look_del {L : List Ent} (h : Once L) (q p : Nat) : look (delL q L) p = if p = q then none else look L p := by
  by_cases hp : p = q
  · rw [if_pos hp, look_none]
    intro x hx; rw [hp]; exact (delL_mem.1 hx).2
  · rw [if_neg hp]
    refine opt_ext (fun k => ?_)
    rw [look_some (delL_once h), look_some h, delL_mem]
    exact ⟨fun h1 => h1.1, fun h1 => ⟨h1, hp⟩⟩
theorem look_cons {x : Ent} {r : List Ent} (h : Once (x :: r)) (p : Nat) : look r p = if p = x.place then none else look (x :: r) p := by
  have h' := List.nodup_cons.1 h
  by_cases hp : p = x.place
  · rw [if_pos hp, look_none]
    intro y hy e
    exact h'.1 (List.mem_map.2 ⟨y, hy, e.trans hp⟩)
  · rw [if_neg hp]
    unfold look
    rw [List.find?_cons_of_neg (by simp; exact fun e => hp e.symm)]
theorem del_cons {x : Ent} {r : List Ent} (h : Once (x :: r)) : delL x.place (x :: r) = r := by
  have h' := List.nodup_cons.1 h
  unfold delL
  rw [List.filter_cons_of_neg (by simp)]
  refine List.filter_eq_self.2 (fun y hy => ?_)
  simp only [bne_iff_ne, ne_eq]
  exact fun e => h'.1 (List.mem_map.2 ⟨y, hy, e⟩)

/-- Two lists in order with the same keys are the same. -/
theorem sorted_ext {L M : List Ent} (hL : Sorted L) (hM : Sorted M) (oL : Once L) (oM : Once M) (h : ∀ p, look L p = look M p) : L = M := by
  have hmem : ∀ x, x ∈ L ↔ x ∈ M := fun x => by
    have h1 := look_some oL (p := x.place) (k := x.key)
    have h2 := look_some oM (p := x.place) (k := x.key)
    rw [h] at h1
    exact h1.symm.trans h2
  have nd : ∀ {K : List Ent}, Once K → K.Nodup := fun {K} o => (List.pairwise_map.1 o).imp (fun h e => h (by rw [e]))
  have hp : L.Perm M := (List.perm_ext_iff_of_nodup (nd oL) (nd oM)).2 hmem
  exact order_one ordE_ord (hL.imp (fun h => by omega)) (hM.imp (fun h => by omega)) hp
theorem sorted_perm {L M : List Ent} (hL : Sorted L) (hM : Sorted M) (hp : L.Perm M) : L = M := order_one ordE_ord (hL.imp (fun h => by omega)) (hM.imp (fun h => by omega)) hp
end Go.Proofs.Ytbpmdhngobdilaa
