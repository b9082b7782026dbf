/-
  Spaces: what each function of the package does, and what the laws make of it.
-/
import Derived.Test.YtieeloealklkgaaGreatDoorJb1
import Derived.Test.YtieeloealklkgaaGreatDoorJa1
import Derived.Test.YtieeloealklkgaaGreatDoorJa2
set_option linter.unusedSimpArgs false
set_option linter.unusedVariables false

/-
  A space of a law's own; its acts.
-/
namespace Go.Proofs.YtieeloealklkgaaGreatDoor
open Go.RowKit Go.Maps

/-- What the acts make of a space, and return. -/
def openL (lim nx : Int) (L : List Pt) (s : Bs) (p : Int) : List Pt := if openE lim nx L s p = 0 then L ++ [⟨nx, s, p⟩] else L
def openX (lim nx : Int) (L : List Pt) (s : Bs) (p : Int) : Int := if openE lim nx L s p = 0 then nx + 1 else nx
def openN (lim nx : Int) (L : List Pt) (s : Bs) (p : Int) : Int := if openE lim nx L s p = 0 then nx else 0
def renE (L : List Pt) (n : Int) (s : Bs) : Int := match atP L n with
  | none => 6
  | some p => if rightB s = false then 40 else if (nameP L s).isSome = true ∧ ¬ p.name = s then 240 else 0
def renT (L : List Pt) (n : Int) (s : Bs) : Bs := if renE L n s = 0 then (getP L n).name else []
def renL (L : List Pt) (n : Int) (s : Bs) : List Pt := if renE L n s = 0 then renP L n s else L

variable {w0 w w' : World} {sb mb : Nat} {nv nv' : Value} {lim nx nx' : Int} {L L' : List Pt} {E : List (Nat × Obj)}
/-- A block that is not the space's stays so. -/
theorem SStep.not (h : SStep sb mb nv nv' w w') {k : Nat} (hk : ¬ sfoot sb mb nv k) (hl : k < w.heap.size) : ¬ sfoot sb mb nv' k := fun hf => by
  rcases hf with h1 | h1 | h1
  · exact hk (.inl h1)
  · exact hk (.inr (.inl h1))
  · rcases h.own k h1 with h2 | h2
    · exact hk (.inr (.inr h2))
    · omega
theorem SStep.block (h : SStep sb mb nv nv' w w') {k : Nat} (hk : ¬ sfoot sb mb nv k) (hl : k < w.heap.size) : w'.heap[k]? = w.heap[k]? := h.fr.block k hl (fun h1 => hk (h1.elim .inl (fun h => .inr (.inl h))))

/-- A space that was made since w0, and blocks beside it that stay. -/
structure SpSt (w0 w : World) (sb mb : Nat) (nv : Value) (lim nx : Int) (L : List Pt) (E : List (Nat × Obj)) : Prop where
  is : SpaceIs w sb mb nv lim nx L
  fr : Fr0 none' w0 w
  new : ∀ k, sfoot sb mb nv k → w0.heap.size ≤ k
  ex : ∀ x ∈ E, w.heap[x.1]? = some x.2 ∧ ¬ sfoot sb mb nv x.1
theorem SpSt.later (h : SpSt w0 w sb mb nv lim nx L E) (hf : Fr0 none' w w') : SpSt w0 w' sb mb nv lim nx L E :=
  ⟨h.is.later hf, h.fr.trans hf, h.new, fun x hx => ⟨(hf.block x.1 (Array.getElem?_eq_some_iff.1 (h.ex x hx).1).1 id).trans (h.ex x hx).1, (h.ex x hx).2⟩⟩
theorem SpSt.step (h : SpSt w0 w sb mb nv lim nx L E) (hs : SStep sb mb nv nv' w w') (h' : SpaceIs w' sb mb nv' lim nx' L') : SpSt w0 w' sb mb nv' lim nx' L' E :=
  ⟨h', h.fr.trans' hs.fr (fun k hk hf => by
      rcases hf with h1 | h1
      · have := h.new k (.inl h1); omega
      · have := h.new k (.inr (.inl h1)); omega), fun k hk => by
    rcases hk with h1 | h1 | h1
    · exact h.new k (.inl h1)
    · exact h.new k (.inr (.inl h1))
    · rcases hs.own k h1 with h2 | h2
      · exact h.new k (.inr (.inr h2))
      · exact Nat.le_trans h.fr.size h2, fun x hx => by
    have hl := (Array.getElem?_eq_some_iff.1 (h.ex x hx).1).1
    exact ⟨(hs.block (h.ex x hx).2 hl).trans (h.ex x hx).1, hs.not (h.ex x hx).2 hl⟩⟩
theorem SpSt.alloc (h : SpSt w0 w sb mb nv lim nx L E) (o : Obj) : SpSt w0 (w.alloc o) sb mb nv lim nx L ((w.heap.size, o) :: E) := by
  have h1 := h.later ((Fr0.refl none' w).alloc o)
  refine ⟨h1.is, h1.fr, h1.new, fun x hx => ?_⟩
  rcases List.mem_cons.1 hx with rfl | hx
  · exact ⟨World.alloc_heap_new w o, fun hf => by have := h.is.lt _ hf; omega⟩
  · exact h1.ex x hx
theorem SpSt.less {F : List (Nat × Obj)} (h : SpSt w0 w sb mb nv lim nx L E) (hF : ∀ x ∈ F, x ∈ E) : SpSt w0 w sb mb nv lim nx L F := ⟨h.is, h.fr, h.new, fun x hx => h.ex x (hF x hx)⟩
/-- A cell of a law's own turns. -/
theorem SpSt.turn (h : SpSt w0 w sb mb nv lim nx L E) {B : Nat} (hf : Fr0 (fun k => k = B) w w') (hB : ¬ sfoot sb mb nv B) (h0 : w0.heap.size ≤ B) (hE : ∀ x ∈ E, x.1 ≠ B) : SpSt w0 w' sb mb nv lim nx L E :=
  ⟨h.is.fr0 hf (fun k hk e => hB (e ▸ hk)), h.fr.trans' hf (fun k hk e => by omega), h.new, fun x hx => ⟨(hf.block x.1 (Array.getElem?_eq_some_iff.1 (h.ex x hx).1).1 (hE x hx)).trans (h.ex x hx).1, (h.ex x hx).2⟩⟩

/-- A row of ports that is not the space's. -/
structure PRow (w : World) (sb mb : Nat) (nv u : Value) (P : List Pt) : Prop where
  row : PtsAt w u P
  out : ∀ g, u.ownBlock = some g → ¬ sfoot sb mb nv g ∧ g < w.heap.size
theorem PtsAt.fr0 {S : Nat → Prop} {u : Value} {P : List Pt} (h : PtsAt w u P) (hf : Fr0 S w w') (hS : ∀ g, u.ownBlock = some g → ¬ S g) : PtsAt w' u P := by
  obtain ⟨a, cap, rfl, hc⟩ := h
  exact ⟨a, cap, rfl, hc.fr0 hf (fun g o s e => hS g (by rw [e]; rfl))⟩
theorem PtsAt.later {u : Value} {P : List Pt} (h : PtsAt w u P) (hf : Fr0 none' w w') : PtsAt w' u P := h.fr0 hf (fun _ _ h => h)
theorem PRow.later {u : Value} {P : List Pt} (h : PRow w sb mb nv u P) (hf : Fr0 none' w w') : PRow w' sb mb nv u P := ⟨h.row.later hf, fun g hg => ⟨(h.out g hg).1, Nat.lt_of_lt_of_le (h.out g hg).2 hf.size⟩⟩
theorem PRow.step {u : Value} {P : List Pt} (h : PRow w sb mb nv u P) (hs : SStep sb mb nv nv' w w') : PRow w' sb mb nv' u P :=
  ⟨h.row.fr0 hs.fr (fun g hg hk => (h.out g hg).1 (hk.elim .inl (fun h => .inr (.inl h)))), fun g hg => ⟨hs.not (h.out g hg).1 (h.out g hg).2, Nat.lt_of_lt_of_le (h.out g hg).2 hs.fr.size⟩⟩

/-- What a call that only tells returns: a row of ports. -/
def RowTold (sb mb : Nat) (nv : Value) (P : List Pt) (w : World) (e : Ending) (w' : World) : Prop := ∃ u, e = .returned u ∧ PRow w' sb mb nv u P ∧ Fr0 none' w w'
theorem SpSt.told (h : SpSt w0 w sb mb nv lim nx L E) {P : List Pt} {f : Nat} {args : Array Value} (hc : Calls Tryz.prog f args w (PortsPost P w)) : Calls Tryz.prog f args w (RowTold sb mb nv P w) :=
  hc.mono fun _ _ ⟨v, he, h1, h2, h3⟩ => ⟨v, he, ⟨.of_own h1 rfl, fun g hg => ⟨fun hf => by have := h3 g hg; have := h.is.lt g hf; omega, (h1.lt g hg).2⟩⟩, h2⟩
theorem all_st (h : SpSt w0 w sb mb nv lim nx L E) : Calls Tryz.prog 9 #[.pointer (some ⟨sb, 0, none⟩)] w (RowTold sb mb nv L w) := h.told (All_is keysDoes sortedDoes h.is)
theorem of_st (h : SpSt w0 w sb mb nv lim nx L E) (n : Int) : Calls Tryz.prog 16 #[.pointer (some ⟨sb, 0, none⟩), .int .i64 n] w (RowTold sb mb nv (L.filter (fun p => p.process == n)) w) := h.told (Of_is keysDoes sortedDoes h.is n)
/-- What Under returns. -/
def underE (s : Bs) : Int := if rightB s = true then 0 else 40
def underR (L : List Pt) (s : Bs) : List Pt := if rightB s = true then underL L s else []
theorem under_st (h : SpSt w0 w sb mb nv lim nx L E) (s : Bs) (hsl : s.length ≤ 1000) : Calls Tryz.prog 15 #[.pointer (some ⟨sb, 0, none⟩), .string (bs s)] w
    fun e w' => ∃ u, e = .returned (.tuple #[u, .int .i64 (underE s)]) ∧ PRow w' sb mb nv u (underR L s) ∧ Fr0 none' w w' := by
  have key : ∀ P R, Calls Tryz.prog 15 #[.pointer (some ⟨sb, 0, none⟩), .string (bs s)] w (UnderPost P R w) → Calls Tryz.prog 15 #[.pointer (some ⟨sb, 0, none⟩), .string (bs s)] w
    fun e w' => ∃ u, e = .returned (.tuple #[u, .int .i64 R]) ∧ PRow w' sb mb nv u P ∧ Fr0 none' w w' := fun P R hc =>
    hc.mono fun _ _ ⟨v, he, h1, h2, h3⟩ => ⟨v, he, ⟨.of_own h1 rfl, fun g hg => ⟨fun hf => by have := h3 g hg; have := h.is.lt g hf; omega, (h1.lt g hg).2⟩⟩, h2⟩
  unfold underE underR
  cases hs : rightB s
  · exact key _ _ (Under_no h.is s hs hsl)
  · exact key _ _ (Under_ok h.is s hs)
theorem get_st (h : SpSt w0 w sb mb nv lim nx L E) (n : Int) (hn : -9223372036854775808 ≤ n ∧ n ≤ 9223372036854775807) : Calls Tryz.prog 13 #[.pointer (some ⟨sb, 0, none⟩), .int .i64 n] w (PtPost (getP L n) (getE L n) w) := Get_is h.is n hn
theorem find_st (h : SpSt w0 w sb mb nv lim nx L E) (s : Bs) (hsl : s.length ≤ 1000) : Calls Tryz.prog 14 #[.pointer (some ⟨sb, 0, none⟩), .string (bs s)] w (PtPost (findP L s) (findE L s) w) := Find_is h.is s hsl
theorem open_st (h : SpSt w0 w sb mb nv lim nx L E) (s : Bs) (hsl : s.length ≤ 1000) (p : Int) : Calls Tryz.prog 7 #[.pointer (some ⟨sb, 0, none⟩), .string (bs s), .int .i64 p] w
    fun e w' => e = .returned (.tuple #[.int .i64 (openN lim nx L s p), .int .i64 (openE lim nx L s p)]) ∧ ∃ nv', SpSt w0 w' sb mb nv' lim (openX lim nx L s p) (openL lim nx L s p) E ∧ SStep sb mb nv nv' w w' := by
  by_cases h0 : openE lim nx L s p = 0
  · have h1 : openN lim nx L s p = nx := if_pos h0
    have h2 : openX lim nx L s p = nx + 1 := if_pos h0
    have h3 : openL lim nx L s p = L ++ [⟨nx, s, p⟩] := if_pos h0
    rw [h1, h2, h3, h0]
    unfold openE at h0
    by_cases c1 : rightB s = false
    · rw [if_pos c1] at h0; cases h0
    rw [if_neg c1] at h0
    by_cases c2 : p < 1 ∨ 16 < p
    · rw [if_pos c2] at h0; cases h0
    rw [if_neg c2] at h0
    by_cases c3 : (nameP L s).isSome = true
    · rw [if_pos c3] at h0; cases h0
    rw [if_neg c3] at h0
    by_cases c4 : lim ≤ (L.length : Int)
    · rw [if_pos c4] at h0; cases h0
    rw [if_neg c4] at h0
    by_cases c5 : 4294967295 < nx
    · rw [if_pos c5] at h0; cases h0
    refine (Open_ok h.is s p (by simpa using c1) (by omega) (by cases hq : nameP L s with | none => rfl | some _ => rw [hq] at c3; exact absurd rfl c3) (by omega) (by omega)).mono ?_
    rintro e w' ⟨he, nv', g1, g2⟩
    exact ⟨he, nv', h.step g2 g1, g2⟩
  · have h1 : openN lim nx L s p = 0 := if_neg h0
    have h2 : openX lim nx L s p = nx := if_neg h0
    have h3 : openL lim nx L s p = L := if_neg h0
    rw [h1, h2, h3]
    refine (Open_no h.is s p hsl _ rfl h0).mono ?_
    rintro e w' ⟨he, nv', g1, g2⟩
    exact ⟨he, nv', h.step g2 g1, g2⟩
theorem delP_not {n : Int} (h : atP L n = none) : delP L n = L := delP_none (atP_none.1 h)
theorem close_st (h : SpSt w0 w sb mb nv lim nx L E) (n : Int) (hn : -9223372036854775808 ≤ n ∧ n ≤ 9223372036854775807) : Calls Tryz.prog 11 #[.pointer (some ⟨sb, 0, none⟩), .int .i64 n] w
    fun e w' => e = .returned (.tuple #[ptV (getP L n), .int .i64 (getE L n)]) ∧ ∃ nv', SpSt w0 w' sb mb nv' lim nx (delP L n) E ∧ SStep sb mb nv nv' w w' := by
  cases hq : atP L n with
  | none =>
    rw [delP_not hq, show getP L n = noPt by unfold getP; rw [hq]; rfl, show getE L n = 6 by unfold getE; rw [hq]; rfl]
    refine (Close_no h.is n hn hq).mono ?_
    rintro e w' ⟨he, hf⟩
    exact ⟨he, nv, h.later hf, SStep.of _ _ _ hf⟩
  | some q =>
    obtain ⟨h1, rfl⟩ := atP_mem hq
    rw [show getP L q.number = q by unfold getP; rw [hq]; rfl, show getE L q.number = 0 by unfold getE; rw [hq]; rfl]
    refine (Close_ok h.is q h1).mono ?_
    rintro e w' ⟨he, nv', g1, g2⟩
    exact ⟨he, nv', h.step g2 g1, g2⟩
theorem rename_st (h : SpSt w0 w sb mb nv lim nx L E) (n : Int) (hn : -9223372036854775808 ≤ n ∧ n ≤ 9223372036854775807) (s : Bs) (hsl : s.length ≤ 1000) : Calls Tryz.prog 12 #[.pointer (some ⟨sb, 0, none⟩), .int .i64 n, .string (bs s)] w
    fun e w' => e = .returned (.tuple #[.string (bs (renT L n s)), .int .i64 (renE L n s)]) ∧ ∃ nv', SpSt w0 w' sb mb nv' lim nx (renL L n s) E ∧ SStep sb mb nv nv' w w' := by
  have key : ∀ M t R, renL L n s = M → renT L n s = t → renE L n s = R → Calls Tryz.prog 12 #[.pointer (some ⟨sb, 0, none⟩), .int .i64 n, .string (bs s)] w (RenPost sb mb nv lim nx M t R w) → Calls Tryz.prog 12 #[.pointer (some ⟨sb, 0, none⟩), .int .i64 n, .string (bs s)] w
    fun e w' => e = .returned (.tuple #[.string (bs (renT L n s)), .int .i64 (renE L n s)]) ∧ ∃ nv', SpSt w0 w' sb mb nv' lim nx (renL L n s) E ∧ SStep sb mb nv nv' w w' := fun M t R h1 h2 h3 hc => by
    rw [h1, h2, h3]
    refine hc.mono ?_
    rintro e w' ⟨he, nv', g1, g2⟩
    exact ⟨he, nv', h.step g2 g1, g2⟩
  cases hq : atP L n with
  | none =>
    have h6 : renE L n s = 6 := by unfold renE; rw [hq]
    exact key L [] 6 (by unfold renL; rw [h6]; rfl) (by unfold renT; rw [h6]; rfl) h6 (Rename_none h.is n s hn hq)
  | some q =>
    have hr : renE L n s = if rightB s = false then 40 else if (nameP L s).isSome = true ∧ ¬ q.name = s then 240 else 0 := by unfold renE; rw [hq]
    obtain ⟨h1, h2⟩ := atP_mem hq
    by_cases c1 : rightB s = false
    · rw [if_pos c1] at hr
      exact key L [] 40 (by unfold renL; rw [hr]; rfl) (by unfold renT; rw [hr]; rfl) hr (Rename_no h.is n s hn c1 hsl q hq)
    · rw [if_neg c1] at hr
      have c1' : rightB s = true := by simpa using c1
      by_cases c2 : (nameP L s).isSome = true ∧ ¬ q.name = s
      · rw [if_pos c2] at hr
        obtain ⟨p, hp⟩ := Option.isSome_iff_exists.1 c2.1
        have hc := Rename_taken h.is s c1' q h1 c2.2 p hp
        rw [h2] at hc
        exact key L [] 240 (by unfold renL; rw [hr]; rfl) (by unfold renT; rw [hr]; rfl) hr hc
      · rw [if_neg c2] at hr
        have hfree : ∀ p ∈ L, p.name = s → p = q := fun p hp e => by
          by_cases hqs : q.name = s
          · exact h.is.ok.name_inj hp h1 (e.trans hqs.symm)
          · refine absurd ⟨?_, hqs⟩ c2
            rw [← namesP_has]; exact (namesP_mem L s).2 ⟨p, hp, e⟩
        have hc := Rename_ok h.is s c1' q h1 hfree
        rw [h2] at hc
        exact key (renP L n s) q.name 0 (by unfold renL; rw [hr]; rfl) (by unfold renT getP; rw [hr, hq]; rfl) hr hc
/-- A new space. -/
theorem new_st (lim nx : Int) (w : World) (h1 : 0 ≤ lim ∧ lim ≤ 64) (h2 : 1 ≤ nx ∧ nx ≤ 4294967295) : Calls Tryz.prog 6 #[.int .i64 lim, .int .i64 nx] w
    fun e w' => ∃ sb mb, e = .returned (.tuple #[.pointer (some ⟨sb, 0, none⟩), .int .i64 0]) ∧ SpSt w w' sb mb (.slice none 0 0) lim nx [] [] :=
  (SNew_ok lim nx w h1.1 h1.2 h2.1 h2.2).mono fun _ _ ⟨sb, mb, he, g1, g2, g3⟩ => ⟨sb, mb, he, g1, g2, g3, fun x hx => by cases hx⟩
end Go.Proofs.YtieeloealklkgaaGreatDoor

/-
  The chapter's examples.
-/
namespace Go.Proofs.YtieeloealklkgaaGreatDoor
open Go.RowKit Go.Maps
attribute [local go_sem ↓] Go.wp_at_zero Go.wp_at_succ

theorem PtsIn.two {W : World} {B : Nat} {ty : TypeId} {a c a' c' : Int} {b b' : Bs} (h : W.heap[B]? = some (.cells #[.int .i64 a, .string (bs b), .int .i64 c, .int .i64 a', .string (bs b'), .int .i64 c'] ty (0, 0))) : PtsIn W (some ⟨B, 0, none⟩) [⟨a, b, c⟩, ⟨a', b', c'⟩] := fun i p hp => by
  match i, hp with
  | 0, hp => cases hp; exact ⟨B, 0, rfl, by rw [cells_in h]; rfl, by rw [cells_in h]; rfl, by rw [cells_in h]; rfl⟩
  | 1, hp => cases hp; exact ⟨B, 0, rfl, by rw [cells_in h]; rfl, by rw [cells_in h]; rfl, by rw [cells_in h]; rfl⟩
theorem Cells.two {W : World} {B : Nat} {ty : TypeId} {b b' : Bs} (h : W.heap[B]? = some (.cells #[.string (bs b), .string (bs b')] ty (0, 0))) : Cells W (some ⟨B, 0, none⟩) ([b, b'].map strV) := fun i p hp => by
  match i, hp with
  | 0, hp => cases hp; exact ⟨B, 0, rfl, by rw [cells_in h]; rfl⟩
  | 1, hp => cases hp; exact ⟨B, 0, rfl, by rw [cells_in h]; rfl⟩
set_option maxRecDepth 100000 in
set_option maxHeartbeats 4000000 in
theorem sawake_any (w : World) : Calls Tryz.prog 22 #[] w fun e w' => e = .returned (.bool true) ∧ Fr0 none' w w' := by
  go_enter Tryz.func22, Tryz.ntmps22
  go_wp2_with fail
  refine (new_st 2 5 w (by omega) (by omega)).mono ?_
  rintro e W0 ⟨sb, mb, rfl, hS⟩
  have S := Lib.hid hS
  clear hS
  go_wp2_with fail
  have HC := open_st S.out [97, 46, 98] (by decide) 1
  rw [show openN 2 5 [] [97, 46, 98] 1 = 5 by decide, show openE 2 5 [] [97, 46, 98] 1 = 0 by decide, show openX 2 5 [] [97, 46, 98] 1 = 6 by decide, show openL 2 5 [] [97, 46, 98] 1 = [⟨5, [97, 46, 98], 1⟩] by decide] at HC
  refine HC.mono ?_
  rintro e W1 ⟨rfl, nv1, hS, -⟩
  clear HC S
  have S := Lib.hid hS
  clear hS
  go_wp2_with fail
  have HC := open_st S.out [97] (by decide) 2
  rw [show openN 2 6 [⟨5, [97, 46, 98], 1⟩] [97] 2 = 6 by decide, show openE 2 6 [⟨5, [97, 46, 98], 1⟩] [97] 2 = 0 by decide, show openX 2 6 [⟨5, [97, 46, 98], 1⟩] [97] 2 = 7 by decide, show openL 2 6 [⟨5, [97, 46, 98], 1⟩] [97] 2 = [⟨5, [97, 46, 98], 1⟩, ⟨6, [97], 2⟩] by decide] at HC
  refine HC.mono ?_
  rintro e W2 ⟨rfl, nv2, hS, -⟩
  clear HC S
  have S := Lib.hid hS
  clear hS
  obtain ⟨L2, hL2⟩ : ∃ L : List Pt, ([⟨5, [97, 46, 98], 1⟩, ⟨6, [97], 2⟩] : List Pt) = L := ⟨_, rfl⟩
  have HL2 := Lib.hid hL2
  rw [hL2] at S
  clear hL2
  go_wp2_with fail
  have HC := open_st S.out [99] (by decide) 1
  rw [show openN 2 7 L2 [99] 1 = 0 by rw [← HL2.out]; decide, show openE 2 7 L2 [99] 1 = 5 by rw [← HL2.out]; decide, show openX 2 7 L2 [99] 1 = 7 by rw [← HL2.out]; decide, show openL 2 7 L2 [99] 1 = L2 by rw [← HL2.out]; decide] at HC
  refine HC.mono ?_
  rintro e W3 ⟨rfl, nv3, hS, -⟩
  clear HC S
  have S := Lib.hid hS
  clear hS
  go_wp2_with fail
  have HC := open_st S.out [97] (by decide) 1
  rw [show openN 2 7 L2 [97] 1 = 0 by rw [← HL2.out]; decide, show openE 2 7 L2 [97] 1 = 240 by rw [← HL2.out]; decide, show openX 2 7 L2 [97] 1 = 7 by rw [← HL2.out]; decide, show openL 2 7 L2 [97] 1 = L2 by rw [← HL2.out]; decide] at HC
  refine HC.mono ?_
  rintro e W4 ⟨rfl, nv4, hS, -⟩
  clear HC S
  have S := Lib.hid hS
  clear hS
  go_wp2_with fail
  have HC := under_st S.out [97] (by decide)
  rw [show underE [97] = 0 by decide, show underR L2 [97] = [⟨6, [97], 2⟩, ⟨5, [97, 46, 98], 1⟩] by rw [← HL2.out]; decide] at HC
  refine HC.mono ?_
  rintro e W5 ⟨u, rfl, hu, hf⟩
  obtain ⟨ua, uc, rfl, _⟩ := hu.row
  have U := Lib.hid hu
  have S := Lib.hid (S.out.later hf)
  clear HC hu hf
  go_wp2_with fail
  have HC := close_st S.out 5 (by decide)
  rw [show getP L2 5 = ⟨5, [97, 46, 98], 1⟩ by rw [← HL2.out]; decide, show getE L2 5 = 0 by rw [← HL2.out]; decide, show delP L2 5 = [⟨6, [97], 2⟩] by rw [← HL2.out]; decide] at HC
  refine HC.mono ?_
  rintro e W6 ⟨rfl, nv6, hS, hst⟩
  simp only [ptV]
  obtain ⟨W7, hW7⟩ : ∃ W7, W6.alloc (.cells #[.int .i64 5, .string (bs [97, 46, 98]), .int .i64 1] 43) = W7 := ⟨_, rfl⟩
  have U := Lib.hid (show PRow W7 sb mb nv6 (.slice ua _ uc) _ from hW7 ▸ (U.out.step hst).later ((Fr0.refl none' W6).alloc (.cells #[.int .i64 5, .string (bs [97, 46, 98]), .int .i64 1] 43)))
  obtain ⟨QB, hQB⟩ : ∃ QB, W6.heap.size = QB := ⟨_, rfl⟩
  have S := Lib.hid (show SpSt w W7 sb mb nv6 2 7 [⟨6, [97], 2⟩] [(QB, .cells #[.int .i64 5, .string (bs [97, 46, 98]), .int .i64 1] 43 (0, 0))] from hW7 ▸ hQB ▸ hS.alloc (.cells #[.int .i64 5, .string (bs [97, 46, 98]), .int .i64 1] 43))
  clear HC hS hst HL2
  go_wp2_with fail
  have HC := open_st S.out [97, 46, 98] (by decide) 2
  rw [show openN 2 7 [⟨6, [97], 2⟩] [97, 46, 98] 2 = 7 by decide, show openE 2 7 [⟨6, [97], 2⟩] [97, 46, 98] 2 = 0 by decide, show openX 2 7 [⟨6, [97], 2⟩] [97, 46, 98] 2 = 8 by decide, show openL 2 7 [⟨6, [97], 2⟩] [97, 46, 98] 2 = [⟨6, [97], 2⟩, ⟨7, [97, 46, 98], 2⟩] by decide] at HC
  clear hW7 hQB
  refine HC.mono ?_
  rintro e W8 ⟨rfl, nv8, hS, hst⟩
  have U := Lib.hid (U.out.step hst)
  clear HC S hst
  have S := Lib.hid hS
  clear hS
  obtain ⟨L4, hL4⟩ : ∃ L : List Pt, ([⟨6, [97], 2⟩, ⟨7, [97, 46, 98], 2⟩] : List Pt) = L := ⟨_, rfl⟩
  have HL4 := Lib.hid hL4
  rw [hL4] at S
  clear hL4
  go_wp2_with fail
  have HC := get_st S.out 5 (by decide)
  obtain ⟨⟨z1, z2, z3⟩, hz⟩ : ∃ p, getP L4 5 = p := ⟨_, rfl⟩
  rw [hz, show getE L4 5 = 6 by rw [← HL4.out]; decide] at HC
  clear hz
  refine HC.mono ?_
  rintro e W9 ⟨rfl, hf⟩
  simp only [ptV]
  obtain ⟨W10, hW10⟩ : ∃ W7, W9.alloc (.cells #[.int .i64 z1, .string (bs z2), .int .i64 z3] 43) = W7 := ⟨_, rfl⟩
  have f10 : Fr0 none' W8 W10 := by rw [← hW10]; exact hf.alloc _
  have U := Lib.hid (U.out.later f10)
  have S := Lib.hid (S.out.later f10)
  clear HC hf f10
  go_wp2_with fail
  clear hW10
  have HC := rename_st S.out 7 (by decide) [97] (by decide)
  rw [show renT L4 7 [97] = [] by rw [← HL4.out]; decide, show renE L4 7 [97] = 240 by rw [← HL4.out]; decide, show renL L4 7 [97] = L4 by rw [← HL4.out]; decide] at HC
  refine HC.mono ?_
  rintro e W11 ⟨rfl, nv11, hS, hst⟩
  have U := Lib.hid (U.out.step hst)
  clear HC S hst
  have S := Lib.hid hS
  clear hS
  go_wp2_with fail
  have HC := rename_st S.out 7 (by decide) [98] (by decide)
  rw [show renT L4 7 [98] = [97, 46, 98] by rw [← HL4.out]; decide, show renE L4 7 [98] = 0 by rw [← HL4.out]; decide, show renL L4 7 [98] = [⟨6, [97], 2⟩, ⟨7, [98], 2⟩] by rw [← HL4.out]; decide] at HC
  refine HC.mono ?_
  rintro e W12 ⟨rfl, nv12, hS, hst⟩
  have U := Lib.hid (U.out.step hst)
  clear HC S hst HL4
  have S := Lib.hid hS
  clear hS
  have q1 := cells_in (S.out.ex _ (List.mem_singleton.2 rfl)).1 1
  simp at q1
  have hs9 : (bs [97, 46, 98]).toList = [97, 46, 98] := by rw [Lib.toList_data]; rfl
  go_wp2_with fail
  obtain ⟨W13, hW13⟩ : ∃ W7, W12.alloc (.cells #[.int .i64 6, .string (bs [97]), .int .i64 2, .int .i64 5, .string (bs [97, 46, 98]), .int .i64 1] 68) = W7 := ⟨_, rfl⟩
  have hx := World.alloc_heap_new W12 (.cells #[.int .i64 6, .string (bs [97]), .int .i64 2, .int .i64 5, .string (bs [97, 46, 98]), .int .i64 1] 68)
  have f13 : Fr0 none' W12 W13 := by rw [← hW13]; exact (Fr0.refl _ _).alloc _
  rw [hW13] at hx
  have U := Lib.hid (U.out.later f13)
  have S := Lib.hid (S.out.later f13)
  have q1 := f13.later q1
  obtain ⟨ua', uc', hu1, hu2⟩ := U.out.row
  cases hu1
  have HC := ports_any _ _ 2 2 uc 2 _ _ W13 rfl rfl (by omega) (by omega) hu2 (PtsIn.two hx)
  rw [show decide ((([⟨6, [97], 2⟩, ⟨5, [97, 46, 98], 1⟩] : List Pt)) = ([⟨6, [97], 2⟩, ⟨5, [97, 46, 98], 1⟩] : List Pt)) = true by simp] at HC
  clear f13 hx hu2 U
  refine Calls.mono (show Calls Tryz.prog 45 _ _ _ from hW13 ▸ HC) ?_
  rintro e W14 ⟨rfl, hf⟩
  rw [hW13] at hf
  have q1 := hf.later q1
  have S := Lib.hid (S.out.later hf)
  clear HC hf hW13
  go_wp2_with fail
  refine (Names_is S.out.is).mono ?_
  rw [show namesP [⟨6, [97], 2⟩, ⟨7, [98], 2⟩] = [[97], [98]] by decide]
  rintro e W15 ⟨v, rfl, hrow, hf⟩
  obtain ⟨va, vc, rfl, _, _, _, hcell, _, _⟩ := ownsRow_cells hrow
  have S := Lib.hid (S.out.later hf)
  have V := Lib.hid hcell
  clear hrow hcell hf
  go_wp2_with fail
  obtain ⟨W16, hW16⟩ : ∃ W7, W15.alloc (.cells #[.string (bs [97]), .string (bs [98])] 9) = W7 := ⟨_, rfl⟩
  have hx := World.alloc_heap_new W15 (.cells #[.string (bs [97]), .string (bs [98])] 9)
  have f16 : Fr0 none' W15 W16 := by rw [← hW16]; exact (Fr0.refl _ _).alloc _
  rw [hW16] at hx
  have S := Lib.hid (S.out.later f16)
  have HC := SameTexts_any va (some ⟨W15.heap.size, 0, none⟩) 2 2 vc 2 [[97], [98]] [[97], [98]] W16 rfl rfl (by omega) (by omega) (V.out.later f16) (Cells.two hx)
  rw [show decide ((([[97], [98]] : List Bs)) = ([[97], [98]] : List Bs)) = true by simp] at HC
  clear f16 hx V
  refine Calls.mono (show Calls Tryz.prog 46 _ _ _ from hW16 ▸ HC) ?_
  rintro e W17 ⟨rfl, hf⟩
  rw [hW16] at hf
  have S := Lib.hid (S.out.later (below_to0 hf))
  clear HC hf hW16
  go_wp2_with fail
  refine (of_st S.out 2).mono ?_
  rw [show List.filter (fun p : Pt => p.process == 2) [⟨6, [97], 2⟩, ⟨7, [98], 2⟩] = [⟨6, [97], 2⟩, ⟨7, [98], 2⟩] by decide]
  rintro e W18 ⟨u, rfl, hu, hf⟩
  obtain ⟨xa, xc, rfl, _⟩ := hu.row
  have U := Lib.hid hu
  have S := Lib.hid (S.out.later hf)
  clear hu hf
  go_wp2_with fail
  obtain ⟨W19, hW19⟩ : ∃ W7, W18.alloc (.cells #[.int .i64 6, .string (bs [97]), .int .i64 2, .int .i64 7, .string (bs [98]), .int .i64 2] 68) = W7 := ⟨_, rfl⟩
  have hx := World.alloc_heap_new W18 (.cells #[.int .i64 6, .string (bs [97]), .int .i64 2, .int .i64 7, .string (bs [98]), .int .i64 2] 68)
  have f19 : Fr0 none' W18 W19 := by rw [← hW19]; exact (Fr0.refl _ _).alloc _
  rw [hW19] at hx
  have U := Lib.hid (U.out.later f19)
  have S := Lib.hid (S.out.later f19)
  obtain ⟨ua', uc', hu1, hu2⟩ := U.out.row
  cases hu1
  have HC := ports_any _ _ 2 2 xc 2 _ _ W19 rfl rfl (by omega) (by omega) hu2 (PtsIn.two hx)
  rw [show decide ((([⟨6, [97], 2⟩, ⟨7, [98], 2⟩] : List Pt)) = ([⟨6, [97], 2⟩, ⟨7, [98], 2⟩] : List Pt)) = true by simp] at HC
  clear f19 hx hu2 U
  refine Calls.mono (show Calls Tryz.prog 45 _ _ _ from hW19 ▸ HC) ?_
  rintro e W20 ⟨rfl, hf⟩
  rw [hW19] at hf
  have S := Lib.hid (S.out.later hf)
  clear HC hf hW19
  go_wp2
  go_ret
  exact ⟨rfl, S.out.fr⟩
end Go.Proofs.YtieeloealklkgaaGreatDoor

/-
  Made.
-/
namespace Go.Proofs.YtieeloealklkgaaGreatDoor
open Go.RowKit Go.Maps
attribute [local go_sem ↓] Go.wp_at_zero Go.wp_at_succ
attribute [local go_sem high] run_neq_pt

structure Sm3 where
  kind : Int
  name : Nat
  process : Int
def Sm3.ok (x : Sm3) : Prop := (0 ≤ x.kind ∧ x.kind < 256) ∧ x.name < 65536 ∧ (0 ≤ x.process ∧ x.process < 256)
/-- A row of small numbers behind a slice. -/
def SmallsAt (w : World) (v : Value) (xs : List Sm3) : Prop := ∃ a cap, v = .slice a xs.length cap ∧ xs.length ≤ cap ∧ ∀ j x, xs[j]? = some x → x.ok ∧ ∃ g o, a = some ⟨g, o, none⟩ ∧ w.cell? ⟨g, o + j * 3, none⟩ = some (.int .u8 x.kind) ∧ w.cell? ⟨g, o + j * 3 + 1, none⟩ = some (.int .u16 (x.name : Int)) ∧ w.cell? ⟨g, o + j * 3 + 2, none⟩ = some (.int .u8 x.process)

/-- What holds of the space of Made after k acts. -/
structure Good (k : Nat) (nx : Int) (L : List Pt) : Prop where
  lo : 50 ≤ nx
  hi : nx ≤ 50 + k
  num : ∀ p ∈ L, 50 ≤ p.number
  nm : ∀ p ∈ L, ∃ y, p.name = madeB y
theorem Good.nil : Good 0 50 [] := ⟨by omega, by omega, (fun p hp => by cases hp), fun p hp => by cases hp⟩
theorem Good.open' {k : Nat} {nx : Int} {L : List Pt} (h : Good k nx L) (s : Bs) (p : Int) (hs : ∃ y, s = madeB y) : Good (k + 1) (openX 10 nx L s p) (openL 10 nx L s p) := by
  have h1 := h.lo
  have h2 := h.hi
  unfold openX openL
  split
  · refine ⟨by omega, by omega, fun q hq => ?_, fun q hq => ?_⟩
    · rcases List.mem_append.1 hq with hq | hq
      · exact h.num q hq
      · rw [List.mem_singleton.1 hq]; exact h1
    · rcases List.mem_append.1 hq with hq | hq
      · exact h.nm q hq
      · rw [List.mem_singleton.1 hq]; exact hs
  · exact ⟨h1, by omega, h.num, h.nm⟩
theorem Good.del {k : Nat} {nx : Int} {L : List Pt} (h : Good k nx L) (n : Int) : Good (k + 1) nx (delP L n) :=
  ⟨h.lo, by have := h.hi; omega, fun q hq => h.num q (delP_mem.1 hq).1, fun q hq => h.nm q (delP_mem.1 hq).1⟩
theorem Good.ren {k : Nat} {nx : Int} {L : List Pt} (h : Good k nx L) (n : Int) (s : Bs) (hs : ∃ y, s = madeB y) : Good (k + 1) nx (renL L n s) := by
  refine ⟨h.lo, by have := h.hi; omega, ?_, ?_⟩
  · unfold renL
    split
    · intro q hq
      rcases renP_mem.1 hq with hq | ⟨x, hx, _, rfl⟩
      · exact h.num q hq.1
      · exact h.num x hx
    · exact h.num
  · unfold renL
    split
    · intro q hq
      rcases renP_mem.1 hq with hq | ⟨x, hx, _, rfl⟩
      · exact h.nm q hq.1
      · exact hs
    · exact h.nm

theorem SmallsAt.later {w w' : World} {v : Value} {xs : List Sm3} (h : SmallsAt w v xs) (hf : Fr0 none' w w') : SmallsAt w' v xs := by
  obtain ⟨a, cap, rfl, hcap, hc⟩ := h
  refine ⟨a, cap, rfl, hcap, fun j x hx => ?_⟩
  obtain ⟨hok, g, o, e, c0, c1, c2⟩ := hc j x hx
  exact ⟨hok, g, o, e, hf.later c0, hf.later c1, hf.later c2⟩
theorem SpSt.base {w w0 w1 : World} {sb mb : Nat} {nv : Value} {lim nx : Int} {L : List Pt} {E : List (Nat × Obj)} (h : SpSt w0 w1 sb mb nv lim nx L E) (hf : Fr0 none' w w0) : SpSt w w1 sb mb nv lim nx L E :=
  ⟨h.is, hf.trans h.fr, fun k hk => Nat.le_trans hf.size (h.new k hk), h.ex⟩

end Go.Proofs.YtieeloealklkgaaGreatDoor

/-
  slices.Index and slices.Contains at strings.
-/
namespace Go.Proofs.YtieeloealklkgaaGreatDoor
open Go.RowKit Go.Maps
attribute [local go_sem ↓] Go.wp_at_zero Go.wp_at_succ

end Go.Proofs.YtieeloealklkgaaGreatDoor

/-
  SpaceLeads.
-/
namespace Go.Proofs.YtieeloealklkgaaGreatDoor
open Go.RowKit Go.Maps
attribute [local go_sem ↓] Go.wp_at_zero Go.wp_at_succ
attribute [local go_sem high] run_eql_pt run_neq_pt

theorem run_eql_pt0 (a c : Int) (b : Bs) (w : World) : (binOp .eql 43 (.agg #[.int .i64 a, .string (bs b), .int .i64 c]) (.agg #[.int .i64 0, .string ⟨#[]⟩, .int .i64 0])).run Tryz.prog w = .ok (.bool (samePt ⟨a, b, c⟩ noPt)) w := run_eql_pt a c 0 0 b [] w
attribute [local go_sem high] run_eql_pt0
end Go.Proofs.YtieeloealklkgaaGreatDoor

/-
  The reference's space: index, Get, Find.
-/
namespace Go.Proofs.YtieeloealklkgaaGreatDoor
open Go.RowKit Go.Maps
attribute [local go_sem ↓] Go.wp_at_zero Go.wp_at_succ
attribute [local go_sem high] run_eql_pt run_neq_pt

/-- The index of the first port that is so; -1 if there is none. -/
def idxF (f : Pt → Bool) : List Pt → Int
  | [] => -1
  | x :: r => if f x = true then 0 else if idxF f r < 0 then -1 else idxF f r + 1
theorem idxF_at (f : Pt → Bool) : ∀ (L : List Pt) (k : Nat) (p : Pt), (∀ q ∈ L.take k, f q = false) → L[k]? = some p → f p = true → idxF f L = k
  | [], k, _, _, h, _ => by simp at h
  | x :: r, 0, p, _, h, hp => by simp at h; subst h; simp [idxF, hp]
  | x :: r, k + 1, p, h1, h, hp => by
    rw [List.take_succ_cons] at h1
    have := idxF_at f r k p (fun q hq => h1 q (List.mem_cons_of_mem _ hq)) (by simpa using h) hp
    unfold idxF
    rw [if_neg (by rw [h1 x List.mem_cons_self]; simp), this, if_neg (by omega)]; omega
theorem idxF_none (f : Pt → Bool) : ∀ (L : List Pt), (∀ q ∈ L, f q = false) → idxF f L = -1
  | [], _ => rfl
  | x :: r, h => by
    have := idxF_none f r (fun q hq => h q (List.mem_cons_of_mem _ hq))
    unfold idxF
    rw [if_neg (by rw [h x List.mem_cons_self]; simp), this, if_pos (by omega)]
/-- What an index says. -/
theorem idxF_find (f : Pt → Bool) (L : List Pt) : (idxF f L = -1 ∧ L.find? f = none) ∨ ∃ (k : Nat) (p : Pt), idxF f L = k ∧ L[k]? = some p ∧ L.find? f = some p ∧ f p = true ∧ ∀ q ∈ L.take k, f q = false := by
  cases h : L.find? f with
  | none =>
    left
    exact ⟨idxF_none f L (fun q hq => by simpa using List.find?_eq_none.1 h q hq), rfl⟩
  | some p =>
    right
    obtain ⟨hp, l1, l2, rfl, ha⟩ := List.find?_eq_some_iff_append.1 h
    have h1 : (l1 ++ p :: l2)[l1.length]? = some p := by simp
    have h2 : ∀ q ∈ (l1 ++ p :: l2).take l1.length, f q = false := fun q hq => by
      rw [List.take_left' rfl] at hq
      simpa using ha q hq
    exact ⟨l1.length, p, idxF_at f _ _ p h2 h1 hp, h1, rfl, hp, h2⟩
/-- What the reference asks of a port. -/
def isP (n : Int) (s : Bs) (p : Pt) : Bool := decide (p.number = n) || (decide (n = 0) && p.name == s)
theorem isP_num (n : Int) (s : Bs) (hn : n ≠ 0) : isP n s = fun p => p.number == n := by
  funext p
  unfold isP
  rw [decide_eq_false hn]
  by_cases h : p.number = n <;> simp [h]
theorem isP_name {lim nx : Int} {L : List Pt} (h : SpOK lim nx L) (s : Bs) : L.find? (isP 0 s) = nameP L s := by
  unfold nameP
  have : ∀ M : List Pt, (∀ p ∈ M, 1 ≤ p.number) → M.find? (isP 0 s) = M.find? (fun p => p.name == s) := by
    intro M
    induction M with
    | nil => intro _; rfl
    | cons x r ih =>
      intro hM
      have h1 := hM x List.mem_cons_self
      have e : isP 0 s x = (x.name == s) := by unfold isP; rw [decide_eq_false (by omega)]; simp
      rw [List.find?_cons, List.find?_cons, e, ih (fun p hp => hM p (List.mem_cons_of_mem _ hp))]
  exact this L (fun p hp => (h.lo p hp).1)
set_option maxRecDepth 100000 in
set_option maxHeartbeats 2000000 in
theorem rindex_any (lim nx : Int) (a : Option Addr) (n cap : Nat) (L : List Pt) (m : Int) (s : Bs) (w : World) (hn : L.length = n) (hm : n ≤ 1000000)
    (hc : PtsIn w a L) :
    Calls Tryz.prog 77 #[.agg #[.int .i64 lim, .int .i64 nx, .slice a n cap], .int .i64 m, .string (bs s)] w fun e w' => e = .returned (.int .i64 (idxF (isP m s) L)) ∧ Fr0 none' w w' := by
  obtain ⟨R, hR⟩ : ∃ R, idxF (isP m s) L = R := ⟨_, rfl⟩
  rw [hR]
  have HR := Lib.hid hR
  have Hn := Lib.hid hn
  have Hc := Lib.hid hc
  clear hR hn hc
  obtain ⟨W1, hW1⟩ : ∃ W, w.alloc (.cells #[.int .i64 lim, .int .i64 nx, .slice a n cap] 65) = W := ⟨_, rfl⟩
  obtain ⟨B, hB⟩ : ∃ X, w.heap.size = X := ⟨_, rfl⟩
  have f1 := Lib.hid (show Fr0 none' w W1 by rw [← hW1]; exact (Fr0.refl _ _).alloc _)
  have hbb : W1.heap[B]? = some (.cells #[.int .i64 lim, .int .i64 nx, .slice a n cap] 65 (0, 0)) := by rw [← hW1, ← hB]; exact World.alloc_heap_new w _
  have b2 := cells_in hbb 2
  simp at b2
  clear hbb
  go_enter Tryz.func77, Tryz.ntmps77
  go_wp2_with fail
  clear hW1 hB
  go_loopw [7] (fun i wr => ∃ k : Nat, k ≤ n ∧ i = .int .i64 k ∧ Hid (∀ q ∈ L.take k, isP m s q = false) ∧ Hid (Fr0 none' W1 wr)) (fun i _ => n - (Go.RowKit.intOf i).toNat)
  case atStart => exact ⟨0, Nat.zero_le _, rfl, by unfold Hid; simp, Fr0.refl _ _⟩
  case round =>
    obtain ⟨k, hk, rfl, hpre, hb⟩ := hrel
    have b2 := hb.out.later b2
    by_cases hlt : k < n
    · obtain ⟨x, hx⟩ : ∃ x, L[k]? = some x := ⟨_, List.getElem?_eq_getElem (by rw [Hn.out]; exact hlt)⟩
      obtain ⟨g, o, rfl, hpc⟩ := Hc.out k x hx
      obtain ⟨d0, d1, d2⟩ := hpc.later (f1.out.trans hb.out)
      obtain ⟨xa, xb, xc⟩ := x
      simp only at d0 d1 d2
      have c1 : (0 : Int) ≤ (k : Int) := by omega
      have c2 : (k : Int) < (n : Int) := by omega
      have hyes : Hid (isP m s ⟨xa, xb, xc⟩ = true → (k : Int) = R) := fun h => by
        rw [← HR.out]; exact (idxF_at _ L k _ hpre.out hx h).symm
      have hno : Hid (isP m s ⟨xa, xb, xc⟩ = false → ∀ q ∈ L.take (k + 1), isP m s q = false) := fun h q hq => by
        rw [List.take_add_one, hx, List.mem_append] at hq
        rcases hq with hq | hq
        · exact hpre.out q hq
        · simp at hq; subst hq; exact h
      clear hx hpc d2
      by_cases h1 : xa = m
      · have hres := Lib.hid (hyes.out (by unfold isP; simp [h1]))
        have e1 : (xa == m) = true := by simpa using h1
        clear h1
        go_wp2_with fail
        go_ret
        exact ⟨ret_int hres.out, f1.out.trans hb.out⟩
      · have e1 : (xa == m) = false := by simpa using h1
        by_cases h2 : m = 0
        · subst h2
          by_cases h3 : xb = s
          · have hres := Lib.hid (hyes.out (by unfold isP; simp [h3]))
            have e2 : ((bs xb).toList == (bs s).toList) = true := by rw [str_eq]; simpa using h3
            clear h1 h3
            go_wp2_with fail
            go_ret
            exact ⟨ret_int hres.out, f1.out.trans hb.out⟩
          · have hres := Lib.hid (hno.out (by unfold isP; simp [h1, h3]))
            have e2 : ((bs xb).toList == (bs s).toList) = false := by rw [str_eq]; simpa using h3
            clear h1 h3
            go_wp2_with fail
            go_roundw
            case rel => exact ⟨k + 1, by omega, by go_num, hres, hb⟩
            case measure => simp [Go.RowKit.intOf]; omega
        · have hres := Lib.hid (hno.out (by unfold isP; simp [h1, h2]))
          have e2 : (m == 0) = false := by simpa using h2
          clear h1 h2
          go_wp2_with fail
          go_roundw
          case rel => exact ⟨k + 1, by omega, by go_num, hres, hb⟩
          case measure => simp [Go.RowKit.intOf]; omega
    · have hres := Lib.hid (show (-1 : Int) = R by
        rw [← HR.out]
        have := hpre.out
        rw [List.take_of_length_le (by rw [Hn.out]; omega)] at this
        exact (idxF_none _ L this).symm)
      go_wp2
      go_ret
      exact ⟨ret_int hres.out, f1.out.trans hb.out⟩

/-- What an index by number, by name says. -/
theorem idx_num (L : List Pt) {m : Int} (hm : m ≠ 0) (s : Bs) : (idxF (isP m s) L = -1 ∧ atP L m = none) ∨ ∃ (k : Nat) (p : Pt), idxF (isP m s) L = k ∧ L[k]? = some p ∧ atP L m = some p ∧ ∀ q ∈ L.take k, q.number ≠ m := by
  have := idxF_find (isP m s) L
  rw [isP_num m s hm] at this ⊢
  rcases this with h | ⟨k, p, h1, h2, h3, _, h5⟩
  · exact .inl h
  · exact .inr ⟨k, p, h1, h2, h3, fun q hq => by simpa using h5 q hq⟩
theorem idx_name {lim nx : Int} {L : List Pt} (h : SpOK lim nx L) (s : Bs) : (idxF (isP 0 s) L = -1 ∧ nameP L s = none) ∨ ∃ (k : Nat) (p : Pt), idxF (isP 0 s) L = k ∧ L[k]? = some p ∧ nameP L s = some p := by
  have := idxF_find (isP 0 s) L
  rw [isP_name h] at this
  rcases this with h | ⟨k, p, h1, h2, h3, _, h5⟩
  · exact .inl h
  · exact .inr ⟨k, p, h1, h2, h3⟩

set_option maxRecDepth 100000 in
set_option maxHeartbeats 2000000 in
theorem rGet_any (lim nx : Int) (a : Option Addr) (n cap : Nat) (L : List Pt) (m : Int) (w : World) (hn : L.length = n) (hm : n ≤ 1000000) (hlo : ∀ p ∈ L, 1 ≤ p.number)
    (hc : PtsIn w a L) :
    Calls Tryz.prog 78 #[.agg #[.int .i64 lim, .int .i64 nx, .slice a n cap], .int .i64 m] w (PtPost (getP L m) (getE L m) w) := by
  have Hn := Lib.hid hn
  have Hc := Lib.hid hc
  have Hlo := Lib.hid hlo
  clear hn hc hlo
  obtain ⟨W1, hW1⟩ : ∃ W, w.alloc (.cells #[.int .i64 lim, .int .i64 nx, .slice a n cap] 65) = W := ⟨_, rfl⟩
  obtain ⟨B, hB⟩ : ∃ X, w.heap.size = X := ⟨_, rfl⟩
  have f1 := Lib.hid (show Fr0 none' w W1 by rw [← hW1]; exact (Fr0.refl _ _).alloc _)
  have hbb : W1.heap[B]? = some (.cells #[.int .i64 lim, .int .i64 nx, .slice a n cap] 65 (0, 0)) := by rw [← hW1, ← hB]; exact World.alloc_heap_new w _
  have b0 := cells_in hbb 0
  have b1 := cells_in hbb 1
  have b2 := cells_in hbb 2
  simp at b0 b1 b2
  have HBB := Lib.hid hbb
  clear hbb
  by_cases hm0 : m = 0
  · subst hm0
    have hat : atP L 0 = none := atP_none.2 (fun q hq => by have := Hlo.out q hq; omega)
    rw [show getP L 0 = noPt by unfold getP; rw [hat]; rfl, show getE L 0 = 6 by unfold getE; rw [hat]; rfl]
    clear hat
    obtain ⟨W2, hW2⟩ : ∃ W, W1.alloc (.cells #[.int .i64 0, .string ⟨#[]⟩, .int .i64 0] 68) = W := ⟨_, rfl⟩
    obtain ⟨PB, hPB⟩ : ∃ X, W1.heap.size = X := ⟨_, rfl⟩
    have f2 := Lib.hid (show Fr0 none' W1 W2 by rw [← hW2]; exact (Fr0.refl _ _).alloc _)
    have hx : W2.heap[PB]? = some (.cells #[.int .i64 0, .string ⟨#[]⟩, .int .i64 0] 68 (0, 0)) := by rw [← hW2, ← hPB]; exact World.alloc_heap_new W1 _
    have HPB := Lib.hid (show w.heap.size ≤ PB from by have := f1.out.size; omega)
    have hlt : PB < W2.heap.size := (Array.getElem?_eq_some_iff.1 hx).1
    have b0 := f2.out.later b0
    have b1 := f2.out.later b1
    have b2 := f2.out.later b2
    have HX := Lib.hid hx
    have x0 := cells_in hx 0
    have x1 := cells_in hx 1
    have x2 := cells_in hx 2
    simp at x0 x1 x2
    have y0 := thaw_in hx 0
    have y1 := thaw_in hx 1
    have y2 := thaw_in hx 2
    clear hx
    simp only [PtPost, ptV, noPt]
    go_enter Tryz.func78, Tryz.ntmps78
    go_wp2_with fail
    refine bodyPost_ret (v := .tuple #[.agg #[.int .i64 0, .string ⟨#[]⟩, .int .i64 0], .int .i64 6]) (by simp [results, Tryz.results78, go_sem, x0, x1, x2, hlt]) rfl ⟨rfl, ?_⟩
    have := HPB.out
    exact (((f1.out.trans f2.out).setCell (fun h => by omega) _).setCell (fun h => by omega) _).setCell (fun h => by omega) _
  · have HC := Lib.hid (fun W (hf : Fr0 none' w W) => rindex_any lim nx a n cap L m [] W Hn.out hm (Hc.out.later hf))
    have hm1 : (m != 0) = true := by simpa using hm0
    obtain ⟨W2, hW2⟩ : ∃ W, W1.alloc (.cells #[.int .i64 0, .string ⟨#[]⟩, .int .i64 0] 68) = W := ⟨_, rfl⟩
    obtain ⟨PB, hPB⟩ : ∃ X, W1.heap.size = X := ⟨_, rfl⟩
    have f2 := Lib.hid (show Fr0 none' W1 W2 by rw [← hW2]; exact (Fr0.refl _ _).alloc _)
    have hx : W2.heap[PB]? = some (.cells #[.int .i64 0, .string ⟨#[]⟩, .int .i64 0] 68 (0, 0)) := by rw [← hW2, ← hPB]; exact World.alloc_heap_new W1 _
    have HPB := Lib.hid (show w.heap.size ≤ PB from by have := f1.out.size; omega)
    have hlt : PB < W2.heap.size := (Array.getElem?_eq_some_iff.1 hx).1
    have b0 := f2.out.later b0
    have b1 := f2.out.later b1
    have b2 := f2.out.later b2
    have HX := Lib.hid hx
    have x0 := cells_in hx 0
    have x1 := cells_in hx 1
    have x2 := cells_in hx 2
    simp at x0 x1 x2
    have y0 := thaw_in hx 0
    have y1 := thaw_in hx 1
    have y2 := thaw_in hx 2
    clear hx
    go_enter Tryz.func78, Tryz.ntmps78
    go_wp2_with fail
    refine (HC.out _ (f1.out.trans f2.out)).mono ?_
    rintro e w3 ⟨rfl, hf⟩
    have hx := (hf.block PB hlt id).trans HX.out
    have hlt3 : PB < w3.heap.size := (Array.getElem?_eq_some_iff.1 hx).1
    have b0 := hf.later b0
    have b1 := hf.later b1
    have b2 := hf.later b2
    have x0 := cells_in hx 0
    have x1 := cells_in hx 1
    have x2 := cells_in hx 2
    simp at x0 x1 x2
    have y0 := thaw_in hx 0
    have y1 := thaw_in hx 1
    have y2 := thaw_in hx 2
    have F3 := Lib.hid (f1.out.trans (f2.out.trans hf))
    clear hx
    rcases idx_num L hm0 [] with ⟨hR, hat⟩ | ⟨k, p, hR, hp, hat, -⟩
    · have hfin := Lib.hid (show Ending.returned (.tuple #[.agg #[.int .i64 0, .string ⟨#[]⟩, .int .i64 0], .int .i64 6]) = Ending.returned (.tuple #[ptV (getP L m), .int .i64 (getE L m)]) from by
        rw [show getP L m = noPt by unfold getP; rw [hat]; rfl, show getE L m = 6 by unfold getE; rw [hat]; rfl]; rfl)
      rw [hR]
      clear hR hat hf
      go_wp2_with fail
      refine bodyPost_ret (v := .tuple #[.agg #[.int .i64 0, .string ⟨#[]⟩, .int .i64 0], .int .i64 6]) (by simp [results, Tryz.results78, go_sem, x0, x1, x2, hlt3]) rfl ⟨hfin.out, ?_⟩
      have := HPB.out
      exact (((F3.out).setCell (fun h => by omega) _).setCell (fun h => by omega) _).setCell (fun h => by omega) _
    · have hfin := Lib.hid (show Ending.returned (.tuple #[.agg #[.int .i64 p.number, .string (bs p.name), .int .i64 p.process], .int .i64 0]) = Ending.returned (.tuple #[ptV (getP L m), .int .i64 (getE L m)]) from by
        rw [show getP L m = p by unfold getP; rw [hat]; rfl, show getE L m = 0 by unfold getE; rw [hat]; rfl]; rfl)
      rw [hR]
      obtain ⟨g, o, rfl, hpc⟩ := Hc.out k p hp
      obtain ⟨d0, d1, d2⟩ := hpc.later F3.out
      obtain ⟨p1, p2, p3⟩ := p
      simp only at d0 d1 d2 hfin
      have hk := (List.getElem?_eq_some_iff.1 hp).1
      rw [Hn.out] at hk
      have k1 : (0 : Int) ≤ (k : Int) := by omega
      have k2 : (k : Int) < (n : Int) := by omega
      have k3 : ¬ ((k : Int) < 0) := by omega
      have k4 : decide ((k : Int) < 0) = false := decide_eq_false (by omega)
      clear hR hat hf hp hpc hk
      go_wp2_with fail
      refine bodyPost_ret (v := .tuple #[.agg #[.int .i64 p1, .string (bs p2), .int .i64 p3], .int .i64 0]) (by simp [results, Tryz.results78, go_sem, x0, x1, x2, hlt3]) rfl ⟨hfin.out, ?_⟩
      have := HPB.out
      exact (((F3.out).setCell (fun h => by omega) _).setCell (fun h => by omega) _).setCell (fun h => by omega) _

set_option maxRecDepth 100000 in
set_option maxHeartbeats 2000000 in
theorem rFind_any (lim nx : Int) (a : Option Addr) (n cap : Nat) (L : List Pt) (s : Bs) (w : World) (hn : L.length = n) (hm : n ≤ 1000000) (hok : SpOK lim nx L) (hs : s.length ≤ 1000)
    (hc : PtsIn w a L) :
    Calls Tryz.prog 79 #[.agg #[.int .i64 lim, .int .i64 nx, .slice a n cap], .string (bs s)] w (PtPost (findP L s) (findE L s) w) := by
  have Hn := Lib.hid hn
  have Hc := Lib.hid hc
  have Hok := Lib.hid hok
  clear hn hc hok
  obtain ⟨W1, hW1⟩ : ∃ W, w.alloc (.cells #[.int .i64 lim, .int .i64 nx, .slice a n cap] 65) = W := ⟨_, rfl⟩
  obtain ⟨B, hB⟩ : ∃ X, w.heap.size = X := ⟨_, rfl⟩
  have f1 := Lib.hid (show Fr0 none' w W1 by rw [← hW1]; exact (Fr0.refl _ _).alloc _)
  have hbb : W1.heap[B]? = some (.cells #[.int .i64 lim, .int .i64 nx, .slice a n cap] 65 (0, 0)) := by rw [← hW1, ← hB]; exact World.alloc_heap_new w _
  have b0 := cells_in hbb 0
  have b1 := cells_in hbb 1
  have b2 := cells_in hbb 2
  simp at b0 b1 b2
  have HBB := Lib.hid hbb
  clear hbb
  have HC := Lib.hid (fun W (hf : Fr0 none' w W) => rindex_any lim nx a n cap L 0 s W Hn.out hm (Hc.out.later hf))
  obtain ⟨r, hr⟩ : ∃ r, rightB s = r := ⟨_, rfl⟩
  have HR := Lib.hid (fun W => refRight_r s (by omega) hr W)
  have Hr := Lib.hid hr
  clear hr
  obtain ⟨W2, hW2⟩ : ∃ W, W1.alloc (.cells #[.int .i64 0, .string ⟨#[]⟩, .int .i64 0] 68) = W := ⟨_, rfl⟩
  obtain ⟨PB, hPB⟩ : ∃ X, W1.heap.size = X := ⟨_, rfl⟩
  have f2 := Lib.hid (show Fr0 none' W1 W2 by rw [← hW2]; exact (Fr0.refl _ _).alloc _)
  have hx : W2.heap[PB]? = some (.cells #[.int .i64 0, .string ⟨#[]⟩, .int .i64 0] 68 (0, 0)) := by rw [← hW2, ← hPB]; exact World.alloc_heap_new W1 _
  have HPB := Lib.hid (show w.heap.size ≤ PB from by have := f1.out.size; omega)
  have hlt : PB < W2.heap.size := (Array.getElem?_eq_some_iff.1 hx).1
  have b0 := f2.out.later b0
  have b1 := f2.out.later b1
  have b2 := f2.out.later b2
  have HX := Lib.hid hx
  have x0 := cells_in hx 0
  have x1 := cells_in hx 1
  have x2 := cells_in hx 2
  simp at x0 x1 x2
  have y0 := thaw_in hx 0
  have y1 := thaw_in hx 1
  have y2 := thaw_in hx 2
  clear hx
  go_enter Tryz.func79, Tryz.ntmps79
  go_wp2_with fail
  refine (HR.out _).mono ?_
  rintro e w3 ⟨rfl, hbe⟩
  have hf := below_to0 hbe
  clear hbe
  have hx := (hf.block PB hlt id).trans HX.out
  have hlt3 : PB < w3.heap.size := (Array.getElem?_eq_some_iff.1 hx).1
  have b0 := hf.later b0
  have b1 := hf.later b1
  have b2 := hf.later b2
  have x0 := cells_in hx 0
  have x1 := cells_in hx 1
  have x2 := cells_in hx 2
  simp at x0 x1 x2
  have y0 := thaw_in hx 0
  have y1 := thaw_in hx 1
  have y2 := thaw_in hx 2
  have F3 := Lib.hid (f1.out.trans (f2.out.trans hf))
  clear hx
  cases r
  · have hfin := Lib.hid (show Ending.returned (.tuple #[.agg #[.int .i64 0, .string ⟨#[]⟩, .int .i64 0], .int .i64 40]) = Ending.returned (.tuple #[ptV (findP L s), .int .i64 (findE L s)]) from by
      rw [show findP L s = noPt by unfold findP; rw [if_pos Hr.out], show findE L s = 40 by unfold findE; rw [if_pos Hr.out]]; rfl)
    clear hf
    go_wp2_with fail
    refine bodyPost_ret (v := .tuple #[.agg #[.int .i64 0, .string ⟨#[]⟩, .int .i64 0], .int .i64 40]) (by simp [results, Tryz.results79, go_sem, x0, x1, x2, hlt3]) rfl ⟨hfin.out, ?_⟩
    have := HPB.out
    exact (((F3.out).setCell (fun h => by omega) _).setCell (fun h => by omega) _).setCell (fun h => by omega) _
  · have HX := Lib.hid (show w3.heap[PB]? = _ from (hf.block PB hlt id).trans HX.out)
    clear hf
    go_wp2_with fail
    refine (HC.out _ F3.out).mono ?_
    rintro e w4 ⟨rfl, hf⟩
    have hx := (hf.block PB hlt3 id).trans HX.out
    have hlt4 : PB < w4.heap.size := (Array.getElem?_eq_some_iff.1 hx).1
    have b0 := hf.later b0
    have b1 := hf.later b1
    have b2 := hf.later b2
    have x0 := cells_in hx 0
    have x1 := cells_in hx 1
    have x2 := cells_in hx 2
    simp at x0 x1 x2
    have y0 := thaw_in hx 0
    have y1 := thaw_in hx 1
    have y2 := thaw_in hx 2
    have F4 := Lib.hid (F3.out.trans hf)
    clear hx hf
    rcases idx_name Hok.out s with ⟨hR, hat⟩ | ⟨k, p, hR, hp, hat⟩
    · have hfin := Lib.hid (show Ending.returned (.tuple #[.agg #[.int .i64 0, .string ⟨#[]⟩, .int .i64 0], .int .i64 6]) = Ending.returned (.tuple #[ptV (findP L s), .int .i64 (findE L s)]) from by
        rw [show findP L s = noPt by unfold findP; rw [if_neg (by rw [Hr.out]; simp), hat]; rfl, show findE L s = 6 by unfold findE; rw [if_neg (by rw [Hr.out]; simp), hat]; rfl]; rfl)
      rw [hR]
      clear hR hat
      go_wp2_with fail
      refine bodyPost_ret (v := .tuple #[.agg #[.int .i64 0, .string ⟨#[]⟩, .int .i64 0], .int .i64 6]) (by simp [results, Tryz.results79, go_sem, x0, x1, x2, hlt4]) rfl ⟨hfin.out, ?_⟩
      have := HPB.out
      exact (((F4.out).setCell (fun h => by omega) _).setCell (fun h => by omega) _).setCell (fun h => by omega) _
    · have hfin := Lib.hid (show Ending.returned (.tuple #[.agg #[.int .i64 p.number, .string (bs p.name), .int .i64 p.process], .int .i64 0]) = Ending.returned (.tuple #[ptV (findP L s), .int .i64 (findE L s)]) from by
        rw [show findP L s = p by unfold findP; rw [if_neg (by rw [Hr.out]; simp), hat]; rfl, show findE L s = 0 by unfold findE; rw [if_neg (by rw [Hr.out]; simp), hat]; rfl]; rfl)
      rw [hR]
      obtain ⟨g, o, rfl, hpc⟩ := Hc.out k p hp
      obtain ⟨d0, d1, d2⟩ := hpc.later F4.out
      obtain ⟨p1, p2, p3⟩ := p
      simp only at d0 d1 d2 hfin
      have hk := (List.getElem?_eq_some_iff.1 hp).1
      rw [Hn.out] at hk
      have k1 : (0 : Int) ≤ (k : Int) := by omega
      have k2 : (k : Int) < (n : Int) := by omega
      have k4 : decide ((k : Int) < 0) = false := decide_eq_false (by omega)
      clear hR hat hp hpc hk
      go_wp2_with fail
      refine bodyPost_ret (v := .tuple #[.agg #[.int .i64 p1, .string (bs p2), .int .i64 p3], .int .i64 0]) (by simp [results, Tryz.results79, go_sem, x0, x1, x2, hlt4]) rfl ⟨hfin.out, ?_⟩
      have := HPB.out
      exact (((F4.out).setCell (fun h => by omega) _).setCell (fun h => by omega) _).setCell (fun h => by omega) _
end Go.Proofs.YtieeloealklkgaaGreatDoor

/-
  The reference's space: Open.
-/
namespace Go.Proofs.YtieeloealklkgaaGreatDoor
open Go.RowKit Go.Maps
attribute [local go_sem ↓] Go.wp_at_zero Go.wp_at_succ
attribute [local go_sem high] run_eql_pt run_neq_pt

theorem flatP_one (P : List Pt) : ∀ v ∈ flatP P, v.oneCell' = true := fun v hv => by
  simp only [flatP, List.mem_flatMap] at hv
  obtain ⟨p, _, hv⟩ := hv
  simp only [ptC, List.mem_cons, List.not_mem_nil, or_false] at hv
  rcases hv with rfl | rfl | rfl <;> rfl
/-- The cells of a row of ports, one after the other. -/
theorem PtsIn.flat {w : World} {g o : Nat} {L : List Pt} (h : PtsIn w (some ⟨g, o, none⟩) L) (j : Nat) (u : Value) (hj : (flatP L)[j]? = some u) : w.cell? ⟨g, o + j, none⟩ = some u := by
  have hl : j < L.length * 3 := by rw [← flatP_length]; exact (List.getElem?_eq_some_iff.1 hj).1
  obtain ⟨k, c, hc, rfl⟩ : ∃ k c, c < 3 ∧ j = k * 3 + c := ⟨j / 3, j % 3, by omega, by omega⟩
  have hk : k < L.length := by omega
  obtain ⟨p, hp⟩ : ∃ p, L[k]? = some p := ⟨_, List.getElem?_eq_getElem hk⟩
  rw [flatP_at L k c p hp hc] at hj
  obtain ⟨g', o', e, h0, h1, h2⟩ := h k p hp
  injection e with e
  injection e with e1 e2
  subst e1; subst e2
  rw [← Nat.add_assoc]
  rcases c with _ | _ | _ | c
  · simp only [ptC, List.getElem?_cons_zero, Option.some.injEq] at hj; subst hj; exact h0
  · simp only [ptC, List.getElem?_cons_zero, List.getElem?_cons_succ, Option.some.injEq] at hj; subst hj; exact h1
  · simp only [ptC, List.getElem?_cons_zero, List.getElem?_cons_succ, Option.some.injEq] at hj; subst hj; exact h2
  · omega
set_option maxRecDepth 100000 in
/-- A row of ports, as the source of an append. -/
theorem PtsIn.src {w : World} {a : Option Addr} {L : List Pt} {n : Nat} (h : PtsIn w a L) (hn : L.length = n) (cap : Nat) {tx e' : TypeId} (hk : Tryz.prog.underlying tx = some (.slice e')) : Src Tryz.prog 3 tx (.slice a n cap) n (flatP L) w := by
  cases a with
  | none =>
    have hL : L = [] := by
      clear hn
      cases L with
      | nil => rfl
      | cons p r => obtain ⟨g, o, e, _⟩ := h 0 p rfl; cases e
    subst hL
    subst hn
    exact Src.ofNil w hk cap
  | some ad =>
    refine Src.ofSlice w hk ad n cap (flatP L) (by rw [flatP_length, hn]) (fun j u hj => ?_) (flatP_one L)
    obtain ⟨g, o, s⟩ := ad
    obtain ⟨p, hp⟩ : ∃ p, L[0]? = some p := by
      cases L with
      | nil => simp [flatP] at hj
      | cons p r => exact ⟨p, rfl⟩
    obtain ⟨g', o', e, _⟩ := h 0 p hp
    injection e with e
    injection e with _ _ e
    subst e
    rw [Addr.add_lit]
    exact h.flat j u hj
theorem PtsIn.one {w : World} {g : Nat} {a c : Int} {b : Bs} {ty : TypeId} (h : w.heap[g]? = some (.cells #[.int .i64 a, .string (bs b), .int .i64 c] ty (0, 0))) : PtsIn w (some ⟨g, 0, none⟩) [⟨a, b, c⟩] := fun i p hp => by
  cases i with
  | zero =>
    simp at hp
    subst hp
    have h0 := cells_in h 0
    have h1 := cells_in h 1
    have h2 := cells_in h 2
    simp at h0 h1 h2
    exact ⟨g, 0, rfl, h0, h1, h2⟩
  | succ i => simp at hp
theorem PtsIn.of_own {w : World} {base : Nat} {e : TypeId} {v : Value} {n : Nat} {L : List Pt} (h : w.ownsRow base e 3 v n (flatP L)) (hn : L.length = n) : ∃ a cap, v = .slice a n cap ∧ PtsIn w a L ∧ n ≤ cap ∧ cap ≤ maxLen ∧ ∀ g o s, a = some ⟨g, o, s⟩ → base ≤ g := by
  have hl := h.1
  rcases h.2 with ⟨rfl, h0⟩ | ⟨g, cap, cur, rfl, hb, hg, hn', hcm, hs, ht⟩
  · have : L = [] := List.eq_nil_of_length_eq_zero (by omega)
    subst this
    exact ⟨none, 0, by rw [h0], fun i p hp => by simp at hp, by omega, by unfold maxLen; omega, fun g o s e => by cases e⟩
  · refine ⟨_, cap, rfl, fun i p hp => ⟨g, 0, rfl, ?_, ?_, ?_⟩, hn', hcm, fun g' o s e => by injection e with e; injection e with e; omega⟩
    all_goals
      have hi := (List.getElem?_eq_some_iff.1 hp).1
      have h1 : ∀ j, j < n * 3 → cur.toList[j]? = (flatP L)[j]? := fun j hj => by rw [← ht, List.getElem?_take_of_lt hj]
      have h2 := flatP_at L i
      rw [cells_in hg, ← Array.getElem?_toList, Nat.zero_add]
    · have := h2 0 p hp (by omega); rw [Nat.add_zero] at this; rw [h1 _ (by omega), this]; rfl
    · rw [h1 _ (by omega), h2 1 p hp (by omega)]; rfl
    · rw [h1 _ (by omega), h2 2 p hp (by omega)]; rfl
theorem info_rp : (Tryz.prog.info? 68).map (fun i => (i.zero, i.size, i.bytes)) = some (some (.agg #[.int .i64 0, .string ⟨#[]⟩, .int .i64 0]), 3, 32) := by kernel_rfl
/-- append in a drawn region, elements of any size. -/
theorem wp_app_k {P : Program} {o : Oper} {w : World} {a : Act} {K : Act → World → Prop} {Q : Exit → Act → World → Prop} (s x : Operand) (t tx : TypeId)
    (ho : o.op = .call { callee := .builtin .append, args := #[s, x], argTypes := #[t, tx] })
    (base : Nat) (e : TypeId) (i : TypeInfo) (z : Value) (size bytes : Nat) (ht : P.underlying t = some (.slice e)) (hi : P.info? e = some i) (hz : i.zero = some z)
    (hsize : i.size = size) (hby : i.bytes = bytes) (hzs : z.cells.size = size) (hsz : 0 < size)
    (v : Value) (n : Nat) (xs : List Value) (hs : a.eval s = v) (hown : w.ownsRow base e size v n xs)
    (xv : Value) (m : Nat) (news : List Value) (hx : a.eval x = xv) (hsrc : Src P size tx xv m news w)
    (h63 : n + m ≤ maxLen) (hbytes : (n + m) * bytes ≤ 140737488355328) (hbase : base ≤ w.heap.size)
    (h : ∀ v' w', w'.ownsRow base e size v' (n + m) (xs ++ news) → w.grownBy w' v.ownBlock → K (a.put o.dst v') w') : o.wp P a w K Q := by
  obtain ⟨v', w', hr, h2, h3, _, _⟩ := run_append_own_k (P := P) w base t tx o.type e i z size bytes ht hi hz hsize hby hzs hsz v n xs hown xv m news hsrc h63 hbytes hbase
  unfold Oper.wp execOp
  simp only [ho, resolve, invoke, builtin, Sem.run_bind, Sem.run_pure, Result.andThen_ok, List.map_toArray, List.map_cons, List.map_nil, hs, hx, hr]
  exact h v' w' h2 h3
/-- The reference's space behind a call. -/
structure RsAt (w : World) (u : Value) (lim nx : Int) (L : List Pt) (a0 : Option Addr) (B0 : Nat) : Prop where
  some : ∃ a cap, u = .agg #[.int .i64 lim, .int .i64 nx, .slice a L.length cap] ∧ PtsIn w a L ∧ L.length ≤ cap ∧ cap ≤ maxLen ∧ (a = a0 ∨ ∀ g o s, a = some ⟨g, o, s⟩ → B0 ≤ g)
def ROpPost (a0 : Option Addr) (lim nx : Int) (L : List Pt) (N E : Int) (w : World) (e : Ending) (w' : World) : Prop := ∃ u, e = .returned (.tuple #[u, .int .i64 N, .int .i64 E]) ∧ RsAt w' u lim nx L a0 w.heap.size ∧ Fr0 none' w w'

set_option maxRecDepth 100000 in
set_option maxHeartbeats 4000000 in
theorem rOpen_any (lim nx : Int) (a : Option Addr) (n cap : Nat) (L : List Pt) (s : Bs) (p : Int) (w : World) (hn : L.length = n) (hm : n ≤ 1000) (hcap : n ≤ cap) (hcm : cap ≤ maxLen) (hok : SpOK lim nx L) (hs : s.length ≤ 1000)
    (hc : PtsIn w a L) :
    Calls Tryz.prog 28 #[.agg #[.int .i64 lim, .int .i64 nx, .slice a n cap], .string (bs s), .int .i64 p] w (ROpPost a lim (openX lim nx L s p) (openL lim nx L s p) (openN lim nx L s p) (openE lim nx L s p) w) := by
  obtain ⟨i0, hi, hz0, hz1, hz2⟩ := info_parts info_rp
  obtain ⟨E, hE⟩ : ∃ E, openE lim nx L s p = E := ⟨_, rfl⟩
  obtain ⟨POST, hPOST⟩ : ∃ Q, ROpPost a lim (openX lim nx L s p) (openL lim nx L s p) (openN lim nx L s p) E w = Q := ⟨_, rfl⟩
  rw [hE, hPOST]
  have Hno := Lib.hid (show ∀ E', E' ≠ 0 → E = E' → ∀ W', Fr0 none' w W' → POST (.returned (.tuple #[.agg #[.int .i64 lim, .int .i64 nx, .slice a n cap], .int .i64 0, .int .i64 E'])) W' from fun E' h0 h1 W' hf => by
    subst h1
    rw [← hPOST]
    have h2 : openN lim nx L s p = 0 := if_neg (by rw [hE]; exact h0)
    have h3 : openX lim nx L s p = nx := if_neg (by rw [hE]; exact h0)
    have h4 : openL lim nx L s p = L := if_neg (by rw [hE]; exact h0)
    rw [h2, h3, h4]
    exact ⟨_, rfl, ⟨a, cap, by rw [hn], hc.later hf, by omega, hcm, .inl rfl⟩, hf⟩)
  have Hyes := Lib.hid (show E = 0 → ∀ a' cap' W', PtsIn W' a' (L ++ [⟨nx, s, p⟩]) → n + 1 ≤ cap' → cap' ≤ maxLen → (∀ g o s, a' = some ⟨g, o, s⟩ → w.heap.size ≤ g) → Fr0 none' w W' → POST (.returned (.tuple #[.agg #[.int .i64 lim, .int .i64 (nx + 1), .slice a' (n + 1) cap'], .int .i64 nx, .int .i64 0])) W' from fun h0 a' cap' W' h1 h2 h3 h4 hf => by
    rw [← hPOST, h0]
    have g2 : openN lim nx L s p = nx := if_pos (by rw [hE]; exact h0)
    have g3 : openX lim nx L s p = nx + 1 := if_pos (by rw [hE]; exact h0)
    have g4 : openL lim nx L s p = L ++ [⟨nx, s, p⟩] := if_pos (by rw [hE]; exact h0)
    rw [g2, g3, g4]
    exact ⟨_, rfl, ⟨a', cap', by rw [List.length_append, hn]; rfl, h1, by rw [List.length_append, hn]; exact h2, h3, .inr h4⟩, hf⟩)
  have Hn := Lib.hid hn
  have Hc := Lib.hid hc
  have Hok := Lib.hid hok
  have HE := Lib.hid hE.symm
  obtain ⟨r, hr⟩ : ∃ r, rightB s = r := ⟨_, rfl⟩
  have HR := Lib.hid (fun W => refRight_r s (by omega) hr W)
  have Hr := Lib.hid hr
  clear hn hc hok hE hPOST hr
  have HC := Lib.hid (fun W (hf : Fr0 none' w W) => rindex_any lim nx a n cap L 0 s W Hn.out (by omega) (Hc.out.later hf))
  obtain ⟨W1, hW1⟩ : ∃ W, w.alloc (.cells #[.int .i64 lim, .int .i64 nx, .slice a n cap] 65) = W := ⟨_, rfl⟩
  obtain ⟨B, hB⟩ : ∃ X, w.heap.size = X := ⟨_, rfl⟩
  have f1 := Lib.hid (show Fr0 none' w W1 by rw [← hW1]; exact (Fr0.refl _ _).alloc _)
  have hb : W1.heap[B]? = some (.cells #[.int .i64 lim, .int .i64 nx, .slice a n cap] 65 (0, 0)) := by rw [← hW1, ← hB]; exact World.alloc_heap_new w _
  obtain ⟨W2, hW2⟩ : ∃ W, W1.alloc (.cells #[.int .i64 0, .int .i64 0, .slice none 0 0] 65) = W := ⟨_, rfl⟩
  obtain ⟨PB, hPB⟩ : ∃ X, W1.heap.size = X := ⟨_, rfl⟩
  have f2 := Lib.hid (show Fr0 none' W1 W2 by rw [← hW2]; exact (Fr0.refl _ _).alloc _)
  have hx : W2.heap[PB]? = some (.cells #[.int .i64 0, .int .i64 0, .slice none 0 0] 65 (0, 0)) := by rw [← hW2, ← hPB]; exact World.alloc_heap_new W1 _
  have hb1 := (Array.getElem?_eq_some_iff.1 hb).1
  have HPB := Lib.hid (show w.heap.size ≤ PB ∧ w.heap.size ≤ B ∧ PB ≠ B from ⟨by have := f1.out.size; omega, by omega, by omega⟩)
  have hb := (f2.out.block B hb1 id).trans hb
  have hlt : PB < W2.heap.size := (Array.getElem?_eq_some_iff.1 hx).1
  have hlb : B < W2.heap.size := (Array.getElem?_eq_some_iff.1 hb).1
  have F := Lib.hid (f1.out.trans f2.out)
  clear hb1
  have x0 := cells_in hx 0
  have x1 := cells_in hx 1
  have x2 := cells_in hx 2
  simp at x0 x1 x2
  have y0 := thaw_in hx 0
  have y1 := thaw_in hx 1
  have y2 := thaw_in hx 2
  have z0 := thaw_in hb 0
  have z1 := thaw_in hb 1
  have z2 := thaw_in hb 2
  have b0 := cells_in hb 0
  have b1 := cells_in hb 1
  have b2 := cells_in hb 2
  simp at b0 b1 b2
  have HX := Lib.hid hx
  have HBB := Lib.hid hb
  clear hx hb f1 f2
  go_enter Tryz.func28, Tryz.ntmps28
  go_wp2_with fail
  clear hW1 hB hW2 hPB
  refine (HR.out _).mono ?_
  rintro e w3 ⟨rfl, hbe⟩
  have hf := below_to0 hbe
  clear hbe
  have hx := (hf.block PB hlt id).trans HX.out
  have hb := (hf.block B hlb id).trans HBB.out
  have hlt : PB < w3.heap.size := (Array.getElem?_eq_some_iff.1 hx).1
  have hlb : B < w3.heap.size := (Array.getElem?_eq_some_iff.1 hb).1
  have F := Lib.hid (F.out.trans hf)
  clear x0 x1 x2 y0 y1 y2 z0 z1 z2 b0 b1 b2
  have x0 := cells_in hx 0
  have x1 := cells_in hx 1
  have x2 := cells_in hx 2
  simp at x0 x1 x2
  have y0 := thaw_in hx 0
  have y1 := thaw_in hx 1
  have y2 := thaw_in hx 2
  have z0 := thaw_in hb 0
  have z1 := thaw_in hb 1
  have z2 := thaw_in hb 2
  have b0 := cells_in hb 0
  have b1 := cells_in hb 1
  have b2 := cells_in hb 2
  simp at b0 b1 b2
  have HX := Lib.hid hx
  have HBB := Lib.hid hb
  clear hf hx hb
  cases r
  · go_wp2_with fail
    refine bodyPost_ret (v := .tuple #[.agg #[.int .i64 lim, .int .i64 nx, .slice a n cap], .int .i64 0, .int .i64 40]) (by simp [results, Tryz.results28, go_sem, x0, x1, x2, hlt]) rfl ?_
    have := HPB.out
    exact Hno.out 40 (by decide) (by rw [HE.out]; unfold openE; rw [if_pos Hr.out]) _ ((((F.out).setCell (fun h => by omega) _).setCell (fun h => by omega) _).setCell (fun h => by omega) _)
  · by_cases c1 : p < 1
    · have d1 : decide (p < 1) = true := decide_eq_true c1
      go_wp2_with fail
      refine bodyPost_ret (v := .tuple #[.agg #[.int .i64 lim, .int .i64 nx, .slice a n cap], .int .i64 0, .int .i64 2]) (by simp [results, Tryz.results28, go_sem, x0, x1, x2, hlt]) rfl ?_
      have := HPB.out
      exact Hno.out 2 (by decide) (by rw [HE.out]; unfold openE; rw [if_neg (by rw [Hr.out]; simp), if_pos (.inl c1)]) _ ((((F.out).setCell (fun h => by omega) _).setCell (fun h => by omega) _).setCell (fun h => by omega) _)
    · have d1 : decide (p < 1) = false := decide_eq_false c1
      by_cases c2 : 16 < p
      · have d2 : decide (16 < p) = true := decide_eq_true c2
        go_wp2_with fail
        refine bodyPost_ret (v := .tuple #[.agg #[.int .i64 lim, .int .i64 nx, .slice a n cap], .int .i64 0, .int .i64 2]) (by simp [results, Tryz.results28, go_sem, x0, x1, x2, hlt]) rfl ?_
        have := HPB.out
        exact Hno.out 2 (by decide) (by rw [HE.out]; unfold openE; rw [if_neg (by rw [Hr.out]; simp), if_pos (.inr c2)]) _ ((((F.out).setCell (fun h => by omega) _).setCell (fun h => by omega) _).setCell (fun h => by omega) _)
      · have d2 : decide (16 < p) = false := decide_eq_false c2
        go_wp2_with fail
        refine (HC.out _ F.out).mono ?_
        rintro e w4 ⟨rfl, hf⟩
        have hx := (hf.block PB hlt id).trans HX.out
        have hb := (hf.block B hlb id).trans HBB.out
        have hlt : PB < w4.heap.size := (Array.getElem?_eq_some_iff.1 hx).1
        have hlb : B < w4.heap.size := (Array.getElem?_eq_some_iff.1 hb).1
        have F := Lib.hid (F.out.trans hf)
        clear x0 x1 x2 y0 y1 y2 z0 z1 z2 b0 b1 b2
        have x0 := cells_in hx 0
        have x1 := cells_in hx 1
        have x2 := cells_in hx 2
        simp at x0 x1 x2
        have y0 := thaw_in hx 0
        have y1 := thaw_in hx 1
        have y2 := thaw_in hx 2
        have z0 := thaw_in hb 0
        have z1 := thaw_in hb 1
        have z2 := thaw_in hb 2
        have b0 := cells_in hb 0
        have b1 := cells_in hb 1
        have b2 := cells_in hb 2
        simp at b0 b1 b2
        have HX := Lib.hid hx
        have HBB := Lib.hid hb
        clear hf hx hb
        have Hcc := Lib.hid (show ¬ (p < 1 ∨ 16 < p) from by omega)
        clear c1 c2 d1 d2
        rcases idx_name Hok.out s with ⟨hR, hat⟩ | ⟨k, q, hR, hp, hat⟩
        · rw [hR]
          have Hat := Lib.hid hat
          clear hR hat
          by_cases c3 : lim ≤ (n : Int)
          · have d3 : decide (lim ≤ (n : Int)) = true := decide_eq_true c3
            go_wp2_with fail
            refine bodyPost_ret (v := .tuple #[.agg #[.int .i64 lim, .int .i64 nx, .slice a n cap], .int .i64 0, .int .i64 5]) (by simp [results, Tryz.results28, go_sem, x0, x1, x2, hlt]) rfl ?_
            have := HPB.out
            exact Hno.out 5 (by decide) (by rw [HE.out]; unfold openE; rw [if_neg (by rw [Hr.out]; simp), if_neg Hcc.out, if_neg (by rw [Hat.out]; simp), Hn.out, if_pos c3]) _ ((((F.out).setCell (fun h => by omega) _).setCell (fun h => by omega) _).setCell (fun h => by omega) _)
          · have d3 : decide (lim ≤ (n : Int)) = false := decide_eq_false c3
            have Hc3 := Lib.hid c3
            by_cases c4 : 4294967295 < nx
            · have d4 : decide (4294967295 < nx) = true := decide_eq_true c4
              go_wp2_with fail
              refine bodyPost_ret (v := .tuple #[.agg #[.int .i64 lim, .int .i64 nx, .slice a n cap], .int .i64 0, .int .i64 4]) (by simp [results, Tryz.results28, go_sem, x0, x1, x2, hlt]) rfl ?_
              have := HPB.out
              exact Hno.out 4 (by decide) (by rw [HE.out]; unfold openE; rw [if_neg (by rw [Hr.out]; simp), if_neg Hcc.out, if_neg (by rw [Hat.out]; simp), Hn.out, if_neg (by have := Hc3.out; omega), if_pos c4]) _ ((((F.out).setCell (fun h => by omega) _).setCell (fun h => by omega) _).setCell (fun h => by omega) _)
            · have d4 : decide (4294967295 < nx) = false := decide_eq_false c4
              have HE0 := Lib.hid (show E = 0 from by rw [HE.out]; unfold openE; rw [if_neg (by rw [Hr.out]; simp), if_neg Hcc.out, if_neg (by rw [Hat.out]; simp), Hn.out, if_neg (by have := Hc3.out; omega), if_neg c4])
              go_wp2_with fail
              have Skey := Lib.hid (show ∀ W', Fr0 none' w4 W' → W'.cell? ⟨B, 1, none⟩ = some (.int .i64 nx) ∧ W'.cell? ⟨B, 2, none⟩ = some (.slice a n cap) from fun W' hf => ⟨hf.later b1, hf.later b2⟩)
              have hHeld := Skey.out _ (Fr0.refl none' w4).drew
              have F0 := Lib.hid (Fr0.refl none' w4).drew
              refine wp_region_Z (z := 12) (S := fun W' => W'.cell? ⟨B, 1, none⟩ = some (.int .i64 nx) ∧ W'.cell? ⟨B, 2, none⟩ = some (.slice a n cap)) (by kernel_rfl) ?_
              obtain ⟨WD, hWD⟩ : ∃ W, w4.drew = W := ⟨_, rfl⟩
              rw [hWD] at F0 hHeld ⊢
              clear hWD
              refine takeZ_on (i := 1) (v := .pointer (some ⟨B, 2, none⟩)) rfl (by kernel_rfl) (by kernel_rfl) (by kernel_rfl) (by kernel_rfl) (fun _ _ _ h => h) (by kernel_rfl) (fun W' hSW => ?_) (by assumption) ?_
              · (try dsimp only at hSW)
                first | (go_simp; done) | exact rfl | (go_simp; rfl) | (go_simp; omega)
              try simp only [Act.put, List.setIfInBounds_toArray, List.set_cons_zero, List.set_cons_succ]
              refine takeZ_on (i := 2) (v := .slice a n cap) rfl (by kernel_rfl) (by kernel_rfl) (by kernel_rfl) (by kernel_rfl) (fun _ _ _ h => h) (by kernel_rfl) (fun W' hSW => ?_) (by assumption) ?_
              · (try dsimp only at hSW)
                first | (go_simp; done) | exact rfl | (go_simp; rfl) | (go_simp; omega)
              try simp only [Act.put, List.setIfInBounds_toArray, List.set_cons_zero, List.set_cons_succ]
              refine takeZ_on (i := 4) (v := .pointer (some ⟨B, 1, none⟩)) rfl (by kernel_rfl) (by kernel_rfl) (by kernel_rfl) (by kernel_rfl) (fun _ _ _ h => h) (by kernel_rfl) (fun W' hSW => ?_) (by assumption) ?_
              · (try dsimp only at hSW)
                first | (go_simp; done) | exact rfl | (go_simp; rfl) | (go_simp; omega)
              try simp only [Act.put, List.setIfInBounds_toArray, List.set_cons_zero, List.set_cons_succ]
              refine takeZ_on (i := 5) (v := .int .i64 nx) rfl (by kernel_rfl) (by kernel_rfl) (by kernel_rfl) (by kernel_rfl) (fun _ _ _ h => h) (by kernel_rfl) (fun W' hSW => ?_) (by assumption) ?_
              · (try dsimp only at hSW)
                first | (go_simp; done) | exact rfl | (go_simp; rfl) | (go_simp; omega)
              try simp only [Act.put, List.setIfInBounds_toArray, List.set_cons_zero, List.set_cons_succ]
              refine takeZ_on (i := 6) (v := .string (bs s)) rfl (by kernel_rfl) (by kernel_rfl) (by kernel_rfl) (by kernel_rfl) (fun _ _ _ h => h) (by kernel_rfl) (fun W' hSW => ?_) (by assumption) ?_
              · (try dsimp only at hSW)
                first | (go_simp; done) | exact rfl | (go_simp; rfl) | (go_simp; omega)
              try simp only [Act.put, List.setIfInBounds_toArray, List.set_cons_zero, List.set_cons_succ]
              refine takeZ_on (i := 7) (v := .int .i64 p) rfl (by kernel_rfl) (by kernel_rfl) (by kernel_rfl) (by kernel_rfl) (fun _ _ _ h => h) (by kernel_rfl) (fun W' hSW => ?_) (by assumption) ?_
              · (try dsimp only at hSW)
                first | (go_simp; done) | exact rfl | (go_simp; rfl) | (go_simp; omega)
              try simp only [Act.put, List.setIfInBounds_toArray, List.set_cons_zero, List.set_cons_succ]
              refine takeZ_on (i := 8) (v := .agg #[.int .i64 nx, .string (bs s), .int .i64 p]) rfl (by kernel_rfl) (by kernel_rfl) (by kernel_rfl) (by kernel_rfl) (fun _ _ _ h => h) (by kernel_rfl) (fun W' hSW => ?_) (by assumption) ?_
              · (try dsimp only at hSW)
                first | (go_simp; done) | exact rfl | (go_simp; rfl) | (go_simp; omega)
              try simp only [Act.put, List.setIfInBounds_toArray, List.set_cons_zero, List.set_cons_succ]
              refine takeZ_two (i := 0) (j := 9) rfl rfl (by kernel_rfl) (by kernel_rfl) (by kernel_rfl) (fun K hK => ?_) (fun K hK => ?_)
              · skip
                go_simp
                obtain ⟨V1, hV⟩ : ∃ W, WD.alloc (.cells #[] 68) = W := ⟨_, rfl⟩
                obtain ⟨G, hG⟩ : ∃ X, WD.heap.size = X := ⟨_, rfl⟩
                have hrow := World.ownsRow_lit (base := w4.heap.size) (e := 68) (size := 3) WD #[] 0 F0.out.size (by unfold maxLen; omega) rfl
                have fV := Lib.hid (show Fr0 none' WD V1 by rw [← hV]; exact (Fr0.refl _ _).alloc _)
                have F2 := Lib.hid (F0.out.trans fV.out)
                rw [hV, hG] at hrow
                rw [hV, hG]
                have Hrow := Lib.hid hrow
                have hGV := (hrow.lt G rfl).2
                have HGl := Lib.hid (show G = WD.heap.size from hG.symm)
                clear hV hG hrow
                refine hK.out _ _ (.inr (Skey.out _ F2.out)) ?_
                clear hK K
                try simp only [Act.put, List.setIfInBounds_toArray, List.set_cons_zero, List.set_cons_succ]
                refine takeZ_two (i := 3) (j := 9) rfl rfl (by kernel_rfl) (by kernel_rfl) (by kernel_rfl) (fun K hK => ?_) (fun K hK => ?_)
                · skip
                  refine wp_app_k _ _ 63 63 rfl w4.heap.size 68 i0 (.agg #[.int .i64 0, .string ⟨#[]⟩, .int .i64 0]) 3 32 Tryz.underlying63 hi hz0 hz1 hz2 rfl (by decide) (.slice (some ⟨G, 0, none⟩) 0 0) 0 [] rfl Hrow.out (.slice a n cap) n (flatP L) rfl ((Hc.out.later (F.out.trans F2.out)).src Hn.out cap Tryz.underlying63) (by unfold maxLen; omega) (by omega) F2.out.size ?_
                  intro v1 V2 hown1 hgr
                  have fA := Lib.hid (show Fr0 (fun k => k = G) V1 V2 from (Fr0.refl (fun k => k = G) V1).grown hgr (fun k hk _ => by simpa [Value.ownBlock] using hk.symm))
                  have F3 := Lib.hid (F2.out.trans' fA.out (fun k hk e => by have := HGl.out; have := F0.out.size; omega))
                  have Hown1 := Lib.hid hown1
                  clear hown1 hgr
                  refine hK.out _ _ (.inr (Skey.out _ F3.out)) ?_
                  clear hK K
                  try simp only [Act.put, List.setIfInBounds_toArray, List.set_cons_zero, List.set_cons_succ]
                  refine takeZ_call (i := 9) rfl (by kernel_rfl) (by kernel_rfl) (fun K hK => ?_)
                  go_simp
                  obtain ⟨V3, hV⟩ : ∃ W, V2.alloc (.cells #[.int .i64 nx, .string (bs s), .int .i64 p] 68) = W := ⟨_, rfl⟩
                  obtain ⟨LB, hG⟩ : ∃ X, V2.heap.size = X := ⟨_, rfl⟩
                  have hlit : V3.heap[LB]? = some (.cells #[.int .i64 nx, .string (bs s), .int .i64 p] 68 (0, 0)) := by rw [← hV, ← hG]; exact World.alloc_heap_new V2 _
                  have fL := Lib.hid (show Fr0 none' V2 V3 by rw [← hV]; exact (Fr0.refl _ _).alloc _)
                  have F4 := Lib.hid (F3.out.trans fL.out)
                  rw [hV, hG]
                  have Hlit := Lib.hid (PtsIn.one hlit)
                  have hLV := (Array.getElem?_eq_some_iff.1 hlit).1
                  have HLl := Lib.hid (show LB = V2.heap.size from hG.symm)
                  clear hV hG hlit
                  refine hK.out _ _ (.inr (Skey.out _ F4.out)) ?_
                  clear hK K
                  try simp only [Act.put, List.setIfInBounds_toArray, List.set_cons_zero, List.set_cons_succ]
                  have Hown2 := Lib.hid (ownsRow_fr0 Hown1.out fL.out (fun _ _ h => h))
                  refine takeZ_call (i := 10) rfl (by kernel_rfl) (by kernel_rfl) (fun K hK => ?_)
                  refine wp_app_k _ _ 63 63 rfl w4.heap.size 68 i0 (.agg #[.int .i64 0, .string ⟨#[]⟩, .int .i64 0]) 3 32 Tryz.underlying63 hi hz0 hz1 hz2 rfl (by decide) v1 (0 + n) _ rfl Hown2.out (.slice (some ⟨LB, 0, none⟩) 1 1) 1 (flatP [⟨nx, s, p⟩]) rfl (Hlit.out.src rfl 1 Tryz.underlying63) (by unfold maxLen; omega) (by omega) F4.out.size ?_
                  intro v2 V9 hown2 hgr2
                  have hg2 := Hown2.out.lt
                  have F9 := Lib.hid (F4.out.grown hgr2 (fun k hk hkl => by have := (hg2 k hk).1; omega))
                  obtain ⟨va, vc, rfl, hva, hvc, hvm, hvb⟩ := PtsIn.of_own (L := L ++ [⟨nx, s, p⟩]) (n := n + 1) (by rw [Nat.zero_add, List.nil_append] at hown2; rw [flatP_append]; exact hown2) (by rw [List.length_append, Hn.out]; rfl)
                  have HVW := Lib.hid (show ∀ g o s', va = some ⟨g, o, s'⟩ → w.heap.size ≤ g from fun g o s' e => by have := hvb g o s' e; have := F.out.size; omega)
                  have HVP := Lib.hid (show ∀ g o s', va = some ⟨g, o, s'⟩ → ¬ g = PB from fun g o s' e h => by have := hvb g o s' e; omega)
                  have HVB := Lib.hid (show ∀ g o s', va = some ⟨g, o, s'⟩ → ¬ g = B from fun g o s' e h => by have := hvb g o s' e; omega)
                  have Hva := Lib.hid (show PtsIn V9 va (L ++ [⟨nx, s, p⟩]) ∧ n + 1 ≤ vc ∧ vc ≤ maxLen from ⟨hva, hvc, hvm⟩)
                  clear hown2 hgr2 hg2 hva hvc hvm hvb
                  refine hK.out _ _ (.inr (Skey.out _ F9.out)) ?_
                  clear hK K
                  try simp only [Act.put, List.setIfInBounds_toArray, List.set_cons_zero, List.set_cons_succ]
                  refine takeZ_call (i := 11) rfl (by kernel_rfl) (by kernel_rfl) (fun K hK => ?_)
                  go_simp
                  refine hK.out _ _ (.inr (Skey.out _ F9.out)) ?_
                  clear hK K
                  try simp only [Act.put, List.setIfInBounds_toArray, List.set_cons_zero, List.set_cons_succ]
                  refine takeZ_call (i := 12) rfl (by kernel_rfl) (by kernel_rfl) (fun K hK => ?_)
                  have hb := (F9.out.block B hlb id).trans HBB.out
                  have hx := (F9.out.block PB hlt id).trans HX.out
                  have hlb9 := (Array.getElem?_eq_some_iff.1 hb).1
                  have hlt9 := (Array.getElem?_eq_some_iff.1 hx).1
                  clear x0 x1 x2 y0 y1 y2 z0 z1 z2 b0 b1 b2
                  have z0 := thaw_in hb 0
                  have z1 := thaw_in hb 1
                  have z2 := thaw_in hb 2
                  have b0 := cells_in hb 0
                  have b1 := cells_in hb 1
                  have b2 := cells_in hb 2
                  simp at b0 b1 b2
                  go_simp
                  obtain ⟨V10, hV10⟩ : ∃ W, V9.setCell ⟨B, 2, none⟩ (.slice va (n + 1) vc) = W := ⟨_, rfl⟩
                  rw [hV10]
                  have hb10 : V10.heap[B]? = some (.cells #[.int .i64 lim, .int .i64 nx, .slice va (n + 1) vc] 65 (0, 0)) := by
                    rw [← hV10]; simp [World.setCell, Array.getElem?_modify, hb]
                  have f10 := Lib.hid (show Fr0 (fun k => k = B) V9 V10 by rw [← hV10]; exact (Fr0.refl (fun k => k = B) V9).setCell (fun _ => rfl) _)
                  have hx10 := (f10.out.block PB hlt9 HPB.out.2.2).trans hx
                  have F10 := Lib.hid ((F.out.trans F9.out).trans' f10.out (fun k hk e => by have := HPB.out.2.1; omega))
                  have hav := Lib.hid (Hva.out.1.fr0 f10.out HVB)
                  refine hK.out _ _ (.inl rfl) ?_
                  clear hK K hV10 z0 z1 z2 b0 b1 b2 hHeld
                  try simp only [Act.put, List.setIfInBounds_toArray, List.set_cons_zero, List.set_cons_succ]
                  refine wpAnyZ_done (by kernel_rfl) ?_ _
                  have hlt10 := (Array.getElem?_eq_some_iff.1 hx10).1
                  have hlb10 := (Array.getElem?_eq_some_iff.1 hb10).1
                  have hb := hb10
                  have hx := hx10
                  have HX10 := Lib.hid hx10
                  have x0 := cells_in hx 0
                  have x1 := cells_in hx 1
                  have x2 := cells_in hx 2
                  simp at x0 x1 x2
                  have y0 := thaw_in hx 0
                  have y1 := thaw_in hx 1
                  have y2 := thaw_in hx 2
                  have z0 := thaw_in hb 0
                  have z1 := thaw_in hb 1
                  have z2 := thaw_in hb 2
                  have b0 := cells_in hb 0
                  have b1 := cells_in hb 1
                  have b2 := cells_in hb 2
                  simp at b0 b1 b2
                  have hPBne := HPB.out.2.2
                  clear hb hx hx10
                  obtain ⟨V11, hV11⟩ : ∃ W, V10.setCell ⟨B, 1, none⟩ (.int .i64 (nx + 1)) = W := ⟨_, rfl⟩
                  have hb11 : V11.heap[B]? = some (.cells #[.int .i64 lim, .int .i64 (nx + 1), .slice va (n + 1) vc] 65 (0, 0)) := by
                    rw [← hV11]; simp [World.setCell, Array.getElem?_modify, hb10]
                  have f11 := Lib.hid (show Fr0 (fun k => k = B) V10 V11 by rw [← hV11]; exact (Fr0.refl (fun k => k = B) V10).setCell (fun _ => rfl) _)
                  have HV11 := Lib.hid hV11
                  clear hV11
                  go_wp2
                  rw [show wrap64 (nx + 1) = nx + 1 from IntWalk.wrap64_in _ (by have := Hok.out.nxt; omega), HV11.out]
                  have hx11 := (f11.out.block PB hlt10 HPB.out.2.2).trans HX10.out
                  have F11 := Lib.hid (F10.out.trans' f11.out (fun k hk e => by have := HPB.out.2.1; omega))
                  have hav := Lib.hid (hav.out.fr0 f11.out HVB.out)
                  have hlt := (Array.getElem?_eq_some_iff.1 hx11).1
                  have hb := hb11
                  have hx := hx11
                  clear x0 x1 x2 y0 y1 y2 z0 z1 z2 b0 b1 b2
                  have x0 := cells_in hx 0
                  have x1 := cells_in hx 1
                  have x2 := cells_in hx 2
                  simp at x0 x1 x2
                  have y0 := thaw_in hx 0
                  have y1 := thaw_in hx 1
                  have y2 := thaw_in hx 2
                  have z0 := thaw_in hb 0
                  have z1 := thaw_in hb 1
                  have z2 := thaw_in hb 2
                  have b0 := cells_in hb 0
                  have b1 := cells_in hb 1
                  have b2 := cells_in hb 2
                  simp at b0 b1 b2
                  clear hb hx
                  have Skey2 := Lib.hid (show ∀ W', Fr0 (fun k => k = PB) V11 W' → W'.cell? ⟨B, 0, none⟩ = some (.int .i64 lim) ∧ W'.cell? ⟨B, 1, none⟩ = some (.int .i64 (nx + 1)) ∧ W'.cell? ⟨B, 2, none⟩ = some (.slice va (n + 1) vc) from fun W' hf => by
                    have hk : ∀ o, W'.cell? ⟨B, o, none⟩ = V11.cell? ⟨B, o, none⟩ := fun o => hf.cell (p := ⟨B, o, none⟩) (Array.getElem?_eq_some_iff.1 hb11).1 (fun e => HPB.out.2.2 e.symm)
                    exact ⟨(hk 0).trans b0, (hk 1).trans b1, (hk 2).trans b2⟩)
                  refine wp_region_held_drew (S := fun W' => W'.cell? ⟨B, 0, none⟩ = some (.int .i64 lim) ∧ W'.cell? ⟨B, 1, none⟩ = some (.int .i64 (nx + 1)) ∧ W'.cell? ⟨B, 2, none⟩ = some (.slice va (n + 1) vc)) (by kernel_rfl) (Skey2.out _ (Fr0.refl _ V11).drew) (fun hHeld => ?_)
                  have q1 : IntKind.i64.wrap (nx + 1 - 1) = nx := by
                    have h1 := Hok.out.nxt.1
                    have h2 := IntWalk.i64_in (nx + 1 - 1) (by omega)
                    rw [h2]; omega
                  have q2 : IntKind.i64.wrap nx = nx := IntWalk.i64_in nx (by have := Hok.out.nxt.1; omega)
                  have q3 : wrap64 nx = nx := IntWalk.wrap64_in nx (by have := Hok.out.nxt.1; omega)
                  have q4 : wrap64 (nx + 1 - 1) = nx := by rw [show nx + 1 - 1 = nx by omega]; exact q3
                  refine take_on (i := 0) (v := .agg #[.int .i64 lim, .int .i64 (nx + 1), .slice va (n + 1) vc]) rfl (by kernel_rfl) (by kernel_rfl) (by kernel_rfl) (fun _ _ _ h => h) (by kernel_rfl) (fun W' hSW => ?_) (by assumption) ?_
                  · (try dsimp only at hSW)
                    first | (go_simp; done) | exact rfl | (go_simp; rfl) | (go_simp; omega)
                  try simp only [Act.put, List.setIfInBounds_toArray, List.set_cons_zero, List.set_cons_succ]
                  refine take_on (i := 1) (v := .pointer (some ⟨B, 1, none⟩)) rfl (by kernel_rfl) (by kernel_rfl) (by kernel_rfl) (fun _ _ _ h => h) (by kernel_rfl) (fun W' hSW => ?_) (by assumption) ?_
                  · (try dsimp only at hSW)
                    first | (go_simp; done) | exact rfl | (go_simp; rfl) | (go_simp; omega)
                  try simp only [Act.put, List.setIfInBounds_toArray, List.set_cons_zero, List.set_cons_succ]
                  refine take_on (i := 2) (v := .int .i64 (nx + 1)) rfl (by kernel_rfl) (by kernel_rfl) (by kernel_rfl) (fun _ _ _ h => h) (by kernel_rfl) (fun W' hSW => ?_) (by assumption) ?_
                  · (try dsimp only at hSW)
                    first | (go_simp; done) | exact rfl | (go_simp; rfl) | (go_simp; omega)
                  try simp only [Act.put, List.setIfInBounds_toArray, List.set_cons_zero, List.set_cons_succ]
                  refine take_on (i := 3) (v := .int .i64 nx) rfl (by kernel_rfl) (by kernel_rfl) (by kernel_rfl) (fun _ _ _ h => h) (by kernel_rfl) (fun W' hSW => ?_) (by assumption) ?_
                  · (try dsimp only at hSW)
                    first | (go_simp; done) | exact rfl | (go_simp; rfl) | (go_simp; omega)
                  try simp only [Act.put, List.setIfInBounds_toArray, List.set_cons_zero, List.set_cons_succ]
                  refine take_call (i := 4) rfl (by kernel_rfl) (by kernel_rfl) (fun K hK => ?_)
                  go_simp
                  obtain ⟨V12, hV12⟩ : ∃ W, (((V11.setCell ⟨PB, 0, none⟩ (.int .i64 lim)).setCell ⟨PB, 1, none⟩ (.int .i64 (nx + 1))).setCell ⟨PB, 2, none⟩ (.slice va (n + 1) vc)).drew = W := ⟨_, rfl⟩
                  rw [hV12]
                  have f12 := Lib.hid (show Fr0 (fun k => k = PB) V11 V12 by rw [← hV12]; exact ((((Fr0.refl (fun k => k = PB) V11).setCell (fun _ => rfl) _).setCell (fun _ => rfl) _).setCell (fun _ => rfl) _).drew)
                  have hx12 : V12.heap[PB]? = some (.cells #[.int .i64 lim, .int .i64 (nx + 1), .slice va (n + 1) vc] 65 (0, 0)) := by
                    rw [← hV12]; simp [World.setCell, World.drew, Array.getElem?_modify, hx11]
                  clear hV12
                  refine hK.out _ _ (Skey2.out _ f12.out) (fun _ => ?_)
                  clear hK K
                  try simp only [Act.put, List.setIfInBounds_toArray, List.set_cons_zero, List.set_cons_succ]
                  refine take_call (i := 5) rfl (by kernel_rfl) (by kernel_rfl) (fun K hK => ?_)
                  go_simp
                  refine hK.out _ _ (Skey2.out _ f12.out) (fun _ => ?_)
                  clear hK K
                  try simp only [Act.put, List.setIfInBounds_toArray, List.set_cons_zero, List.set_cons_succ]
                  refine take_call (i := 6) rfl (by kernel_rfl) (by kernel_rfl) (fun K hK => ?_)
                  go_simp
                  refine hK.out _ _ (Skey2.out _ f12.out) (fun _ => ?_)
                  clear hK K
                  try simp only [Act.put, List.setIfInBounds_toArray, List.set_cons_zero, List.set_cons_succ]
                  refine wpAnyH_done (by kernel_rfl) ?_ _
                  have F12 := Lib.hid (F11.out.trans' f12.out (fun k hk e => by have := HPB.out.1; omega))
                  have hav := Lib.hid (hav.out.fr0 f12.out HVP.out)
                  have hlt := (Array.getElem?_eq_some_iff.1 hx12).1
                  have hx := hx12
                  clear x0 x1 x2 y0 y1 y2 z0 z1 z2 b0 b1 b2
                  have x0 := cells_in hx 0
                  have x1 := cells_in hx 1
                  have x2 := cells_in hx 2
                  simp at x0 x1 x2
                  have y0 := thaw_in hx 0
                  have y1 := thaw_in hx 1
                  have y2 := thaw_in hx 2
                  clear hx hHeld
                  go_wp2
                  refine bodyPost_ret (v := .tuple #[.agg #[.int .i64 lim, .int .i64 (nx + 1), .slice va (n + 1) vc], .int .i64 nx, .int .i64 0]) (by simp [results, Tryz.results28, go_sem, x0, x1, x2, hlt]) rfl ?_
                  exact Hyes.out HE0.out va vc _ hav.out Hva.out.2.1 Hva.out.2.2 HVW.out F12.out
                · skip
                  go_simp
                  obtain ⟨V2, hV⟩ : ∃ W, V1.alloc (.cells #[.int .i64 nx, .string (bs s), .int .i64 p] 68) = W := ⟨_, rfl⟩
                  obtain ⟨LB, hG⟩ : ∃ X, V1.heap.size = X := ⟨_, rfl⟩
                  have hlit : V2.heap[LB]? = some (.cells #[.int .i64 nx, .string (bs s), .int .i64 p] 68 (0, 0)) := by rw [← hV, ← hG]; exact World.alloc_heap_new V1 _
                  have fL := Lib.hid (show Fr0 none' V1 V2 by rw [← hV]; exact (Fr0.refl _ _).alloc _)
                  have F3 := Lib.hid (F2.out.trans fL.out)
                  rw [hV, hG]
                  have Hlit := Lib.hid (PtsIn.one hlit)
                  have hLV := (Array.getElem?_eq_some_iff.1 hlit).1
                  have HLl := Lib.hid (show LB = V1.heap.size from hG.symm)
                  clear hV hG hlit
                  refine hK.out _ _ (.inr (Skey.out _ F3.out)) ?_
                  clear hK K
                  try simp only [Act.put, List.setIfInBounds_toArray, List.set_cons_zero, List.set_cons_succ]
                  have Hrow := Lib.hid (ownsRow_fr0 Hrow.out fL.out (fun _ _ h => h))
                  refine takeZ_call (i := 3) rfl (by kernel_rfl) (by kernel_rfl) (fun K hK => ?_)
                  refine wp_app_k _ _ 63 63 rfl w4.heap.size 68 i0 (.agg #[.int .i64 0, .string ⟨#[]⟩, .int .i64 0]) 3 32 Tryz.underlying63 hi hz0 hz1 hz2 rfl (by decide) (.slice (some ⟨G, 0, none⟩) 0 0) 0 [] rfl Hrow.out (.slice a n cap) n (flatP L) rfl ((Hc.out.later (F.out.trans F3.out)).src Hn.out cap Tryz.underlying63) (by unfold maxLen; omega) (by omega) F3.out.size ?_
                  intro v1 V3 hown1 hgr
                  have fA := Lib.hid (show Fr0 (fun k => k = G) V2 V3 from (Fr0.refl (fun k => k = G) V2).grown hgr (fun k hk _ => by simpa [Value.ownBlock] using hk.symm))
                  have F4 := Lib.hid (F3.out.trans' fA.out (fun k hk e => by have := HGl.out; have := F0.out.size; omega))
                  have Hown1 := Lib.hid hown1
                  clear hown1 hgr
                  refine hK.out _ _ (.inr (Skey.out _ F4.out)) ?_
                  clear hK K
                  try simp only [Act.put, List.setIfInBounds_toArray, List.set_cons_zero, List.set_cons_succ]
                  have Hlit2 := Lib.hid (Hlit.out.fr0 fA.out (fun g o s' e h => by injection e with e; injection e with e1; subst h; subst e1; have h1 := HGl.out; have h2 := HLl.out; omega))
                  refine takeZ_call (i := 10) rfl (by kernel_rfl) (by kernel_rfl) (fun K hK => ?_)
                  refine wp_app_k _ _ 63 63 rfl w4.heap.size 68 i0 (.agg #[.int .i64 0, .string ⟨#[]⟩, .int .i64 0]) 3 32 Tryz.underlying63 hi hz0 hz1 hz2 rfl (by decide) v1 (0 + n) _ rfl Hown1.out (.slice (some ⟨LB, 0, none⟩) 1 1) 1 (flatP [⟨nx, s, p⟩]) rfl (Hlit2.out.src rfl 1 Tryz.underlying63) (by unfold maxLen; omega) (by omega) F4.out.size ?_
                  intro v2 V9 hown2 hgr2
                  have hg2 := Hown1.out.lt
                  have F9 := Lib.hid (F4.out.grown hgr2 (fun k hk hkl => by have := (hg2 k hk).1; omega))
                  obtain ⟨va, vc, rfl, hva, hvc, hvm, hvb⟩ := PtsIn.of_own (L := L ++ [⟨nx, s, p⟩]) (n := n + 1) (by rw [Nat.zero_add, List.nil_append] at hown2; rw [flatP_append]; exact hown2) (by rw [List.length_append, Hn.out]; rfl)
                  have HVW := Lib.hid (show ∀ g o s', va = some ⟨g, o, s'⟩ → w.heap.size ≤ g from fun g o s' e => by have := hvb g o s' e; have := F.out.size; omega)
                  have HVP := Lib.hid (show ∀ g o s', va = some ⟨g, o, s'⟩ → ¬ g = PB from fun g o s' e h => by have := hvb g o s' e; omega)
                  have HVB := Lib.hid (show ∀ g o s', va = some ⟨g, o, s'⟩ → ¬ g = B from fun g o s' e h => by have := hvb g o s' e; omega)
                  have Hva := Lib.hid (show PtsIn V9 va (L ++ [⟨nx, s, p⟩]) ∧ n + 1 ≤ vc ∧ vc ≤ maxLen from ⟨hva, hvc, hvm⟩)
                  clear hown2 hgr2 hg2 hva hvc hvm hvb
                  refine hK.out _ _ (.inr (Skey.out _ F9.out)) ?_
                  clear hK K
                  try simp only [Act.put, List.setIfInBounds_toArray, List.set_cons_zero, List.set_cons_succ]
                  refine takeZ_call (i := 11) rfl (by kernel_rfl) (by kernel_rfl) (fun K hK => ?_)
                  go_simp
                  refine hK.out _ _ (.inr (Skey.out _ F9.out)) ?_
                  clear hK K
                  try simp only [Act.put, List.setIfInBounds_toArray, List.set_cons_zero, List.set_cons_succ]
                  refine takeZ_call (i := 12) rfl (by kernel_rfl) (by kernel_rfl) (fun K hK => ?_)
                  have hb := (F9.out.block B hlb id).trans HBB.out
                  have hx := (F9.out.block PB hlt id).trans HX.out
                  have hlb9 := (Array.getElem?_eq_some_iff.1 hb).1
                  have hlt9 := (Array.getElem?_eq_some_iff.1 hx).1
                  clear x0 x1 x2 y0 y1 y2 z0 z1 z2 b0 b1 b2
                  have z0 := thaw_in hb 0
                  have z1 := thaw_in hb 1
                  have z2 := thaw_in hb 2
                  have b0 := cells_in hb 0
                  have b1 := cells_in hb 1
                  have b2 := cells_in hb 2
                  simp at b0 b1 b2
                  go_simp
                  obtain ⟨V10, hV10⟩ : ∃ W, V9.setCell ⟨B, 2, none⟩ (.slice va (n + 1) vc) = W := ⟨_, rfl⟩
                  rw [hV10]
                  have hb10 : V10.heap[B]? = some (.cells #[.int .i64 lim, .int .i64 nx, .slice va (n + 1) vc] 65 (0, 0)) := by
                    rw [← hV10]; simp [World.setCell, Array.getElem?_modify, hb]
                  have f10 := Lib.hid (show Fr0 (fun k => k = B) V9 V10 by rw [← hV10]; exact (Fr0.refl (fun k => k = B) V9).setCell (fun _ => rfl) _)
                  have hx10 := (f10.out.block PB hlt9 HPB.out.2.2).trans hx
                  have F10 := Lib.hid ((F.out.trans F9.out).trans' f10.out (fun k hk e => by have := HPB.out.2.1; omega))
                  have hav := Lib.hid (Hva.out.1.fr0 f10.out HVB)
                  refine hK.out _ _ (.inl rfl) ?_
                  clear hK K hV10 z0 z1 z2 b0 b1 b2 hHeld
                  try simp only [Act.put, List.setIfInBounds_toArray, List.set_cons_zero, List.set_cons_succ]
                  refine wpAnyZ_done (by kernel_rfl) ?_ _
                  have hlt10 := (Array.getElem?_eq_some_iff.1 hx10).1
                  have hlb10 := (Array.getElem?_eq_some_iff.1 hb10).1
                  have hb := hb10
                  have hx := hx10
                  have HX10 := Lib.hid hx10
                  have x0 := cells_in hx 0
                  have x1 := cells_in hx 1
                  have x2 := cells_in hx 2
                  simp at x0 x1 x2
                  have y0 := thaw_in hx 0
                  have y1 := thaw_in hx 1
                  have y2 := thaw_in hx 2
                  have z0 := thaw_in hb 0
                  have z1 := thaw_in hb 1
                  have z2 := thaw_in hb 2
                  have b0 := cells_in hb 0
                  have b1 := cells_in hb 1
                  have b2 := cells_in hb 2
                  simp at b0 b1 b2
                  have hPBne := HPB.out.2.2
                  clear hb hx hx10
                  obtain ⟨V11, hV11⟩ : ∃ W, V10.setCell ⟨B, 1, none⟩ (.int .i64 (nx + 1)) = W := ⟨_, rfl⟩
                  have hb11 : V11.heap[B]? = some (.cells #[.int .i64 lim, .int .i64 (nx + 1), .slice va (n + 1) vc] 65 (0, 0)) := by
                    rw [← hV11]; simp [World.setCell, Array.getElem?_modify, hb10]
                  have f11 := Lib.hid (show Fr0 (fun k => k = B) V10 V11 by rw [← hV11]; exact (Fr0.refl (fun k => k = B) V10).setCell (fun _ => rfl) _)
                  have HV11 := Lib.hid hV11
                  clear hV11
                  go_wp2
                  rw [show wrap64 (nx + 1) = nx + 1 from IntWalk.wrap64_in _ (by have := Hok.out.nxt; omega), HV11.out]
                  have hx11 := (f11.out.block PB hlt10 HPB.out.2.2).trans HX10.out
                  have F11 := Lib.hid (F10.out.trans' f11.out (fun k hk e => by have := HPB.out.2.1; omega))
                  have hav := Lib.hid (hav.out.fr0 f11.out HVB.out)
                  have hlt := (Array.getElem?_eq_some_iff.1 hx11).1
                  have hb := hb11
                  have hx := hx11
                  clear x0 x1 x2 y0 y1 y2 z0 z1 z2 b0 b1 b2
                  have x0 := cells_in hx 0
                  have x1 := cells_in hx 1
                  have x2 := cells_in hx 2
                  simp at x0 x1 x2
                  have y0 := thaw_in hx 0
                  have y1 := thaw_in hx 1
                  have y2 := thaw_in hx 2
                  have z0 := thaw_in hb 0
                  have z1 := thaw_in hb 1
                  have z2 := thaw_in hb 2
                  have b0 := cells_in hb 0
                  have b1 := cells_in hb 1
                  have b2 := cells_in hb 2
                  simp at b0 b1 b2
                  clear hb hx
                  have Skey2 := Lib.hid (show ∀ W', Fr0 (fun k => k = PB) V11 W' → W'.cell? ⟨B, 0, none⟩ = some (.int .i64 lim) ∧ W'.cell? ⟨B, 1, none⟩ = some (.int .i64 (nx + 1)) ∧ W'.cell? ⟨B, 2, none⟩ = some (.slice va (n + 1) vc) from fun W' hf => by
                    have hk : ∀ o, W'.cell? ⟨B, o, none⟩ = V11.cell? ⟨B, o, none⟩ := fun o => hf.cell (p := ⟨B, o, none⟩) (Array.getElem?_eq_some_iff.1 hb11).1 (fun e => HPB.out.2.2 e.symm)
                    exact ⟨(hk 0).trans b0, (hk 1).trans b1, (hk 2).trans b2⟩)
                  refine wp_region_held_drew (S := fun W' => W'.cell? ⟨B, 0, none⟩ = some (.int .i64 lim) ∧ W'.cell? ⟨B, 1, none⟩ = some (.int .i64 (nx + 1)) ∧ W'.cell? ⟨B, 2, none⟩ = some (.slice va (n + 1) vc)) (by kernel_rfl) (Skey2.out _ (Fr0.refl _ V11).drew) (fun hHeld => ?_)
                  have q1 : IntKind.i64.wrap (nx + 1 - 1) = nx := by
                    have h1 := Hok.out.nxt.1
                    have h2 := IntWalk.i64_in (nx + 1 - 1) (by omega)
                    rw [h2]; omega
                  have q2 : IntKind.i64.wrap nx = nx := IntWalk.i64_in nx (by have := Hok.out.nxt.1; omega)
                  have q3 : wrap64 nx = nx := IntWalk.wrap64_in nx (by have := Hok.out.nxt.1; omega)
                  have q4 : wrap64 (nx + 1 - 1) = nx := by rw [show nx + 1 - 1 = nx by omega]; exact q3
                  refine take_on (i := 0) (v := .agg #[.int .i64 lim, .int .i64 (nx + 1), .slice va (n + 1) vc]) rfl (by kernel_rfl) (by kernel_rfl) (by kernel_rfl) (fun _ _ _ h => h) (by kernel_rfl) (fun W' hSW => ?_) (by assumption) ?_
                  · (try dsimp only at hSW)
                    first | (go_simp; done) | exact rfl | (go_simp; rfl) | (go_simp; omega)
                  try simp only [Act.put, List.setIfInBounds_toArray, List.set_cons_zero, List.set_cons_succ]
                  refine take_on (i := 1) (v := .pointer (some ⟨B, 1, none⟩)) rfl (by kernel_rfl) (by kernel_rfl) (by kernel_rfl) (fun _ _ _ h => h) (by kernel_rfl) (fun W' hSW => ?_) (by assumption) ?_
                  · (try dsimp only at hSW)
                    first | (go_simp; done) | exact rfl | (go_simp; rfl) | (go_simp; omega)
                  try simp only [Act.put, List.setIfInBounds_toArray, List.set_cons_zero, List.set_cons_succ]
                  refine take_on (i := 2) (v := .int .i64 (nx + 1)) rfl (by kernel_rfl) (by kernel_rfl) (by kernel_rfl) (fun _ _ _ h => h) (by kernel_rfl) (fun W' hSW => ?_) (by assumption) ?_
                  · (try dsimp only at hSW)
                    first | (go_simp; done) | exact rfl | (go_simp; rfl) | (go_simp; omega)
                  try simp only [Act.put, List.setIfInBounds_toArray, List.set_cons_zero, List.set_cons_succ]
                  refine take_on (i := 3) (v := .int .i64 nx) rfl (by kernel_rfl) (by kernel_rfl) (by kernel_rfl) (fun _ _ _ h => h) (by kernel_rfl) (fun W' hSW => ?_) (by assumption) ?_
                  · (try dsimp only at hSW)
                    first | (go_simp; done) | exact rfl | (go_simp; rfl) | (go_simp; omega)
                  try simp only [Act.put, List.setIfInBounds_toArray, List.set_cons_zero, List.set_cons_succ]
                  refine take_call (i := 4) rfl (by kernel_rfl) (by kernel_rfl) (fun K hK => ?_)
                  go_simp
                  obtain ⟨V12, hV12⟩ : ∃ W, (((V11.setCell ⟨PB, 0, none⟩ (.int .i64 lim)).setCell ⟨PB, 1, none⟩ (.int .i64 (nx + 1))).setCell ⟨PB, 2, none⟩ (.slice va (n + 1) vc)).drew = W := ⟨_, rfl⟩
                  rw [hV12]
                  have f12 := Lib.hid (show Fr0 (fun k => k = PB) V11 V12 by rw [← hV12]; exact ((((Fr0.refl (fun k => k = PB) V11).setCell (fun _ => rfl) _).setCell (fun _ => rfl) _).setCell (fun _ => rfl) _).drew)
                  have hx12 : V12.heap[PB]? = some (.cells #[.int .i64 lim, .int .i64 (nx + 1), .slice va (n + 1) vc] 65 (0, 0)) := by
                    rw [← hV12]; simp [World.setCell, World.drew, Array.getElem?_modify, hx11]
                  clear hV12
                  refine hK.out _ _ (Skey2.out _ f12.out) (fun _ => ?_)
                  clear hK K
                  try simp only [Act.put, List.setIfInBounds_toArray, List.set_cons_zero, List.set_cons_succ]
                  refine take_call (i := 5) rfl (by kernel_rfl) (by kernel_rfl) (fun K hK => ?_)
                  go_simp
                  refine hK.out _ _ (Skey2.out _ f12.out) (fun _ => ?_)
                  clear hK K
                  try simp only [Act.put, List.setIfInBounds_toArray, List.set_cons_zero, List.set_cons_succ]
                  refine take_call (i := 6) rfl (by kernel_rfl) (by kernel_rfl) (fun K hK => ?_)
                  go_simp
                  refine hK.out _ _ (Skey2.out _ f12.out) (fun _ => ?_)
                  clear hK K
                  try simp only [Act.put, List.setIfInBounds_toArray, List.set_cons_zero, List.set_cons_succ]
                  refine wpAnyH_done (by kernel_rfl) ?_ _
                  have F12 := Lib.hid (F11.out.trans' f12.out (fun k hk e => by have := HPB.out.1; omega))
                  have hav := Lib.hid (hav.out.fr0 f12.out HVP.out)
                  have hlt := (Array.getElem?_eq_some_iff.1 hx12).1
                  have hx := hx12
                  clear x0 x1 x2 y0 y1 y2 z0 z1 z2 b0 b1 b2
                  have x0 := cells_in hx 0
                  have x1 := cells_in hx 1
                  have x2 := cells_in hx 2
                  simp at x0 x1 x2
                  have y0 := thaw_in hx 0
                  have y1 := thaw_in hx 1
                  have y2 := thaw_in hx 2
                  clear hx hHeld
                  go_wp2
                  refine bodyPost_ret (v := .tuple #[.agg #[.int .i64 lim, .int .i64 (nx + 1), .slice va (n + 1) vc], .int .i64 nx, .int .i64 0]) (by simp [results, Tryz.results28, go_sem, x0, x1, x2, hlt]) rfl ?_
                  exact Hyes.out HE0.out va vc _ hav.out Hva.out.2.1 Hva.out.2.2 HVW.out F12.out
              · skip
                go_simp
                obtain ⟨V1, hV⟩ : ∃ W, WD.alloc (.cells #[.int .i64 nx, .string (bs s), .int .i64 p] 68) = W := ⟨_, rfl⟩
                obtain ⟨LB, hG⟩ : ∃ X, WD.heap.size = X := ⟨_, rfl⟩
                have hlit : V1.heap[LB]? = some (.cells #[.int .i64 nx, .string (bs s), .int .i64 p] 68 (0, 0)) := by rw [← hV, ← hG]; exact World.alloc_heap_new WD _
                have fL := Lib.hid (show Fr0 none' WD V1 by rw [← hV]; exact (Fr0.refl _ _).alloc _)
                have F1 := Lib.hid (F0.out.trans fL.out)
                rw [hV, hG]
                have Hlit := Lib.hid (PtsIn.one hlit)
                have hLV := (Array.getElem?_eq_some_iff.1 hlit).1
                have HLl := Lib.hid (show LB = WD.heap.size from hG.symm)
                clear hV hG hlit
                refine hK.out _ _ (.inr (Skey.out _ F1.out)) ?_
                clear hK K
                try simp only [Act.put, List.setIfInBounds_toArray, List.set_cons_zero, List.set_cons_succ]
                refine takeZ_call (i := 0) rfl (by kernel_rfl) (by kernel_rfl) (fun K hK => ?_)
                go_simp
                obtain ⟨V2, hV⟩ : ∃ W, V1.alloc (.cells #[] 68) = W := ⟨_, rfl⟩
                obtain ⟨G, hG⟩ : ∃ X, V1.heap.size = X := ⟨_, rfl⟩
                have hrow := World.ownsRow_lit (base := w4.heap.size) (e := 68) (size := 3) V1 #[] 0 F1.out.size (by unfold maxLen; omega) rfl
                have fV := Lib.hid (show Fr0 none' V1 V2 by rw [← hV]; exact (Fr0.refl _ _).alloc _)
                have F2 := Lib.hid (F1.out.trans fV.out)
                rw [hV, hG] at hrow
                rw [hV, hG]
                have Hrow := Lib.hid hrow
                have hGV := (hrow.lt G rfl).2
                have HGl := Lib.hid (show G = V1.heap.size from hG.symm)
                clear hV hG hrow
                refine hK.out _ _ (.inr (Skey.out _ F2.out)) ?_
                clear hK K
                try simp only [Act.put, List.setIfInBounds_toArray, List.set_cons_zero, List.set_cons_succ]
                refine takeZ_call (i := 3) rfl (by kernel_rfl) (by kernel_rfl) (fun K hK => ?_)
                refine wp_app_k _ _ 63 63 rfl w4.heap.size 68 i0 (.agg #[.int .i64 0, .string ⟨#[]⟩, .int .i64 0]) 3 32 Tryz.underlying63 hi hz0 hz1 hz2 rfl (by decide) (.slice (some ⟨G, 0, none⟩) 0 0) 0 [] rfl Hrow.out (.slice a n cap) n (flatP L) rfl ((Hc.out.later (F.out.trans F2.out)).src Hn.out cap Tryz.underlying63) (by unfold maxLen; omega) (by omega) F2.out.size ?_
                intro v1 V3 hown1 hgr
                have fA := Lib.hid (show Fr0 (fun k => k = G) V2 V3 from (Fr0.refl (fun k => k = G) V2).grown hgr (fun k hk _ => by simpa [Value.ownBlock] using hk.symm))
                have F3 := Lib.hid (F2.out.trans' fA.out (fun k hk e => by have := HGl.out; have := F1.out.size; omega))
                have Hown1 := Lib.hid hown1
                clear hown1 hgr
                refine hK.out _ _ (.inr (Skey.out _ F3.out)) ?_
                clear hK K
                try simp only [Act.put, List.setIfInBounds_toArray, List.set_cons_zero, List.set_cons_succ]
                have Hlit2 := Lib.hid ((Hlit.out.later fV.out).fr0 fA.out (fun g o s' e h => by injection e with e; injection e with e1; subst h; subst e1; have h1 := HGl.out; have h2 := HLl.out; omega))
                refine takeZ_call (i := 10) rfl (by kernel_rfl) (by kernel_rfl) (fun K hK => ?_)
                refine wp_app_k _ _ 63 63 rfl w4.heap.size 68 i0 (.agg #[.int .i64 0, .string ⟨#[]⟩, .int .i64 0]) 3 32 Tryz.underlying63 hi hz0 hz1 hz2 rfl (by decide) v1 (0 + n) _ rfl Hown1.out (.slice (some ⟨LB, 0, none⟩) 1 1) 1 (flatP [⟨nx, s, p⟩]) rfl (Hlit2.out.src rfl 1 Tryz.underlying63) (by unfold maxLen; omega) (by omega) F3.out.size ?_
                intro v2 V9 hown2 hgr2
                have hg2 := Hown1.out.lt
                have F9 := Lib.hid (F3.out.grown hgr2 (fun k hk hkl => by have := (hg2 k hk).1; omega))
                obtain ⟨va, vc, rfl, hva, hvc, hvm, hvb⟩ := PtsIn.of_own (L := L ++ [⟨nx, s, p⟩]) (n := n + 1) (by rw [Nat.zero_add, List.nil_append] at hown2; rw [flatP_append]; exact hown2) (by rw [List.length_append, Hn.out]; rfl)
                have HVW := Lib.hid (show ∀ g o s', va = some ⟨g, o, s'⟩ → w.heap.size ≤ g from fun g o s' e => by have := hvb g o s' e; have := F.out.size; omega)
                have HVP := Lib.hid (show ∀ g o s', va = some ⟨g, o, s'⟩ → ¬ g = PB from fun g o s' e h => by have := hvb g o s' e; omega)
                have HVB := Lib.hid (show ∀ g o s', va = some ⟨g, o, s'⟩ → ¬ g = B from fun g o s' e h => by have := hvb g o s' e; omega)
                have Hva := Lib.hid (show PtsIn V9 va (L ++ [⟨nx, s, p⟩]) ∧ n + 1 ≤ vc ∧ vc ≤ maxLen from ⟨hva, hvc, hvm⟩)
                clear hown2 hgr2 hg2 hva hvc hvm hvb
                refine hK.out _ _ (.inr (Skey.out _ F9.out)) ?_
                clear hK K
                try simp only [Act.put, List.setIfInBounds_toArray, List.set_cons_zero, List.set_cons_succ]
                refine takeZ_call (i := 11) rfl (by kernel_rfl) (by kernel_rfl) (fun K hK => ?_)
                go_simp
                refine hK.out _ _ (.inr (Skey.out _ F9.out)) ?_
                clear hK K
                try simp only [Act.put, List.setIfInBounds_toArray, List.set_cons_zero, List.set_cons_succ]
                refine takeZ_call (i := 12) rfl (by kernel_rfl) (by kernel_rfl) (fun K hK => ?_)
                have hb := (F9.out.block B hlb id).trans HBB.out
                have hx := (F9.out.block PB hlt id).trans HX.out
                have hlb9 := (Array.getElem?_eq_some_iff.1 hb).1
                have hlt9 := (Array.getElem?_eq_some_iff.1 hx).1
                clear x0 x1 x2 y0 y1 y2 z0 z1 z2 b0 b1 b2
                have z0 := thaw_in hb 0
                have z1 := thaw_in hb 1
                have z2 := thaw_in hb 2
                have b0 := cells_in hb 0
                have b1 := cells_in hb 1
                have b2 := cells_in hb 2
                simp at b0 b1 b2
                go_simp
                obtain ⟨V10, hV10⟩ : ∃ W, V9.setCell ⟨B, 2, none⟩ (.slice va (n + 1) vc) = W := ⟨_, rfl⟩
                rw [hV10]
                have hb10 : V10.heap[B]? = some (.cells #[.int .i64 lim, .int .i64 nx, .slice va (n + 1) vc] 65 (0, 0)) := by
                  rw [← hV10]; simp [World.setCell, Array.getElem?_modify, hb]
                have f10 := Lib.hid (show Fr0 (fun k => k = B) V9 V10 by rw [← hV10]; exact (Fr0.refl (fun k => k = B) V9).setCell (fun _ => rfl) _)
                have hx10 := (f10.out.block PB hlt9 HPB.out.2.2).trans hx
                have F10 := Lib.hid ((F.out.trans F9.out).trans' f10.out (fun k hk e => by have := HPB.out.2.1; omega))
                have hav := Lib.hid (Hva.out.1.fr0 f10.out HVB)
                refine hK.out _ _ (.inl rfl) ?_
                clear hK K hV10 z0 z1 z2 b0 b1 b2 hHeld
                try simp only [Act.put, List.setIfInBounds_toArray, List.set_cons_zero, List.set_cons_succ]
                refine wpAnyZ_done (by kernel_rfl) ?_ _
                have hlt10 := (Array.getElem?_eq_some_iff.1 hx10).1
                have hlb10 := (Array.getElem?_eq_some_iff.1 hb10).1
                have hb := hb10
                have hx := hx10
                have HX10 := Lib.hid hx10
                have x0 := cells_in hx 0
                have x1 := cells_in hx 1
                have x2 := cells_in hx 2
                simp at x0 x1 x2
                have y0 := thaw_in hx 0
                have y1 := thaw_in hx 1
                have y2 := thaw_in hx 2
                have z0 := thaw_in hb 0
                have z1 := thaw_in hb 1
                have z2 := thaw_in hb 2
                have b0 := cells_in hb 0
                have b1 := cells_in hb 1
                have b2 := cells_in hb 2
                simp at b0 b1 b2
                have hPBne := HPB.out.2.2
                clear hb hx hx10
                obtain ⟨V11, hV11⟩ : ∃ W, V10.setCell ⟨B, 1, none⟩ (.int .i64 (nx + 1)) = W := ⟨_, rfl⟩
                have hb11 : V11.heap[B]? = some (.cells #[.int .i64 lim, .int .i64 (nx + 1), .slice va (n + 1) vc] 65 (0, 0)) := by
                  rw [← hV11]; simp [World.setCell, Array.getElem?_modify, hb10]
                have f11 := Lib.hid (show Fr0 (fun k => k = B) V10 V11 by rw [← hV11]; exact (Fr0.refl (fun k => k = B) V10).setCell (fun _ => rfl) _)
                have HV11 := Lib.hid hV11
                clear hV11
                go_wp2
                rw [show wrap64 (nx + 1) = nx + 1 from IntWalk.wrap64_in _ (by have := Hok.out.nxt; omega), HV11.out]
                have hx11 := (f11.out.block PB hlt10 HPB.out.2.2).trans HX10.out
                have F11 := Lib.hid (F10.out.trans' f11.out (fun k hk e => by have := HPB.out.2.1; omega))
                have hav := Lib.hid (hav.out.fr0 f11.out HVB.out)
                have hlt := (Array.getElem?_eq_some_iff.1 hx11).1
                have hb := hb11
                have hx := hx11
                clear x0 x1 x2 y0 y1 y2 z0 z1 z2 b0 b1 b2
                have x0 := cells_in hx 0
                have x1 := cells_in hx 1
                have x2 := cells_in hx 2
                simp at x0 x1 x2
                have y0 := thaw_in hx 0
                have y1 := thaw_in hx 1
                have y2 := thaw_in hx 2
                have z0 := thaw_in hb 0
                have z1 := thaw_in hb 1
                have z2 := thaw_in hb 2
                have b0 := cells_in hb 0
                have b1 := cells_in hb 1
                have b2 := cells_in hb 2
                simp at b0 b1 b2
                clear hb hx
                have Skey2 := Lib.hid (show ∀ W', Fr0 (fun k => k = PB) V11 W' → W'.cell? ⟨B, 0, none⟩ = some (.int .i64 lim) ∧ W'.cell? ⟨B, 1, none⟩ = some (.int .i64 (nx + 1)) ∧ W'.cell? ⟨B, 2, none⟩ = some (.slice va (n + 1) vc) from fun W' hf => by
                  have hk : ∀ o, W'.cell? ⟨B, o, none⟩ = V11.cell? ⟨B, o, none⟩ := fun o => hf.cell (p := ⟨B, o, none⟩) (Array.getElem?_eq_some_iff.1 hb11).1 (fun e => HPB.out.2.2 e.symm)
                  exact ⟨(hk 0).trans b0, (hk 1).trans b1, (hk 2).trans b2⟩)
                refine wp_region_held_drew (S := fun W' => W'.cell? ⟨B, 0, none⟩ = some (.int .i64 lim) ∧ W'.cell? ⟨B, 1, none⟩ = some (.int .i64 (nx + 1)) ∧ W'.cell? ⟨B, 2, none⟩ = some (.slice va (n + 1) vc)) (by kernel_rfl) (Skey2.out _ (Fr0.refl _ V11).drew) (fun hHeld => ?_)
                have q1 : IntKind.i64.wrap (nx + 1 - 1) = nx := by
                  have h1 := Hok.out.nxt.1
                  have h2 := IntWalk.i64_in (nx + 1 - 1) (by omega)
                  rw [h2]; omega
                have q2 : IntKind.i64.wrap nx = nx := IntWalk.i64_in nx (by have := Hok.out.nxt.1; omega)
                have q3 : wrap64 nx = nx := IntWalk.wrap64_in nx (by have := Hok.out.nxt.1; omega)
                have q4 : wrap64 (nx + 1 - 1) = nx := by rw [show nx + 1 - 1 = nx by omega]; exact q3
                refine take_on (i := 0) (v := .agg #[.int .i64 lim, .int .i64 (nx + 1), .slice va (n + 1) vc]) rfl (by kernel_rfl) (by kernel_rfl) (by kernel_rfl) (fun _ _ _ h => h) (by kernel_rfl) (fun W' hSW => ?_) (by assumption) ?_
                · (try dsimp only at hSW)
                  first | (go_simp; done) | exact rfl | (go_simp; rfl) | (go_simp; omega)
                try simp only [Act.put, List.setIfInBounds_toArray, List.set_cons_zero, List.set_cons_succ]
                refine take_on (i := 1) (v := .pointer (some ⟨B, 1, none⟩)) rfl (by kernel_rfl) (by kernel_rfl) (by kernel_rfl) (fun _ _ _ h => h) (by kernel_rfl) (fun W' hSW => ?_) (by assumption) ?_
                · (try dsimp only at hSW)
                  first | (go_simp; done) | exact rfl | (go_simp; rfl) | (go_simp; omega)
                try simp only [Act.put, List.setIfInBounds_toArray, List.set_cons_zero, List.set_cons_succ]
                refine take_on (i := 2) (v := .int .i64 (nx + 1)) rfl (by kernel_rfl) (by kernel_rfl) (by kernel_rfl) (fun _ _ _ h => h) (by kernel_rfl) (fun W' hSW => ?_) (by assumption) ?_
                · (try dsimp only at hSW)
                  first | (go_simp; done) | exact rfl | (go_simp; rfl) | (go_simp; omega)
                try simp only [Act.put, List.setIfInBounds_toArray, List.set_cons_zero, List.set_cons_succ]
                refine take_on (i := 3) (v := .int .i64 nx) rfl (by kernel_rfl) (by kernel_rfl) (by kernel_rfl) (fun _ _ _ h => h) (by kernel_rfl) (fun W' hSW => ?_) (by assumption) ?_
                · (try dsimp only at hSW)
                  first | (go_simp; done) | exact rfl | (go_simp; rfl) | (go_simp; omega)
                try simp only [Act.put, List.setIfInBounds_toArray, List.set_cons_zero, List.set_cons_succ]
                refine take_call (i := 4) rfl (by kernel_rfl) (by kernel_rfl) (fun K hK => ?_)
                go_simp
                obtain ⟨V12, hV12⟩ : ∃ W, (((V11.setCell ⟨PB, 0, none⟩ (.int .i64 lim)).setCell ⟨PB, 1, none⟩ (.int .i64 (nx + 1))).setCell ⟨PB, 2, none⟩ (.slice va (n + 1) vc)).drew = W := ⟨_, rfl⟩
                rw [hV12]
                have f12 := Lib.hid (show Fr0 (fun k => k = PB) V11 V12 by rw [← hV12]; exact ((((Fr0.refl (fun k => k = PB) V11).setCell (fun _ => rfl) _).setCell (fun _ => rfl) _).setCell (fun _ => rfl) _).drew)
                have hx12 : V12.heap[PB]? = some (.cells #[.int .i64 lim, .int .i64 (nx + 1), .slice va (n + 1) vc] 65 (0, 0)) := by
                  rw [← hV12]; simp [World.setCell, World.drew, Array.getElem?_modify, hx11]
                clear hV12
                refine hK.out _ _ (Skey2.out _ f12.out) (fun _ => ?_)
                clear hK K
                try simp only [Act.put, List.setIfInBounds_toArray, List.set_cons_zero, List.set_cons_succ]
                refine take_call (i := 5) rfl (by kernel_rfl) (by kernel_rfl) (fun K hK => ?_)
                go_simp
                refine hK.out _ _ (Skey2.out _ f12.out) (fun _ => ?_)
                clear hK K
                try simp only [Act.put, List.setIfInBounds_toArray, List.set_cons_zero, List.set_cons_succ]
                refine take_call (i := 6) rfl (by kernel_rfl) (by kernel_rfl) (fun K hK => ?_)
                go_simp
                refine hK.out _ _ (Skey2.out _ f12.out) (fun _ => ?_)
                clear hK K
                try simp only [Act.put, List.setIfInBounds_toArray, List.set_cons_zero, List.set_cons_succ]
                refine wpAnyH_done (by kernel_rfl) ?_ _
                have F12 := Lib.hid (F11.out.trans' f12.out (fun k hk e => by have := HPB.out.1; omega))
                have hav := Lib.hid (hav.out.fr0 f12.out HVP.out)
                have hlt := (Array.getElem?_eq_some_iff.1 hx12).1
                have hx := hx12
                clear x0 x1 x2 y0 y1 y2 z0 z1 z2 b0 b1 b2
                have x0 := cells_in hx 0
                have x1 := cells_in hx 1
                have x2 := cells_in hx 2
                simp at x0 x1 x2
                have y0 := thaw_in hx 0
                have y1 := thaw_in hx 1
                have y2 := thaw_in hx 2
                clear hx hHeld
                go_wp2
                refine bodyPost_ret (v := .tuple #[.agg #[.int .i64 lim, .int .i64 (nx + 1), .slice va (n + 1) vc], .int .i64 nx, .int .i64 0]) (by simp [results, Tryz.results28, go_sem, x0, x1, x2, hlt]) rfl ?_
                exact Hyes.out HE0.out va vc _ hav.out Hva.out.2.1 Hva.out.2.2 HVW.out F12.out
        · rw [hR]
          have d3 : decide ((0 : Int) ≤ (k : Int)) = true := decide_eq_true (by omega)
          have Hat := Lib.hid hat
          clear hR hat hp
          go_wp2_with fail
          refine bodyPost_ret (v := .tuple #[.agg #[.int .i64 lim, .int .i64 nx, .slice a n cap], .int .i64 0, .int .i64 240]) (by simp [results, Tryz.results28, go_sem, x0, x1, x2, hlt]) rfl ?_
          have := HPB.out
          exact Hno.out 240 (by decide) (by rw [HE.out]; unfold openE; rw [if_neg (by rw [Hr.out]; simp), if_neg Hcc.out, if_pos (by rw [Hat.out]; rfl)]) _ ((((F.out).setCell (fun h => by omega) _).setCell (fun h => by omega) _).setCell (fun h => by omega) _)
end Go.Proofs.YtieeloealklkgaaGreatDoor

/-
  The reference's space: Close.
-/
namespace Go.Proofs.YtieeloealklkgaaGreatDoor
open Go.RowKit Go.Maps
attribute [local go_sem ↓] Go.wp_at_zero Go.wp_at_succ
attribute [local go_sem high] run_eql_pt run_neq_pt

def RClPost (a0 : Option Addr) (lim nx : Int) (L : List Pt) (p : Pt) (E : Int) (w : World) (e : Ending) (w' : World) : Prop := ∃ u, e = .returned (.tuple #[u, ptV p, .int .i64 E]) ∧ RsAt w' u lim nx L a0 w.heap.size ∧ Fr0 none' w w'

theorem delP_at : ∀ {L : List Pt}, OrdP L → ∀ {i : Nat} {p : Pt}, L[i]? = some p → delP L p.number = L.eraseIdx i
  | [], _, i, p, h => by simp at h
  | y :: r, ho, 0, p, h => by
    simp at h
    subst h
    obtain ⟨h1, h2⟩ := List.pairwise_cons.1 ho
    unfold delP
    rw [List.filter_cons_of_neg (by simp), List.eraseIdx_zero, List.tail_cons]
    exact List.filter_eq_self.2 (fun q hq => by have := h1 q hq; simp; omega)
  | y :: r, ho, i + 1, p, h => by
    obtain ⟨h1, h2⟩ := List.pairwise_cons.1 ho
    have hp : r[i]? = some p := by simpa using h
    have := h1 p (List.mem_of_getElem? hp)
    have ih := delP_at h2 hp
    unfold delP at ih ⊢
    rw [List.filter_cons_of_pos (by simp; omega), ih, List.eraseIdx_cons_succ]
set_option maxRecDepth 100000 in
set_option maxHeartbeats 4000000 in
theorem rClose_any (lim nx : Int) (a : Option Addr) (n cap : Nat) (L : List Pt) (m : Int) (w : World) (hn : L.length = n) (hm : n ≤ 1000) (hcap : n ≤ cap) (hcm : cap ≤ maxLen) (hok : SpOK lim nx L)
    (hc : PtsIn w a L) :
    Calls Tryz.prog 29 #[.agg #[.int .i64 lim, .int .i64 nx, .slice a n cap], .int .i64 m] w (RClPost a lim nx (delP L m) (getP L m) (getE L m) w) := by
  obtain ⟨i0, hi, hz0, hz1, hz2⟩ := info_parts info_rp
  obtain ⟨POST, hPOST⟩ : ∃ Q, RClPost a lim nx (delP L m) (getP L m) (getE L m) w = Q := ⟨_, rfl⟩
  rw [hPOST]
  have HPOST := Lib.hid hPOST
  have Hn := Lib.hid hn
  have Hc := Lib.hid hc
  have Hok := Lib.hid hok
  have HG := Lib.hid (fun W (hf : Fr0 none' w W) => rGet_any lim nx a n cap L m W Hn.out (by omega) (fun p hp => (Hok.out.lo p hp).1) (Hc.out.later hf))
  have HC := Lib.hid (fun W (hf : Fr0 none' w W) => rindex_any lim nx a n cap L m [] W Hn.out (by omega) (Hc.out.later hf))
  clear hn hc hok hPOST
  obtain ⟨W1, hW1⟩ : ∃ W, w.alloc (.cells #[.int .i64 lim, .int .i64 nx, .slice a n cap] 65) = W := ⟨_, rfl⟩
  obtain ⟨B, hB⟩ : ∃ X, w.heap.size = X := ⟨_, rfl⟩
  have f1 := Lib.hid (show Fr0 none' w W1 by rw [← hW1]; exact (Fr0.refl _ _).alloc _)
  have hb : W1.heap[B]? = some (.cells #[.int .i64 lim, .int .i64 nx, .slice a n cap] 65 (0, 0)) := by rw [← hW1, ← hB]; exact World.alloc_heap_new w _
  obtain ⟨W2, hW2⟩ : ∃ W, W1.alloc (.cells #[.int .i64 0, .int .i64 0, .slice none 0 0] 65) = W := ⟨_, rfl⟩
  obtain ⟨PB, hPB⟩ : ∃ X, W1.heap.size = X := ⟨_, rfl⟩
  have f2 := Lib.hid (show Fr0 none' W1 W2 by rw [← hW2]; exact (Fr0.refl _ _).alloc _)
  have hx : W2.heap[PB]? = some (.cells #[.int .i64 0, .int .i64 0, .slice none 0 0] 65 (0, 0)) := by rw [← hW2, ← hPB]; exact World.alloc_heap_new W1 _
  obtain ⟨W3, hW3⟩ : ∃ W, W2.alloc (.cells #[.int .i64 0, .string ⟨#[]⟩, .int .i64 0] 68) = W := ⟨_, rfl⟩
  obtain ⟨QB, hQB⟩ : ∃ X, W2.heap.size = X := ⟨_, rfl⟩
  have f3 := Lib.hid (show Fr0 none' W2 W3 by rw [← hW3]; exact (Fr0.refl _ _).alloc _)
  have hu : W3.heap[QB]? = some (.cells #[.int .i64 0, .string ⟨#[]⟩, .int .i64 0] 68 (0, 0)) := by rw [← hW3, ← hQB]; exact World.alloc_heap_new W2 _
  have hb1 := (Array.getElem?_eq_some_iff.1 hb).1
  have hx1 := (Array.getElem?_eq_some_iff.1 hx).1
  have HPB := Lib.hid (show w.heap.size ≤ PB ∧ w.heap.size ≤ B ∧ w.heap.size ≤ QB ∧ PB ≠ B ∧ QB ≠ B ∧ QB ≠ PB from ⟨by have := f1.out.size; omega, by omega, by have := f1.out.size; have := f2.out.size; omega, by omega, by have := f2.out.size; omega, by omega⟩)
  have hb := ((f2.out.trans f3.out).block B hb1 id).trans hb
  have hx := (f3.out.block PB hx1 id).trans hx
  have hlt : PB < W3.heap.size := (Array.getElem?_eq_some_iff.1 hx).1
  have hlb : B < W3.heap.size := (Array.getElem?_eq_some_iff.1 hb).1
  have hlq : QB < W3.heap.size := (Array.getElem?_eq_some_iff.1 hu).1
  have F := Lib.hid (f1.out.trans (f2.out.trans f3.out))
  clear hb1 hx1
  have x0 := cells_in hx 0
  have x1 := cells_in hx 1
  have x2 := cells_in hx 2
  simp at x0 x1 x2
  have y0 := thaw_in hx 0
  have y1 := thaw_in hx 1
  have y2 := thaw_in hx 2
  have z0 := thaw_in hb 0
  have z1 := thaw_in hb 1
  have z2 := thaw_in hb 2
  have b0 := cells_in hb 0
  have b1 := cells_in hb 1
  have b2 := cells_in hb 2
  simp at b0 b1 b2
  have u0 := cells_in hu 0
  have u1 := cells_in hu 1
  have u2 := cells_in hu 2
  simp at u0 u1 u2
  have v0 := thaw_in hu 0
  have v1 := thaw_in hu 1
  have v2 := thaw_in hu 2
  have HX := Lib.hid hx
  have HBB := Lib.hid hb
  have HU := Lib.hid hu
  clear hx hb hu f1 f2 f3
  go_enter Tryz.func29, Tryz.ntmps29
  go_wp2_with fail
  clear hW1 hB hW2 hPB hW3 hQB
  by_cases hm0 : atP L m = none
  · have hE6 : getE L m = 6 := by unfold getE; rw [hm0]; rfl
    have hD : delP L m = L := delP_not hm0
    refine (HG.out _ F.out).mono ?_
    rintro e w4 ⟨rfl, hf⟩
    have hf0 := hf
    have F0 := F
    obtain ⟨q, hq⟩ : ∃ q, getP L m = q := ⟨_, rfl⟩
    have Hq := Lib.hid hq
    rw [hq, show getE L m = 6 from hE6]
    obtain ⟨qa, qb, qc⟩ := q
    simp only [ptV]
    obtain ⟨W5, hW5⟩ : ∃ W, w4.alloc (.cells #[.int .i64 qa, .string (bs qb), .int .i64 qc] 68) = W := ⟨_, rfl⟩
    obtain ⟨RB, hRB⟩ : ∃ X, w4.heap.size = X := ⟨_, rfl⟩
    have hr : W5.heap[RB]? = some (.cells #[.int .i64 qa, .string (bs qb), .int .i64 qc] 68 (0, 0)) := by rw [← hW5, ← hRB]; exact World.alloc_heap_new w4 _
    have hf := hf.trans (show Fr0 none' w4 W5 by rw [← hW5]; exact (Fr0.refl _ _).alloc _)
    have hx := (hf.block PB hlt id).trans HX.out
    have hb := (hf.block B hlb id).trans HBB.out
    have hu := (hf.block QB hlq id).trans HU.out
    have hlt : PB < W5.heap.size := (Array.getElem?_eq_some_iff.1 hx).1
    have hlb : B < W5.heap.size := (Array.getElem?_eq_some_iff.1 hb).1
    have hlq : QB < W5.heap.size := (Array.getElem?_eq_some_iff.1 hu).1
    have F := Lib.hid (F.out.trans hf)
    clear x0 x1 x2 y0 y1 y2 z0 z1 z2 b0 b1 b2 u0 u1 u2 v0 v1 v2
    have x0 := cells_in hx 0
    have x1 := cells_in hx 1
    have x2 := cells_in hx 2
    simp at x0 x1 x2
    have y0 := thaw_in hx 0
    have y1 := thaw_in hx 1
    have y2 := thaw_in hx 2
    have z0 := thaw_in hb 0
    have z1 := thaw_in hb 1
    have z2 := thaw_in hb 2
    have b0 := cells_in hb 0
    have b1 := cells_in hb 1
    have b2 := cells_in hb 2
    simp at b0 b1 b2
    have u0 := cells_in hu 0
    have u1 := cells_in hu 1
    have u2 := cells_in hu 2
    simp at u0 u1 u2
    have v0 := thaw_in hu 0
    have v1 := thaw_in hu 1
    have v2 := thaw_in hu 2
    have HX := Lib.hid hx
    have HBB := Lib.hid hb
    have HU := Lib.hid hu
    clear hx hb hu
    have r0 := cells_in hr 0
    have r1 := cells_in hr 1
    have r2 := cells_in hr 2
    simp at r0 r1 r2
    have HRR := Lib.hid hr
    have hlr : RB < W5.heap.size := (Array.getElem?_eq_some_iff.1 hr).1
    have HRB := Lib.hid (show RB ≠ B ∧ RB ≠ PB ∧ RB ≠ QB ∧ w.heap.size ≤ RB from by have := hf0.size; have h1 := F0.out.size; omega)
    clear hf hr hq hf0 F0
    go_wp2_with fail
    clear hW5 hRB
    have Skey2 := Lib.hid (show ∀ W', Fr0 (fun k => k = PB ∨ k = QB) W5 W' → W'.cell? ⟨B, 0, none⟩ = some (.int .i64 lim) ∧ W'.cell? ⟨B, 1, none⟩ = some (.int .i64 nx) ∧ W'.cell? ⟨B, 2, none⟩ = some (.slice a n cap) ∧ W'.cell? ⟨RB, 0, none⟩ = some (.int .i64 qa) ∧ W'.cell? ⟨RB, 1, none⟩ = some (.string (bs qb)) ∧ W'.cell? ⟨RB, 2, none⟩ = some (.int .i64 qc) from fun W' hf => by
      have hk : ∀ o, W'.cell? ⟨B, o, none⟩ = W5.cell? ⟨B, o, none⟩ := fun o => hf.cell (p := ⟨B, o, none⟩) hlb (fun e => by have := HPB.out; rcases e with (e : B = PB) | (e : B = QB) <;> omega)
      have hk' : ∀ o, W'.cell? ⟨RB, o, none⟩ = W5.cell? ⟨RB, o, none⟩ := fun o => hf.cell (p := ⟨RB, o, none⟩) hlr (fun e => by have := HRB.out; rcases e with (e : RB = PB) | (e : RB = QB) <;> omega)
      exact ⟨(hk 0).trans b0, (hk 1).trans b1, (hk 2).trans b2, (hk' 0).trans r0, (hk' 1).trans r1, (hk' 2).trans r2⟩)
    refine wp_region_held_drew (S := fun W' => W'.cell? ⟨B, 0, none⟩ = some (.int .i64 lim) ∧ W'.cell? ⟨B, 1, none⟩ = some (.int .i64 nx) ∧ W'.cell? ⟨B, 2, none⟩ = some (.slice a n cap) ∧ W'.cell? ⟨RB, 0, none⟩ = some (.int .i64 qa) ∧ W'.cell? ⟨RB, 1, none⟩ = some (.string (bs qb)) ∧ W'.cell? ⟨RB, 2, none⟩ = some (.int .i64 qc)) (by kernel_rfl) (Skey2.out _ (Fr0.refl _ W5).drew) (fun hHeld => ?_)
    refine take_on (i := 0) (v := .agg #[.int .i64 lim, .int .i64 nx, .slice a n cap]) rfl (by kernel_rfl) (by kernel_rfl) (by kernel_rfl) (fun _ _ _ h => h) (by kernel_rfl) (fun W' hSW => ?_) (by assumption) ?_
    · (try dsimp only at hSW)
      first | (go_simp; done) | exact rfl | (go_simp; rfl) | (go_simp; omega)
    try simp only [Act.put, List.setIfInBounds_toArray, List.set_cons_zero, List.set_cons_succ]
    refine take_on (i := 1) (v := .agg #[.int .i64 qa, .string (bs qb), .int .i64 qc]) rfl (by kernel_rfl) (by kernel_rfl) (by kernel_rfl) (fun _ _ _ h => h) (by kernel_rfl) (fun W' hSW => ?_) (by assumption) ?_
    · (try dsimp only at hSW)
      first | (go_simp; done) | exact rfl | (go_simp; rfl) | (go_simp; omega)
    try simp only [Act.put, List.setIfInBounds_toArray, List.set_cons_zero, List.set_cons_succ]
    refine take_on (i := 2) (v := .int .i64 6) rfl (by kernel_rfl) (by kernel_rfl) (by kernel_rfl) (fun _ _ _ h => h) (by kernel_rfl) (fun W' hSW => ?_) (by assumption) ?_
    · (try dsimp only at hSW)
      first | (go_simp; done) | exact rfl | (go_simp; rfl) | (go_simp; omega)
    try simp only [Act.put, List.setIfInBounds_toArray, List.set_cons_zero, List.set_cons_succ]
    refine take_call (i := 3) rfl (by kernel_rfl) (by kernel_rfl) (fun K hK => ?_)
    go_simp
    obtain ⟨V12, hV12⟩ : ∃ W, (((W5.setCell ⟨PB, 0, none⟩ (.int .i64 lim)).setCell ⟨PB, 1, none⟩ (.int .i64 nx)).setCell ⟨PB, 2, none⟩ (.slice a n cap)).drew = W := ⟨_, rfl⟩
    rw [hV12]
    have f12 := Lib.hid (show Fr0 (fun k => k = PB ∨ k = QB) W5 V12 by rw [← hV12]; exact ((((Fr0.refl (fun k => k = PB ∨ k = QB) W5).setCell (fun _ => .inl rfl) _).setCell (fun _ => .inl rfl) _).setCell (fun _ => .inl rfl) _).drew)
    have hx12 : V12.heap[PB]? = some (.cells #[.int .i64 lim, .int .i64 nx, .slice a n cap] 65 (0, 0)) := by
      rw [← hV12]; simp [World.setCell, World.drew, Array.getElem?_modify, HX.out]
    have hu12 : V12.heap[QB]? = some (.cells #[.int .i64 0, .string ⟨#[]⟩, .int .i64 0] 68 (0, 0)) := by
      have hne : ¬ PB = QB := fun e => by have := HPB.out; omega
      rw [← hV12]; simp [World.setCell, World.drew, Array.getElem?_modify, HU.out, hne]
    clear hV12
    refine hK.out _ _ (Skey2.out _ f12.out) (fun _ => ?_)
    clear hK K
    try simp only [Act.put, List.setIfInBounds_toArray, List.set_cons_zero, List.set_cons_succ]
    clear x0 x1 x2 y0 y1 y2 z0 z1 z2 b0 b1 b2 u0 u1 u2 v0 v1 v2
    have hu := hu12
    have u0 := cells_in hu 0
    have u1 := cells_in hu 1
    have u2 := cells_in hu 2
    simp at u0 u1 u2
    have v0 := thaw_in hu 0
    have v1 := thaw_in hu 1
    have v2 := thaw_in hu 2
    clear hu
    refine take_call (i := 4) rfl (by kernel_rfl) (by kernel_rfl) (fun K hK => ?_)
    go_simp
    obtain ⟨V13, hV13⟩ : ∃ W, ((V12.setCell ⟨QB, 0, none⟩ (.int .i64 qa)).setCell ⟨QB, 1, none⟩ (.string (bs qb))).setCell ⟨QB, 2, none⟩ (.int .i64 qc) = W := ⟨_, rfl⟩
    rw [hV13]
    have f13 := Lib.hid (show Fr0 (fun k => k = PB ∨ k = QB) V12 V13 by rw [← hV13]; exact (((Fr0.refl (fun k => k = PB ∨ k = QB) V12).setCell (fun _ => .inr rfl) _).setCell (fun _ => .inr rfl) _).setCell (fun _ => .inr rfl) _)
    have hu13 : V13.heap[QB]? = some (.cells #[.int .i64 qa, .string (bs qb), .int .i64 qc] 68 (0, 0)) := by
      rw [← hV13]; simp [World.setCell, World.drew, Array.getElem?_modify, hu12]
    have hx13 : V13.heap[PB]? = some (.cells #[.int .i64 lim, .int .i64 nx, .slice a n cap] 65 (0, 0)) := by
      have hne : ¬ QB = PB := fun e => by have := HPB.out; omega
      rw [← hV13]; simp [World.setCell, World.drew, Array.getElem?_modify, hx12, hne]
    clear hV13
    refine hK.out _ _ (Skey2.out _ (f12.out.trans f13.out)) (fun _ => ?_)
    clear hK K
    try simp only [Act.put, List.setIfInBounds_toArray, List.set_cons_zero, List.set_cons_succ]
    refine take_call (i := 5) rfl (by kernel_rfl) (by kernel_rfl) (fun K hK => ?_)
    go_simp
    refine hK.out _ _ (Skey2.out _ (f12.out.trans f13.out)) (fun _ => ?_)
    clear hK K
    try simp only [Act.put, List.setIfInBounds_toArray, List.set_cons_zero, List.set_cons_succ]
    refine wpAnyH_done (by kernel_rfl) ?_ _
    have F13 := Lib.hid ((F.out.trans' f12.out (fun k hk e => by have := HPB.out; rcases e with e | e <;> omega)).trans' f13.out (fun k hk e => by have := HPB.out; rcases e with e | e <;> omega))
    have hlt := (Array.getElem?_eq_some_iff.1 hx13).1
    have hlq := (Array.getElem?_eq_some_iff.1 hu13).1
    clear u0 u1 u2 v0 v1 v2 hHeld
    have hx := hx13
    have hu := hu13
    have x0 := cells_in hx 0
    have x1 := cells_in hx 1
    have x2 := cells_in hx 2
    simp at x0 x1 x2
    have y0 := thaw_in hx 0
    have y1 := thaw_in hx 1
    have y2 := thaw_in hx 2
    have u0 := cells_in hu 0
    have u1 := cells_in hu 1
    have u2 := cells_in hu 2
    simp at u0 u1 u2
    have v0 := thaw_in hu 0
    have v1 := thaw_in hu 1
    have v2 := thaw_in hu 2
    clear hx hu
    go_wp2
    refine bodyPost_ret (v := .tuple #[.agg #[.int .i64 lim, .int .i64 nx, .slice a n cap], .agg #[.int .i64 qa, .string (bs qb), .int .i64 qc], .int .i64 6]) (by simp [results, Tryz.results29, go_sem, x0, x1, x2, u0, u1, u2, hlt, hlq]) rfl ?_
    rw [← HPOST.out, hD, hE6, Hq.out]
    exact ⟨_, rfl, ⟨a, cap, by rw [Hn.out], Hc.out.later F13.out, by rw [Hn.out]; exact hcap, hcm, .inl rfl⟩, F13.out⟩
  · have hE0 : getE L m = 0 := by
      unfold getE; rw [if_pos]
      cases h : atP L m with
      | none => exact absurd h hm0
      | some _ => rfl
    have hmne : m ≠ 0 := fun e => hm0 (atP_none.2 (fun q hq => by have := (Hok.out.lo q hq).1; omega))
    refine (HG.out _ F.out).mono ?_
    rintro e w4 ⟨rfl, hf⟩
    have hf0 := hf
    have F0 := F
    obtain ⟨q, hq⟩ : ∃ q, getP L m = q := ⟨_, rfl⟩
    have Hq := Lib.hid hq
    rw [hq, show getE L m = 0 from hE0]
    obtain ⟨qa, qb, qc⟩ := q
    simp only [ptV]
    obtain ⟨W5, hW5⟩ : ∃ W, w4.alloc (.cells #[.int .i64 qa, .string (bs qb), .int .i64 qc] 68) = W := ⟨_, rfl⟩
    obtain ⟨RB, hRB⟩ : ∃ X, w4.heap.size = X := ⟨_, rfl⟩
    have hr : W5.heap[RB]? = some (.cells #[.int .i64 qa, .string (bs qb), .int .i64 qc] 68 (0, 0)) := by rw [← hW5, ← hRB]; exact World.alloc_heap_new w4 _
    have hf := hf.trans (show Fr0 none' w4 W5 by rw [← hW5]; exact (Fr0.refl _ _).alloc _)
    have hx := (hf.block PB hlt id).trans HX.out
    have hb := (hf.block B hlb id).trans HBB.out
    have hu := (hf.block QB hlq id).trans HU.out
    have hlt : PB < W5.heap.size := (Array.getElem?_eq_some_iff.1 hx).1
    have hlb : B < W5.heap.size := (Array.getElem?_eq_some_iff.1 hb).1
    have hlq : QB < W5.heap.size := (Array.getElem?_eq_some_iff.1 hu).1
    have F := Lib.hid (F.out.trans hf)
    clear x0 x1 x2 y0 y1 y2 z0 z1 z2 b0 b1 b2 u0 u1 u2 v0 v1 v2
    have x0 := cells_in hx 0
    have x1 := cells_in hx 1
    have x2 := cells_in hx 2
    simp at x0 x1 x2
    have y0 := thaw_in hx 0
    have y1 := thaw_in hx 1
    have y2 := thaw_in hx 2
    have z0 := thaw_in hb 0
    have z1 := thaw_in hb 1
    have z2 := thaw_in hb 2
    have b0 := cells_in hb 0
    have b1 := cells_in hb 1
    have b2 := cells_in hb 2
    simp at b0 b1 b2
    have u0 := cells_in hu 0
    have u1 := cells_in hu 1
    have u2 := cells_in hu 2
    simp at u0 u1 u2
    have v0 := thaw_in hu 0
    have v1 := thaw_in hu 1
    have v2 := thaw_in hu 2
    have HX := Lib.hid hx
    have HBB := Lib.hid hb
    have HU := Lib.hid hu
    clear hx hb hu
    have r0 := cells_in hr 0
    have r1 := cells_in hr 1
    have r2 := cells_in hr 2
    simp at r0 r1 r2
    have HRR := Lib.hid hr
    have hlr : RB < W5.heap.size := (Array.getElem?_eq_some_iff.1 hr).1
    have HRB := Lib.hid (show RB ≠ B ∧ RB ≠ PB ∧ RB ≠ QB ∧ w.heap.size ≤ RB from by have := hf0.size; have h1 := F0.out.size; omega)
    clear hf hr hq hf0 F0
    go_wp2_with fail
    clear hW5 hRB
    refine (HC.out _ F.out).mono ?_
    rintro e w6 ⟨rfl, hf⟩
    rcases idx_num L hmne [] with ⟨_, hat⟩ | ⟨k, pp, hR, hp, hat, _⟩
    · exact absurd hat hm0
    rw [hR]
    have hx := (hf.block PB hlt id).trans HX.out
    have hb := (hf.block B hlb id).trans HBB.out
    have hu := (hf.block QB hlq id).trans HU.out
    have hlt : PB < w6.heap.size := (Array.getElem?_eq_some_iff.1 hx).1
    have hlb : B < w6.heap.size := (Array.getElem?_eq_some_iff.1 hb).1
    have hlq : QB < w6.heap.size := (Array.getElem?_eq_some_iff.1 hu).1
    have F := Lib.hid (F.out.trans hf)
    clear x0 x1 x2 y0 y1 y2 z0 z1 z2 b0 b1 b2 u0 u1 u2 v0 v1 v2
    have x0 := cells_in hx 0
    have x1 := cells_in hx 1
    have x2 := cells_in hx 2
    simp at x0 x1 x2
    have y0 := thaw_in hx 0
    have y1 := thaw_in hx 1
    have y2 := thaw_in hx 2
    have z0 := thaw_in hb 0
    have z1 := thaw_in hb 1
    have z2 := thaw_in hb 2
    have b0 := cells_in hb 0
    have b1 := cells_in hb 1
    have b2 := cells_in hb 2
    simp at b0 b1 b2
    have u0 := cells_in hu 0
    have u1 := cells_in hu 1
    have u2 := cells_in hu 2
    simp at u0 u1 u2
    have v0 := thaw_in hu 0
    have v1 := thaw_in hu 1
    have v2 := thaw_in hu 2
    have HX := Lib.hid hx
    have HBB := Lib.hid hb
    have HU := Lib.hid hu
    clear hx hb hu
    have hr := (hf.block RB hlr id).trans HRR.out
    have hlr : RB < w6.heap.size := (Array.getElem?_eq_some_iff.1 hr).1
    have HRR := Lib.hid hr
    clear r0 r1 r2
    have r0 := cells_in hr 0
    have r1 := cells_in hr 1
    have r2 := cells_in hr 2
    simp at r0 r1 r2
    have hpm : pp.number = m := (atP_mem hat).2
    have hdel := delP_at Hok.out.ord hp
    rw [hpm] at hdel
    have hk := (List.getElem?_eq_some_iff.1 hp).1
    rw [Hn.out] at hk
    have Hdel := Lib.hid hdel
    have HAT := Lib.hid hat
    have k1 : (0 : Int) ≤ (k : Int) := by omega
    have k2 : (k : Int) ≤ (n : Int) := by omega
    have k3 : (k : Int) ≤ (cap : Int) := by omega
    obtain ⟨j, hj⟩ : ∃ j, j = k + 1 := ⟨_, rfl⟩
    have k4 : (0 : Int) ≤ (j : Int) := by omega
    have k5 : (j : Int) ≤ (n : Int) := by omega
    have k6 : (j : Int) ≤ (cap : Int) := by omega
    have k7 : (n : Int) ≤ (cap : Int) := by omega
    have K8 := Lib.hid (show IntKind.i64.wrap ((k : Int) + 1) = (j : Int) ∧ wrap64 ((k : Int) + 1) = (j : Int) from ⟨by rw [IntWalk.i64_in _ (by omega)]; omega, by rw [IntWalk.wrap64_in _ (by omega)]; omega⟩)
    have k10 : j ≤ n := by omega
    have k11 : k ≤ cap := by omega
    obtain ⟨g, o, rfl, -⟩ := Hc.out k pp hp
    obtain ⟨A, hA, hsrc⟩ : ∃ A : Addr, (if cap = j then some (⟨g, o, none⟩ : Addr) else some ⟨g, o + j * 3, none⟩) = some A ∧ Hid (∀ W, Fr0 none' w W → PtsIn W (some A) (L.drop j)) := by
      by_cases h : cap = j
      · refine ⟨⟨g, o, none⟩, by simp [h], fun W _ i p hi => ?_⟩
        rw [List.drop_of_length_le (by rw [Hn.out]; omega)] at hi
        simp at hi
      · refine ⟨⟨g, o + j * 3, none⟩, by simp [h], fun W hf i p hi => ?_⟩
        rw [List.getElem?_drop] at hi
        obtain ⟨g', o', e, hc⟩ := (Hc.out.later hf) (j + i) p hi
        injection e with e
        injection e with e1 e2
        subst e1; subst e2
        exact ⟨g, o + j * 3, rfl, by rw [show o + j * 3 + i * 3 = o + (j + i) * 3 by omega]; exact hc⟩
    have htake : Hid (∀ W, Fr0 none' w W → PtsIn W (some ⟨g, o, none⟩) (L.take k)) := fun W hf i p hi => by
      rw [List.getElem?_take] at hi
      split at hi
      · exact (Hc.out.later hf) i p hi
      · cases hi
    have Hj := Lib.hid hj
    have Hk := Lib.hid hk
    have hP := Lib.hid hp
    clear hR hp hat hpm hdel hf hr hm0 hE0 hj hk
    go_wp2_with fail
    have HW6 := Lib.hid F.out.size
    have Skey := Lib.hid (show ∀ W', Fr0 none' w6 W' → W'.cell? ⟨B, 2, none⟩ = some (.slice (some ⟨g, o, none⟩) n cap) from fun W' hf => hf.later b2)
    have hHeld := Skey.out _ (Fr0.refl none' w6).drew
    have F0 := Lib.hid (Fr0.refl none' w6).drew
    refine wp_region_Z (z := 13) (S := fun W' => W'.cell? ⟨B, 2, none⟩ = some (.slice (some ⟨g, o, none⟩) n cap)) (by kernel_rfl) ?_
    obtain ⟨WD, hWD⟩ : ∃ W, w6.drew = W := ⟨_, rfl⟩
    rw [hWD] at F0 hHeld ⊢
    clear hWD
    refine takeZ_on (i := 1) (v := .pointer (some ⟨B, 2, none⟩)) rfl (by kernel_rfl) (by kernel_rfl) (by kernel_rfl) (by kernel_rfl) (fun _ _ _ h => h) (by kernel_rfl) (fun W' hSW => ?_) (by assumption) ?_
    · (try dsimp only at hSW)
      first | (go_simp; done) | exact rfl | (go_simp; rfl) | (go_simp; omega)
    try simp only [Act.put, List.setIfInBounds_toArray, List.set_cons_zero, List.set_cons_succ]
    refine takeZ_on (i := 2) (v := .slice (some ⟨g, o, none⟩) n cap) rfl (by kernel_rfl) (by kernel_rfl) (by kernel_rfl) (by kernel_rfl) (fun _ _ _ h => h) (by kernel_rfl) (fun W' hSW => ?_) (by assumption) ?_
    · (try dsimp only at hSW)
      first | (go_simp; done) | exact rfl | (go_simp; rfl) | (go_simp; omega)
    try simp only [Act.put, List.setIfInBounds_toArray, List.set_cons_zero, List.set_cons_succ]
    refine takeZ_on (i := 3) (v := .int .i64 k) rfl (by kernel_rfl) (by kernel_rfl) (by kernel_rfl) (by kernel_rfl) (fun _ _ _ h => h) (by kernel_rfl) (fun W' hSW => ?_) (by assumption) ?_
    · (try dsimp only at hSW)
      first | (go_simp; done) | exact rfl | (go_simp; rfl) | (go_simp; omega)
    try simp only [Act.put, List.setIfInBounds_toArray, List.set_cons_zero, List.set_cons_succ]
    refine takeZ_on (i := 4) (v := .slice (some ⟨g, o, none⟩) k cap) rfl (by kernel_rfl) (by kernel_rfl) (by kernel_rfl) (by kernel_rfl) (fun _ _ _ h => h) (by kernel_rfl) (fun W' hSW => ?_) (by assumption) ?_
    · (try dsimp only at hSW)
      first | (go_simp; done) | exact rfl | (go_simp; rfl) | (go_simp; omega)
    try simp only [Act.put, List.setIfInBounds_toArray, List.set_cons_zero, List.set_cons_succ]
    refine takeZ_on (i := 6) (v := .pointer (some ⟨B, 2, none⟩)) rfl (by kernel_rfl) (by kernel_rfl) (by kernel_rfl) (by kernel_rfl) (fun _ _ _ h => h) (by kernel_rfl) (fun W' hSW => ?_) (by assumption) ?_
    · (try dsimp only at hSW)
      first | (go_simp; done) | exact rfl | (go_simp; rfl) | (go_simp; omega)
    try simp only [Act.put, List.setIfInBounds_toArray, List.set_cons_zero, List.set_cons_succ]
    refine takeZ_on (i := 7) (v := .slice (some ⟨g, o, none⟩) n cap) rfl (by kernel_rfl) (by kernel_rfl) (by kernel_rfl) (by kernel_rfl) (fun _ _ _ h => h) (by kernel_rfl) (fun W' hSW => ?_) (by assumption) ?_
    · (try dsimp only at hSW)
      first | (go_simp; done) | exact rfl | (go_simp; rfl) | (go_simp; omega)
    try simp only [Act.put, List.setIfInBounds_toArray, List.set_cons_zero, List.set_cons_succ]
    refine takeZ_on (i := 8) (v := .int .i64 k) rfl (by kernel_rfl) (by kernel_rfl) (by kernel_rfl) (by kernel_rfl) (fun _ _ _ h => h) (by kernel_rfl) (fun W' hSW => ?_) (by assumption) ?_
    · (try dsimp only at hSW)
      first | (go_simp; done) | exact rfl | (go_simp; rfl) | (go_simp; omega)
    try simp only [Act.put, List.setIfInBounds_toArray, List.set_cons_zero, List.set_cons_succ]
    obtain ⟨k8, k9⟩ := K8.out
    refine takeZ_on (i := 9) (v := .int .i64 j) rfl (by kernel_rfl) (by kernel_rfl) (by kernel_rfl) (by kernel_rfl) (fun _ _ _ h => h) (by kernel_rfl) (fun W' hSW => ?_) (by assumption) ?_
    · (try dsimp only at hSW)
      first | (go_simp; done) | exact rfl | (go_simp; rfl) | (go_simp; omega)
    try simp only [Act.put, List.setIfInBounds_toArray, List.set_cons_zero, List.set_cons_succ]
    clear k8 k9
    refine takeZ_on (i := 10) (v := .slice (some A) (n - j) (cap - j)) rfl (by kernel_rfl) (by kernel_rfl) (by kernel_rfl) (by kernel_rfl) (fun _ _ _ h => h) (by kernel_rfl) (fun W' hSW => ?_) (by assumption) ?_
    · (try dsimp only at hSW)
      first | (go_simp; done) | exact rfl | (go_simp; rfl) | (go_simp; omega)
    try simp only [Act.put, List.setIfInBounds_toArray, List.set_cons_zero, List.set_cons_succ]
    refine takeZ_call (i := 0) rfl (by kernel_rfl) (by kernel_rfl) (fun K hK => ?_)
    go_simp
    obtain ⟨V1, hV⟩ : ∃ W, WD.alloc (.cells #[] 68) = W := ⟨_, rfl⟩
    obtain ⟨G, hG⟩ : ∃ X, WD.heap.size = X := ⟨_, rfl⟩
    have hrow := World.ownsRow_lit (base := w6.heap.size) (e := 68) (size := 3) WD #[] 0 F0.out.size (by unfold maxLen; omega) rfl
    have fV := Lib.hid (show Fr0 none' WD V1 by rw [← hV]; exact (Fr0.refl _ _).alloc _)
    have F2 := Lib.hid (F0.out.trans fV.out)
    rw [hV, hG] at hrow
    rw [hV, hG]
    have Hrow := Lib.hid hrow
    have hGV := (hrow.lt G rfl).2
    have HGl := Lib.hid (show G = WD.heap.size from hG.symm)
    clear hV hG hrow
    refine hK.out _ _ (.inr (Skey.out _ F2.out)) ?_
    clear hK K
    try simp only [Act.put, List.setIfInBounds_toArray, List.set_cons_zero, List.set_cons_succ]
    refine takeZ_call (i := 5) rfl (by kernel_rfl) (by kernel_rfl) (fun K hK => ?_)
    refine wp_app_k _ _ 63 63 rfl w6.heap.size 68 i0 (.agg #[.int .i64 0, .string ⟨#[]⟩, .int .i64 0]) 3 32 Tryz.underlying63 hi hz0 hz1 hz2 rfl (by decide) (.slice (some ⟨G, 0, none⟩) 0 0) 0 [] rfl Hrow.out (.slice (some ⟨g, o, none⟩) k cap) k (flatP (L.take k)) rfl ((htake.out _ (F.out.trans F2.out)).src (by rw [List.length_take, Hn.out]; have := Hk.out; omega) cap Tryz.underlying63) (by unfold maxLen; omega) (by omega) F2.out.size ?_
    intro v1' V2 hown1 hgr
    have hg1 := Hrow.out.lt
    have F3 := Lib.hid (F2.out.grown hgr (fun k hk hkl => by have := (hg1 k hk).1; omega))
    have Hown1 := Lib.hid hown1
    clear hown1 hgr hg1
    refine hK.out _ _ (.inr (Skey.out _ F3.out)) ?_
    clear hK K
    try simp only [Act.put, List.setIfInBounds_toArray, List.set_cons_zero, List.set_cons_succ]
    refine takeZ_call (i := 11) rfl (by kernel_rfl) (by kernel_rfl) (fun K hK => ?_)
    refine wp_app_k _ _ 63 63 rfl w6.heap.size 68 i0 (.agg #[.int .i64 0, .string ⟨#[]⟩, .int .i64 0]) 3 32 Tryz.underlying63 hi hz0 hz1 hz2 rfl (by decide) v1' (0 + k) _ rfl Hown1.out (.slice (some A) (n - j) (cap - j)) (n - j) (flatP (L.drop j)) rfl ((hsrc.out _ (F.out.trans F3.out)).src (by rw [List.length_drop, Hn.out]) (cap - j) Tryz.underlying63) (by unfold maxLen; omega) (by omega) F3.out.size ?_
    intro v2' V9 hown2 hgr2
    have hg2 := Hown1.out.lt
    have F9 := Lib.hid (F3.out.grown hgr2 (fun k hk hkl => by have := (hg2 k hk).1; omega))
    obtain ⟨va, vc, rfl, hva, hvc, hvm, hvb⟩ := PtsIn.of_own (L := L.eraseIdx k) (n := n - 1) (by
      have h1 := hown2
      rw [List.nil_append, ← flatP_append, show 0 + k + (n - j) = n - 1 by have := Hj.out; have := Hk.out; omega] at h1
      rw [List.eraseIdx_eq_take_drop_succ, ← Hj.out]; exact h1) (by rw [List.length_eraseIdx_of_lt (by rw [Hn.out]; exact Hk.out), Hn.out])
    have Hva := Lib.hid (show PtsIn V9 va (L.eraseIdx k) ∧ n - 1 ≤ vc ∧ vc ≤ maxLen ∧ ∀ g o s, va = some ⟨g, o, s⟩ → w6.heap.size ≤ g from ⟨hva, hvc, hvm, hvb⟩)
    clear hown2 hgr2 hg2 hva hvc hvm hvb
    refine hK.out _ _ (.inr (Skey.out _ F9.out)) ?_
    clear hK K
    try simp only [Act.put, List.setIfInBounds_toArray, List.set_cons_zero, List.set_cons_succ]
    refine takeZ_call (i := 12) rfl (by kernel_rfl) (by kernel_rfl) (fun K hK => ?_)
    go_simp
    refine hK.out _ _ (.inr (Skey.out _ F9.out)) ?_
    clear hK K
    try simp only [Act.put, List.setIfInBounds_toArray, List.set_cons_zero, List.set_cons_succ]
    refine takeZ_call (i := 13) rfl (by kernel_rfl) (by kernel_rfl) (fun K hK => ?_)
    have hb := (F9.out.block B hlb id).trans HBB.out
    have hx := (F9.out.block PB hlt id).trans HX.out
    have hu := (F9.out.block QB hlq id).trans HU.out
    have hr := (F9.out.block RB hlr id).trans HRR.out
    clear x0 x1 x2 y0 y1 y2 z0 z1 z2 b0 b1 b2 u0 u1 u2 v0 v1 v2 r0 r1 r2
    have z0 := thaw_in hb 0
    have z1 := thaw_in hb 1
    have z2 := thaw_in hb 2
    have b0 := cells_in hb 0
    have b1 := cells_in hb 1
    have b2 := cells_in hb 2
    simp at b0 b1 b2
    go_simp
    obtain ⟨V10, hV10⟩ : ∃ W, V9.setCell ⟨B, 2, none⟩ (.slice va (n - 1) vc) = W := ⟨_, rfl⟩
    rw [hV10]
    have hb10 : V10.heap[B]? = some (.cells #[.int .i64 lim, .int .i64 nx, .slice va (n - 1) vc] 65 (0, 0)) := by
      rw [← hV10]; simp [World.setCell, Array.getElem?_modify, hb]
    have f10 := Lib.hid (show Fr0 (fun k => k = B) V9 V10 by rw [← hV10]; exact (Fr0.refl (fun k => k = B) V9).setCell (fun _ => rfl) _)
    have hx10 := (f10.out.block PB (Array.getElem?_eq_some_iff.1 hx).1 (by have := HPB.out; omega)).trans hx
    have hu10 := (f10.out.block QB (Array.getElem?_eq_some_iff.1 hu).1 (by have := HPB.out; omega)).trans hu
    have hr10 := (f10.out.block RB (Array.getElem?_eq_some_iff.1 hr).1 (by have := HRB.out; omega)).trans hr
    have F10 := Lib.hid ((F.out.trans F9.out).trans' f10.out (fun k hk e => by have := HPB.out; omega))
    have hav := Lib.hid (Hva.out.1.fr0 f10.out (fun g o s e (h : g = B) => by have := Hva.out.2.2.2 g o s e; omega))
    have hvr := Lib.hid (show ∀ g o s, va = some ⟨g, o, s⟩ → ¬ (g = PB ∨ g = QB) from fun g o s e h => by have := Hva.out.2.2.2 g o s e; rcases h with h | h <;> omega)
    refine hK.out _ _ (.inl rfl) ?_
    clear hK K hV10 z0 z1 z2 b0 b1 b2 hHeld
    try simp only [Act.put, List.setIfInBounds_toArray, List.set_cons_zero, List.set_cons_succ]
    refine wpAnyZ_done (by kernel_rfl) ?_ _
    have F := F10
    have hlt := (Array.getElem?_eq_some_iff.1 hx10).1
    have hlb := (Array.getElem?_eq_some_iff.1 hb10).1
    have hlq := (Array.getElem?_eq_some_iff.1 hu10).1
    have hlr := (Array.getElem?_eq_some_iff.1 hr10).1
    have HX := Lib.hid hx10
    have HBB := Lib.hid hb10
    have HU := Lib.hid hu10
    clear hb hx hu hr
    have hb := hb10
    have hx := hx10
    have hu := hu10
    have hr := hr10
    have x0 := cells_in hx 0
    have x1 := cells_in hx 1
    have x2 := cells_in hx 2
    simp at x0 x1 x2
    have y0 := thaw_in hx 0
    have y1 := thaw_in hx 1
    have y2 := thaw_in hx 2
    have z0 := thaw_in hb 0
    have z1 := thaw_in hb 1
    have z2 := thaw_in hb 2
    have b0 := cells_in hb 0
    have b1 := cells_in hb 1
    have b2 := cells_in hb 2
    simp at b0 b1 b2
    have u0 := cells_in hu 0
    have u1 := cells_in hu 1
    have u2 := cells_in hu 2
    simp at u0 u1 u2
    have v0 := thaw_in hu 0
    have v1 := thaw_in hu 1
    have v2 := thaw_in hu 2
    have r0 := cells_in hr 0
    have r1 := cells_in hr 1
    have r2 := cells_in hr 2
    simp at r0 r1 r2
    clear hb hx hu hr hb10 hx10 hu10 hr10
    go_wp2_with fail
    have Skey2 := Lib.hid (show ∀ W', Fr0 (fun k => k = PB ∨ k = QB) V10 W' → W'.cell? ⟨B, 0, none⟩ = some (.int .i64 lim) ∧ W'.cell? ⟨B, 1, none⟩ = some (.int .i64 nx) ∧ W'.cell? ⟨B, 2, none⟩ = some (.slice va (n - 1) vc) ∧ W'.cell? ⟨RB, 0, none⟩ = some (.int .i64 qa) ∧ W'.cell? ⟨RB, 1, none⟩ = some (.string (bs qb)) ∧ W'.cell? ⟨RB, 2, none⟩ = some (.int .i64 qc) from fun W' hf => by
      have hk : ∀ o, W'.cell? ⟨B, o, none⟩ = V10.cell? ⟨B, o, none⟩ := fun o => hf.cell (p := ⟨B, o, none⟩) hlb (fun e => by have := HPB.out; rcases e with (e : B = PB) | (e : B = QB) <;> omega)
      have hk' : ∀ o, W'.cell? ⟨RB, o, none⟩ = V10.cell? ⟨RB, o, none⟩ := fun o => hf.cell (p := ⟨RB, o, none⟩) hlr (fun e => by have := HRB.out; rcases e with (e : RB = PB) | (e : RB = QB) <;> omega)
      exact ⟨(hk 0).trans b0, (hk 1).trans b1, (hk 2).trans b2, (hk' 0).trans r0, (hk' 1).trans r1, (hk' 2).trans r2⟩)
    refine wp_region_held_drew (S := fun W' => W'.cell? ⟨B, 0, none⟩ = some (.int .i64 lim) ∧ W'.cell? ⟨B, 1, none⟩ = some (.int .i64 nx) ∧ W'.cell? ⟨B, 2, none⟩ = some (.slice va (n - 1) vc) ∧ W'.cell? ⟨RB, 0, none⟩ = some (.int .i64 qa) ∧ W'.cell? ⟨RB, 1, none⟩ = some (.string (bs qb)) ∧ W'.cell? ⟨RB, 2, none⟩ = some (.int .i64 qc)) (by kernel_rfl) (Skey2.out _ (Fr0.refl _ V10).drew) (fun hHeld => ?_)
    refine take_on (i := 0) (v := .agg #[.int .i64 lim, .int .i64 nx, .slice va (n - 1) vc]) rfl (by kernel_rfl) (by kernel_rfl) (by kernel_rfl) (fun _ _ _ h => h) (by kernel_rfl) (fun W' hSW => ?_) (by assumption) ?_
    · (try dsimp only at hSW)
      first | (go_simp; done) | exact rfl | (go_simp; rfl) | (go_simp; omega)
    try simp only [Act.put, List.setIfInBounds_toArray, List.set_cons_zero, List.set_cons_succ]
    refine take_on (i := 1) (v := .agg #[.int .i64 qa, .string (bs qb), .int .i64 qc]) rfl (by kernel_rfl) (by kernel_rfl) (by kernel_rfl) (fun _ _ _ h => h) (by kernel_rfl) (fun W' hSW => ?_) (by assumption) ?_
    · (try dsimp only at hSW)
      first | (go_simp; done) | exact rfl | (go_simp; rfl) | (go_simp; omega)
    try simp only [Act.put, List.setIfInBounds_toArray, List.set_cons_zero, List.set_cons_succ]
    skip
    refine take_call (i := 2) rfl (by kernel_rfl) (by kernel_rfl) (fun K hK => ?_)
    go_simp
    obtain ⟨V12, hV12⟩ : ∃ W, (((V10.setCell ⟨PB, 0, none⟩ (.int .i64 lim)).setCell ⟨PB, 1, none⟩ (.int .i64 nx)).setCell ⟨PB, 2, none⟩ (.slice va (n - 1) vc)).drew = W := ⟨_, rfl⟩
    rw [hV12]
    have f12 := Lib.hid (show Fr0 (fun k => k = PB ∨ k = QB) V10 V12 by rw [← hV12]; exact ((((Fr0.refl (fun k => k = PB ∨ k = QB) V10).setCell (fun _ => .inl rfl) _).setCell (fun _ => .inl rfl) _).setCell (fun _ => .inl rfl) _).drew)
    have hx12 : V12.heap[PB]? = some (.cells #[.int .i64 lim, .int .i64 nx, .slice va (n - 1) vc] 65 (0, 0)) := by
      rw [← hV12]; simp [World.setCell, World.drew, Array.getElem?_modify, HX.out]
    have hu12 : V12.heap[QB]? = some (.cells #[.int .i64 0, .string ⟨#[]⟩, .int .i64 0] 68 (0, 0)) := by
      have hne : ¬ PB = QB := fun e => by have := HPB.out; omega
      rw [← hV12]; simp [World.setCell, World.drew, Array.getElem?_modify, HU.out, hne]
    clear hV12
    refine hK.out _ _ (Skey2.out _ f12.out) (fun _ => ?_)
    clear hK K
    try simp only [Act.put, List.setIfInBounds_toArray, List.set_cons_zero, List.set_cons_succ]
    clear x0 x1 x2 y0 y1 y2 z0 z1 z2 b0 b1 b2 u0 u1 u2 v0 v1 v2
    have hu := hu12
    have u0 := cells_in hu 0
    have u1 := cells_in hu 1
    have u2 := cells_in hu 2
    simp at u0 u1 u2
    have v0 := thaw_in hu 0
    have v1 := thaw_in hu 1
    have v2 := thaw_in hu 2
    clear hu
    refine take_call (i := 3) rfl (by kernel_rfl) (by kernel_rfl) (fun K hK => ?_)
    go_simp
    obtain ⟨V13, hV13⟩ : ∃ W, ((V12.setCell ⟨QB, 0, none⟩ (.int .i64 qa)).setCell ⟨QB, 1, none⟩ (.string (bs qb))).setCell ⟨QB, 2, none⟩ (.int .i64 qc) = W := ⟨_, rfl⟩
    rw [hV13]
    have f13 := Lib.hid (show Fr0 (fun k => k = PB ∨ k = QB) V12 V13 by rw [← hV13]; exact (((Fr0.refl (fun k => k = PB ∨ k = QB) V12).setCell (fun _ => .inr rfl) _).setCell (fun _ => .inr rfl) _).setCell (fun _ => .inr rfl) _)
    have hu13 : V13.heap[QB]? = some (.cells #[.int .i64 qa, .string (bs qb), .int .i64 qc] 68 (0, 0)) := by
      rw [← hV13]; simp [World.setCell, World.drew, Array.getElem?_modify, hu12]
    have hx13 : V13.heap[PB]? = some (.cells #[.int .i64 lim, .int .i64 nx, .slice va (n - 1) vc] 65 (0, 0)) := by
      have hne : ¬ QB = PB := fun e => by have := HPB.out; omega
      rw [← hV13]; simp [World.setCell, World.drew, Array.getElem?_modify, hx12, hne]
    clear hV13
    refine hK.out _ _ (Skey2.out _ (f12.out.trans f13.out)) (fun _ => ?_)
    clear hK K
    try simp only [Act.put, List.setIfInBounds_toArray, List.set_cons_zero, List.set_cons_succ]
    refine take_call (i := 4) rfl (by kernel_rfl) (by kernel_rfl) (fun K hK => ?_)
    go_simp
    refine hK.out _ _ (Skey2.out _ (f12.out.trans f13.out)) (fun _ => ?_)
    clear hK K
    try simp only [Act.put, List.setIfInBounds_toArray, List.set_cons_zero, List.set_cons_succ]
    refine wpAnyH_done (by kernel_rfl) ?_ _
    have F13 := Lib.hid ((F.out.trans' f12.out (fun k hk e => by have := HPB.out; rcases e with e | e <;> omega)).trans' f13.out (fun k hk e => by have := HPB.out; rcases e with e | e <;> omega))
    have hlt := (Array.getElem?_eq_some_iff.1 hx13).1
    have hlq := (Array.getElem?_eq_some_iff.1 hu13).1
    clear u0 u1 u2 v0 v1 v2 hHeld
    have hx := hx13
    have hu := hu13
    have x0 := cells_in hx 0
    have x1 := cells_in hx 1
    have x2 := cells_in hx 2
    simp at x0 x1 x2
    have y0 := thaw_in hx 0
    have y1 := thaw_in hx 1
    have y2 := thaw_in hx 2
    have u0 := cells_in hu 0
    have u1 := cells_in hu 1
    have u2 := cells_in hu 2
    simp at u0 u1 u2
    have v0 := thaw_in hu 0
    have v1 := thaw_in hu 1
    have v2 := thaw_in hu 2
    clear hx hu
    go_wp2
    refine bodyPost_ret (v := .tuple #[.agg #[.int .i64 lim, .int .i64 nx, .slice va (n - 1) vc], .agg #[.int .i64 qa, .string (bs qb), .int .i64 qc], .int .i64 0]) (by simp [results, Tryz.results29, go_sem, x0, x1, x2, u0, u1, u2, hlt, hlq]) rfl ?_
    have hav13 := (hav.out.fr0 f12.out hvr.out).fr0 f13.out hvr.out
    have hEq : getE L m = 0 := by
      unfold getE; rw [if_pos]
      have hpm := HAT.out
      rw [hpm]; rfl
    rw [← HPOST.out, Hdel.out, hEq, Hq.out]
    refine ⟨_, rfl, ⟨va, vc, ?_, hav13, ?_, Hva.out.2.2.1, .inr (fun g o s e => by have := Hva.out.2.2.2 g o s e; have := HW6.out; omega)⟩, F13.out⟩
    · rw [List.length_eraseIdx_of_lt (by rw [Hn.out]; exact Hk.out), Hn.out]
    · rw [List.length_eraseIdx_of_lt (by rw [Hn.out]; exact Hk.out), Hn.out]; exact Hva.out.2.1
end Go.Proofs.YtieeloealklkgaaGreatDoor

/-
  The reference's space: Rename.
-/
namespace Go.Proofs.YtieeloealklkgaaGreatDoor
open Go.RowKit Go.Maps
attribute [local go_sem ↓] Go.wp_at_zero Go.wp_at_succ
attribute [local go_sem high] run_eql_pt run_neq_pt

def RRnPost (a0 : Option Addr) (lim nx : Int) (L : List Pt) (t : Bs) (E : Int) (w : World) (e : Ending) (w' : World) : Prop := ∃ u, e = .returned (.tuple #[u, .string (bs t), .int .i64 E]) ∧ RsAt w' u lim nx L a0 w.heap.size ∧ Fr0 none' w w'

theorem own_shape {w : World} {base : Nat} {e : TypeId} {v : Value} {n : Nat} {L : List Pt} (h : w.ownsRow base e 3 v n (flatP L)) (hn : L.length = n) (h0 : 0 < n) :
    ∃ g cap cur, v = .slice (some ⟨g, 0, none⟩) n cap ∧ base ≤ g ∧ w.heap[g]? = some (.cells cur e (0, 0)) ∧ n ≤ cap ∧ cap ≤ maxLen ∧ n * 3 ≤ cur.size ∧ PtsIn w (some ⟨g, 0, none⟩) L := by
  obtain ⟨a, cap', hv, hp, _⟩ := PtsIn.of_own h hn
  rcases h.2 with ⟨_, h1⟩ | ⟨g, cap, cur, rfl, hb, hg, hn', hcm, hs, ht⟩
  · omega
  · injection hv with e1
    subst e1
    exact ⟨g, cap, cur, rfl, hb, hg, hn', hcm, by rw [hs]; omega, hp⟩
theorem PtsIn.mid {w : World} {g k : Nat} {L : List Pt} {p : Pt} (h : PtsIn w (some ⟨g, 0, none⟩) L) (hp : L[k]? = some p) : w.cell? ⟨g, k * 3 + 1, none⟩ = some (.string (bs p.name)) := by
  obtain ⟨g', o, e, _, h1, _⟩ := h k p hp
  injection e with e
  injection e with e1 e2
  subst e1; subst e2
  rw [Nat.zero_add] at h1
  exact h1
theorem cell_set_self {w : World} {g j : Nat} {u v : Value} (h : w.cell? ⟨g, j, none⟩ = some u) : (w.setCell ⟨g, j, none⟩ v).cell? ⟨g, j, none⟩ = some v := by
  obtain ⟨cs, t, fz, hg⟩ : ∃ cs t fz, w.heap[g]? = some (.cells cs t fz) := by
    unfold World.cell? at h
    simp only at h
    split at h
    · exact ⟨_, _, _, by assumption⟩
    · cases h
  have hj : j < cs.size := by
    simp only [World.cell?, hg] at h
    exact (Array.getElem?_eq_some_iff.1 h).1
  simp [World.cell?, World.setCell, Array.getElem?_modify, hg, hj]
theorem cell_set_other {w : World} {g j i : Nat} {v : Value} (h : i ≠ j) : (w.setCell ⟨g, j, none⟩ v).cell? ⟨g, i, none⟩ = w.cell? ⟨g, i, none⟩ := by
  cases hg : w.heap[g]? with
  | none => simp [World.cell?, World.setCell, Array.getElem?_modify, hg]
  | some ob =>
    cases ob <;> simp [World.cell?, World.setCell, Array.getElem?_modify, hg, Array.getElem?_setIfInBounds, Ne.symm h]
theorem PtsIn.ren {w : World} {g k : Nat} {L : List Pt} {p : Pt} {s : Bs} (h : PtsIn w (some ⟨g, 0, none⟩) L) (ho : OrdP L) (hp : L[k]? = some p) : PtsIn (w.setCell ⟨g, k * 3 + 1, none⟩ (.string (bs s))) (some ⟨g, 0, none⟩) (renP L p.number s) := fun i q hq => by
  unfold renP at hq
  rw [List.getElem?_map] at hq
  obtain ⟨x, hx, rfl⟩ := Option.map_eq_some_iff.1 hq
  obtain ⟨g', o, e, h0, h1, h2⟩ := h i x hx
  injection e with e
  injection e with e1 e2
  subst e1; subst e2
  rw [Nat.zero_add] at h0 h1 h2
  refine ⟨g, 0, rfl, ?_⟩
  rw [Nat.zero_add]
  by_cases hik : i = k
  · subst hik
    rw [hp] at hx
    injection hx with hx
    subst hx
    rw [if_pos rfl]
    exact ⟨(cell_set_other (by omega)).trans h0, cell_set_self h1, (cell_set_other (by omega)).trans h2⟩
  · have hne : ¬ x.number = p.number := fun e => by
      obtain ⟨l1, l1'⟩ := List.getElem?_eq_some_iff.1 hx
      obtain ⟨l2, l2'⟩ := List.getElem?_eq_some_iff.1 hp
      rcases Nat.lt_or_gt_of_ne hik with h5 | h5
      · have := List.pairwise_iff_getElem.1 ho i k l1 l2 h5
        rw [l1', l2'] at this; omega
      · have := List.pairwise_iff_getElem.1 ho k i l2 l1 h5
        rw [l1', l2'] at this; omega
    rw [if_neg hne]
    exact ⟨(cell_set_other (by omega)).trans h0, (cell_set_other (by omega)).trans h1, (cell_set_other (by omega)).trans h2⟩
set_option maxRecDepth 100000 in
set_option maxHeartbeats 4000000 in
theorem rRename_any (lim nx : Int) (a : Option Addr) (n cap : Nat) (L : List Pt) (m : Int) (s : Bs) (w : World) (hn : L.length = n) (hm : n ≤ 1000) (hcap : n ≤ cap) (hcm : cap ≤ maxLen) (hok : SpOK lim nx L) (hs : s.length ≤ 1000)
    (hc : PtsIn w a L) :
    Calls Tryz.prog 30 #[.agg #[.int .i64 lim, .int .i64 nx, .slice a n cap], .int .i64 m, .string (bs s)] w (RRnPost a lim nx (renL L m s) (renT L m s) (renE L m s) w) := by
  obtain ⟨i0, hi, hz0, hz1, hz2⟩ := info_parts info_rp
  obtain ⟨POST, hPOST⟩ : ∃ Q, RRnPost a lim nx (renL L m s) (renT L m s) (renE L m s) w = Q := ⟨_, rfl⟩
  rw [hPOST]
  have HPOST := Lib.hid hPOST
  have Hn := Lib.hid hn
  have Hc := Lib.hid hc
  have Hok := Lib.hid hok
  have HG := Lib.hid (fun W (hf : Fr0 none' w W) => rGet_any lim nx a n cap L m W Hn.out (by omega) (fun p hp => (Hok.out.lo p hp).1) (Hc.out.later hf))
  have HC := Lib.hid (fun W (hf : Fr0 none' w W) => rindex_any lim nx a n cap L m [] W Hn.out (by omega) (Hc.out.later hf))
  have HD := Lib.hid (fun W (hf : Fr0 none' w W) => rindex_any lim nx a n cap L 0 s W Hn.out (by omega) (Hc.out.later hf))
  obtain ⟨r, hr⟩ : ∃ r, rightB s = r := ⟨_, rfl⟩
  have HR := Lib.hid (fun W => refRight_r s (by omega) hr W)
  have Hr := Lib.hid hr
  clear hn hc hok hPOST hr
  obtain ⟨W1, hW1⟩ : ∃ W, w.alloc (.cells #[.int .i64 lim, .int .i64 nx, .slice a n cap] 65) = W := ⟨_, rfl⟩
  obtain ⟨B, hB⟩ : ∃ X, w.heap.size = X := ⟨_, rfl⟩
  have f1 := Lib.hid (show Fr0 none' w W1 by rw [← hW1]; exact (Fr0.refl _ _).alloc _)
  have hb : W1.heap[B]? = some (.cells #[.int .i64 lim, .int .i64 nx, .slice a n cap] 65 (0, 0)) := by rw [← hW1, ← hB]; exact World.alloc_heap_new w _
  obtain ⟨W2, hW2⟩ : ∃ W, W1.alloc (.cells #[.int .i64 0, .int .i64 0, .slice none 0 0] 65) = W := ⟨_, rfl⟩
  obtain ⟨PB, hPB⟩ : ∃ X, W1.heap.size = X := ⟨_, rfl⟩
  have f2 := Lib.hid (show Fr0 none' W1 W2 by rw [← hW2]; exact (Fr0.refl _ _).alloc _)
  have hx : W2.heap[PB]? = some (.cells #[.int .i64 0, .int .i64 0, .slice none 0 0] 65 (0, 0)) := by rw [← hW2, ← hPB]; exact World.alloc_heap_new W1 _
  have hb1 := (Array.getElem?_eq_some_iff.1 hb).1
  have HPB := Lib.hid (show w.heap.size ≤ PB ∧ w.heap.size ≤ B ∧ PB ≠ B from ⟨by have := f1.out.size; omega, by omega, by omega⟩)
  have hb := (f2.out.block B hb1 id).trans hb
  have hlt : PB < W2.heap.size := (Array.getElem?_eq_some_iff.1 hx).1
  have hlb : B < W2.heap.size := (Array.getElem?_eq_some_iff.1 hb).1
  have F := Lib.hid (f1.out.trans f2.out)
  clear hb1
  have x0 := cells_in hx 0
  have x1 := cells_in hx 1
  have x2 := cells_in hx 2
  simp at x0 x1 x2
  have y0 := thaw_in hx 0
  have y1 := thaw_in hx 1
  have y2 := thaw_in hx 2
  have z0 := thaw_in hb 0
  have z1 := thaw_in hb 1
  have z2 := thaw_in hb 2
  have b0 := cells_in hb 0
  have b1 := cells_in hb 1
  have b2 := cells_in hb 2
  simp at b0 b1 b2
  have HX := Lib.hid hx
  have HBB := Lib.hid hb
  clear hx hb f1 f2
  go_enter Tryz.func30, Tryz.ntmps30
  go_wp2_with fail
  clear hW1 hB hW2 hPB
  by_cases hm0 : atP L m = none
  · have hE6 : getE L m = 6 := by unfold getE; rw [hm0]; rfl
    have hrE : renE L m s = 6 := by unfold renE; rw [hm0]
    refine (HG.out _ F.out).mono ?_
    rintro e w4 ⟨rfl, hf⟩
    have hf0 := hf
    have F0 := F
    obtain ⟨q, hq⟩ : ∃ q, getP L m = q := ⟨_, rfl⟩
    have Hq := Lib.hid hq
    rw [hq, show getE L m = 6 from hE6]
    obtain ⟨qa, qb, qc⟩ := q
    simp only [ptV]
    obtain ⟨W5, hW5⟩ : ∃ W, w4.alloc (.cells #[.int .i64 qa, .string (bs qb), .int .i64 qc] 68) = W := ⟨_, rfl⟩
    obtain ⟨RB, hRB⟩ : ∃ X, w4.heap.size = X := ⟨_, rfl⟩
    have hr : W5.heap[RB]? = some (.cells #[.int .i64 qa, .string (bs qb), .int .i64 qc] 68 (0, 0)) := by rw [← hW5, ← hRB]; exact World.alloc_heap_new w4 _
    have hf := hf.trans (show Fr0 none' w4 W5 by rw [← hW5]; exact (Fr0.refl _ _).alloc _)
    have hx := (hf.block PB hlt id).trans HX.out
    have hb := (hf.block B hlb id).trans HBB.out
    have hlt : PB < W5.heap.size := (Array.getElem?_eq_some_iff.1 hx).1
    have hlb : B < W5.heap.size := (Array.getElem?_eq_some_iff.1 hb).1
    have F := Lib.hid (F.out.trans hf)
    clear x0 x1 x2 y0 y1 y2 z0 z1 z2 b0 b1 b2
    have x0 := cells_in hx 0
    have x1 := cells_in hx 1
    have x2 := cells_in hx 2
    simp at x0 x1 x2
    have y0 := thaw_in hx 0
    have y1 := thaw_in hx 1
    have y2 := thaw_in hx 2
    have z0 := thaw_in hb 0
    have z1 := thaw_in hb 1
    have z2 := thaw_in hb 2
    have b0 := cells_in hb 0
    have b1 := cells_in hb 1
    have b2 := cells_in hb 2
    simp at b0 b1 b2
    have HX := Lib.hid hx
    have HBB := Lib.hid hb
    clear hx hb
    have r0 := cells_in hr 0
    have r1 := cells_in hr 1
    have r2 := cells_in hr 2
    simp at r0 r1 r2
    have HRR := Lib.hid hr
    have hlr : RB < W5.heap.size := (Array.getElem?_eq_some_iff.1 hr).1
    have HRB := Lib.hid (show RB ≠ B ∧ RB ≠ PB ∧ w.heap.size ≤ RB from by have := hf0.size; have h1 := F0.out.size; omega)
    clear hf hr hq hf0 F0
    go_wp2_with fail
    clear hW5 hRB
    refine bodyPost_ret (v := .tuple #[.agg #[.int .i64 lim, .int .i64 nx, .slice a n cap], .string ⟨#[]⟩, .int .i64 6]) (by simp [results, Tryz.results30, go_sem, x0, x1, x2, hlt]) rfl ?_
    have := HPB.out
    have F13 := Lib.hid ((((F.out).setCell (fun h => by omega) (b := PB) (o := 0) (.int .i64 lim)).setCell (fun h => by omega) (b := PB) (o := 1) (.int .i64 nx)).setCell (fun h => by omega) (b := PB) (o := 2) (.slice a n cap))
    rw [← HPOST.out, show renE L m s = 6 from hrE, show renT L m s = [] by unfold renT; rw [show renE L m s = 6 from hrE]; rfl, show renL L m s = L by unfold renL; rw [show renE L m s = 6 from hrE]; rfl]
    exact ⟨_, rfl, ⟨a, cap, by rw [Hn.out], Hc.out.later F13.out, by rw [Hn.out]; exact hcap, hcm, .inl rfl⟩, F13.out⟩
  · have hE0 : getE L m = 0 := by
      unfold getE; rw [if_pos]
      cases h : atP L m with
      | none => exact absurd h hm0
      | some _ => rfl
    have hmne : m ≠ 0 := fun e => hm0 (atP_none.2 (fun q hq => by have := (Hok.out.lo q hq).1; omega))
    refine (HG.out _ F.out).mono ?_
    rintro e w4 ⟨rfl, hf⟩
    have hf0 := hf
    have F0 := F
    obtain ⟨q, hq⟩ : ∃ q, getP L m = q := ⟨_, rfl⟩
    have Hq := Lib.hid hq
    rw [hq, show getE L m = 0 from hE0]
    obtain ⟨qa, qb, qc⟩ := q
    simp only [ptV]
    obtain ⟨W5, hW5⟩ : ∃ W, w4.alloc (.cells #[.int .i64 qa, .string (bs qb), .int .i64 qc] 68) = W := ⟨_, rfl⟩
    obtain ⟨RB, hRB⟩ : ∃ X, w4.heap.size = X := ⟨_, rfl⟩
    have hr : W5.heap[RB]? = some (.cells #[.int .i64 qa, .string (bs qb), .int .i64 qc] 68 (0, 0)) := by rw [← hW5, ← hRB]; exact World.alloc_heap_new w4 _
    have hf := hf.trans (show Fr0 none' w4 W5 by rw [← hW5]; exact (Fr0.refl _ _).alloc _)
    have hx := (hf.block PB hlt id).trans HX.out
    have hb := (hf.block B hlb id).trans HBB.out
    have hlt : PB < W5.heap.size := (Array.getElem?_eq_some_iff.1 hx).1
    have hlb : B < W5.heap.size := (Array.getElem?_eq_some_iff.1 hb).1
    have F := Lib.hid (F.out.trans hf)
    clear x0 x1 x2 y0 y1 y2 z0 z1 z2 b0 b1 b2
    have x0 := cells_in hx 0
    have x1 := cells_in hx 1
    have x2 := cells_in hx 2
    simp at x0 x1 x2
    have y0 := thaw_in hx 0
    have y1 := thaw_in hx 1
    have y2 := thaw_in hx 2
    have z0 := thaw_in hb 0
    have z1 := thaw_in hb 1
    have z2 := thaw_in hb 2
    have b0 := cells_in hb 0
    have b1 := cells_in hb 1
    have b2 := cells_in hb 2
    simp at b0 b1 b2
    have HX := Lib.hid hx
    have HBB := Lib.hid hb
    clear hx hb
    have r0 := cells_in hr 0
    have r1 := cells_in hr 1
    have r2 := cells_in hr 2
    simp at r0 r1 r2
    have HRR := Lib.hid hr
    have hlr : RB < W5.heap.size := (Array.getElem?_eq_some_iff.1 hr).1
    have HRB := Lib.hid (show RB ≠ B ∧ RB ≠ PB ∧ w.heap.size ≤ RB from by have := hf0.size; have h1 := F0.out.size; omega)
    clear hf hr hq hf0 F0
    go_wp2_with fail
    clear hW5 hRB
    refine (HR.out _).mono ?_
    rintro e w6 ⟨rfl, hbe⟩
    have hf := below_to0 hbe
    clear hbe
    have hx := (hf.block PB hlt id).trans HX.out
    have hb := (hf.block B hlb id).trans HBB.out
    have hlt : PB < w6.heap.size := (Array.getElem?_eq_some_iff.1 hx).1
    have hlb : B < w6.heap.size := (Array.getElem?_eq_some_iff.1 hb).1
    have F := Lib.hid (F.out.trans hf)
    clear x0 x1 x2 y0 y1 y2 z0 z1 z2 b0 b1 b2
    have x0 := cells_in hx 0
    have x1 := cells_in hx 1
    have x2 := cells_in hx 2
    simp at x0 x1 x2
    have y0 := thaw_in hx 0
    have y1 := thaw_in hx 1
    have y2 := thaw_in hx 2
    have z0 := thaw_in hb 0
    have z1 := thaw_in hb 1
    have z2 := thaw_in hb 2
    have b0 := cells_in hb 0
    have b1 := cells_in hb 1
    have b2 := cells_in hb 2
    simp at b0 b1 b2
    have HX := Lib.hid hx
    have HBB := Lib.hid hb
    clear hx hb
    have hr := (hf.block RB hlr id).trans HRR.out
    have hlr : RB < w6.heap.size := (Array.getElem?_eq_some_iff.1 hr).1
    have HRR := Lib.hid hr
    clear r0 r1 r2
    have r0 := cells_in hr 0
    have r1 := cells_in hr 1
    have r2 := cells_in hr 2
    simp at r0 r1 r2
    clear hr
    clear hf
    cases r
    · obtain ⟨q, hq⟩ := Option.ne_none_iff_exists'.1 hm0
      have hrE : renE L m s = 40 := by unfold renE; rw [hq]; simp only; rw [if_pos Hr.out]
      clear hq
      go_wp2_with fail
      refine bodyPost_ret (v := .tuple #[.agg #[.int .i64 lim, .int .i64 nx, .slice a n cap], .string ⟨#[]⟩, .int .i64 40]) (by simp [results, Tryz.results30, go_sem, x0, x1, x2, hlt]) rfl ?_
      have := HPB.out
      have F13 := Lib.hid ((((F.out).setCell (fun h => by omega) (b := PB) (o := 0) (.int .i64 lim)).setCell (fun h => by omega) (b := PB) (o := 1) (.int .i64 nx)).setCell (fun h => by omega) (b := PB) (o := 2) (.slice a n cap))
      rw [← HPOST.out, show renE L m s = 40 from hrE, show renT L m s = [] by unfold renT; rw [show renE L m s = 40 from hrE]; rfl, show renL L m s = L by unfold renL; rw [show renE L m s = 40 from hrE]; rfl]
      exact ⟨_, rfl, ⟨a, cap, by rw [Hn.out], Hc.out.later F13.out, by rw [Hn.out]; exact hcap, hcm, .inl rfl⟩, F13.out⟩
    · go_wp2_with fail
      have Skey := Lib.hid (show ∀ W', Fr0 none' w6 W' → W'.cell? ⟨B, 0, none⟩ = some (.int .i64 lim) ∧ W'.cell? ⟨B, 1, none⟩ = some (.int .i64 nx) ∧ W'.cell? ⟨B, 2, none⟩ = some (.slice a n cap) from fun W' hf => ⟨hf.later b0, hf.later b1, hf.later b2⟩)
      refine wp_region_held_drew (S := fun W' => W'.cell? ⟨B, 0, none⟩ = some (.int .i64 lim) ∧ W'.cell? ⟨B, 1, none⟩ = some (.int .i64 nx) ∧ W'.cell? ⟨B, 2, none⟩ = some (.slice a n cap)) (by kernel_rfl) (Skey.out _ (Fr0.refl none' w6).drew) (fun hHeld => ?_)
      refine take_on (i := 0) (v := .agg #[.int .i64 lim, .int .i64 nx, .slice a n cap]) rfl (by kernel_rfl) (by kernel_rfl) (by kernel_rfl) (fun _ _ _ h => h) (by kernel_rfl) (fun W' hSW => ?_) (by assumption) ?_
      · (try dsimp only at hSW)
        first | (go_simp; done) | exact rfl | (go_simp; rfl) | (go_simp; omega)
      try simp only [Act.put, List.setIfInBounds_toArray, List.set_cons_zero, List.set_cons_succ]
      refine take_on (i := 1) (v := .int .i64 m) rfl (by kernel_rfl) (by kernel_rfl) (by kernel_rfl) (fun _ _ _ h => h) (by kernel_rfl) (fun W' hSW => ?_) (by assumption) ?_
      · (try dsimp only at hSW)
        first | (go_simp; done) | exact rfl | (go_simp; rfl) | (go_simp; omega)
      try simp only [Act.put, List.setIfInBounds_toArray, List.set_cons_zero, List.set_cons_succ]
      refine take_on (i := 3) (v := .agg #[.int .i64 lim, .int .i64 nx, .slice a n cap]) rfl (by kernel_rfl) (by kernel_rfl) (by kernel_rfl) (fun _ _ _ h => h) (by kernel_rfl) (fun W' hSW => ?_) (by assumption) ?_
      · (try dsimp only at hSW)
        first | (go_simp; done) | exact rfl | (go_simp; rfl) | (go_simp; omega)
      try simp only [Act.put, List.setIfInBounds_toArray, List.set_cons_zero, List.set_cons_succ]
      refine take_on (i := 4) (v := .string (bs s)) rfl (by kernel_rfl) (by kernel_rfl) (by kernel_rfl) (fun _ _ _ h => h) (by kernel_rfl) (fun W' hSW => ?_) (by assumption) ?_
      · (try dsimp only at hSW)
        first | (go_simp; done) | exact rfl | (go_simp; rfl) | (go_simp; omega)
      try simp only [Act.put, List.setIfInBounds_toArray, List.set_cons_zero, List.set_cons_succ]
      refine take_call (i := 2) rfl (by kernel_rfl) (by kernel_rfl) (fun K hK => ?_)
      go_simp
      refine (HC.out _ (F.out.trans (Fr0.refl none' w6).drew)).mono ?_
      rintro e w7 ⟨rfl, hf⟩
      have hf := (Fr0.refl none' w6).drew.trans hf
      obtain ⟨I, hI⟩ : ∃ I, idxF (isP m []) L = I := ⟨_, rfl⟩
      rw [hI]
      have HI := Lib.hid hI
      clear hI
      go_wp2_with fail
      refine hK.out _ _ (Skey.out _ hf) (fun _ => ?_)
      clear hK K
      try simp only [Act.put, List.setIfInBounds_toArray, List.set_cons_zero, List.set_cons_succ]
      refine take_call (i := 5) rfl (by kernel_rfl) (by kernel_rfl) (fun K hK => ?_)
      go_simp
      refine (HD.out _ (F.out.trans hf)).mono ?_
      rintro e w8 ⟨rfl, hf8⟩
      have hf := hf.trans hf8
      obtain ⟨J, hJ⟩ : ∃ I, idxF (isP 0 s) L = I := ⟨_, rfl⟩
      rw [hJ]
      have HJ := Lib.hid hJ
      clear hJ hf8
      go_wp2_with fail
      refine hK.out _ _ (Skey.out _ hf) (fun _ => ?_)
      clear hK K
      try simp only [Act.put, List.setIfInBounds_toArray, List.set_cons_zero, List.set_cons_succ]
      refine take_call (i := 6) rfl (by kernel_rfl) (by kernel_rfl) (fun K hK => ?_)
      go_simp
      refine hK.out _ _ (Skey.out _ hf) (fun _ => ?_)
      clear hK K
      try simp only [Act.put, List.setIfInBounds_toArray, List.set_cons_zero, List.set_cons_succ]
      refine take_call (i := 7) rfl (by kernel_rfl) (by kernel_rfl) (fun K hK => ?_)
      go_simp
      refine hK.out _ _ (Skey.out _ hf) (fun _ => ?_)
      clear hK K
      try simp only [Act.put, List.setIfInBounds_toArray, List.set_cons_zero, List.set_cons_succ]
      refine wpAnyH_done (by kernel_rfl) ?_ _
      clear hHeld
      have hx := (hf.block PB hlt id).trans HX.out
      have hb := (hf.block B hlb id).trans HBB.out
      have hlt : PB < w8.heap.size := (Array.getElem?_eq_some_iff.1 hx).1
      have hlb : B < w8.heap.size := (Array.getElem?_eq_some_iff.1 hb).1
      have F := Lib.hid (F.out.trans hf)
      clear x0 x1 x2 y0 y1 y2 z0 z1 z2 b0 b1 b2
      have x0 := cells_in hx 0
      have x1 := cells_in hx 1
      have x2 := cells_in hx 2
      simp at x0 x1 x2
      have y0 := thaw_in hx 0
      have y1 := thaw_in hx 1
      have y2 := thaw_in hx 2
      have z0 := thaw_in hb 0
      have z1 := thaw_in hb 1
      have z2 := thaw_in hb 2
      have b0 := cells_in hb 0
      have b1 := cells_in hb 1
      have b2 := cells_in hb 2
      simp at b0 b1 b2
      have HX := Lib.hid hx
      have HBB := Lib.hid hb
      clear hx hb
      have hr := (hf.block RB hlr id).trans HRR.out
      have hlr : RB < w8.heap.size := (Array.getElem?_eq_some_iff.1 hr).1
      have HRR := Lib.hid hr
      clear r0 r1 r2
      have r0 := cells_in hr 0
      have r1 := cells_in hr 1
      have r2 := cells_in hr 2
      simp at r0 r1 r2
      clear hr
      clear hf
      rcases idx_num L hmne [] with ⟨_, hat⟩ | ⟨k, pp, hR, hp, hat, hbefore⟩
      · exact absurd hat hm0
      obtain rfl : I = k := HI.out.symm.trans hR
      have hpm : pp.number = m := (atP_mem hat).2
      have hpq : pp = ⟨qa, qb, qc⟩ := by rw [← Hq.out]; unfold getP; rw [hat]; rfl
      subst hpq
      by_cases htaken : (nameP L s).isSome = true ∧ ¬ qb = s
      · have hrE : renE L m s = 240 := by
          unfold renE; rw [hat]; simp only; rw [if_neg (by rw [Hr.out]; simp), if_pos htaken]
        obtain ⟨t, ht0, htk⟩ : ∃ t : Int, 0 ≤ t ∧ J = t ∧ t ≠ k := by
          rcases idx_name Hok.out s with ⟨hJ, hn0⟩ | ⟨t, q2, hJ, hq2, hn2⟩
          · rw [hn0] at htaken; cases htaken.1
          · refine ⟨t, by omega, HJ.out.symm.trans hJ, fun e => htaken.2 ?_⟩
            have e : t = k := by omega
            subst e
            rw [hp] at hq2
            injection hq2 with hq2
            have := (nameP_some Hok.out.names).1 hn2
            rw [← hq2] at this
            exact this.2
        obtain ⟨rfl, hne⟩ := htk
        have d1 : decide (0 ≤ J) = true := decide_eq_true ht0
        have d2 : (J != (k : Int)) = true := by simpa using hne
        clear hp hat hbefore hR htaken hm0 hE0
        go_wp2_with fail
        refine bodyPost_ret (v := .tuple #[.agg #[.int .i64 lim, .int .i64 nx, .slice a n cap], .string ⟨#[]⟩, .int .i64 240]) (by simp [results, Tryz.results30, go_sem, x0, x1, x2, hlt]) rfl ?_
        have := HPB.out
        have F13 := Lib.hid ((((F.out).setCell (fun h => by omega) (b := PB) (o := 0) (.int .i64 lim)).setCell (fun h => by omega) (b := PB) (o := 1) (.int .i64 nx)).setCell (fun h => by omega) (b := PB) (o := 2) (.slice a n cap))
        rw [← HPOST.out, show renE L m s = 240 from hrE, show renT L m s = [] by unfold renT; rw [show renE L m s = 240 from hrE]; rfl, show renL L m s = L by unfold renL; rw [show renE L m s = 240 from hrE]; rfl]
        exact ⟨_, rfl, ⟨a, cap, by rw [Hn.out], Hc.out.later F13.out, by rw [Hn.out]; exact hcap, hcm, .inl rfl⟩, F13.out⟩
      · have hJk : J = -1 ∨ J = k := by
          rcases idx_name Hok.out s with ⟨hJ, hn0⟩ | ⟨t, q2, hJ, hq2, hn2⟩
          · exact .inl (HJ.out.symm.trans hJ)
          · right
            have h1 := (nameP_some Hok.out.names).1 hn2
            have hqs : qb = s := Classical.byContradiction (fun h => htaken ⟨by rw [hn2]; rfl, h⟩)
            have h2 := Hok.out.name_inj h1.1 (List.mem_of_getElem? hp) (h1.2.trans hqs.symm)
            subst h2
            rw [HJ.out.symm, hJ]
            have h3 := (List.getElem?_eq_some_iff.1 hq2)
            have h4 := (List.getElem?_eq_some_iff.1 hp)
            rcases Nat.lt_trichotomy t k with h5 | h5 | h5
            · have := List.pairwise_iff_getElem.1 Hok.out.ord t k h3.1 h4.1 h5
              rw [h3.2, h4.2] at this; omega
            · rw [h5]
            · have := List.pairwise_iff_getElem.1 Hok.out.ord k t h4.1 h3.1 h5
              rw [h3.2, h4.2] at this; omega
        have hrE : renE L m s = 0 := by
          unfold renE; rw [hat]; simp only; rw [if_neg (by rw [Hr.out]; simp), if_neg htaken]
        have hk := (List.getElem?_eq_some_iff.1 hp).1
        rw [Hn.out] at hk
        obtain ⟨g, o, rfl, -⟩ := Hc.out k _ hp
        have k1 : (0 : Int) ≤ (k : Int) := by omega
        have k2 : (k : Int) < (n : Int) := by omega
        have hP := Lib.hid hp
        have HrE := Lib.hid hrE
        have HPM := Lib.hid (show qa = m from hpm)
        have HAT := Lib.hid hat
        clear hp hat hbefore hR htaken hm0 hE0 hrE
        rcases hJk with rfl | rfl
        · skip
          have fV := Lib.hid (show Fr0 none' w8 (w8.alloc (.cells #[] 68)) from (Fr0.refl none' w8).alloc _)
          have hrow0 := World.ownsRow_lit (base := w8.heap.size) (e := 68) (size := 3) w8 #[] 0 (Nat.le_refl _) (by unfold maxLen; omega) rfl
          have hsrc := (Hc.out.later (F.out.trans fV.out)).src Hn.out cap Tryz.underlying63
          have hzl : w8.heap.size ≤ (w8.alloc (.cells #[] 68)).heap.size := fV.out.size
          have h63 : 0 + n ≤ maxLen := by unfold maxLen; omega
          have hby' : (0 + n) * 32 ≤ 140737488355328 := by omega
          go_wp2_with (at_builtin; refine wpList_append_k rfl _ _ 63 63 rfl w8.heap.size 68 i0 (.agg #[.int .i64 0, .string ⟨#[]⟩, .int .i64 0]) 3 32 Tryz.underlying63 hi hz0 hz1 hz2 rfl (by decide) _ 0 _ rfl hrow0 (.slice (some ⟨g, o, none⟩) n cap) n _ rfl hsrc h63 hby' hzl ?_; intro v' w14 hown' hgrow hdr hob; have f14 := Lib.hid ((Fr0.refl none' w8).alloc (.cells #[] 68) |>.grown hgrow (fun k hk hkl => by have := (hrow0.lt k hk).1; omega)); rw [Nat.zero_add, List.nil_append] at hown'; obtain ⟨G2, vc, cur, rfl, hG2, hg2, hvc, hvm, hcs, hva⟩ := own_shape hown' Hn.out (by omega); have hb := (f14.out.block B hlb id).trans HBB.out; clear z0 z1 z2 b0 b1 b2; have z2 := thaw_in hb 2; have b0 := cells_in hb 0; have b1 := cells_in hb 1; have b2 := cells_in hb 2; simp at b0 b1 b2; have HW := Lib.hid (show G2 ≠ B from fun e => by omega); have Hg2 := Lib.hid hg2; have Hva := Lib.hid hva; have hc1 := hva.mid hP.out; have y5 := thaw_in hg2 (k * 3 + 1))
          obtain ⟨V10, hV10⟩ : ∃ W, (w14.setCell ⟨B, 2, none⟩ (.slice (some ⟨G2, 0, none⟩) n vc)).setCell ⟨G2, k * 3 + 1, none⟩ (.string (bs s)) = W := ⟨_, rfl⟩
          rw [hV10]
          have hb10 : V10.heap[B]? = some (.cells #[.int .i64 lim, .int .i64 nx, .slice (some ⟨G2, 0, none⟩) n vc] 65 (0, 0)) := by
            have hne := HW.out
            rw [← hV10]; simp [World.setCell, Array.getElem?_modify, hb, hne]
          have f10 := Lib.hid (show Fr0 (fun k => k = B ∨ k = G2) w14 V10 by rw [← hV10]; exact ((Fr0.refl (fun k => k = B ∨ k = G2) w14).setCell (fun _ => .inl rfl) _).setCell (fun _ => .inr rfl) _)
          have hx14 := (f14.out.block PB hlt id).trans HX.out
          have hr14 := (f14.out.block RB hlr id).trans HRR.out
          have hx10 := (f10.out.block PB (Array.getElem?_eq_some_iff.1 hx14).1 (fun e => by have := HPB.out; rcases e with e | e <;> omega)).trans hx14
          have hr10 := (f10.out.block RB (Array.getElem?_eq_some_iff.1 hr14).1 (fun e => by have := HRB.out; rcases e with e | e <;> omega)).trans hr14
          have F10 := Lib.hid ((F.out.trans f14.out).trans' f10.out (fun k hk e => by have := HPB.out; have := F.out.size; rcases e with e | e <;> omega))
          have HPT := Lib.hid (show PtsIn V10 (some ⟨G2, 0, none⟩) (renP L m s) from by
            rw [← hV10, ← HPM.out]
            exact PtsIn.ren (Hva.out.fr0 ((Fr0.refl (fun k => k = B) w14).setCell (fun _ => rfl) _) (fun g o s e h => by injection e with e; injection e with e1; subst e1; exact HW.out h)) Hok.out.ord hP.out)
          have HG2 := Lib.hid (show G2 ≠ PB from by omega)
          have HGW := Lib.hid (show w.heap.size ≤ G2 from by have := F.out.size; omega)
          clear hV10 hb hx14 hr14 b0 b1 b2 z2 r0 r1 r2 hc1 y5
          have F := F10
          have hlt := (Array.getElem?_eq_some_iff.1 hx10).1
          have hlb := (Array.getElem?_eq_some_iff.1 hb10).1
          have hlr := (Array.getElem?_eq_some_iff.1 hr10).1
          have HX := Lib.hid hx10
          have hb := hb10
          have hx := hx10
          have hr := hr10
          clear x0 x1 x2 y0 y1 y2
          have x0 := cells_in hx 0
          have x1 := cells_in hx 1
          have x2 := cells_in hx 2
          simp at x0 x1 x2
          have y0 := thaw_in hx 0
          have y1 := thaw_in hx 1
          have y2 := thaw_in hx 2
          have z0 := thaw_in hb 0
          have z1 := thaw_in hb 1
          have z2 := thaw_in hb 2
          have b0 := cells_in hb 0
          have b1 := cells_in hb 1
          have b2 := cells_in hb 2
          simp at b0 b1 b2
          have r1 := cells_in hr 1
          simp at r1
          clear hb hx hr hb10 hx10 hr10
          have Skey2 := Lib.hid (show ∀ W', Fr0 (fun k => k = PB) V10 W' → W'.cell? ⟨B, 0, none⟩ = some (.int .i64 lim) ∧ W'.cell? ⟨B, 1, none⟩ = some (.int .i64 nx) ∧ W'.cell? ⟨B, 2, none⟩ = some (.slice (some ⟨G2, 0, none⟩) n vc) ∧ W'.cell? ⟨RB, 1, none⟩ = some (.string (bs qb)) from fun W' hf => by
            have hk : ∀ o, W'.cell? ⟨B, o, none⟩ = V10.cell? ⟨B, o, none⟩ := fun o => hf.cell (p := ⟨B, o, none⟩) hlb (fun (e : B = PB) => by have := HPB.out; omega)
            have hk' : ∀ o, W'.cell? ⟨RB, o, none⟩ = V10.cell? ⟨RB, o, none⟩ := fun o => hf.cell (p := ⟨RB, o, none⟩) hlr (fun (e : RB = PB) => by have := HRB.out; omega)
            exact ⟨(hk 0).trans b0, (hk 1).trans b1, (hk 2).trans b2, (hk' 1).trans r1⟩)
          refine wp_region_held_drew (S := fun W' => W'.cell? ⟨B, 0, none⟩ = some (.int .i64 lim) ∧ W'.cell? ⟨B, 1, none⟩ = some (.int .i64 nx) ∧ W'.cell? ⟨B, 2, none⟩ = some (.slice (some ⟨G2, 0, none⟩) n vc) ∧ W'.cell? ⟨RB, 1, none⟩ = some (.string (bs qb))) (by kernel_rfl) (Skey2.out _ (Fr0.refl _ V10).drew) (fun hHeld => ?_)
          refine take_on (i := 0) (v := .agg #[.int .i64 lim, .int .i64 nx, .slice (some ⟨G2, 0, none⟩) n vc]) rfl (by kernel_rfl) (by kernel_rfl) (by kernel_rfl) (fun _ _ _ h => h) (by kernel_rfl) (fun W' hSW => ?_) (by assumption) ?_
          · (try dsimp only at hSW)
            first | (go_simp; done) | exact rfl | (go_simp; rfl) | (go_simp; omega)
          try simp only [Act.put, List.setIfInBounds_toArray, List.set_cons_zero, List.set_cons_succ]
          refine take_on (i := 1) (v := .pointer (some ⟨RB, 1, none⟩)) rfl (by kernel_rfl) (by kernel_rfl) (by kernel_rfl) (fun _ _ _ h => h) (by kernel_rfl) (fun W' hSW => ?_) (by assumption) ?_
          · (try dsimp only at hSW)
            first | (go_simp; done) | exact rfl | (go_simp; rfl) | (go_simp; omega)
          try simp only [Act.put, List.setIfInBounds_toArray, List.set_cons_zero, List.set_cons_succ]
          refine take_on (i := 2) (v := .string (bs qb)) rfl (by kernel_rfl) (by kernel_rfl) (by kernel_rfl) (fun _ _ _ h => h) (by kernel_rfl) (fun W' hSW => ?_) (by assumption) ?_
          · (try dsimp only at hSW)
            first | (go_simp; done) | exact rfl | (go_simp; rfl) | (go_simp; omega)
          try simp only [Act.put, List.setIfInBounds_toArray, List.set_cons_zero, List.set_cons_succ]
          refine take_call (i := 3) rfl (by kernel_rfl) (by kernel_rfl) (fun K hK => ?_)
          go_simp
          obtain ⟨V12, hV12⟩ : ∃ W, (((V10.setCell ⟨PB, 0, none⟩ (.int .i64 lim)).setCell ⟨PB, 1, none⟩ (.int .i64 nx)).setCell ⟨PB, 2, none⟩ (.slice (some ⟨G2, 0, none⟩) n vc)).drew = W := ⟨_, rfl⟩
          rw [hV12]
          have f12 := Lib.hid (show Fr0 (fun k => k = PB) V10 V12 by rw [← hV12]; exact ((((Fr0.refl (fun k => k = PB) V10).setCell (fun _ => rfl) _).setCell (fun _ => rfl) _).setCell (fun _ => rfl) _).drew)
          have hx12 : V12.heap[PB]? = some (.cells #[.int .i64 lim, .int .i64 nx, .slice (some ⟨G2, 0, none⟩) n vc] 65 (0, 0)) := by
            rw [← hV12]; simp [World.setCell, World.drew, Array.getElem?_modify, HX.out]
          clear hV12
          refine hK.out _ _ (Skey2.out _ f12.out) (fun _ => ?_)
          clear hK K
          try simp only [Act.put, List.setIfInBounds_toArray, List.set_cons_zero, List.set_cons_succ]
          refine take_call (i := 4) rfl (by kernel_rfl) (by kernel_rfl) (fun K hK => ?_)
          go_simp
          refine hK.out _ _ (Skey2.out _ f12.out) (fun _ => ?_)
          clear hK K
          try simp only [Act.put, List.setIfInBounds_toArray, List.set_cons_zero, List.set_cons_succ]
          refine take_call (i := 5) rfl (by kernel_rfl) (by kernel_rfl) (fun K hK => ?_)
          go_simp
          refine hK.out _ _ (Skey2.out _ f12.out) (fun _ => ?_)
          clear hK K
          try simp only [Act.put, List.setIfInBounds_toArray, List.set_cons_zero, List.set_cons_succ]
          refine wpAnyH_done (by kernel_rfl) ?_ _
          have F13 := Lib.hid (F.out.trans' f12.out (fun k hk (e : k = PB) => by have := HPB.out; omega))
          have hlt := (Array.getElem?_eq_some_iff.1 hx12).1
          clear x0 x1 x2 y0 y1 y2 z0 z1 z2 b0 b1 b2 hHeld
          have hx := hx12
          have x0 := cells_in hx 0
          have x1 := cells_in hx 1
          have x2 := cells_in hx 2
          simp at x0 x1 x2
          have y0 := thaw_in hx 0
          have y1 := thaw_in hx 1
          have y2 := thaw_in hx 2
          clear hx
          go_wp2
          refine bodyPost_ret (v := .tuple #[.agg #[.int .i64 lim, .int .i64 nx, .slice (some ⟨G2, 0, none⟩) n vc], .string (bs qb), .int .i64 0]) (by simp [results, Tryz.results30, go_sem, x0, x1, x2, hlt]) rfl ?_
          have hren := renP_length L m s
          have hgetT : renT L m s = qb := by unfold renT getP; rw [HrE.out, HAT.out]; rfl
          have hgetL : renL L m s = renP L m s := by unfold renL; rw [HrE.out]; rfl
          rw [← HPOST.out, HrE.out, hgetT, hgetL]
          refine ⟨_, rfl, ⟨_, vc, ?_, HPT.out.fr0 f12.out (fun g o s e h => by injection e with e; injection e with e1; subst e1; exact HG2.out h), ?_, hvm, .inr (fun g o s e => by injection e with e; injection e with e1; subst e1; exact HGW.out)⟩, F13.out⟩
          · rw [hren, Hn.out]
          · rw [hren, Hn.out]; exact hvc
        · have d2 : ((k : Int) != (k : Int)) = false := by simp
          have fV := Lib.hid (show Fr0 none' w8 (w8.alloc (.cells #[] 68)) from (Fr0.refl none' w8).alloc _)
          have hrow0 := World.ownsRow_lit (base := w8.heap.size) (e := 68) (size := 3) w8 #[] 0 (Nat.le_refl _) (by unfold maxLen; omega) rfl
          have hsrc := (Hc.out.later (F.out.trans fV.out)).src Hn.out cap Tryz.underlying63
          have hzl : w8.heap.size ≤ (w8.alloc (.cells #[] 68)).heap.size := fV.out.size
          have h63 : 0 + n ≤ maxLen := by unfold maxLen; omega
          have hby' : (0 + n) * 32 ≤ 140737488355328 := by omega
          go_wp2_with (at_builtin; refine wpList_append_k rfl _ _ 63 63 rfl w8.heap.size 68 i0 (.agg #[.int .i64 0, .string ⟨#[]⟩, .int .i64 0]) 3 32 Tryz.underlying63 hi hz0 hz1 hz2 rfl (by decide) _ 0 _ rfl hrow0 (.slice (some ⟨g, o, none⟩) n cap) n _ rfl hsrc h63 hby' hzl ?_; intro v' w14 hown' hgrow hdr hob; have f14 := Lib.hid ((Fr0.refl none' w8).alloc (.cells #[] 68) |>.grown hgrow (fun k hk hkl => by have := (hrow0.lt k hk).1; omega)); rw [Nat.zero_add, List.nil_append] at hown'; obtain ⟨G2, vc, cur, rfl, hG2, hg2, hvc, hvm, hcs, hva⟩ := own_shape hown' Hn.out (by omega); have hb := (f14.out.block B hlb id).trans HBB.out; clear z0 z1 z2 b0 b1 b2; have z2 := thaw_in hb 2; have b0 := cells_in hb 0; have b1 := cells_in hb 1; have b2 := cells_in hb 2; simp at b0 b1 b2; have HW := Lib.hid (show G2 ≠ B from fun e => by omega); have Hg2 := Lib.hid hg2; have Hva := Lib.hid hva; have hc1 := hva.mid hP.out; have y5 := thaw_in hg2 (k * 3 + 1))
          obtain ⟨V10, hV10⟩ : ∃ W, (w14.setCell ⟨B, 2, none⟩ (.slice (some ⟨G2, 0, none⟩) n vc)).setCell ⟨G2, k * 3 + 1, none⟩ (.string (bs s)) = W := ⟨_, rfl⟩
          rw [hV10]
          have hb10 : V10.heap[B]? = some (.cells #[.int .i64 lim, .int .i64 nx, .slice (some ⟨G2, 0, none⟩) n vc] 65 (0, 0)) := by
            have hne := HW.out
            rw [← hV10]; simp [World.setCell, Array.getElem?_modify, hb, hne]
          have f10 := Lib.hid (show Fr0 (fun k => k = B ∨ k = G2) w14 V10 by rw [← hV10]; exact ((Fr0.refl (fun k => k = B ∨ k = G2) w14).setCell (fun _ => .inl rfl) _).setCell (fun _ => .inr rfl) _)
          have hx14 := (f14.out.block PB hlt id).trans HX.out
          have hr14 := (f14.out.block RB hlr id).trans HRR.out
          have hx10 := (f10.out.block PB (Array.getElem?_eq_some_iff.1 hx14).1 (fun e => by have := HPB.out; rcases e with e | e <;> omega)).trans hx14
          have hr10 := (f10.out.block RB (Array.getElem?_eq_some_iff.1 hr14).1 (fun e => by have := HRB.out; rcases e with e | e <;> omega)).trans hr14
          have F10 := Lib.hid ((F.out.trans f14.out).trans' f10.out (fun k hk e => by have := HPB.out; have := F.out.size; rcases e with e | e <;> omega))
          have HPT := Lib.hid (show PtsIn V10 (some ⟨G2, 0, none⟩) (renP L m s) from by
            rw [← hV10, ← HPM.out]
            exact PtsIn.ren (Hva.out.fr0 ((Fr0.refl (fun k => k = B) w14).setCell (fun _ => rfl) _) (fun g o s e h => by injection e with e; injection e with e1; subst e1; exact HW.out h)) Hok.out.ord hP.out)
          have HG2 := Lib.hid (show G2 ≠ PB from by omega)
          have HGW := Lib.hid (show w.heap.size ≤ G2 from by have := F.out.size; omega)
          clear hV10 hb hx14 hr14 b0 b1 b2 z2 r0 r1 r2 hc1 y5
          have F := F10
          have hlt := (Array.getElem?_eq_some_iff.1 hx10).1
          have hlb := (Array.getElem?_eq_some_iff.1 hb10).1
          have hlr := (Array.getElem?_eq_some_iff.1 hr10).1
          have HX := Lib.hid hx10
          have hb := hb10
          have hx := hx10
          have hr := hr10
          clear x0 x1 x2 y0 y1 y2
          have x0 := cells_in hx 0
          have x1 := cells_in hx 1
          have x2 := cells_in hx 2
          simp at x0 x1 x2
          have y0 := thaw_in hx 0
          have y1 := thaw_in hx 1
          have y2 := thaw_in hx 2
          have z0 := thaw_in hb 0
          have z1 := thaw_in hb 1
          have z2 := thaw_in hb 2
          have b0 := cells_in hb 0
          have b1 := cells_in hb 1
          have b2 := cells_in hb 2
          simp at b0 b1 b2
          have r1 := cells_in hr 1
          simp at r1
          clear hb hx hr hb10 hx10 hr10
          have Skey2 := Lib.hid (show ∀ W', Fr0 (fun k => k = PB) V10 W' → W'.cell? ⟨B, 0, none⟩ = some (.int .i64 lim) ∧ W'.cell? ⟨B, 1, none⟩ = some (.int .i64 nx) ∧ W'.cell? ⟨B, 2, none⟩ = some (.slice (some ⟨G2, 0, none⟩) n vc) ∧ W'.cell? ⟨RB, 1, none⟩ = some (.string (bs qb)) from fun W' hf => by
            have hk : ∀ o, W'.cell? ⟨B, o, none⟩ = V10.cell? ⟨B, o, none⟩ := fun o => hf.cell (p := ⟨B, o, none⟩) hlb (fun (e : B = PB) => by have := HPB.out; omega)
            have hk' : ∀ o, W'.cell? ⟨RB, o, none⟩ = V10.cell? ⟨RB, o, none⟩ := fun o => hf.cell (p := ⟨RB, o, none⟩) hlr (fun (e : RB = PB) => by have := HRB.out; omega)
            exact ⟨(hk 0).trans b0, (hk 1).trans b1, (hk 2).trans b2, (hk' 1).trans r1⟩)
          refine wp_region_held_drew (S := fun W' => W'.cell? ⟨B, 0, none⟩ = some (.int .i64 lim) ∧ W'.cell? ⟨B, 1, none⟩ = some (.int .i64 nx) ∧ W'.cell? ⟨B, 2, none⟩ = some (.slice (some ⟨G2, 0, none⟩) n vc) ∧ W'.cell? ⟨RB, 1, none⟩ = some (.string (bs qb))) (by kernel_rfl) (Skey2.out _ (Fr0.refl _ V10).drew) (fun hHeld => ?_)
          refine take_on (i := 0) (v := .agg #[.int .i64 lim, .int .i64 nx, .slice (some ⟨G2, 0, none⟩) n vc]) rfl (by kernel_rfl) (by kernel_rfl) (by kernel_rfl) (fun _ _ _ h => h) (by kernel_rfl) (fun W' hSW => ?_) (by assumption) ?_
          · (try dsimp only at hSW)
            first | (go_simp; done) | exact rfl | (go_simp; rfl) | (go_simp; omega)
          try simp only [Act.put, List.setIfInBounds_toArray, List.set_cons_zero, List.set_cons_succ]
          refine take_on (i := 1) (v := .pointer (some ⟨RB, 1, none⟩)) rfl (by kernel_rfl) (by kernel_rfl) (by kernel_rfl) (fun _ _ _ h => h) (by kernel_rfl) (fun W' hSW => ?_) (by assumption) ?_
          · (try dsimp only at hSW)
            first | (go_simp; done) | exact rfl | (go_simp; rfl) | (go_simp; omega)
          try simp only [Act.put, List.setIfInBounds_toArray, List.set_cons_zero, List.set_cons_succ]
          refine take_on (i := 2) (v := .string (bs qb)) rfl (by kernel_rfl) (by kernel_rfl) (by kernel_rfl) (fun _ _ _ h => h) (by kernel_rfl) (fun W' hSW => ?_) (by assumption) ?_
          · (try dsimp only at hSW)
            first | (go_simp; done) | exact rfl | (go_simp; rfl) | (go_simp; omega)
          try simp only [Act.put, List.setIfInBounds_toArray, List.set_cons_zero, List.set_cons_succ]
          refine take_call (i := 3) rfl (by kernel_rfl) (by kernel_rfl) (fun K hK => ?_)
          go_simp
          obtain ⟨V12, hV12⟩ : ∃ W, (((V10.setCell ⟨PB, 0, none⟩ (.int .i64 lim)).setCell ⟨PB, 1, none⟩ (.int .i64 nx)).setCell ⟨PB, 2, none⟩ (.slice (some ⟨G2, 0, none⟩) n vc)).drew = W := ⟨_, rfl⟩
          rw [hV12]
          have f12 := Lib.hid (show Fr0 (fun k => k = PB) V10 V12 by rw [← hV12]; exact ((((Fr0.refl (fun k => k = PB) V10).setCell (fun _ => rfl) _).setCell (fun _ => rfl) _).setCell (fun _ => rfl) _).drew)
          have hx12 : V12.heap[PB]? = some (.cells #[.int .i64 lim, .int .i64 nx, .slice (some ⟨G2, 0, none⟩) n vc] 65 (0, 0)) := by
            rw [← hV12]; simp [World.setCell, World.drew, Array.getElem?_modify, HX.out]
          clear hV12
          refine hK.out _ _ (Skey2.out _ f12.out) (fun _ => ?_)
          clear hK K
          try simp only [Act.put, List.setIfInBounds_toArray, List.set_cons_zero, List.set_cons_succ]
          refine take_call (i := 4) rfl (by kernel_rfl) (by kernel_rfl) (fun K hK => ?_)
          go_simp
          refine hK.out _ _ (Skey2.out _ f12.out) (fun _ => ?_)
          clear hK K
          try simp only [Act.put, List.setIfInBounds_toArray, List.set_cons_zero, List.set_cons_succ]
          refine take_call (i := 5) rfl (by kernel_rfl) (by kernel_rfl) (fun K hK => ?_)
          go_simp
          refine hK.out _ _ (Skey2.out _ f12.out) (fun _ => ?_)
          clear hK K
          try simp only [Act.put, List.setIfInBounds_toArray, List.set_cons_zero, List.set_cons_succ]
          refine wpAnyH_done (by kernel_rfl) ?_ _
          have F13 := Lib.hid (F.out.trans' f12.out (fun k hk (e : k = PB) => by have := HPB.out; omega))
          have hlt := (Array.getElem?_eq_some_iff.1 hx12).1
          clear x0 x1 x2 y0 y1 y2 z0 z1 z2 b0 b1 b2 hHeld
          have hx := hx12
          have x0 := cells_in hx 0
          have x1 := cells_in hx 1
          have x2 := cells_in hx 2
          simp at x0 x1 x2
          have y0 := thaw_in hx 0
          have y1 := thaw_in hx 1
          have y2 := thaw_in hx 2
          clear hx
          go_wp2
          refine bodyPost_ret (v := .tuple #[.agg #[.int .i64 lim, .int .i64 nx, .slice (some ⟨G2, 0, none⟩) n vc], .string (bs qb), .int .i64 0]) (by simp [results, Tryz.results30, go_sem, x0, x1, x2, hlt]) rfl ?_
          have hren := renP_length L m s
          have hgetT : renT L m s = qb := by unfold renT getP; rw [HrE.out, HAT.out]; rfl
          have hgetL : renL L m s = renP L m s := by unfold renL; rw [HrE.out]; rfl
          rw [← HPOST.out, HrE.out, hgetT, hgetL]
          refine ⟨_, rfl, ⟨_, vc, ?_, HPT.out.fr0 f12.out (fun g o s e h => by injection e with e; injection e with e1; subst e1; exact HG2.out h), ?_, hvm, .inr (fun g o s e => by injection e with e; injection e with e1; subst e1; exact HGW.out)⟩, F13.out⟩
          · rw [hren, Hn.out]
          · rw [hren, Hn.out]; exact hvc
end Go.Proofs.YtieeloealklkgaaGreatDoor

/-
  SpaceUnder.
-/
namespace Go.Proofs.YtieeloealklkgaaGreatDoor
open Go.RowKit Go.Maps
attribute [local go_sem ↓] Go.wp_at_zero Go.wp_at_succ
attribute [local go_sem high] run_eql_pt run_neq_pt

theorem filter_run {α : Type} (f : α → Bool) : ∀ (xs : List α) (lo r : Nat), lo + r ≤ xs.length → (∀ i x, xs[i]? = some x → f x = decide (lo ≤ i ∧ i < lo + r)) → xs.filter f = (xs.drop lo).take r
  | [], lo, r, _, _ => by simp
  | y :: t, 0, 0, _, h => by
    have h0 : f y = false := by rw [h 0 y rfl]; simp
    rw [List.filter_cons_of_neg (by simp [h0])]
    rw [filter_run f t 0 0 (by simp) (fun i x hx => by rw [h (i + 1) x (by simpa using hx)]; simp)]
    simp
  | y :: t, 0, r + 1, hl, h => by
    have h0 : f y = true := by rw [h 0 y rfl]; simp
    rw [List.filter_cons_of_pos h0]
    rw [filter_run f t 0 r (by simp at hl ⊢; omega) (fun i x hx => by rw [h (i + 1) x (by simpa using hx)]; congr 1; simp)]
    simp
  | y :: t, lo + 1, r, hl, h => by
    have h0 : f y = false := by rw [h 0 y rfl]; simp
    rw [List.filter_cons_of_neg (by simp [h0])]
    rw [filter_run f t lo r (by simp at hl ⊢; omega) (fun i x hx => by rw [h (i + 1) x (by simpa using hx)]; congr 1; simp; omega)]
    simp
/-- The ports of names. -/
def foundL (L : List Pt) (top : Bs) (S : List Bs) : List Pt := (S.filter (fun n => underB n top)).map (findP L)
theorem find_in {lim nx : Int} {L : List Pt} (h : SpOK lim nx L) {s : Bs} (hs : s ∈ namesP L) : findE L s = 0 ∧ L.filter (fun p => p.name == s) = [findP L s] := by
  obtain ⟨p, hp, rfl⟩ := (namesP_mem L s).1 hs
  have hn := (nameP_some h.names).2 ⟨hp, rfl⟩
  have hr := h.right p hp
  refine ⟨by unfold findE; rw [if_neg (by rw [hr]; simp), hn]; rfl, ?_⟩
  rw [filter_name h, hn]
  unfold findP
  rw [if_neg (by rw [hr]; simp), hn]; rfl
theorem named_find {lim nx : Int} {L : List Pt} (h : SpOK lim nx L) : ∀ S : List Bs, (∀ s ∈ S, s ∈ namesP L) → namedL L S = S.map (findP L)
  | [], _ => rfl
  | s :: r, hS => by
    unfold namedL
    rw [List.flatMap_cons, (find_in h (hS s List.mem_cons_self)).2, List.map_cons]
    have := named_find h r (fun x hx => hS x (List.mem_cons_of_mem _ hx))
    unfold namedL at this
    rw [this]; rfl
theorem under_found {lim nx : Int} {L : List Pt} (h : SpOK lim nx L) (top : Bs) : underL L top = foundL L top (namesP L) := by
  unfold underL foundL
  rw [filter_run (fun n => underB n top) (namesP L) (lowN (namesP L) top) (runN (namesP L) top) (runN_le _ _) (fun i x hx => by
    have hi := (List.getElem?_eq_some_iff.1 hx).1
    have := set_under (s := top) h.set hi
    rw [List.getD_eq_getElem?_getD, hx] at this
    exact this)]
  exact named_find h _ (fun s hs => List.mem_of_mem_drop (List.mem_of_mem_take hs))
end Go.Proofs.YtieeloealklkgaaGreatDoor
