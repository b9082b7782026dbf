/-
  Spaces: what each function of the package does, and what the laws make of it.
-/
import Derived.Test.YtkchpngkmchamaaGreatJb1
import Derived.Test.YtkchpngkmchamaaGreatJa1
import Derived.Test.YtkchpngkmchamaaGreatRows
import Derived.WalkKit
import Derived.ProofKit
import Derived.OpenShut
import Derived.ChangeMaps5
import Derived.Carry
import Derived.Deep.Slices
import Derived.Deep.Fields
import Derived.ChangeSame
import Derived.Lib.SmallJoins
set_option linter.unusedSimpArgs false
set_option linter.unusedVariables false

/-
  slices.ContainsFunc at ports, with the closures of Made.
-/
namespace Go.Proofs.YtkchpngkmchamaaGreat
open Go.RowKit Go.Maps
attribute [local go_sem ↓] Go.wp_at_zero Go.wp_at_succ
attribute [local go_sem high] run_neq_pt

def hasN (s : Bs) (p : Pt) : Bool := p.name == s
def otherN (s : Bs) (q p : Pt) : Bool := p.name == s && !samePt p q
instance : Inhabited Pt := ⟨noPt⟩
set_option maxHeartbeats 1000000 in
theorem hasN_below (w : World) (b : Nat) (s : Bs) (hb : w.cell? ⟨b, 0, none⟩ = some (.string (bs s))) : PredBelow Tryz.prog 33 #[.pointer (some ⟨b, 0, none⟩)] (fun x => .agg (ptC x).toArray) (hasN s) w := by
  intro W p hB
  have hc := (below_to0 hB).later hb
  have hl := World.block_lt_of_cell? _ _ hc
  have HB := Lib.hid hB
  clear hB
  show Calls Tryz.prog 33 #[.agg #[.int .i64 p.number, .string (bs p.name), .int .i64 p.process], .pointer (some ⟨b, 0, none⟩)] W _
  go_enter Tryz.func33, Tryz.ntmps33
  go_wp2
  go_ret
  exact ⟨ret_bool (str_eq _ _), HB.out.alloc HB.out.size _⟩
set_option maxHeartbeats 1000000 in
theorem otherN_below (w : World) (b qb : Nat) (s : Bs) (q : Pt) (hb : w.cell? ⟨b, 0, none⟩ = some (.string (bs s))) (hq : PtAt w qb 0 q) : PredBelow Tryz.prog 34 #[.pointer (some ⟨b, 0, none⟩), .pointer (some ⟨qb, 0, none⟩)] (fun x => .agg (ptC x).toArray) (otherN s q) w := by
  intro W p hB
  have hc := (below_to0 hB).later hb
  obtain ⟨q0, q1, q2⟩ := hq.later (below_to0 hB)
  have hl := World.block_lt_of_cell? _ _ hc
  have hl2 := World.block_lt_of_cell? _ _ q0
  have HB := Lib.hid hB
  clear hB hq
  show Calls Tryz.prog 34 #[.agg #[.int .i64 p.number, .string (bs p.name), .int .i64 p.process], .pointer (some ⟨b, 0, none⟩), .pointer (some ⟨qb, 0, none⟩)] W _
  have hstr := str_eq p.name s
  by_cases h : p.name = s
  · have d1 : ((bs p.name).toList == (bs s).toList) = true := by rw [hstr]; simpa using h
    have fin : Hid ((!samePt ⟨p.number, s, p.process⟩ q) = otherN s q p) := by unfold Hid otherN; rw [show (⟨p.number, s, p.process⟩ : Pt) = p by rw [← h]]; simp [h]
    clear hstr
    go_enter Tryz.func34, Tryz.ntmps34
    go_wp2
    go_ret
    exact ⟨ret_bool fin.out, HB.out.alloc HB.out.size _⟩
  · have d1 : ((bs p.name).toList == (bs s).toList) = false := by rw [hstr]; simpa using h
    have fin : Hid (false = otherN s q p) := by
      unfold Hid otherN
      rw [show (p.name == s) = false by simpa using h]; rfl
    clear hstr h
    go_enter Tryz.func34, Tryz.ntmps34
    go_wp2
    go_ret
    exact ⟨ret_bool fin.out, HB.out.alloc HB.out.size _⟩

set_option maxHeartbeats 1000000 in
theorem indexP_none (a : Option Addr) (cap : Nat) (fv : Value) (w : World) : Calls Tryz.prog 60 #[.slice a 0 cap, fv] w fun e w' => e = .returned (.int .i64 (-1)) ∧ w = w' := by
  go_enter Tryz.func60, Tryz.ntmps60
  go_wp2
  go_loopw [8] (fun i wr => i = .int .i64 0 ∧ w = wr) (fun _ _ => 0)
  case atStart => exact ⟨rfl, rfl⟩
  case round =>
    obtain ⟨rfl, rfl⟩ := hrel
    go_wp2
    go_ret
    exact ⟨rfl, rfl⟩
set_option maxHeartbeats 1000000 in
theorem containsP_none (a : Option Addr) (cap : Nat) (fv : Value) (w : World) : Calls Tryz.prog 32 #[.slice a 0 cap, fv] w fun e w' => e = .returned (.bool false) ∧ w = w' := by
  go_enter Tryz.func32, Tryz.ntmps32
  go_wp2_with fail
  refine (indexP_none _ _ _ _).mono ?_
  rintro e w1 ⟨rfl, rfl⟩
  go_wp2
  go_ret
  exact ⟨rfl, rfl⟩
theorem containsP_any (a : Option Addr) (n cap : Nat) (xs : List Pt) (w : World) (hn : xs.length = n) (hm : n ≤ 1000000) (hc : PtsIn w a xs) (g : Nat) (lb : Array Value) (p : Pt → Bool)
    (eg : ∀ args w, (callFunc g args).run Tryz.prog w = .ok (.enter g args) w) (hp : PredBelow Tryz.prog g lb (fun x => .agg (ptC x).toArray) p w) :
    Calls Tryz.prog 32 #[.slice a n cap, .func (.func g) #[] lb] w fun e w' => e = .returned (.bool (xs.any p)) ∧ Fr0 none' w w' := by
  by_cases h0 : n = 0
  · subst h0
    obtain rfl : xs = [] := List.eq_nil_of_length_eq_zero hn
    refine (containsP_none _ _ _ _).mono ?_
    rintro e w1 ⟨rfl, rfl⟩
    exact ⟨rfl, Fr0.refl _ _⟩
  · obtain ⟨x, hx⟩ : ∃ x, xs[0]? = some x := ⟨_, List.getElem?_eq_getElem (by omega)⟩
    obtain ⟨b, o, rfl, h1⟩ := hc 0 x hx
    have hb := World.block_lt_of_cell? _ _ h1.1
    have := AnyQ.slices_ContainsFunc Tryz.whereK_f32 3 Tryz.isAgg35 Tryz.sizeOf35 ptC (fun _ => rfl) p g lb eg b o n cap xs w hp (by omega) (by omega) hb (fun j hj i v hv => by
      obtain ⟨g', o', e, c0, c1, c2⟩ := hc j xs[j] (List.getElem?_eq_getElem hj)
      cases e
      rw [getElem!_pos xs j hj] at hv
      match i, hv with
      | 0, hv => cases hv; exact c0
      | 1, hv => cases hv; exact c1
      | 2, hv => cases hv; exact c2)
    refine this.mono ?_
    rintro e w1 ⟨rfl, hB⟩
    exact ⟨by rw [List.take_of_length_le (by omega)], below_to0 hB⟩
end Go.Proofs.YtkchpngkmchamaaGreat

/-
  A space of a law's own; its acts.
-/
namespace Go.Proofs.YtkchpngkmchamaaGreat
open Go.RowKit Go.Maps

/-- What the acts make of a space, and return. -/
def openL (lim nx : Int) (L : List Pt) (s : Bs) (p : Int) : List Pt := if openE lim nx L s p = 0 then L ++ [⟨nx, s, p⟩] else L
def openX (lim nx : Int) (L : List Pt) (s : Bs) (p : Int) : Int := if openE lim nx L s p = 0 then nx + 1 else nx
def openN (lim nx : Int) (L : List Pt) (s : Bs) (p : Int) : Int := if openE lim nx L s p = 0 then nx else 0
def renE (L : List Pt) (n : Int) (s : Bs) : Int := match atP L n with
  | none => 6
  | some p => if rightB s = false then 40 else if (nameP L s).isSome = true ∧ ¬ p.name = s then 240 else 0
def renT (L : List Pt) (n : Int) (s : Bs) : Bs := if renE L n s = 0 then (getP L n).name else []
def renL (L : List Pt) (n : Int) (s : Bs) : List Pt := if renE L n s = 0 then renP L n s else L

variable {w0 w w' : World} {sb mb : Nat} {nv nv' : Value} {lim nx nx' : Int} {L L' : List Pt} {E : List (Nat × Obj)}
theorem SStep.refl' (sb mb : Nat) (nv : Value) (w : World) : SStep sb mb nv nv w w := ⟨Fr0.refl _ _, fun _ h => .inl h⟩
/-- A block that is not the space's stays so. -/
theorem SStep.not (h : SStep sb mb nv nv' w w') {k : Nat} (hk : ¬ sfoot sb mb nv k) (hl : k < w.heap.size) : ¬ sfoot sb mb nv' k := fun hf => by
  rcases hf with h1 | h1 | h1
  · exact hk (.inl h1)
  · exact hk (.inr (.inl h1))
  · rcases h.own k h1 with h2 | h2
    · exact hk (.inr (.inr h2))
    · omega
theorem SStep.block (h : SStep sb mb nv nv' w w') {k : Nat} (hk : ¬ sfoot sb mb nv k) (hl : k < w.heap.size) : w'.heap[k]? = w.heap[k]? := h.fr.block k hl (fun h1 => hk (h1.elim .inl (fun h => .inr (.inl h))))

/-- A space that was made since w0, and blocks beside it that stay. -/
structure SpSt (w0 w : World) (sb mb : Nat) (nv : Value) (lim nx : Int) (L : List Pt) (E : List (Nat × Obj)) : Prop where
  is : SpaceIs w sb mb nv lim nx L
  fr : Fr0 none' w0 w
  new : ∀ k, sfoot sb mb nv k → w0.heap.size ≤ k
  ex : ∀ x ∈ E, w.heap[x.1]? = some x.2 ∧ ¬ sfoot sb mb nv x.1
theorem SpSt.later (h : SpSt w0 w sb mb nv lim nx L E) (hf : Fr0 none' w w') : SpSt w0 w' sb mb nv lim nx L E :=
  ⟨h.is.later hf, h.fr.trans hf, h.new, fun x hx => ⟨(hf.block x.1 (Array.getElem?_eq_some_iff.1 (h.ex x hx).1).1 id).trans (h.ex x hx).1, (h.ex x hx).2⟩⟩
theorem SpSt.step (h : SpSt w0 w sb mb nv lim nx L E) (hs : SStep sb mb nv nv' w w') (h' : SpaceIs w' sb mb nv' lim nx' L') : SpSt w0 w' sb mb nv' lim nx' L' E :=
  ⟨h', h.fr.trans' hs.fr (fun k hk hf => by
      rcases hf with h1 | h1
      · have := h.new k (.inl h1); omega
      · have := h.new k (.inr (.inl h1)); omega), fun k hk => by
    rcases hk with h1 | h1 | h1
    · exact h.new k (.inl h1)
    · exact h.new k (.inr (.inl h1))
    · rcases hs.own k h1 with h2 | h2
      · exact h.new k (.inr (.inr h2))
      · exact Nat.le_trans h.fr.size h2, fun x hx => by
    have hl := (Array.getElem?_eq_some_iff.1 (h.ex x hx).1).1
    exact ⟨(hs.block (h.ex x hx).2 hl).trans (h.ex x hx).1, hs.not (h.ex x hx).2 hl⟩⟩
theorem SpSt.alloc (h : SpSt w0 w sb mb nv lim nx L E) (o : Obj) : SpSt w0 (w.alloc o) sb mb nv lim nx L ((w.heap.size, o) :: E) := by
  have h1 := h.later ((Fr0.refl none' w).alloc o)
  refine ⟨h1.is, h1.fr, h1.new, fun x hx => ?_⟩
  rcases List.mem_cons.1 hx with rfl | hx
  · exact ⟨World.alloc_heap_new w o, fun hf => by have := h.is.lt _ hf; omega⟩
  · exact h1.ex x hx
theorem SpSt.less {F : List (Nat × Obj)} (h : SpSt w0 w sb mb nv lim nx L E) (hF : ∀ x ∈ F, x ∈ E) : SpSt w0 w sb mb nv lim nx L F := ⟨h.is, h.fr, h.new, fun x hx => h.ex x (hF x hx)⟩
/-- A cell of a law's own turns. -/
theorem SpSt.turn (h : SpSt w0 w sb mb nv lim nx L E) {B : Nat} (hf : Fr0 (fun k => k = B) w w') (hB : ¬ sfoot sb mb nv B) (h0 : w0.heap.size ≤ B) (hE : ∀ x ∈ E, x.1 ≠ B) : SpSt w0 w' sb mb nv lim nx L E :=
  ⟨h.is.fr0 hf (fun k hk e => hB (e ▸ hk)), h.fr.trans' hf (fun k hk e => by omega), h.new, fun x hx => ⟨(hf.block x.1 (Array.getElem?_eq_some_iff.1 (h.ex x hx).1).1 (hE x hx)).trans (h.ex x hx).1, (h.ex x hx).2⟩⟩

/-- A row of ports that is not the space's. -/
structure PRow (w : World) (sb mb : Nat) (nv u : Value) (P : List Pt) : Prop where
  row : PtsAt w u P
  out : ∀ g, u.ownBlock = some g → ¬ sfoot sb mb nv g ∧ g < w.heap.size
theorem PtsAt.fr0 {S : Nat → Prop} {u : Value} {P : List Pt} (h : PtsAt w u P) (hf : Fr0 S w w') (hS : ∀ g, u.ownBlock = some g → ¬ S g) : PtsAt w' u P := by
  obtain ⟨a, cap, rfl, hc⟩ := h
  exact ⟨a, cap, rfl, hc.fr0 hf (fun g o s e => hS g (by rw [e]; rfl))⟩
theorem PtsAt.later {u : Value} {P : List Pt} (h : PtsAt w u P) (hf : Fr0 none' w w') : PtsAt w' u P := h.fr0 hf (fun _ _ h => h)
theorem PRow.later {u : Value} {P : List Pt} (h : PRow w sb mb nv u P) (hf : Fr0 none' w w') : PRow w' sb mb nv u P := ⟨h.row.later hf, fun g hg => ⟨(h.out g hg).1, Nat.lt_of_lt_of_le (h.out g hg).2 hf.size⟩⟩
theorem PRow.step {u : Value} {P : List Pt} (h : PRow w sb mb nv u P) (hs : SStep sb mb nv nv' w w') : PRow w' sb mb nv' u P :=
  ⟨h.row.fr0 hs.fr (fun g hg hk => (h.out g hg).1 (hk.elim .inl (fun h => .inr (.inl h)))), fun g hg => ⟨hs.not (h.out g hg).1 (h.out g hg).2, Nat.lt_of_lt_of_le (h.out g hg).2 hs.fr.size⟩⟩

/-- What a call that only tells returns: a row of ports. -/
def RowTold (sb mb : Nat) (nv : Value) (P : List Pt) (w : World) (e : Ending) (w' : World) : Prop := ∃ u, e = .returned u ∧ PRow w' sb mb nv u P ∧ Fr0 none' w w'
theorem SpSt.told (h : SpSt w0 w sb mb nv lim nx L E) {P : List Pt} {f : Nat} {args : Array Value} (hc : Calls Tryz.prog f args w (PortsPost P w)) : Calls Tryz.prog f args w (RowTold sb mb nv P w) :=
  hc.mono fun _ _ ⟨v, he, h1, h2, h3⟩ => ⟨v, he, ⟨.of_own h1 rfl, fun g hg => ⟨fun hf => by have := h3 g hg; have := h.is.lt g hf; omega, (h1.lt g hg).2⟩⟩, h2⟩
theorem all_st (h : SpSt w0 w sb mb nv lim nx L E) : Calls Tryz.prog 8 #[.pointer (some ⟨sb, 0, none⟩)] w (RowTold sb mb nv L w) := h.told (All_is keysDoes sortedDoes h.is)
theorem of_st (h : SpSt w0 w sb mb nv lim nx L E) (n : Int) : Calls Tryz.prog 31 #[.pointer (some ⟨sb, 0, none⟩), .int .i64 n] w (RowTold sb mb nv (L.filter (fun p => p.process == n)) w) := h.told (Of_is keysDoes sortedDoes h.is n)
/-- What Under returns. -/
def underE (s : Bs) : Int := if rightB s = true then 0 else 40
def underR (L : List Pt) (s : Bs) : List Pt := if rightB s = true then underL L s else []
theorem under_st (h : SpSt w0 w sb mb nv lim nx L E) (s : Bs) (hsl : s.length ≤ 1000) : Calls Tryz.prog 28 #[.pointer (some ⟨sb, 0, none⟩), .string (bs s)] w
    fun e w' => ∃ u, e = .returned (.tuple #[u, .int .i64 (underE s)]) ∧ PRow w' sb mb nv u (underR L s) ∧ Fr0 none' w w' := by
  have key : ∀ P R, Calls Tryz.prog 28 #[.pointer (some ⟨sb, 0, none⟩), .string (bs s)] w (UnderPost P R w) → Calls Tryz.prog 28 #[.pointer (some ⟨sb, 0, none⟩), .string (bs s)] w
    fun e w' => ∃ u, e = .returned (.tuple #[u, .int .i64 R]) ∧ PRow w' sb mb nv u P ∧ Fr0 none' w w' := fun P R hc =>
    hc.mono fun _ _ ⟨v, he, h1, h2, h3⟩ => ⟨v, he, ⟨.of_own h1 rfl, fun g hg => ⟨fun hf => by have := h3 g hg; have := h.is.lt g hf; omega, (h1.lt g hg).2⟩⟩, h2⟩
  unfold underE underR
  cases hs : rightB s
  · exact key _ _ (Under_no h.is s hs hsl)
  · exact key _ _ (Under_ok h.is s hs)
theorem get_st (h : SpSt w0 w sb mb nv lim nx L E) (n : Int) (hn : -9223372036854775808 ≤ n ∧ n ≤ 9223372036854775807) : Calls Tryz.prog 11 #[.pointer (some ⟨sb, 0, none⟩), .int .i64 n] w (PtPost (getP L n) (getE L n) w) := Get_is h.is n hn
theorem find_st (h : SpSt w0 w sb mb nv lim nx L E) (s : Bs) (hsl : s.length ≤ 1000) : Calls Tryz.prog 12 #[.pointer (some ⟨sb, 0, none⟩), .string (bs s)] w (PtPost (findP L s) (findE L s) w) := Find_is h.is s hsl
theorem open_st (h : SpSt w0 w sb mb nv lim nx L E) (s : Bs) (hsl : s.length ≤ 1000) (p : Int) : Calls Tryz.prog 21 #[.pointer (some ⟨sb, 0, none⟩), .string (bs s), .int .i64 p] w
    fun e w' => e = .returned (.tuple #[.int .i64 (openN lim nx L s p), .int .i64 (openE lim nx L s p)]) ∧ ∃ nv', SpSt w0 w' sb mb nv' lim (openX lim nx L s p) (openL lim nx L s p) E ∧ SStep sb mb nv nv' w w' := by
  by_cases h0 : openE lim nx L s p = 0
  · have h1 : openN lim nx L s p = nx := if_pos h0
    have h2 : openX lim nx L s p = nx + 1 := if_pos h0
    have h3 : openL lim nx L s p = L ++ [⟨nx, s, p⟩] := if_pos h0
    rw [h1, h2, h3, h0]
    unfold openE at h0
    by_cases c1 : rightB s = false
    · rw [if_pos c1] at h0; cases h0
    rw [if_neg c1] at h0
    by_cases c2 : p < 1 ∨ 16 < p
    · rw [if_pos c2] at h0; cases h0
    rw [if_neg c2] at h0
    by_cases c3 : (nameP L s).isSome = true
    · rw [if_pos c3] at h0; cases h0
    rw [if_neg c3] at h0
    by_cases c4 : lim ≤ (L.length : Int)
    · rw [if_pos c4] at h0; cases h0
    rw [if_neg c4] at h0
    by_cases c5 : 4294967295 < nx
    · rw [if_pos c5] at h0; cases h0
    refine (Open_ok h.is s p (by simpa using c1) (by omega) (by cases hq : nameP L s with | none => rfl | some _ => rw [hq] at c3; exact absurd rfl c3) (by omega) (by omega)).mono ?_
    rintro e w' ⟨he, nv', g1, g2⟩
    exact ⟨he, nv', h.step g2 g1, g2⟩
  · have h1 : openN lim nx L s p = 0 := if_neg h0
    have h2 : openX lim nx L s p = nx := if_neg h0
    have h3 : openL lim nx L s p = L := if_neg h0
    rw [h1, h2, h3]
    refine (Open_no h.is s p hsl _ rfl h0).mono ?_
    rintro e w' ⟨he, nv', g1, g2⟩
    exact ⟨he, nv', h.step g2 g1, g2⟩
theorem delP_not {n : Int} (h : atP L n = none) : delP L n = L := delP_none (atP_none.1 h)
theorem close_st (h : SpSt w0 w sb mb nv lim nx L E) (n : Int) (hn : -9223372036854775808 ≤ n ∧ n ≤ 9223372036854775807) : Calls Tryz.prog 23 #[.pointer (some ⟨sb, 0, none⟩), .int .i64 n] w
    fun e w' => e = .returned (.tuple #[ptV (getP L n), .int .i64 (getE L n)]) ∧ ∃ nv', SpSt w0 w' sb mb nv' lim nx (delP L n) E ∧ SStep sb mb nv nv' w w' := by
  cases hq : atP L n with
  | none =>
    rw [delP_not hq, show getP L n = noPt by unfold getP; rw [hq]; rfl, show getE L n = 6 by unfold getE; rw [hq]; rfl]
    refine (Close_no h.is n hn hq).mono ?_
    rintro e w' ⟨he, hf⟩
    exact ⟨he, nv, h.later hf, SStep.of _ _ _ hf⟩
  | some q =>
    obtain ⟨h1, rfl⟩ := atP_mem hq
    rw [show getP L q.number = q by unfold getP; rw [hq]; rfl, show getE L q.number = 0 by unfold getE; rw [hq]; rfl]
    refine (Close_ok h.is q h1).mono ?_
    rintro e w' ⟨he, nv', g1, g2⟩
    exact ⟨he, nv', h.step g2 g1, g2⟩
theorem rename_st (h : SpSt w0 w sb mb nv lim nx L E) (n : Int) (hn : -9223372036854775808 ≤ n ∧ n ≤ 9223372036854775807) (s : Bs) (hsl : s.length ≤ 1000) : Calls Tryz.prog 25 #[.pointer (some ⟨sb, 0, none⟩), .int .i64 n, .string (bs s)] w
    fun e w' => e = .returned (.tuple #[.string (bs (renT L n s)), .int .i64 (renE L n s)]) ∧ ∃ nv', SpSt w0 w' sb mb nv' lim nx (renL L n s) E ∧ SStep sb mb nv nv' w w' := by
  have key : ∀ M t R, renL L n s = M → renT L n s = t → renE L n s = R → Calls Tryz.prog 25 #[.pointer (some ⟨sb, 0, none⟩), .int .i64 n, .string (bs s)] w (RenPost sb mb nv lim nx M t R w) → Calls Tryz.prog 25 #[.pointer (some ⟨sb, 0, none⟩), .int .i64 n, .string (bs s)] w
    fun e w' => e = .returned (.tuple #[.string (bs (renT L n s)), .int .i64 (renE L n s)]) ∧ ∃ nv', SpSt w0 w' sb mb nv' lim nx (renL L n s) E ∧ SStep sb mb nv nv' w w' := fun M t R h1 h2 h3 hc => by
    rw [h1, h2, h3]
    refine hc.mono ?_
    rintro e w' ⟨he, nv', g1, g2⟩
    exact ⟨he, nv', h.step g2 g1, g2⟩
  cases hq : atP L n with
  | none =>
    have h6 : renE L n s = 6 := by unfold renE; rw [hq]
    exact key L [] 6 (by unfold renL; rw [h6]; rfl) (by unfold renT; rw [h6]; rfl) h6 (Rename_none h.is n s hn hq)
  | some q =>
    have hr : renE L n s = if rightB s = false then 40 else if (nameP L s).isSome = true ∧ ¬ q.name = s then 240 else 0 := by unfold renE; rw [hq]
    obtain ⟨h1, h2⟩ := atP_mem hq
    by_cases c1 : rightB s = false
    · rw [if_pos c1] at hr
      exact key L [] 40 (by unfold renL; rw [hr]; rfl) (by unfold renT; rw [hr]; rfl) hr (Rename_no h.is n s hn c1 hsl q hq)
    · rw [if_neg c1] at hr
      have c1' : rightB s = true := by simpa using c1
      by_cases c2 : (nameP L s).isSome = true ∧ ¬ q.name = s
      · rw [if_pos c2] at hr
        obtain ⟨p, hp⟩ := Option.isSome_iff_exists.1 c2.1
        have hc := Rename_taken h.is s c1' q h1 c2.2 p hp
        rw [h2] at hc
        exact key L [] 240 (by unfold renL; rw [hr]; rfl) (by unfold renT; rw [hr]; rfl) hr hc
      · rw [if_neg c2] at hr
        have hfree : ∀ p ∈ L, p.name = s → p = q := fun p hp e => by
          by_cases hqs : q.name = s
          · exact h.is.ok.name_inj hp h1 (e.trans hqs.symm)
          · refine absurd ⟨?_, hqs⟩ c2
            rw [← namesP_has]; exact (namesP_mem L s).2 ⟨p, hp, e⟩
        have hc := Rename_ok h.is s c1' q h1 hfree
        rw [h2] at hc
        exact key (renP L n s) q.name 0 (by unfold renL; rw [hr]; rfl) (by unfold renT getP; rw [hr, hq]; rfl) hr hc
/-- A new space. -/
theorem new_st (lim nx : Int) (w : World) (h1 : 0 ≤ lim ∧ lim ≤ 64) (h2 : 1 ≤ nx ∧ nx ≤ 4294967295) : Calls Tryz.prog 19 #[.int .i64 lim, .int .i64 nx] w
    fun e w' => ∃ sb mb, e = .returned (.tuple #[.pointer (some ⟨sb, 0, none⟩), .int .i64 0]) ∧ SpSt w w' sb mb (.slice none 0 0) lim nx [] [] :=
  (SNew_ok lim nx w h1.1 h1.2 h2.1 h2.2).mono fun _ _ ⟨sb, mb, he, g1, g2, g3⟩ => ⟨sb, mb, he, g1, g2, g3, fun x hx => by cases hx⟩
end Go.Proofs.YtkchpngkmchamaaGreat

/-
  The chapter's examples.
-/
namespace Go.Proofs.YtkchpngkmchamaaGreat
open Go.RowKit Go.Maps
attribute [local go_sem ↓] Go.wp_at_zero Go.wp_at_succ

theorem PtsIn.two {W : World} {B : Nat} {ty : TypeId} {a c a' c' : Int} {b b' : Bs} (h : W.heap[B]? = some (.cells #[.int .i64 a, .string (bs b), .int .i64 c, .int .i64 a', .string (bs b'), .int .i64 c'] ty (0, 0))) : PtsIn W (some ⟨B, 0, none⟩) [⟨a, b, c⟩, ⟨a', b', c'⟩] := fun i p hp => by
  match i, hp with
  | 0, hp => cases hp; exact ⟨B, 0, rfl, by rw [cells_in h]; rfl, by rw [cells_in h]; rfl, by rw [cells_in h]; rfl⟩
  | 1, hp => cases hp; exact ⟨B, 0, rfl, by rw [cells_in h]; rfl, by rw [cells_in h]; rfl, by rw [cells_in h]; rfl⟩
theorem Cells.two {W : World} {B : Nat} {ty : TypeId} {b b' : Bs} (h : W.heap[B]? = some (.cells #[.string (bs b), .string (bs b')] ty (0, 0))) : Cells W (some ⟨B, 0, none⟩) ([b, b'].map strV) := fun i p hp => by
  match i, hp with
  | 0, hp => cases hp; exact ⟨B, 0, rfl, by rw [cells_in h]; rfl⟩
  | 1, hp => cases hp; exact ⟨B, 0, rfl, by rw [cells_in h]; rfl⟩
set_option maxRecDepth 100000 in
set_option maxHeartbeats 4000000 in
theorem sawake_any (w : World) : Calls Tryz.prog 6 #[] w fun e w' => e = .returned (.bool true) ∧ Fr0 none' w w' := by
  go_enter Tryz.func6, Tryz.ntmps6
  go_wp2_with fail
  refine (new_st 2 5 w (by omega) (by omega)).mono ?_
  rintro e W0 ⟨sb, mb, rfl, hS⟩
  have S := Lib.hid hS
  clear hS
  go_wp2_with fail
  have HC := open_st S.out [97, 46, 98] (by decide) 1
  rw [show openN 2 5 [] [97, 46, 98] 1 = 5 by decide, show openE 2 5 [] [97, 46, 98] 1 = 0 by decide, show openX 2 5 [] [97, 46, 98] 1 = 6 by decide, show openL 2 5 [] [97, 46, 98] 1 = [⟨5, [97, 46, 98], 1⟩] by decide] at HC
  refine HC.mono ?_
  rintro e W1 ⟨rfl, nv1, hS, -⟩
  clear HC S
  have S := Lib.hid hS
  clear hS
  go_wp2_with fail
  have HC := open_st S.out [97] (by decide) 2
  rw [show openN 2 6 [⟨5, [97, 46, 98], 1⟩] [97] 2 = 6 by decide, show openE 2 6 [⟨5, [97, 46, 98], 1⟩] [97] 2 = 0 by decide, show openX 2 6 [⟨5, [97, 46, 98], 1⟩] [97] 2 = 7 by decide, show openL 2 6 [⟨5, [97, 46, 98], 1⟩] [97] 2 = [⟨5, [97, 46, 98], 1⟩, ⟨6, [97], 2⟩] by decide] at HC
  refine HC.mono ?_
  rintro e W2 ⟨rfl, nv2, hS, -⟩
  clear HC S
  have S := Lib.hid hS
  clear hS
  obtain ⟨L2, hL2⟩ : ∃ L : List Pt, ([⟨5, [97, 46, 98], 1⟩, ⟨6, [97], 2⟩] : List Pt) = L := ⟨_, rfl⟩
  have HL2 := Lib.hid hL2
  rw [hL2] at S
  clear hL2
  go_wp2_with fail
  have HC := open_st S.out [99] (by decide) 1
  rw [show openN 2 7 L2 [99] 1 = 0 by rw [← HL2.out]; decide, show openE 2 7 L2 [99] 1 = 5 by rw [← HL2.out]; decide, show openX 2 7 L2 [99] 1 = 7 by rw [← HL2.out]; decide, show openL 2 7 L2 [99] 1 = L2 by rw [← HL2.out]; decide] at HC
  refine HC.mono ?_
  rintro e W3 ⟨rfl, nv3, hS, -⟩
  clear HC S
  have S := Lib.hid hS
  clear hS
  go_wp2_with fail
  have HC := open_st S.out [97] (by decide) 1
  rw [show openN 2 7 L2 [97] 1 = 0 by rw [← HL2.out]; decide, show openE 2 7 L2 [97] 1 = 240 by rw [← HL2.out]; decide, show openX 2 7 L2 [97] 1 = 7 by rw [← HL2.out]; decide, show openL 2 7 L2 [97] 1 = L2 by rw [← HL2.out]; decide] at HC
  refine HC.mono ?_
  rintro e W4 ⟨rfl, nv4, hS, -⟩
  clear HC S
  have S := Lib.hid hS
  clear hS
  go_wp2_with fail
  have HC := under_st S.out [97] (by decide)
  rw [show underE [97] = 0 by decide, show underR L2 [97] = [⟨6, [97], 2⟩, ⟨5, [97, 46, 98], 1⟩] by rw [← HL2.out]; decide] at HC
  refine HC.mono ?_
  rintro e W5 ⟨u, rfl, hu, hf⟩
  obtain ⟨ua, uc, rfl, _⟩ := hu.row
  have U := Lib.hid hu
  have S := Lib.hid (S.out.later hf)
  clear HC hu hf
  go_wp2_with fail
  have HC := close_st S.out 5 (by decide)
  rw [show getP L2 5 = ⟨5, [97, 46, 98], 1⟩ by rw [← HL2.out]; decide, show getE L2 5 = 0 by rw [← HL2.out]; decide, show delP L2 5 = [⟨6, [97], 2⟩] by rw [← HL2.out]; decide] at HC
  refine HC.mono ?_
  rintro e W6 ⟨rfl, nv6, hS, hst⟩
  simp only [ptV]
  obtain ⟨W7, hW7⟩ : ∃ W7, W6.alloc (.cells #[.int .i64 5, .string (bs [97, 46, 98]), .int .i64 1] 35) = W7 := ⟨_, rfl⟩
  have U := Lib.hid (show PRow W7 sb mb nv6 (.slice ua _ uc) _ from hW7 ▸ (U.out.step hst).later ((Fr0.refl none' W6).alloc (.cells #[.int .i64 5, .string (bs [97, 46, 98]), .int .i64 1] 35)))
  obtain ⟨QB, hQB⟩ : ∃ QB, W6.heap.size = QB := ⟨_, rfl⟩
  have S := Lib.hid (show SpSt w W7 sb mb nv6 2 7 [⟨6, [97], 2⟩] [(QB, .cells #[.int .i64 5, .string (bs [97, 46, 98]), .int .i64 1] 35 (0, 0))] from hW7 ▸ hQB ▸ hS.alloc (.cells #[.int .i64 5, .string (bs [97, 46, 98]), .int .i64 1] 35))
  clear HC hS hst HL2
  go_wp2_with fail
  have HC := open_st S.out [97, 46, 98] (by decide) 2
  rw [show openN 2 7 [⟨6, [97], 2⟩] [97, 46, 98] 2 = 7 by decide, show openE 2 7 [⟨6, [97], 2⟩] [97, 46, 98] 2 = 0 by decide, show openX 2 7 [⟨6, [97], 2⟩] [97, 46, 98] 2 = 8 by decide, show openL 2 7 [⟨6, [97], 2⟩] [97, 46, 98] 2 = [⟨6, [97], 2⟩, ⟨7, [97, 46, 98], 2⟩] by decide] at HC
  clear hW7 hQB
  refine HC.mono ?_
  rintro e W8 ⟨rfl, nv8, hS, hst⟩
  have U := Lib.hid (U.out.step hst)
  clear HC S hst
  have S := Lib.hid hS
  clear hS
  obtain ⟨L4, hL4⟩ : ∃ L : List Pt, ([⟨6, [97], 2⟩, ⟨7, [97, 46, 98], 2⟩] : List Pt) = L := ⟨_, rfl⟩
  have HL4 := Lib.hid hL4
  rw [hL4] at S
  clear hL4
  go_wp2_with fail
  have HC := get_st S.out 5 (by decide)
  obtain ⟨⟨z1, z2, z3⟩, hz⟩ : ∃ p, getP L4 5 = p := ⟨_, rfl⟩
  rw [hz, show getE L4 5 = 6 by rw [← HL4.out]; decide] at HC
  clear hz
  refine HC.mono ?_
  rintro e W9 ⟨rfl, hf⟩
  simp only [ptV]
  obtain ⟨W10, hW10⟩ : ∃ W7, W9.alloc (.cells #[.int .i64 z1, .string (bs z2), .int .i64 z3] 35) = W7 := ⟨_, rfl⟩
  have f10 : Fr0 none' W8 W10 := by rw [← hW10]; exact hf.alloc _
  have U := Lib.hid (U.out.later f10)
  have S := Lib.hid (S.out.later f10)
  clear HC hf f10
  go_wp2_with fail
  clear hW10
  have HC := rename_st S.out 7 (by decide) [97] (by decide)
  rw [show renT L4 7 [97] = [] by rw [← HL4.out]; decide, show renE L4 7 [97] = 240 by rw [← HL4.out]; decide, show renL L4 7 [97] = L4 by rw [← HL4.out]; decide] at HC
  refine HC.mono ?_
  rintro e W11 ⟨rfl, nv11, hS, hst⟩
  have U := Lib.hid (U.out.step hst)
  clear HC S hst
  have S := Lib.hid hS
  clear hS
  go_wp2_with fail
  have HC := rename_st S.out 7 (by decide) [98] (by decide)
  rw [show renT L4 7 [98] = [97, 46, 98] by rw [← HL4.out]; decide, show renE L4 7 [98] = 0 by rw [← HL4.out]; decide, show renL L4 7 [98] = [⟨6, [97], 2⟩, ⟨7, [98], 2⟩] by rw [← HL4.out]; decide] at HC
  refine HC.mono ?_
  rintro e W12 ⟨rfl, nv12, hS, hst⟩
  have U := Lib.hid (U.out.step hst)
  clear HC S hst HL4
  have S := Lib.hid hS
  clear hS
  have q1 := cells_in (S.out.ex _ (List.mem_singleton.2 rfl)).1 1
  simp at q1
  have hs9 : (bs [97, 46, 98]).toList = [97, 46, 98] := by rw [Lib.toList_data]; rfl
  go_wp2_with fail
  obtain ⟨W13, hW13⟩ : ∃ W7, W12.alloc (.cells #[.int .i64 6, .string (bs [97]), .int .i64 2, .int .i64 5, .string (bs [97, 46, 98]), .int .i64 1] 59) = W7 := ⟨_, rfl⟩
  have hx := World.alloc_heap_new W12 (.cells #[.int .i64 6, .string (bs [97]), .int .i64 2, .int .i64 5, .string (bs [97, 46, 98]), .int .i64 1] 59)
  have f13 : Fr0 none' W12 W13 := by rw [← hW13]; exact (Fr0.refl _ _).alloc _
  rw [hW13] at hx
  have U := Lib.hid (U.out.later f13)
  have S := Lib.hid (S.out.later f13)
  have q1 := f13.later q1
  obtain ⟨ua', uc', hu1, hu2⟩ := U.out.row
  cases hu1
  have HC := ports_any _ _ 2 2 uc 2 _ _ W13 rfl rfl (by omega) (by omega) hu2 (PtsIn.two hx)
  rw [show decide ((([⟨6, [97], 2⟩, ⟨5, [97, 46, 98], 1⟩] : List Pt)) = ([⟨6, [97], 2⟩, ⟨5, [97, 46, 98], 1⟩] : List Pt)) = true by simp] at HC
  clear f13 hx hu2 U
  refine Calls.mono (show Calls Tryz.prog 29 _ _ _ from hW13 ▸ HC) ?_
  rintro e W14 ⟨rfl, hf⟩
  rw [hW13] at hf
  have q1 := hf.later q1
  have S := Lib.hid (S.out.later hf)
  clear HC hf hW13
  go_wp2_with fail
  refine (Names_is S.out.is).mono ?_
  rw [show namesP [⟨6, [97], 2⟩, ⟨7, [98], 2⟩] = [[97], [98]] by decide]
  rintro e W15 ⟨v, rfl, hrow, hf⟩
  obtain ⟨va, vc, rfl, _, _, _, hcell, _, _⟩ := ownsRow_cells hrow
  have S := Lib.hid (S.out.later hf)
  have V := Lib.hid hcell
  clear hrow hcell hf
  go_wp2_with fail
  obtain ⟨W16, hW16⟩ : ∃ W7, W15.alloc (.cells #[.string (bs [97]), .string (bs [98])] 9) = W7 := ⟨_, rfl⟩
  have hx := World.alloc_heap_new W15 (.cells #[.string (bs [97]), .string (bs [98])] 9)
  have f16 : Fr0 none' W15 W16 := by rw [← hW16]; exact (Fr0.refl _ _).alloc _
  rw [hW16] at hx
  have S := Lib.hid (S.out.later f16)
  have HC := SameTexts_any va (some ⟨W15.heap.size, 0, none⟩) 2 2 vc 2 [[97], [98]] [[97], [98]] W16 rfl rfl (by omega) (by omega) (V.out.later f16) (Cells.two hx)
  rw [show decide ((([[97], [98]] : List Bs)) = ([[97], [98]] : List Bs)) = true by simp] at HC
  clear f16 hx V
  refine Calls.mono (show Calls Tryz.prog 30 _ _ _ from hW16 ▸ HC) ?_
  rintro e W17 ⟨rfl, hf⟩
  rw [hW16] at hf
  have S := Lib.hid (S.out.later (below_to0 hf))
  clear HC hf hW16
  go_wp2_with fail
  refine (of_st S.out 2).mono ?_
  rw [show List.filter (fun p : Pt => p.process == 2) [⟨6, [97], 2⟩, ⟨7, [98], 2⟩] = [⟨6, [97], 2⟩, ⟨7, [98], 2⟩] by decide]
  rintro e W18 ⟨u, rfl, hu, hf⟩
  obtain ⟨xa, xc, rfl, _⟩ := hu.row
  have U := Lib.hid hu
  have S := Lib.hid (S.out.later hf)
  clear hu hf
  go_wp2_with fail
  obtain ⟨W19, hW19⟩ : ∃ W7, W18.alloc (.cells #[.int .i64 6, .string (bs [97]), .int .i64 2, .int .i64 7, .string (bs [98]), .int .i64 2] 59) = W7 := ⟨_, rfl⟩
  have hx := World.alloc_heap_new W18 (.cells #[.int .i64 6, .string (bs [97]), .int .i64 2, .int .i64 7, .string (bs [98]), .int .i64 2] 59)
  have f19 : Fr0 none' W18 W19 := by rw [← hW19]; exact (Fr0.refl _ _).alloc _
  rw [hW19] at hx
  have U := Lib.hid (U.out.later f19)
  have S := Lib.hid (S.out.later f19)
  obtain ⟨ua', uc', hu1, hu2⟩ := U.out.row
  cases hu1
  have HC := ports_any _ _ 2 2 xc 2 _ _ W19 rfl rfl (by omega) (by omega) hu2 (PtsIn.two hx)
  rw [show decide ((([⟨6, [97], 2⟩, ⟨7, [98], 2⟩] : List Pt)) = ([⟨6, [97], 2⟩, ⟨7, [98], 2⟩] : List Pt)) = true by simp] at HC
  clear f19 hx hu2 U
  refine Calls.mono (show Calls Tryz.prog 29 _ _ _ from hW19 ▸ HC) ?_
  rintro e W20 ⟨rfl, hf⟩
  rw [hW19] at hf
  have S := Lib.hid (S.out.later hf)
  clear HC hf hW19
  go_wp2
  go_ret
  exact ⟨rfl, S.out.fr⟩
end Go.Proofs.YtkchpngkmchamaaGreat

/-
  Made.
-/
namespace Go.Proofs.YtkchpngkmchamaaGreat
open Go.RowKit Go.Maps
attribute [local go_sem ↓] Go.wp_at_zero Go.wp_at_succ
attribute [local go_sem high] run_neq_pt

structure Sm3 where
  kind : Int
  name : Nat
  process : Int
def Sm3.ok (x : Sm3) : Prop := (0 ≤ x.kind ∧ x.kind < 256) ∧ x.name < 65536 ∧ (0 ≤ x.process ∧ x.process < 256)
/-- A row of small numbers behind a slice. -/
def SmallsAt (w : World) (v : Value) (xs : List Sm3) : Prop := ∃ a cap, v = .slice a xs.length cap ∧ xs.length ≤ cap ∧ ∀ j x, xs[j]? = some x → x.ok ∧ ∃ g o, a = some ⟨g, o, none⟩ ∧ w.cell? ⟨g, o + j * 3, none⟩ = some (.int .u8 x.kind) ∧ w.cell? ⟨g, o + j * 3 + 1, none⟩ = some (.int .u16 (x.name : Int)) ∧ w.cell? ⟨g, o + j * 3 + 2, none⟩ = some (.int .u8 x.process)

theorem any_hasN (L : List Pt) (s : Bs) : L.any (hasN s) = (nameP L s).isSome := by
  rw [Bool.eq_iff_iff, List.any_eq_true]
  unfold nameP hasN
  rw [List.find?_isSome]
theorem any_otherN {lim nx : Int} {L : List Pt} (h : SpOK lim nx L) (s : Bs) {p : Pt} (hp : p ∈ L) : L.any (otherN s p) = decide ((nameP L s).isSome = true ∧ ¬ p.name = s) := by
  rw [Bool.eq_iff_iff, List.any_eq_true, decide_eq_true_iff, ← namesP_has]
  constructor
  · rintro ⟨q, hq, hs⟩
    unfold otherN samePt at hs
    simp only [Bool.and_eq_true, beq_iff_eq, Bool.not_eq_true', decide_eq_false_iff_not] at hs
    refine ⟨(namesP_mem L s).2 ⟨q, hq, hs.1⟩, fun e => hs.2 (h.name_inj hq hp (hs.1.trans e.symm))⟩
  · rintro ⟨hm, hne⟩
    obtain ⟨q, hq, rfl⟩ := (namesP_mem L s).1 hm
    refine ⟨q, hq, ?_⟩
    unfold otherN samePt
    simp only [Bool.and_eq_true, beq_self_eq_true, true_and, Bool.not_eq_true', decide_eq_false_iff_not]
    rintro rfl
    exact hne rfl
/-- What holds of the space of Made after k acts. -/
structure Good (k : Nat) (nx : Int) (L : List Pt) : Prop where
  lo : 50 ≤ nx
  hi : nx ≤ 50 + k
  num : ∀ p ∈ L, 50 ≤ p.number
  nm : ∀ p ∈ L, ∃ y, p.name = madeB y
theorem Good.nil : Good 0 50 [] := ⟨by omega, by omega, (fun p hp => by cases hp), fun p hp => by cases hp⟩
theorem Good.open' {k : Nat} {nx : Int} {L : List Pt} (h : Good k nx L) (s : Bs) (p : Int) (hs : ∃ y, s = madeB y) : Good (k + 1) (openX 10 nx L s p) (openL 10 nx L s p) := by
  have h1 := h.lo
  have h2 := h.hi
  unfold openX openL
  split
  · refine ⟨by omega, by omega, fun q hq => ?_, fun q hq => ?_⟩
    · rcases List.mem_append.1 hq with hq | hq
      · exact h.num q hq
      · rw [List.mem_singleton.1 hq]; exact h1
    · rcases List.mem_append.1 hq with hq | hq
      · exact h.nm q hq
      · rw [List.mem_singleton.1 hq]; exact hs
  · exact ⟨h1, by omega, h.num, h.nm⟩
theorem Good.del {k : Nat} {nx : Int} {L : List Pt} (h : Good k nx L) (n : Int) : Good (k + 1) nx (delP L n) :=
  ⟨h.lo, by have := h.hi; omega, fun q hq => h.num q (delP_mem.1 hq).1, fun q hq => h.nm q (delP_mem.1 hq).1⟩
theorem Good.ren {k : Nat} {nx : Int} {L : List Pt} (h : Good k nx L) (n : Int) (s : Bs) (hs : ∃ y, s = madeB y) : Good (k + 1) nx (renL L n s) := by
  refine ⟨h.lo, by have := h.hi; omega, ?_, ?_⟩
  · unfold renL
    split
    · intro q hq
      rcases renP_mem.1 hq with hq | ⟨x, hx, _, rfl⟩
      · exact h.num q hq.1
      · exact h.num x hx
    · exact h.num
  · unfold renL
    split
    · intro q hq
      rcases renP_mem.1 hq with hq | ⟨x, hx, _, rfl⟩
      · exact h.nm q hq.1
      · exact hs
    · exact h.nm

set_option maxRecDepth 100000 in
set_option maxHeartbeats 4000000 in
theorem smade_any {w : World} {u : Value} {xs : List Sm3} (hu : SmallsAt w u xs) :
    Calls Tryz.prog 7 #[u] w fun e w' => ∃ sb mb nv nx L, e = .returned (.tuple #[.pointer (some ⟨sb, 0, none⟩), .bool true]) ∧ SpSt w w' sb mb nv 10 nx L [] ∧ Good 50 nx L := by
  obtain ⟨a, cap, rfl, hcap, hc⟩ := hu
  obtain ⟨n, hn⟩ : ∃ n, xs.length = n := ⟨_, rfl⟩
  rw [hn] at hcap ⊢
  have Hn := Lib.hid hn
  have Hc := Lib.hid hc
  clear hn hc
  go_enter Tryz.func7, Tryz.ntmps7
  go_wp2_with fail
  refine (new_st 10 50 w (by omega) (by omega)).mono ?_
  rintro e W0 ⟨sb, mb, rfl, hS⟩
  have S0 := Lib.hid hS
  clear hS
  have q1 : (0 : Int) ≤ ↑(min n 50) := by omega
  have q2 : ((min n 50 : Nat) : Int) ≤ ↑cap := by omega
  obtain ⟨m, hm⟩ : ∃ m : Nat, min (n : Int) 50 = m := ⟨(min (n : Int) 50).toNat, by omega⟩
  have hmn : m ≤ n := by omega
  have hm50 : m ≤ 50 := by omega
  go_wp2_with fail
  clear hm q1 q2
  go_loopw [35] (fun i wr => ∃ (k : Nat) (nv : Value) (nx : Int) (L : List Pt), k ≤ m ∧ i = .int .i64 k ∧ Hid (SpSt w wr sb mb nv 10 nx L []) ∧ Hid (Good k nx L)) (fun i _ => m - (Go.RowKit.intOf i).toNat)
  case atStart => exact ⟨0, _, _, _, Nat.zero_le _, rfl, S0, Lib.hid Good.nil⟩
  case round =>
    obtain ⟨k, nv, nx, L, hk, rfl, S1, G⟩ := hrel
    clear S0
    by_cases hlt : k < m
    · obtain ⟨x, hx⟩ : ∃ x, xs[k]? = some x := ⟨_, List.getElem?_eq_getElem (by rw [Hn.out]; omega)⟩
      obtain ⟨hok, g, o, rfl, c0, c1, c2⟩ := Hc.out k x hx
      replace c0 := S1.out.fr.later c0
      replace c1 := S1.out.fr.later c1
      replace c2 := S1.out.fr.later c2
      obtain ⟨⟨h0, h0'⟩, h1, ⟨h2, h2'⟩⟩ := hok
      obtain ⟨y0, y1, y2⟩ := x
      simp only at c0 c1 c2 h0 h0' h1 h2 h2'
      have p1 : (0 : Int) ≤ (k : Int) := by omega
      have p2 : (k : Int) < (m : Int) := by omega
      clear hx
      obtain ⟨W1, hW1⟩ : ∃ W, wr.alloc (.cells #[.int .u8 y0, .int .u16 (y1 : Int), .int .u8 y2] 72) = W := ⟨_, rfl⟩
      obtain ⟨X, hX⟩ : ∃ X, wr.heap.size = X := ⟨_, rfl⟩
      have S2 := Lib.hid (show SpSt w W1 sb mb nv 10 nx L [(X, .cells #[.int .u8 y0, .int .u16 (y1 : Int), .int .u8 y2] 72 (0, 0))] from hW1 ▸ hX ▸ S1.out.alloc _)
      have x1 := cells_in (S2.out.ex _ (List.mem_cons_self ..)).1 1
      simp at x1
      go_wp2_with fail
      obtain ⟨s, hs⟩ : ∃ s, madeB y1 = s := ⟨_, rfl⟩
      have hM := Made_any y1 W1 h1
      rw [hs] at hM
      have Hsr := Lib.hid (show rightB s = true from hs ▸ madeB_right y1)
      have Hsl := Lib.hid (show s.length ≤ 20 from hs ▸ madeB_len y1)
      have Hsm := Lib.hid (show ∃ y, s = madeB y from ⟨y1, hs.symm⟩)
      refine hM.mono ?_
      rintro e W2 ⟨rfl, hbe⟩
      have S3 := Lib.hid (S2.out.later (below_to0 hbe))
      obtain ⟨W3, hW3⟩ : ∃ W, W2.alloc (.cells #[.string (bs s)] 9) = W := ⟨_, rfl⟩
      obtain ⟨NB, hNB⟩ : ∃ X, W2.heap.size = X := ⟨_, rfl⟩
      have S3 := Lib.hid (show SpSt w W3 sb mb nv 10 nx L ((NB, .cells #[.string (bs s)] 9 (0, 0)) :: _) from hW3 ▸ hNB ▸ S3.out.alloc _)
      clear hM hbe hs c0 c1 c2 x1
      go_wp2_with fail
      refine (all_st S3.out).mono ?_
      rintro e W4 ⟨u, rfl, hu, hf⟩
      obtain ⟨a, cap', rfl, hin⟩ := hu.row
      have S4 := Lib.hid (S3.out.later hf)
      have U := Lib.hid hin
      have hL10 := S4.out.is.ok.len
      obtain ⟨l, hl⟩ : ∃ l, L.length = l := ⟨_, rfl⟩
      have Hm := Lib.hid hl
      rw [hl] at hL10 ⊢
      have z0 := cells_in (S4.out.ex _ (List.mem_cons_self ..)).1 0
      have xx := (S4.out.ex _ (List.mem_cons_of_mem _ (List.mem_cons_self ..))).1
      have x0 := cells_in xx 0
      have x1 := cells_in xx 1
      have x2 := cells_in xx 2
      simp at z0 x0 x1 x2
      clear xx hu hf hW1 hX hW3 hNB hl hin S1 S2 S3
      obtain ⟨r, hr⟩ : ∃ r, y0 % 6 = r := ⟨_, rfl⟩
      have r0 : 0 ≤ r := by omega
      have r6 : r < 6 := by omega
      obtain ⟨t, ht⟩ : ∃ t, y2 % 16 = t := ⟨_, rfl⟩
      have t0 : 0 ≤ t := by omega
      have t16 : t < 16 := by omega
      by_cases hr4 : r < 4
      · skip
        have U2 := U
        have R2 := Hm
        go_wp2_with fail
        refine (containsP_any a l cap' L W4 Hm.out (by omega) U.out 33 #[.pointer (some ⟨NB, 0, none⟩)] (hasN s) (enters_of Tryz.func33 (by kernel_rfl) rfl) (hasN_below W4 NB s z0)).mono ?_
        rw [any_hasN]
        rintro e W5 ⟨rfl, hf⟩
        have S5 := Lib.hid (S4.out.later hf)
        have z0 := hf.later z0
        have x0 := hf.later x0
        have x1 := hf.later x1
        have x2 := hf.later x2
        clear hf U U2 R2
        have hr1 := Hsr.out
        have g1 := G.out.lo
        have g2 := G.out.hi
        obtain ⟨b, hb⟩ : ∃ b, (nameP L s).isSome = b := ⟨_, rfl⟩
        rw [hb]
        cases b
        · by_cases hten : l = 10
          · first
            | exact absurd hten (by decide)
            | skip
              have hE : openE 10 nx L s (1 + t) = 5 := by
                unfold openE
                rw [if_neg (by rw [hr1]; simp), if_neg (by omega), if_neg (by rw [hb]; simp), Hm.out, if_pos (by omega)]
              clear hb
              go_wp2_with fail
              have HC := open_st S5.out s (by have := Hsl.out; omega) (1 + t)
              have HG := Lib.hid (G.out.open' s (1 + t) Hsm.out)
              rw [show openE 10 nx L s (1 + t) = 5 from hE] at HC
              rw [show openN 10 nx L s (1 + t) = 0 by unfold openN; rw [hE]; rfl] at HC
              refine HC.mono ?_
              rintro e W6 ⟨rfl, nv', hS, -⟩
              have S6 := Lib.hid hS
              clear HC hS S5 z0 x0 x1 x2
              clear hE
              go_wp2
              go_roundw
              case rel => exact ⟨k + 1, _, _, _, by omega, by go_num, Lib.hid (S6.out.less (fun x hx => by cases hx)), Lib.hid HG.out⟩
              case measure => simp [Go.RowKit.intOf]; omega
          · have hE : openE 10 nx L s (1 + t) = 0 := by
              unfold openE
              rw [if_neg (by rw [hr1]; simp), if_neg (by omega), if_neg (by rw [hb]; simp), Hm.out, if_neg (by omega), if_neg (by omega)]
            have hX : openX 10 nx L s (1 + t) = nx + 1 := by unfold openX; rw [hE]; rfl
            have hw1 : IntKind.i64.wrap (nx + 1 - 1) = nx := by rw [IntWalk.i64_in _ (by omega)]; omega
            have hten2 : ((l : Nat) : Int) < 10 := by omega
            clear hb
            go_wp2_with fail
            have HC := open_st S5.out s (by have := Hsl.out; omega) (1 + t)
            have HG := Lib.hid (G.out.open' s (1 + t) Hsm.out)
            rw [show openE 10 nx L s (1 + t) = 0 from hE] at HC
            rw [show openN 10 nx L s (1 + t) = nx by unfold openN; rw [hE]; rfl] at HC
            refine HC.mono ?_
            rintro e W6 ⟨rfl, nv', hS, -⟩
            have S6 := Lib.hid hS
            clear HC hS S5 z0 x0 x1 x2
            clear hE
            go_wp2_with fail
            have HN := SNext_is S6.out.is
            rw [hX] at HN
            refine HN.mono ?_
            rintro e W7 ⟨rfl, rfl⟩
            clear HN
            go_wp2
            go_roundw
            case rel => exact ⟨k + 1, _, _, _, by omega, by go_num, Lib.hid (S6.out.less (fun x hx => by cases hx)), Lib.hid HG.out⟩
            case measure => simp [Go.RowKit.intOf]; omega
        · have hE : openE 10 nx L s (1 + t) = 240 := by
            unfold openE
            rw [if_neg (by rw [hr1]; simp), if_neg (by omega), if_pos hb]
          clear hb
          go_wp2_with fail
          have HC := open_st S5.out s (by have := Hsl.out; omega) (1 + t)
          have HG := Lib.hid (G.out.open' s (1 + t) Hsm.out)
          rw [show openE 10 nx L s (1 + t) = 240 from hE] at HC
          rw [show openN 10 nx L s (1 + t) = 0 by unfold openN; rw [hE]; rfl] at HC
          refine HC.mono ?_
          rintro e W6 ⟨rfl, nv', hS, -⟩
          have S6 := Lib.hid hS
          clear HC hS S5 z0 x0 x1 x2
          clear hE
          go_wp2
          go_roundw
          case rel => exact ⟨k + 1, _, _, _, by omega, by go_num, Lib.hid (S6.out.less (fun x hx => by cases hx)), Lib.hid HG.out⟩
          case measure => simp [Go.RowKit.intOf]; omega
      · by_cases hl0 : l = 0
        · subst hl0
          have U2 := U
          have R2 := Hm
          go_wp2_with fail
          refine (containsP_any a 0 cap' L W4 Hm.out (by omega) U.out 33 #[.pointer (some ⟨NB, 0, none⟩)] (hasN s) (enters_of Tryz.func33 (by kernel_rfl) rfl) (hasN_below W4 NB s z0)).mono ?_
          rw [any_hasN]
          rintro e W5 ⟨rfl, hf⟩
          have S5 := Lib.hid (S4.out.later hf)
          have z0 := hf.later z0
          have x0 := hf.later x0
          have x1 := hf.later x1
          have x2 := hf.later x2
          clear hf U U2 R2
          have hr1 := Hsr.out
          have g1 := G.out.lo
          have g2 := G.out.hi
          obtain ⟨b, hb⟩ : ∃ b, (nameP L s).isSome = b := ⟨_, rfl⟩
          rw [hb]
          cases b
          · by_cases hten : 0 = 10
            · first
              | exact absurd hten (by decide)
              | skip
                have hE : openE 10 nx L s (1 + t) = 5 := by
                  unfold openE
                  rw [if_neg (by rw [hr1]; simp), if_neg (by omega), if_neg (by rw [hb]; simp), Hm.out, if_pos (by omega)]
                clear hb
                go_wp2_with fail
                have HC := open_st S5.out s (by have := Hsl.out; omega) (1 + t)
                have HG := Lib.hid (G.out.open' s (1 + t) Hsm.out)
                rw [show openE 10 nx L s (1 + t) = 5 from hE] at HC
                rw [show openN 10 nx L s (1 + t) = 0 by unfold openN; rw [hE]; rfl] at HC
                refine HC.mono ?_
                rintro e W6 ⟨rfl, nv', hS, -⟩
                have S6 := Lib.hid hS
                clear HC hS S5 z0 x0 x1 x2
                clear hE
                go_wp2
                go_roundw
                case rel => exact ⟨k + 1, _, _, _, by omega, by go_num, Lib.hid (S6.out.less (fun x hx => by cases hx)), Lib.hid HG.out⟩
                case measure => simp [Go.RowKit.intOf]; omega
            · have hE : openE 10 nx L s (1 + t) = 0 := by
                unfold openE
                rw [if_neg (by rw [hr1]; simp), if_neg (by omega), if_neg (by rw [hb]; simp), Hm.out, if_neg (by omega), if_neg (by omega)]
              have hX : openX 10 nx L s (1 + t) = nx + 1 := by unfold openX; rw [hE]; rfl
              have hw1 : IntKind.i64.wrap (nx + 1 - 1) = nx := by rw [IntWalk.i64_in _ (by omega)]; omega
              have hten2 : ((0 : Nat) : Int) < 10 := by omega
              clear hb
              go_wp2_with fail
              have HC := open_st S5.out s (by have := Hsl.out; omega) (1 + t)
              have HG := Lib.hid (G.out.open' s (1 + t) Hsm.out)
              rw [show openE 10 nx L s (1 + t) = 0 from hE] at HC
              rw [show openN 10 nx L s (1 + t) = nx by unfold openN; rw [hE]; rfl] at HC
              refine HC.mono ?_
              rintro e W6 ⟨rfl, nv', hS, -⟩
              have S6 := Lib.hid hS
              clear HC hS S5 z0 x0 x1 x2
              clear hE
              go_wp2_with fail
              have HN := SNext_is S6.out.is
              rw [hX] at HN
              refine HN.mono ?_
              rintro e W7 ⟨rfl, rfl⟩
              clear HN
              go_wp2
              go_roundw
              case rel => exact ⟨k + 1, _, _, _, by omega, by go_num, Lib.hid (S6.out.less (fun x hx => by cases hx)), Lib.hid HG.out⟩
              case measure => simp [Go.RowKit.intOf]; omega
          · have hE : openE 10 nx L s (1 + t) = 240 := by
              unfold openE
              rw [if_neg (by rw [hr1]; simp), if_neg (by omega), if_pos hb]
            clear hb
            go_wp2_with fail
            have HC := open_st S5.out s (by have := Hsl.out; omega) (1 + t)
            have HG := Lib.hid (G.out.open' s (1 + t) Hsm.out)
            rw [show openE 10 nx L s (1 + t) = 240 from hE] at HC
            rw [show openN 10 nx L s (1 + t) = 0 by unfold openN; rw [hE]; rfl] at HC
            refine HC.mono ?_
            rintro e W6 ⟨rfl, nv', hS, -⟩
            have S6 := Lib.hid hS
            clear HC hS S5 z0 x0 x1 x2
            clear hE
            go_wp2
            go_roundw
            case rel => exact ⟨k + 1, _, _, _, by omega, by go_num, Lib.hid (S6.out.less (fun x hx => by cases hx)), Lib.hid HG.out⟩
            case measure => simp [Go.RowKit.intOf]; omega
        · skip
          obtain ⟨q, hq⟩ : ∃ q : Nat, y2 % (l : Int) = q := ⟨(y2 % (l : Int)).toNat, by have := Int.emod_nonneg y2 (show (l : Int) ≠ 0 by omega); omega⟩
          have hql : (q : Int) < l := by rw [← hq]; exact Int.emod_lt_of_pos y2 (by omega)
          have hq0 : (0 : Int) ≤ q := by omega
          have hqi : IntKind.i64.wrap y2 = y2 := IntWalk.i64_in _ (by omega)
          obtain ⟨p, hp⟩ : ∃ p, L[q]? = some p := ⟨_, List.getElem?_eq_getElem (by rw [Hm.out]; omega)⟩
          obtain ⟨g, o, rfl, d0, d1, d2⟩ := U.out q p hp
          have hpL := Lib.hid (List.mem_of_getElem? hp)
          obtain ⟨pa, pb, pc⟩ := p
          simp only at d0 d1 d2
          obtain ⟨W5, hW5⟩ : ∃ W, W4.alloc (.cells #[.int .i64 pa, .string (bs pb), .int .i64 pc] 35) = W := ⟨_, rfl⟩
          obtain ⟨PB, hPB⟩ : ∃ X, W4.heap.size = X := ⟨_, rfl⟩
          have S5 := Lib.hid (show SpSt w W5 sb mb nv 10 nx L ((PB, .cells #[.int .i64 pa, .string (bs pb), .int .i64 pc] 35 (0, 0)) :: _) from hW5 ▸ hPB ▸ S4.out.alloc _)
          have U5 := Lib.hid (U.out.later (show Fr0 none' W4 W5 by rw [← hW5]; exact (Fr0.refl _ _).alloc _))
          have pp := (S5.out.ex _ (List.mem_cons_self ..)).1
          have z0 := cells_in (S5.out.ex _ (List.mem_cons_of_mem _ (List.mem_cons_self ..))).1 0
          have xx := (S5.out.ex _ (List.mem_cons_of_mem _ (List.mem_cons_of_mem _ (List.mem_cons_self ..)))).1
          have w0 := cells_in pp 0
          have w1 := cells_in pp 1
          have w2 := cells_in pp 2
          have u0 := cells_in xx 0
          have u1 := cells_in xx 1
          have u2 := cells_in xx 2
          simp at z0 u0 u1 u2 w0 w1 w2
          have hnum := S5.out.is.ok.lo _ hpL.out
          have hnx := S5.out.is.ok.nxt
          simp only at hnum
          clear xx pp hp
          by_cases hr5 : r = 4
          · skip
            subst hr5
            go_wp2_with fail
            have HC := close_st S5.out pa (by omega)
            have hat : atP L pa = some ⟨pa, pb, pc⟩ := (atP_some S5.out.is.ok.ord).2 ⟨hpL.out, rfl⟩
            rw [show getP L pa = ⟨pa, pb, pc⟩ by unfold getP; rw [hat]; rfl, show getE L pa = 0 by unfold getE; rw [hat]; rfl] at HC
            have HG := Lib.hid (G.out.del pa)
            clear hat
            refine HC.mono ?_
            rintro e W6 ⟨rfl, nv', hS, -⟩
            simp only [ptV]
            obtain ⟨W7, hW7⟩ : ∃ W, W6.alloc (.cells #[.int .i64 pa, .string (bs pb), .int .i64 pc] 35) = W := ⟨_, rfl⟩
            obtain ⟨QB, hQB⟩ : ∃ X, W6.heap.size = X := ⟨_, rfl⟩
            have S7 := Lib.hid (show SpSt w W7 sb mb nv' 10 nx _ ((QB, .cells #[.int .i64 pa, .string (bs pb), .int .i64 pc] 35 (0, 0)) :: _) from hW7 ▸ hQB ▸ hS.alloc _)
            clear HC hS S5 z0 x0 x1 x2 w0 w1 w2 u0 u1 u2 d0 d1 d2
            have pp := (S7.out.ex _ (List.mem_cons_self ..)).1
            have qq := (S7.out.ex _ (List.mem_cons_of_mem _ (List.mem_cons_self ..))).1
            have w0 := cells_in pp 0
            have w1 := cells_in pp 1
            have w2 := cells_in pp 2
            have v0 := cells_in qq 0
            have v1 := cells_in qq 1
            have v2 := cells_in qq 2
            simp at w0 w1 w2 v0 v1 v2
            clear pp qq
            go_wp2
            go_roundw
            case rel => exact ⟨k + 1, _, _, _, by omega, by go_num, Lib.hid (S7.out.less (fun x hx => by cases hx)), Lib.hid HG.out⟩
            case measure => simp [Go.RowKit.intOf]; omega
          · obtain rfl : r = 5 := by omega
            go_wp2_with fail
            refine (containsP_any (some ⟨g, o, none⟩) l cap' L W5 Hm.out (by omega) U5.out 34 #[.pointer (some ⟨NB, 0, none⟩), .pointer (some ⟨PB, 0, none⟩)] (otherN s ⟨pa, pb, pc⟩) (enters_of Tryz.func34 (by kernel_rfl) rfl) (otherN_below W5 NB PB s ⟨pa, pb, pc⟩ z0 ⟨w0, w1, w2⟩)).mono ?_
            rw [any_otherN S5.out.is.ok s hpL.out]
            rintro e W6 ⟨rfl, hf⟩
            have S6 := Lib.hid (S5.out.later hf)
            have z0 := hf.later z0
            have w0 := hf.later w0
            have w1 := hf.later w1
            have w2 := hf.later w2
            clear hf U5 S5 d0 d1 d2 u0 u1 u2
            have hat : atP L pa = some ⟨pa, pb, pc⟩ := (atP_some S6.out.is.ok.ord).2 ⟨hpL.out, rfl⟩
            have hs0 : (bs []).toList = [] := by rw [Lib.toList_data]; rfl
            obtain ⟨b, hb⟩ : ∃ b, decide ((nameP L s).isSome = true ∧ ¬ pb = s) = b := ⟨_, rfl⟩
            simp only
            rw [hb]
            cases b
            · have hE : renE L pa s = 0 := by
                unfold renE
                rw [hat]
                simp only
                rw [if_neg (by rw [Hsr.out]; simp), if_neg (of_decide_eq_false hb)]
              go_wp2_with fail
              have HC := rename_st S6.out pa (by omega) s (by have := Hsl.out; omega)
              have HG := Lib.hid (G.out.ren pa s Hsm.out)
              rw [show renT L pa s = pb by unfold renT getP; rw [hE, hat]; rfl, hE] at HC
              clear hat hE hb
              refine HC.mono ?_
              rintro e W7 ⟨rfl, nv', hS, -⟩
              have S7 := Lib.hid hS
              have qq := (S7.out.ex _ (List.mem_cons_self ..)).1
              clear HC hS S6 z0 x0 x1 x2 w0 w1 w2
              have w1 := cells_in qq 1
              simp at w1
              clear qq
              go_wp2
              go_roundw
              case rel => exact ⟨k + 1, _, _, _, by omega, by go_num, Lib.hid (S7.out.less (fun x hx => by cases hx)), Lib.hid HG.out⟩
              case measure => simp [Go.RowKit.intOf]; omega
            · have hE : renE L pa s = 240 := by
                unfold renE
                rw [hat]
                simp only
                rw [if_neg (by rw [Hsr.out]; simp), if_pos (of_decide_eq_true hb)]
              go_wp2_with fail
              have HC := rename_st S6.out pa (by omega) s (by have := Hsl.out; omega)
              have HG := Lib.hid (G.out.ren pa s Hsm.out)
              rw [show renT L pa s = [] by unfold renT getP; rw [hE, hat]; rfl, hE] at HC
              clear hat hE hb
              refine HC.mono ?_
              rintro e W7 ⟨rfl, nv', hS, -⟩
              have S7 := Lib.hid hS
              have qq := (S7.out.ex _ (List.mem_cons_self ..)).1
              clear HC hS S6 z0 x0 x1 x2 w0 w1 w2
              have w1 := cells_in qq 1
              simp at w1
              clear qq
              go_wp2
              go_roundw
              case rel => exact ⟨k + 1, _, _, _, by omega, by go_num, Lib.hid (S7.out.less (fun x hx => by cases hx)), Lib.hid HG.out⟩
              case measure => simp [Go.RowKit.intOf]; omega
    · have hkm : k = m := by omega
      subst hkm
      go_wp2
      go_ret2
      exact ⟨sb, mb, nv, nx, L, rfl, S1.out, ⟨G.out.lo, by have := G.out.hi; omega, G.out.num, G.out.nm⟩⟩

theorem SmallsAt.later {w w' : World} {v : Value} {xs : List Sm3} (h : SmallsAt w v xs) (hf : Fr0 none' w w') : SmallsAt w' v xs := by
  obtain ⟨a, cap, rfl, hcap, hc⟩ := h
  refine ⟨a, cap, rfl, hcap, fun j x hx => ?_⟩
  obtain ⟨hok, g, o, e, c0, c1, c2⟩ := hc j x hx
  exact ⟨hok, g, o, e, hf.later c0, hf.later c1, hf.later c2⟩
theorem SpSt.base {w w0 w1 : World} {sb mb : Nat} {nv : Value} {lim nx : Int} {L : List Pt} {E : List (Nat × Obj)} (h : SpSt w0 w1 sb mb nv lim nx L E) (hf : Fr0 none' w w0) : SpSt w w1 sb mb nv lim nx L E :=
  ⟨h.is, hf.trans h.fr, fun k hk => Nat.le_trans hf.size (h.new k hk), h.ex⟩

/-- The five strings that are no names. -/
def badB (i : Nat) : Bs := [[], [65], [97, 46], [97, 46, 46, 98], [45]].getD i []
theorem badB_wrong : ∀ i, i < 5 → rightB (badB i) = false ∧ (badB i).length ≤ 20 := by decide
theorem bad_cell {w : World} {b i : Nat} {t : TypeId} (hi : i < 5)
    (h : w.heap[b]? = some (.cells #[.string (bs []), .string (bs [65]), .string (bs [97, 46]), .string (bs [97, 46, 46, 98]), .string (bs [45])] t (0, 0))) : w.cell? ⟨b, i, none⟩ = some (.string (bs (badB i))) := by
  rw [cells_in h]
  match i, hi with
  | 0, _ => rfl
  | 1, _ => rfl
  | 2, _ => rfl
  | 3, _ => rfl
  | 4, _ => rfl
theorem two_cell {w : World} {b k : Nat} {t : TypeId} {x y : Int} (hk : k < 2) (h : w.heap[b]? = some (.cells #[.int .i64 x, .int .i64 y] t (0, 0))) : ∃ v, (v = x ∨ v = y) ∧ w.cell? ⟨b, k, none⟩ = some (.int .i64 v) := by
  match k, hk with
  | 0, _ => exact ⟨x, .inl rfl, by rw [cells_in h]; rfl⟩
  | 1, _ => exact ⟨y, .inr rfl, by rw [cells_in h]; rfl⟩
theorem openE_bad {lim nx : Int} {L : List Pt} {s : Bs} {p : Int} (h : rightB s = false) : openE lim nx L s p = 40 := by unfold openE; rw [if_pos h]
theorem openE_arg {lim nx : Int} {L : List Pt} {s : Bs} {p : Int} (h : rightB s = true) (hp : p < 1 ∨ 16 < p) : openE lim nx L s p = 2 := by unfold openE; rw [if_neg (by simp [h]), if_pos hp]
theorem openL_not {lim nx : Int} {L : List Pt} {s : Bs} {p : Int} (h : openE lim nx L s p ≠ 0) : openL lim nx L s p = L ∧ openX lim nx L s p = nx ∧ openN lim nx L s p = 0 := ⟨if_neg h, if_neg h, if_neg h⟩
theorem renL_not {L : List Pt} {n : Int} {s : Bs} (h : renE L n s ≠ 0) : renL L n s = L ∧ renT L n s = [] := ⟨if_neg h, if_neg h⟩
theorem of_none {lim nx : Int} {L : List Pt} (h : SpOK lim nx L) {p : Int} (hp : p < 1 ∨ 16 < p) : L.filter (fun q => q.process == p) = [] :=
  List.filter_eq_nil_iff.2 (fun q hq e => by have := h.proc q hq; simp at e; omega)
theorem at_none {lim nx : Int} {L : List Pt} {k : Nat} (h : SpOK lim nx L) (g : Good k nx L) {n : Int} (hn : n ≤ 49 ∨ nx ≤ n) : atP L n = none :=
  atP_none.2 (fun q hq e => by have := h.lo q hq; have := g.num q hq; omega)
end Go.Proofs.YtkchpngkmchamaaGreat

/-
  A slice of small numbers among the arguments; the row's post, the arguments read from below.
-/
namespace Go.Proofs.YtkchpngkmchamaaGreat
open Go.ChangeShapes Go.WideShapes Go.ChangeAt Go.RowKit Go.Deep Go.Joins

theorem post_below2 {H : Type} {enc : TypeId × Value → H} {P : Program} {f : Func} {s : ChangeSpec} {apart fresh handsOn : Bool} {W W' : World} {args : Array Value} {v : Value} {ds gs : List (DataW H)} {before pa pv : List MemPlace}
    (hW : DataW.Whole enc P f.params.toList s.vars apart W args.toList ds gs before)
    (hres : ∀ (b : Nat) (sp : Nat → Bool) (hd : Bool), DataW.TrodAll enc P W' b sp hd f.resultTypes.toList (v.resultList f.resultTypes.size) (s.fn H (ds ++ gs)).results [])
    (hargs : DataW.TrodAll enc P W' 0 (fun b => decide (b < W.heap.size)) true f.params.toList args.toList (s.fn H (ds ++ gs)).args pa)
    (hvars : ∀ sp : Nat → Bool, (∀ p ∈ before, sp p.block = true) → DataW.TrodVars enc P W' sp s.vars (s.fn H (ds ++ gs)).vars pv)
    (hb : Below W.heap.size W W') :
    s.post enc P f apart fresh handsOn false W args v W' := by
  have hold : ∀ p ∈ before, (fun b => decide (b < W.heap.size)) p.block = true := fun p hp => by simpa using hW.lt p hp
  exact ⟨ds, gs, before, [], pa, pv, hW, hres _ _ _, hargs, hvars _ hold, hb.frame _, fun h => by cases h⟩
theorem laid_own : laidOutB Tryz.prog = true := by kernel_rfl
theorem own_knob : ownKnob Tryz.prog.godebug = none := by kernel_rfl

theorem list_of {α : Type} {P : Nat → α → Prop} : ∀ n, (∀ i, i < n → ∃ x, P i x) → ∃ xs : List α, xs.length = n ∧ ∀ j x, xs[j]? = some x → P j x
  | 0, _ => ⟨[], rfl, fun j x h => by simp at h⟩
  | n + 1, h => by
    obtain ⟨xs, hl, hx⟩ := list_of n (fun i hi => h i (by omega))
    obtain ⟨x, hp⟩ := h n (by omega)
    refine ⟨xs ++ [x], by simp [hl], fun j y hj => ?_⟩
    rcases Nat.lt_or_ge j xs.length with hjl | hjl
    · rw [List.getElem?_append_left hjl] at hj; exact hx j y hj
    · rw [List.getElem?_append_right hjl] at hj
      have : j - xs.length = 0 := by
        rcases Nat.eq_zero_or_pos (j - xs.length) with h0 | h0
        · exact h0
        · rw [List.getElem?_eq_none (by simp; omega)] at hj; cases hj
      rw [this] at hj
      simp at hj
      subst hj
      rw [show j = n by omega]; exact hp
theorem small_fields {H : Type} {enc : TypeId × Value → H} {w : World} {n : Nat} {v : Value} {y : DataW H × List MemPlace} (h : DataW.trod enc Tryz.prog w 0 (fun _ => true) true n 5 [v] = some y) : ∃ a, v = .int .u8 a ∧ 0 ≤ a ∧ a < 256 := by
  obtain ⟨a, h1, _, hw⟩ := DataW.trod_int Tryz.underlying5 h
  injection h1 with h1 _
  have := bounds_u8 hw
  exact ⟨a, h1, this.1, by omega⟩

theorem small16 {H : Type} {enc : TypeId × Value → H} {w : World} {n : Nat} {v : Value} {y : DataW H × List MemPlace} (h : DataW.trod enc Tryz.prog w 0 (fun _ => true) true n 26 [v] = some y) : ∃ a : Nat, v = .int .u16 (a : Int) ∧ a < 65536 := by
  obtain ⟨a, h1, _, hw⟩ := DataW.trod_int Tryz.underlying26 h
  injection h1 with h1 _
  have := bounds_u16 hw
  exact ⟨a.toNat, by rw [h1]; congr 1; omega, by omega⟩

set_option maxRecDepth 100000 in
/-- A slice of small numbers, opened. -/
theorem smalls_arg {base : Nat} {H : Type} {enc : TypeId × Value → H} {W : World} {v : Value} {d : DataW H} {ps : List MemPlace}
    (hval : Value.okWide Tryz.prog W .any base 25 v) (h : DataW.Trod enc Tryz.prog W 0 (fun _ => true) true 25 v d ps) : ∃ xs, SmallsAt W v xs := by
  obtain ⟨A, n, cap, rfl⟩ := okWide_slice Tryz.underlying25 hval
  obtain ⟨fuel, hf⟩ := h
  rcases open_slice Tryz.underlying25 hf with ⟨hcs, _⟩ | ⟨a, len, cap', m, _, D, Pl, hcs, _, hl, hm, hz, _, hi⟩
  · simp [Value.cells] at hcs
    obtain ⟨rfl, rfl, rfl⟩ := hcs
    exact ⟨[], none, 0, rfl, Nat.le_refl _, fun j x hj => by simp at hj⟩
  · simp [Value.cells] at hcs
    obtain ⟨rfl, rfl, rfl⟩ := hcs
    have hmn : n ≤ m := by rw [hz]; split <;> omega
    have key : ∀ i, i < n → ∃ x : Sm3, x.ok ∧ ∃ g o, a = ⟨g, o, none⟩ ∧ W.cell? ⟨g, o + i * 3, none⟩ = some (.int .u8 x.kind) ∧ W.cell? ⟨g, o + i * 3 + 1, none⟩ = some (.int .u16 (x.name : Int)) ∧ W.cell? ⟨g, o + i * 3 + 2, none⟩ = some (.int .u8 x.process) := fun i hin => by
      obtain ⟨cs, hc, ht⟩ := hi i (by omega)
      rw [show Tryz.prog.cellsOf 72 = 3 by kernel_rfl] at hc
      obtain ⟨ys, k, _, _, _, hyl, hfl⟩ := DataW.trod_struct Tryz.underlying72 ht
      obtain ⟨_, hcl, hat⟩ := World.cells?_some hc
      have hone : Tryz.prog.cellsOf 5 = 1 := by kernel_rfl
      have hone2 : Tryz.prog.cellsOf 26 = 1 := by kernel_rfl
      match cs, hcl with
      | [v0, v1, v2], _ =>
      have c0 := hat 0 (by omega)
      have c1 := hat 1 (by omega)
      have c2 := hat 2 (by omega)
      have f0 : DataW.trod enc Tryz.prog W 0 (fun _ => true) true k 5 (([v0, v1, v2].drop 0).take (Tryz.prog.cellsOf 5)) = ys[0]? := hfl 0 _ rfl
      have f1 : DataW.trod enc Tryz.prog W 0 (fun _ => true) true k 26 (([v0, v1, v2].drop 1).take (Tryz.prog.cellsOf 26)) = ys[1]? := hfl 1 _ rfl
      have f2 : DataW.trod enc Tryz.prog W 0 (fun _ => true) true k 5 (([v0, v1, v2].drop 2).take (Tryz.prog.cellsOf 5)) = ys[2]? := hfl 2 _ rfl
      rw [hone] at f0 f2
      rw [hone2] at f1
      have yl : ys.length = 3 := hyl
      have t0 : DataW.trod enc Tryz.prog W 0 (fun _ => true) true k 5 [v0] = some (ys[0]'(by omega)) := f0.trans (List.getElem?_eq_getElem _)
      have t1 : DataW.trod enc Tryz.prog W 0 (fun _ => true) true k 26 [v1] = some (ys[1]'(by omega)) := f1.trans (List.getElem?_eq_getElem _)
      have t2 : DataW.trod enc Tryz.prog W 0 (fun _ => true) true k 5 [v2] = some (ys[2]'(by omega)) := f2.trans (List.getElem?_eq_getElem _)
      obtain ⟨a0, rfl, l0, m0⟩ := small_fields t0
      obtain ⟨a1, rfl, m1⟩ := small16 t1
      obtain ⟨a2, rfl, l2, m2⟩ := small_fields t2
      obtain ⟨cs', hc', _⟩ := hi 0 (by omega)
      rw [show Tryz.prog.cellsOf 72 = 3 by kernel_rfl] at hc'
      obtain ⟨_, hcl', hat'⟩ := World.cells?_some hc'
      have z0 := hat' 0 (by omega)
      rw [List.getElem?_eq_getElem (by omega)] at z0
      obtain ⟨b, off, spot⟩ := a
      have hspot : spot = none := by simpa [Addr.add] using World.cell?_spot z0
      subst hspot
      rw [Addr.add_mid, Addr.add_mid] at c0 c1 c2
      refine ⟨⟨a0, a1, a2⟩, ⟨⟨l0, m0⟩, m1, ⟨l2, m2⟩⟩, b, off, rfl, ?_, ?_, ?_⟩
      · exact c0
      · exact c1
      · exact c2
    obtain ⟨xs, hxl, hx⟩ := list_of n key
    subst hxl
    refine ⟨xs, some a, cap, rfl, by simpa using hl, fun j x hj => ?_⟩
    obtain ⟨hok, g, o, rfl, q0, q1, q2⟩ := hx j x hj
    exact ⟨hok, g, o, rfl, q0, q1, q2⟩
end Go.Proofs.YtkchpngkmchamaaGreat
