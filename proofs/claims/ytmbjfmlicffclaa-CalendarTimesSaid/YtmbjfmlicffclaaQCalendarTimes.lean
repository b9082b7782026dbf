/- CalendarTimes: the statement: for any input the law returns true, and the arguments read as before; no condition. -/
import Derived.Test.YtmbjfmlicffclaaJb1
import Derived.Test.YtmbjfmlicffclaaJb2
import Derived.Test.YtmbjfmlicffclaaJa
import Derived.WideKeyPair
set_option linter.unusedSimpArgs false
set_option linter.unusedVariables false

/-
  A slice of small acts among the arguments.
-/
namespace Go.Proofs.Ytmbjfmlicffclaa
open Go.ChangeShapes Go.WideShapes Go.ChangeAt Go.RowKit Go.Deep Go.Joins

set_option maxRecDepth 100000 in
theorem sm5_field {H : Type} {enc : TypeId × Value → H} {w : World} {n : Nat} {v0 v1 v2 v3 v4 : Value} {y : DataW H × List MemPlace} (h : DataW.trod enc Try.prog w 0 (fun _ => true) true n 74 [v0, v1, v2, v3, v4] = some y) : ∃ x : Sm5, x.ok ∧ v0 = .int .u8 x.t ∧ v1 = .int .u8 x.s ∧ v2 = .int .u8 x.q ∧ v3 = .int .u8 x.o ∧ v4 = .int .u8 x.l := by
 obtain ⟨ys, k, _, _, _, hyl, hfl⟩ := DataW.trod_struct Try.underlying74 h
 have hone : Try.prog.cellsOf 5 = 1 := by kernel_rfl
 have f0 : DataW.trod enc Try.prog w 0 (fun _ => true) true k 5 (([v0, v1, v2, v3, v4].drop 0).take (Try.prog.cellsOf 5)) = ys[0]? := hfl 0 _ rfl
 have f1 : DataW.trod enc Try.prog w 0 (fun _ => true) true k 5 (([v0, v1, v2, v3, v4].drop 1).take (Try.prog.cellsOf 5)) = ys[1]? := hfl 1 _ rfl
 have f2 : DataW.trod enc Try.prog w 0 (fun _ => true) true k 5 (([v0, v1, v2, v3, v4].drop 2).take (Try.prog.cellsOf 5)) = ys[2]? := hfl 2 _ rfl
 have f3 : DataW.trod enc Try.prog w 0 (fun _ => true) true k 5 (([v0, v1, v2, v3, v4].drop 3).take (Try.prog.cellsOf 5)) = ys[3]? := hfl 3 _ rfl
 have f4 : DataW.trod enc Try.prog w 0 (fun _ => true) true k 5 (([v0, v1, v2, v3, v4].drop 4).take (Try.prog.cellsOf 5)) = ys[4]? := hfl 4 _ rfl
 rw [hone] at f0 f1 f2 f3 f4
 have yl : ys.length = 5 := hyl
 have t0 : DataW.trod enc Try.prog w 0 (fun _ => true) true k 5 [v0] = some (ys[0]'(by omega)) := f0.trans (List.getElem?_eq_getElem _)
 have t1 : DataW.trod enc Try.prog w 0 (fun _ => true) true k 5 [v1] = some (ys[1]'(by omega)) := f1.trans (List.getElem?_eq_getElem _)
 have t2 : DataW.trod enc Try.prog w 0 (fun _ => true) true k 5 [v2] = some (ys[2]'(by omega)) := f2.trans (List.getElem?_eq_getElem _)
 have t3 : DataW.trod enc Try.prog w 0 (fun _ => true) true k 5 [v3] = some (ys[3]'(by omega)) := f3.trans (List.getElem?_eq_getElem _)
 have t4 : DataW.trod enc Try.prog w 0 (fun _ => true) true k 5 [v4] = some (ys[4]'(by omega)) := f4.trans (List.getElem?_eq_getElem _)
 obtain ⟨a0, rfl, l0, m0⟩ := smallC t0
 obtain ⟨a1, rfl, l1, m1⟩ := smallC t1
 obtain ⟨a2, rfl, l2, m2⟩ := smallC t2
 obtain ⟨a3, rfl, l3, m3⟩ := smallC t3
 obtain ⟨a4, rfl, l4, m4⟩ := smallC t4
 exact ⟨⟨a0, a1, a2, a3, a4⟩, ⟨⟨l0, m0⟩, ⟨l1, m1⟩, ⟨l2, m2⟩, ⟨l3, m3⟩, l4, m4⟩, rfl, rfl, rfl, rfl, rfl⟩
set_option maxRecDepth 100000 in
/-- A slice of small acts, opened. -/
theorem smcs_arg {base : Nat} {H : Type} {enc : TypeId × Value → H} {W : World} {v : Value} {d : DataW H} {ps : List MemPlace}
  (hval : Value.okWide Try.prog W .any base 37 v) (h : DataW.Trod enc Try.prog W 0 (fun _ => true) true 37 v d ps) : ∃ a n cap xs, v = .slice a n cap ∧ xs.length = n ∧ n ≤ cap ∧ SmcsIn W a xs := by
 obtain ⟨A, n, cap, rfl⟩ := okWide_slice Try.underlying37 hval
 obtain ⟨fuel, hf⟩ := h
 rcases open_slice Try.underlying37 hf with ⟨hcs, _⟩ | ⟨a, len, cap', m, _, D, Pl, hcs, _, hl, hm, hz, _, hi⟩
 ·simp [Value.cells] at hcs
  obtain ⟨rfl, rfl, rfl⟩ := hcs
  exact ⟨none, 0, 0, [], rfl, rfl, Nat.le_refl _, fun j x hj => by simp at hj⟩
 ·simp [Value.cells] at hcs
  obtain ⟨rfl, rfl, rfl⟩ := hcs
  have hmn : n ≤ m := by rw [hz]; split <;> omega
  have key : ∀ i, i < n → ∃ x : Smc, x.ok ∧ ∃ g o, a = ⟨g, o, none⟩ ∧ W.cell? ⟨g, o + i * 6, none⟩ = some (.int .u8 x.kind) ∧ W.cell? ⟨g, o + i * 6 + 1, none⟩ = some (.int .u8 x.x.t) ∧ W.cell? ⟨g, o + i * 6 + 2, none⟩ = some (.int .u8 x.x.s) ∧ W.cell? ⟨g, o + i * 6 + 3, none⟩ = some (.int .u8 x.x.q) ∧ W.cell? ⟨g, o + i * 6 + 4, none⟩ = some (.int .u8 x.x.o) ∧ W.cell? ⟨g, o + i * 6 + 5, none⟩ = some (.int .u8 x.x.l) := fun i hin => by
   obtain ⟨cs, hc, ht⟩ := hi i (by omega)
   rw [show Try.prog.cellsOf 85 = 6 by kernel_rfl] at hc
   obtain ⟨ys, k, _, _, _, hyl, hfl⟩ := DataW.trod_struct Try.underlying85 ht
   obtain ⟨_, hcl, hat⟩ := World.cells?_some hc
   have hone : Try.prog.cellsOf 5 = 1 := by kernel_rfl
   have hfive : Try.prog.cellsOf 74 = 5 := by kernel_rfl
   match cs, hcl with
   | [v0, v1, v2, v3, v4, v5], _ =>
   have c0 := hat 0 (by omega)
   have c1 := hat 1 (by omega)
   have c2 := hat 2 (by omega)
   have c3 := hat 3 (by omega)
   have c4 := hat 4 (by omega)
   have c5 := hat 5 (by omega)
   have f0 : DataW.trod enc Try.prog W 0 (fun _ => true) true k 5 (([v0, v1, v2, v3, v4, v5].drop 0).take (Try.prog.cellsOf 5)) = ys[0]? := hfl 0 _ rfl
   have f1 : DataW.trod enc Try.prog W 0 (fun _ => true) true k 74 (([v0, v1, v2, v3, v4, v5].drop 1).take (Try.prog.cellsOf 74)) = ys[1]? := hfl 1 _ rfl
   rw [hone] at f0
   rw [hfive] at f1
   have yl : ys.length = 2 := hyl
   have t0 : DataW.trod enc Try.prog W 0 (fun _ => true) true k 5 [v0] = some (ys[0]'(by omega)) := f0.trans (List.getElem?_eq_getElem _)
   have t1 : DataW.trod enc Try.prog W 0 (fun _ => true) true k 74 [v1, v2, v3, v4, v5] = some (ys[1]'(by omega)) := f1.trans (List.getElem?_eq_getElem _)
   obtain ⟨a0, rfl, l0, m0⟩ := smallC t0
   obtain ⟨x, hx, rfl, rfl, rfl, rfl, rfl⟩ := sm5_field t1
   obtain ⟨cs', hc', _⟩ := hi 0 (by omega)
   rw [show Try.prog.cellsOf 85 = 6 by kernel_rfl] at hc'
   obtain ⟨_, hcl', hat'⟩ := World.cells?_some hc'
   have z0 := hat' 0 (by omega)
   rw [List.getElem?_eq_getElem (by omega)] at z0
   obtain ⟨b, off, spot⟩ := a
   have hspot : spot = none := by simpa [Addr.add] using World.cell?_spot z0
   subst hspot
   rw [Addr.add_mid, Addr.add_mid] at c0 c1 c2 c3 c4 c5
   exact ⟨⟨a0, x⟩, ⟨⟨l0, m0⟩, hx⟩, b, off, rfl, c0, c1, c2, c3, c4, c5⟩
  obtain ⟨xs, hxl, hx⟩ := listC n key
  refine ⟨some a, n, cap, xs, rfl, hxl, by simpa using hl, fun j x hj => ?_⟩
  obtain ⟨hok, g, o, rfl, q0, q1, q2, q3, q4, q5⟩ := hx j x hj
  exact ⟨hok, g, o, rfl, q0, q1, q2, q3, q4, q5⟩
end Go.Proofs.Ytmbjfmlicffclaa

/-
  Maps from keys of any kind to integers; keys, events as keys.
-/
namespace Go.Proofs.Ytmbjfmlicffclaa
open Go Go.RowKit Go.Maps Go.ChangeMaps
open Go.WideElems (Fit)
open Go.WideMaps (KeyLaw ArrKey)

section
variable {κ : Type} {P : Program} {k t e : TypeId} {w w' : World} {b n : Nat} {kv : κ → Value} {c : κ → Option Int}
/-- The map has the keys that c has, each with its number; it has at most n. -/
def MgIs (P : Program) (k : TypeId) (kv : κ → Value) (w : World) (b n : Nat) (c : κ → Option Int) : Prop :=
 ∃ D : DataW Unit, w.ownsMap P k intR b n D ∧ ∀ (nm : κ) (kl : Lit), keyOf P k (kv nm) = some kl → Maps.has D kl = (c nm).isSome ∧ D.atKey kl (.lit (.int .i64 0)) = .lit (.int .i64 ((c nm).getD 0))
theorem MgIs.fr0 {S : Nat → Prop} (h : MgIs P k kv w b n c) (hf : Fr0 S w w') (hs : ¬ S b) : MgIs P k kv w' b n c := by
 obtain ⟨D, h1, h2⟩ := h
 refine ⟨D, ?_, h2⟩
 obtain ⟨es, clock, hb, r⟩ := h1
 exact ⟨es, clock, (hf.block b (Array.getElem?_eq_some_iff.1 hb).1 hs).trans hb, r⟩
theorem MgIs.later (h : MgIs P k kv w b n c) (hf : Fr0 none' w w') : MgIs P k kv w' b n c := h.fr0 hf (fun h => h)
theorem MgIs.lt (h : MgIs P k kv w b n c) : b < w.heap.size := by
 obtain ⟨D, h1, _⟩ := h
 exact h1.lt
theorem mg_made (w : World) : MgIs P k kv (w.alloc (.map #[] 0)) w.heap.size 0 (fun _ => none) :=
 ⟨.map [], World.ownsMap_made w P k intR, fun nm kl _ => ⟨rfl, rfl⟩⟩
theorem MgIs.look (h : MgIs P k kv w b n c) (K : KeyLaw P k) (ht : P.underlying t = some (.map k e)) (hz : (zeroValue e).run P w = .ok (.int .i64 0) w) {nm : κ} {kl : Lit} (hk : keyOf P k (kv nm) = some kl) :
  (Instr.lookup t (.map (some b)) (kv nm) true).run P w = .ok (.tuple #[.int .i64 ((c nm).getD 0), .bool (c nm).isSome]) w ∧ (Instr.lookup t (.map (some b)) (kv nm) false).run P w = .ok (.int .i64 ((c nm).getD 0)) w := by
 obtain ⟨D, h1, h2⟩ := h
 obtain ⟨ha, hb⟩ := h2 nm kl hk
 obtain ⟨v, ps, hr, hv⟩ := h1.look_ok (Keyed.of_law K) ht hz (show intR (.int .i64 0) = some (_, _) from rfl) hk
 obtain ⟨v', ps', hr', hv'⟩ := h1.lookup (Keyed.of_law K) ht hz (show intR (.int .i64 0) = some (_, _) from rfl) hk
 rw [hb] at hv hv'
 rw [intR_inv hv, ha] at hr
 rw [intR_inv hv'] at hr'
 exact ⟨hr, hr'⟩
theorem mg_put [DecidableEq κ] (hinj : ∀ a b : κ, kv a = kv b → a = b) {D : DataW Unit} (hD : Maps.Tidy D) (K : KeyLaw P k) (h2 : ∀ (nm : κ) (kl : Lit), keyOf P k (kv nm) = some kl → Maps.has D kl = (c nm).isSome ∧ D.atKey kl (.lit (.int .i64 0)) = .lit (.int .i64 ((c nm).getD 0)))
  {nm : κ} {kl : Lit} (hk : keyOf P k (kv nm) = some kl) (v : Int) (m : κ) (kl' : Lit) (hk' : keyOf P k (kv m) = some kl') :
  Maps.has (D.put kl (.lit (.int .i64 v))) kl' = ((if m = nm then some v else c m) : Option Int).isSome ∧ (D.put kl (.lit (.int .i64 v))).atKey kl' (.lit (.int .i64 0)) = .lit (.int .i64 (((if m = nm then some v else c m) : Option Int).getD 0)) := by
 by_cases hm : m = nm
 ·subst hm
  rw [hk] at hk'
  cases hk'
  simp only [if_pos rfl]
  exact ⟨Maps.has_put_same hD.isMap ((Keyed.of_law K).key hk) _, Maps.atKey_put_same hD.isMap ((Keyed.of_law K).key hk) _ _⟩
 ·have hne : kl' ≠ kl := fun e => by
   subst e
   exact hm (hinj _ _ (K.inj hk' hk))
  simp only [if_neg hm]
  rw [Maps.has_put_other hne, Maps.atKey_put_other hne]
  exact h2 m kl' hk'
/-- A key is written. -/
theorem MgIs.put [DecidableEq κ] (h : MgIs P k kv w b n c) (hinj : ∀ a b : κ, kv a = kv b → a = b) (K : KeyLaw P k) (ht : P.underlying t = some (.map k e)) (hn : n < maxLen) {nm : κ} {kl : Lit} (hk : keyOf P k (kv nm) = some kl) (v : Int) :
  ∃ w', (Instr.mapUpdate t (.map (some b)) (kv nm) (.int .i64 v)).run P w = .ok () w' ∧ MgIs P k kv w' b (n + 1) (fun m => if m = nm then some v else c m) ∧ Fr0 (fun g => g = b) w w' := by
 obtain ⟨D, ho, h3⟩ := h
 have hD := ho.tidy (Keyed.of_law K)
 obtain ⟨w', hr, ho', hm⟩ := ho.store (Keyed.of_law K) ht hn hk (show intR (.int .i64 v) = some (_, _) from rfl)
 have hg := hm.grown
 exact ⟨w', hr, ⟨_, ho', fun m kl' hk' => mg_put hinj hD K h3 hk v m kl' hk'⟩, ⟨hg.os, hg.tape, hg.output, hg.size, fun i hi hs => hg.block i hi (fun e => hs (Option.some.inj e))⟩⟩
/-- An entry is written, in its two steps. -/
theorem MgIs.up [DecidableEq κ] (h : MgIs P k kv w b n c) (hinj : ∀ a b : κ, kv a = kv b → a = b) (K : KeyLaw P k) (ht : P.underlying t = some (.map k e)) (hn : n < maxLen) (hz : ∀ u : World, (zeroValue e).run P u = .ok (.int .i64 0) u) {nm : κ} {kl : Lit} (hk : keyOf P k (kv nm) = some kl) :
  ∃ (o1 : Obj) (st : Int), (Instr.mapEntry t (.map (some b)) (kv nm)).run P w = .ok (.tuple #[.int .i64 ((c nm).getD 0), .int .i64 st]) (setBlock w b o1) ∧ (∀ w2 : World, w2.heap[b]? = some o1 → (Instr.lookup t (.map (some b)) (kv nm) false).run P w2 = .ok (.int .i64 ((c nm).getD 0)) w2) ∧
   ∀ v : Int, ∃ o2 : Obj, (∀ w2 : World, w2.heap[b]? = some o1 → (Instr.entryStore t (.map (some b)) (.int .i64 st) (.int .i64 v)).run P w2 = .ok () (setBlock w2 b o2)) ∧
    ∀ w3 : World, w3.heap[b]? = some o2 → MgIs P k kv w3 b (n + 1) (fun m => if m = nm then some v else c m) := by
 obtain ⟨D, h1, h2⟩ := h
 have hD := h1.tidy (Keyed.of_law K)
 obtain ⟨v0, o1, st, hr, ⟨ps', hv0⟩, hlk, hst⟩ := entry_up h1 K ht hn hz (show intR (.int .i64 0) = some (_, _) from rfl) hk
 rw [(h2 nm kl hk).2] at hv0
 obtain rfl := intR_inv hv0
 refine ⟨o1, st, hr, hlk, fun v => ?_⟩
 obtain ⟨o2, g1, g2⟩ := hst (.int .i64 v) (.lit (.int .i64 v)) [] rfl
 exact ⟨o2, g1, fun w3 hw3 => ⟨_, g2 w3 hw3, fun m kl' hk' => mg_put hinj hD K h2 hk v m kl' hk'⟩⟩
end
/-! ### Keys and events as keys -/
theorem laid_outM : laidOutB Try.prog = true := by kernel_rfl
theorem key_law : KeyLaw Try.prog 45 := deep_law_laid laid_outM (m := 2) (by omega) (of_decide_eq_true (by kernel_rfl)) (by kernel_rfl) (by rw [Try.underlying45])
/-- A number that a register holds. -/
def R64 (a : Int) : Prop := -9223372036854775808 ≤ a ∧ a ≤ 9223372036854775807
theorem wf_r64 {a : Int} (h : R64 a) : (Lit.int .i64 a).wf = true := by
 obtain ⟨h1, h2⟩ := h
 simp [Lit.wf, show IntKind.i64.min = -9223372036854775808 from by decide, show IntKind.i64.max = 9223372036854775807 from by decide]
 omega
theorem types_size2 : ∃ m, (Try.prog).types.size = m + 2 := ⟨(Try.prog).types.size - 2, by kernel_rfl⟩
def R64K (x : Key3) : Prop := R64 x.time ∧ R64 x.source ∧ R64 x.seq
theorem keyV_inj (a b : Key3) (h : keyV a = keyV b) : a = b := by
 unfold keyV at h
 simp only [Value.agg.injEq, Array.mk.injEq, List.cons.injEq, Value.int.injEq, true_and, and_true] at h
 obtain ⟨⟩ := a
 obtain ⟨⟩ := b
 simp_all
theorem key_key_is {x : Key3} (h : R64K x) : ∃ kl, keyOf Try.prog 45 (keyV x) = some kl := by
 have w1 := wf_r64 h.1
 have w2 := wf_r64 h.2.1
 have w3 := wf_r64 h.2.2
 refine ⟨.string (keyBytes [.int .i64 x.time, .int .i64 x.source, .int .i64 x.seq]), ?_⟩
 have hkt : Try.prog.keyType 45 = true := by kernel_rfl
 have hc : Try.prog.cellsOf 45 = 3 := by kernel_rfl
 have hi : Try.prog.cellsOf 3 = 1 := by kernel_rfl
 obtain ⟨m, hm⟩ := types_size2
 unfold keyOf keyV
 simp only [Try.underlying45]
 rw [if_pos (by simp [hkt, Value.formed, Try.underlying45, hc]), hm]
 unfold Program.keyLits
 simp only [Try.underlying45, Value.cells]
 rw [if_pos ⟨by rw [hc]; rfl, by kernel_rfl⟩]
 simp [hi, Program.keyLits, Try.underlying3, w1, w2, w3]
end Go.Proofs.Ytmbjfmlicffclaa

/-
  Events of small numbers with different keys (layer 11).
-/
namespace Go.Proofs.Ytmbjfmlicffclaa
open Go Go.RowKit Go.ChangeMaps
attribute [local go_sem ↓] Go.wp_at_zero Go.wp_at_succ
attribute [local go_sem] Oper.semAt_some wide_fn wide_depth wide_fnR wide_depthR

theorem own_upE {w : World} {base base' : Nat} {e : TypeId} {size : Nat} {v : Value} {n : Nat} {xs : List Value} (h : w.ownsRow base e size v n xs) (hb : base' ≤ base) : w.ownsRow base' e size v n xs := by
 obtain ⟨h1, h2⟩ := h
 refine ⟨h1, ?_⟩
 rcases h2 with h2 | ⟨g, cap, cur, hv, hg, r⟩
 ·exact Or.inl h2
 ·exact Or.inr ⟨g, cap, cur, hv, Nat.le_trans hb hg, r⟩
/-- A slice of events in small numbers. -/
def Sm5sIn (w : World) (a : Option Addr) (L : List Sm5) : Prop := ∀ j x, L[j]? = some x → x.ok ∧ ∃ g o, a = some ⟨g, o, none⟩ ∧ w.cell? ⟨g, o + j * 5, none⟩ = some (.int .u8 x.t) ∧ w.cell? ⟨g, o + j * 5 + 1, none⟩ = some (.int .u8 x.s) ∧ w.cell? ⟨g, o + j * 5 + 2, none⟩ = some (.int .u8 x.q) ∧ w.cell? ⟨g, o + j * 5 + 3, none⟩ = some (.int .u8 x.o) ∧ w.cell? ⟨g, o + j * 5 + 4, none⟩ = some (.int .u8 x.l)
theorem Sm5sIn.later {w w' : World} {a : Option Addr} {L : List Sm5} (h : Sm5sIn w a L) (hf : Fr0 none' w w') : Sm5sIn w' a L := by
 intro j x hj
 obtain ⟨h1, g, o, h2, c0, c1, c2, c3, c4⟩ := h j x hj
 exact ⟨h1, g, o, h2, hf.later c0, hf.later c1, hf.later c2, hf.later c3, hf.later c4⟩
theorem madeV_r64 {x : Sm5} (h : x.ok) : R64K (madeV x).key := by
 obtain ⟨h1, h2, h3, h4, h5⟩ := h
 unfold R64K R64 madeV
 simp only
 omega
/-- Of events with one key the first one. -/
def dedK (l : List Ev) : List Ev := l.foldl (fun acc e => if acc.any (fun y => y.key == e.key) then acc else acc ++ [e]) []
theorem dedK_snoc (l : List Ev) (x : Ev) : dedK (l ++ [x]) = if (dedK l).any (fun y => y.key == x.key) then dedK l else dedK l ++ [x] := by unfold dedK; rw [List.foldl_append]; rfl
theorem snoc_indK {p : List Ev → Prop} (h0 : p []) (hs : ∀ l x, p l → p (l ++ [x])) : ∀ (n : Nat) (l : List Ev), l.length = n → p l
 | 0, l, h => by rw [List.eq_nil_of_length_eq_zero h]; exact h0
 | n + 1, l, h => by
  rcases List.eq_nil_or_concat l with rfl | ⟨L, b, rfl⟩
  ·exact h0
  ·rw [List.concat_eq_append] at h ⊢
   exact hs L b (snoc_indK h0 hs n L (by simpa using h))
theorem dedK_once (l : List Ev) : (dedK l).Pairwise (fun x y => x.key ≠ y.key) := by
 refine snoc_indK (p := fun l => (dedK l).Pairwise (fun x y => x.key ≠ y.key)) (by simp [dedK]) (fun l x ih => ?_) _ l rfl
 rw [dedK_snoc]
 split
 ·exact ih
 ·next h =>
  have h' : ∀ y ∈ dedK l, y.key ≠ x.key := by simpa using h
  exact List.pairwise_append.2 ⟨ih, by simp, fun a ha b hb => by rw [List.mem_singleton.1 hb]; exact h' a ha⟩
theorem dedK_sub (l : List Ev) : ∀ x ∈ dedK l, x ∈ l := by
 refine snoc_indK (p := fun l => ∀ x ∈ dedK l, x ∈ l) (by simp [dedK]) (fun l x ih => ?_) _ l rfl
 rw [dedK_snoc]
 intro z hz
 split at hz
 ·exact List.mem_append_left _ (ih z hz)
 ·rcases List.mem_append.1 hz with h | h
  ·exact List.mem_append_left _ (ih z h)
  ·exact List.mem_append_right _ h
theorem dedK_le (l : List Ev) : (dedK l).length ≤ l.length := by
 refine snoc_indK (p := fun l => (dedK l).length ≤ l.length) (by simp [dedK]) (fun l x ih => ?_) _ l rfl
 rw [dedK_snoc]
 split
 ·simp; omega
 ·simp; omega
theorem dedK_any (l : List Ev) (nm : Key3) : (dedK l).any (fun y => y.key == nm) = l.any (fun y => y.key == nm) := by
 refine snoc_indK (p := fun l => (dedK l).any (fun y => y.key == nm) = l.any (fun y => y.key == nm)) (by simp [dedK]) (fun l x ih => ?_) _ l rfl
 rw [dedK_snoc, List.any_append, ← ih]
 simp only [List.any_cons, List.any_nil, Bool.or_false]
 split
 ·next h =>
  by_cases e : x.key = nm
  ·rw [e] at h
   rw [h]; simp
  ·have : (x.key == nm) = false := by simpa using e
   rw [this, Bool.or_false]
 ·rw [List.any_append]
  simp
/-- The events of small numbers. -/
def evsK (xs : List Sm5) (most : Nat) : List Ev := dedK ((xs.take most).map madeV)
theorem evsK_le (xs : List Sm5) (most : Nat) : (evsK xs most).length ≤ most := by
 have h1 := dedK_le ((xs.take most).map madeV)
 rw [List.length_map, List.length_take] at h1
 unfold evsK
 omega
def cntY (l : List Ev) (nm : Key3) : Nat := l.countP (fun y => y.key == nm)
theorem cntY_any (l : List Ev) (nm : Key3) : l.any (fun y => y.key == nm) = decide (cntY l nm ≠ 0) := by
 unfold cntY
 by_cases h : l.any (fun y => y.key == nm) = true
 ·rw [h]
  have : 0 < l.countP (fun y => y.key == nm) := List.countP_pos_iff.2 (by simpa using h)
  exact (decide_eq_true (by omega)).symm
 ·rw [Bool.not_eq_true] at h
  rw [h]
  have : l.countP (fun y => y.key == nm) = 0 := List.countP_eq_zero.2 (by simpa using h)
  exact (decide_eq_false (by omega)).symm
theorem cntY_snoc (l : List Ev) (x : Ev) (nm : Key3) : cntY (l ++ [x]) nm = cntY l nm + if nm = x.key then 1 else 0 := by
 unfold cntY
 rw [List.countP_append, List.countP_singleton]
 by_cases e : nm = x.key
 ·simp [e]
 ·rw [if_neg e, if_neg (by simpa using fun h => e h.symm)]
set_option maxRecDepth 100000 in
set_option maxHeartbeats 4000000 in
theorem events11_any {w : World} {a : Option Addr} {n cap most : Nat} (xs : List Sm5) (h : Sm5sIn w a xs) (hn : xs.length = n) (hcap : n ≤ cap) (hm : most ≤ 100) :
  Calls Try.prog 11 #[.slice a n cap, .int .i64 most] w fun e w' => ∃ r, e = .returned r ∧ w'.ownsRow w.heap.size 47 5 r (evsK xs most).length (flatEv (evsK xs most)) ∧ Fr0 none' w w' := by
 obtain ⟨i0, hi, hz0, hz1, hz2⟩ := info_parts info_event0
 have Hn := Lib.hid hn
 have Hxs := Lib.hid h
 clear hn h
 have hmm := @run_makeMap Try.prog
 go_enter Try.func11, Try.ntmps11
 go_wp2_with fail
 clear hmm
 obtain ⟨m, hmn⟩ : ∃ m, min n most = m := ⟨_, rfl⟩
 have e1 : (min (n : Int) (most : Int)) = (m : Int) := by omega
 rw [e1]
 have e2 : (m : Int).toNat = m := by omega
 have e3 : max (m : Int) 0 = (m : Int) := by omega
 rw [e2, e3]
 have Hm := Lib.hid hmn
 have hm1 : m ≤ 100 := by omega
 have hmcap : m ≤ cap := by omega
 have hmx : ∀ k, k < m → ∃ x, xs[k]? = some x := fun k hk => ⟨_, List.getElem?_eq_getElem (by have := Hn.out; omega)⟩
 have hev : evsK xs most = dedK ((xs.take m).map madeV) := by
  unfold evsK
  rw [← hmn, ← Hn.out, Nat.min_comm, ← List.take_eq_take_min]
 have Hmx := Lib.hid hmx
 have Hev := Lib.hid hev
 clear e1 e2 e3 hmn hmx hev
 obtain ⟨B, hB⟩ : ∃ B, w.heap.size = B := ⟨_, rfl⟩
 obtain ⟨W2, hW2⟩ : ∃ W, w.alloc (.map #[] 0) = W := ⟨_, rfl⟩
 have M2 := Lib.hid (show MgIs Try.prog 45 keyV W2 B 0 (fun _ => none) by rw [← hW2, ← hB]; exact mg_made w)
 have F2 := Lib.hid (show Fr0 none' w W2 by rw [← hW2]; exact (Fr0.refl _ _).alloc _)
 have HB := Lib.hid hB
 rw [hW2]
 try rw [hB]
 clear hW2 hB
 go_loopw [5, 8, 9, 18] (fun v _ _ i wr => ∃ k : Nat, k ≤ m ∧ i = .int .i64 k ∧ Hid (wr.ownsRow (B + 1) 47 5 v (dedK ((xs.take k).map madeV)).length (flatEv (dedK ((xs.take k).map madeV)))) ∧ Hid (MgIs Try.prog 45 keyV wr B k (fun nm => if cntY ((xs.take k).map madeV) nm = 0 then none else some (cntY ((xs.take k).map madeV) nm : Nat))) ∧ Hid (Fr0 none' w wr)) (fun _ _ _ i _ => m - (Go.RowKit.intOf i).toNat)
 case atStart => exact ⟨0, Nat.zero_le _, rfl, World.ownsRow_nil _ _ _ _, M2, F2⟩
 case round =>
  obtain ⟨k, hk, rfl, hrow, hmet, hfr⟩ := hrel
  by_cases hlt : k < m
  ·obtain ⟨x, hx⟩ := Hmx.out k hlt
   obtain ⟨hok, g2, o, rfl, c0, c1, c2, c3, c4⟩ := Hxs.out k x hx
   have x0 := hfr.out.later c0
   have x1 := hfr.out.later c1
   have x2 := hfr.out.later c2
   have x3 := hfr.out.later c3
   have x4 := hfr.out.later c4
   have Hx := Lib.hid hx
   have HM := Lib.hid (fun W => made11_any x hok W)
   have HR := Lib.hid (madeV_r64 hok)
   obtain ⟨y, hy⟩ : ∃ y, madeV x = y := ⟨_, rfl⟩
   rw [hy] at HM HR
   have Hy := Lib.hid hy
   simp only [sm5V] at HM
   have k1 : (0 : Int) ≤ (k : Int) := by omega
   have k2 : (k : Int) < (m : Int) := by omega
   clear hx hok c0 c1 c2 c3 c4 hy
   go_wp2_with fail
   refine (HM.out _).mono ?_
   rintro e w4 ⟨rfl, hf4⟩
   have F4 := Lib.hid (show Fr0 none' wr w4 from ((Fr0.refl none' wr).alloc _).trans hf4)
   clear x0 x1 x2 x3 x4 hf4 HM
   simp only [evV]
   have HM4 := Lib.hid (hmet.out.fr0 F4.out id)
   go_wp2_with fail
   have hrow4 := Lib.hid (ownsRow_fr0 hrow.out F4.out (fun _ _ h => h))
   obtain ⟨q, hq⟩ : ∃ q, w4.heap.size = q := ⟨_, rfl⟩
   obtain ⟨W5, hW5⟩ : ∃ W, w4.alloc (.cells #[.int .i64 y.key.time, .int .i64 y.key.source, .int .i64 y.key.seq, .int .i64 y.to, .int .i64 y.value] 47) = W := ⟨_, rfl⟩
   have F5 := Lib.hid (show Fr0 none' w4 W5 by rw [← hW5]; exact (Fr0.refl none' w4).alloc _)
   have hbE := Lib.hid (show W5.heap[q]? = some (.cells #[.int .i64 y.key.time, .int .i64 y.key.source, .int .i64 y.key.seq, .int .i64 y.to, .int .i64 y.value] 47 (0, 0)) by rw [← hW5, ← hq]; exact World.alloc_heap_new w4 _)
   have HqB := Lib.hid (show B < q by rw [← hq]; exact HM4.out.lt)
   rw [hW5]
   try rw [hq]
   clear hW5 hq
   have F5D := Lib.hid ((Fr0.refl none' W5).drew)
   obtain ⟨WD, hWD⟩ : ∃ W, W5.drew = W := ⟨_, rfl⟩
   rw [hWD] at F5D
   have HM5 := Lib.hid (HM4.out.fr0 (F5.out.trans F5D.out) id)
   have hbE := Lib.hid ((F5D.out.block q (Array.getElem?_eq_some_iff.1 hbE.out).1 id).trans hbE.out)
   have F5 := Lib.hid (F5.out.trans F5D.out)
   clear F5D
   obtain ⟨kl, hkl⟩ := key_key_is HR.out
   obtain ⟨cn, hcn⟩ : ∃ cn, cntY ((xs.take k).map madeV) y.key = cn := ⟨_, rfl⟩
   have Hcn := Lib.hid hcn
   have hcl : cn ≤ k := by
    rw [← hcn]
    have h1 : cntY ((xs.take k).map madeV) y.key ≤ ((xs.take k).map madeV).length := List.countP_le_length
    rw [List.length_map, List.length_take] at h1
    omega
   obtain ⟨hlk, hup⟩ := (show _ ∧ _ from ⟨(HM5.out.look key_law Try.underlying72 (Try.zeroValue3 WD) hkl).2, HM5.out.up keyV_inj key_law Try.underlying72 (by unfold maxLen; omega) (fun u => Try.zeroValue3 u) hkl⟩)
   obtain ⟨o1, st, hr1, hl1, hup⟩ := hup
   obtain ⟨o2, hr2, hm2⟩ := hup ((cn : Int) + 1)
   have hcd : (if cn = 0 then none else some ((cn : Nat) : Int)).getD 0 = ((cn : Nat) : Int) := by
    split
    ·next h => rw [h]; rfl
    ·rfl
   simp only [hcn] at hlk hr1 hl1
   rw [hcd] at hlk hr1 hl1
   have hnv : keyV y.key = .agg #[.int .i64 y.key.time, .int .i64 y.key.source, .int .i64 y.key.seq] := rfl
   rw [hnv] at hlk hr1 hl1
   have Hm2 := Lib.hid hm2
   have Hkl := Lib.hid hkl
   have Hr1 := Lib.hid hr1
   have Hr2 := Lib.hid hr2
   have Hl1 := Lib.hid hl1
   have n0 := cells_in hbE.out 0
   have n1 := cells_in hbE.out 1
   have n2 := cells_in hbE.out 2
   simp at n0 n1 n2
   have w1 : IntKind.i64.wrap ((cn : Int) + 1) = (cn : Int) + 1 := IntWalk.i64_in _ (by omega)
   clear hcn hcd hnv hm2 hup hkl hr1 hr2 hl1
   refine wp_region_Z (z := 7) (S := fun W' => W'.cell? ⟨q, 0, none⟩ = some (.int .i64 y.key.time) ∧ W'.cell? ⟨q, 1, none⟩ = some (.int .i64 y.key.source) ∧ W'.cell? ⟨q, 2, none⟩ = some (.int .i64 y.key.seq) ∧ (Instr.lookup 72 (.map (some B)) (.agg #[.int .i64 y.key.time, .int .i64 y.key.source, .int .i64 y.key.seq]) false).run Try.prog W' = .ok (.int .i64 cn) W') (by kernel_rfl) ?_
   rw [hWD]
   clear hWD
   have hHeld : WD.cell? ⟨q, 0, none⟩ = some (.int .i64 y.key.time) ∧ WD.cell? ⟨q, 1, none⟩ = some (.int .i64 y.key.source) ∧ WD.cell? ⟨q, 2, none⟩ = some (.int .i64 y.key.seq) ∧ (Instr.lookup 72 (.map (some B)) (.agg #[.int .i64 y.key.time, .int .i64 y.key.source, .int .i64 y.key.seq]) false).run Try.prog WD = .ok (.int .i64 cn) WD := ⟨n0, n1, n2, hlk⟩
   clear n0 n1 n2 hlk
   refine takeZ_on (i := 0) (v := .map (some B)) rfl (by kernel_rfl) (by kernel_rfl) (by kernel_rfl) (by kernel_rfl) (fun _ _ _ h => h) (by kernel_rfl) (fun W' hSW => ?_) (by assumption) ?_
   ·obtain ⟨s1, s2, s3, s4⟩ := hSW
    first | (go_simp; done) | exact rfl | (go_simp; rfl) | (go_simp; omega)
   try simp only [pUt, pUn, sEt, sEz, sEs]
   refine takeZ_on (i := 1) (v := .pointer (some ⟨q, 0, none⟩)) rfl (by kernel_rfl) (by kernel_rfl) (by kernel_rfl) (by kernel_rfl) (fun _ _ _ h => h) (by kernel_rfl) (fun W' hSW => ?_) (by assumption) ?_
   ·obtain ⟨s1, s2, s3, s4⟩ := hSW
    first | (go_simp; done) | exact rfl | (go_simp; rfl) | (go_simp; omega)
   try simp only [pUt, pUn, sEt, sEz, sEs]
   refine takeZ_on (i := 2) (v := .agg #[.int .i64 y.key.time, .int .i64 y.key.source, .int .i64 y.key.seq]) rfl (by kernel_rfl) (by kernel_rfl) (by kernel_rfl) (by kernel_rfl) (fun _ _ _ h => h) (by kernel_rfl) (fun W' hSW => ?_) (by assumption) ?_
   ·obtain ⟨s1, s2, s3, s4⟩ := hSW
    first | (go_simp; done) | exact rfl | (go_simp; rfl) | (go_simp; omega)
   try simp only [pUt, pUn, sEt, sEz, sEs]
   refine takeZ_on (i := 3) (v := .int .i64 cn) rfl (by kernel_rfl) (by kernel_rfl) (by kernel_rfl) (by kernel_rfl) (fun _ _ _ h => h) (by kernel_rfl) (fun W' hSW => ?_) (by assumption) ?_
   ·obtain ⟨s1, s2, s3, s4⟩ := hSW
    first | (go_simp; done) | exact rfl | (go_simp; rfl) | (go_simp; omega)
   try simp only [pUt, pUn, sEt, sEz, sEs]
   refine takeZ_on (i := 4) (v := .int .i64 ((cn : Int) + 1)) rfl (by kernel_rfl) (by kernel_rfl) (by kernel_rfl) (by kernel_rfl) (fun _ _ _ h => h) (by kernel_rfl) (fun W' hSW => ?_) (by assumption) ?_
   ·obtain ⟨s1, s2, s3, s4⟩ := hSW
    first | (go_simp; done) | exact rfl | (go_simp; rfl) | (go_simp; omega)
   try simp only [pUt, pUn, sEt, sEz, sEs]
   refine takeZ_call (i := 5) rfl (by kernel_rfl) (by kernel_rfl) (fun K hK => ?_)
   have hr1 := Hr1.out
   go_simp
   clear hr1
   obtain ⟨W6, hW6⟩ : ∃ W, setBlock WD B o1 = W := ⟨_, rfl⟩
   have F6 := Lib.hid (show Fr0 (fun j => j = B) WD W6 by rw [← hW6]; exact (Fr0.refl (fun j => j = B) WD).setBlock (fun _ => rfl) _)
   have hB6 : W6.heap[B]? = some o1 := by rw [← hW6]; exact setBlock_same (Array.getElem?_eq_getElem HM5.out.lt)
   rw [hW6]
   have hHeld6 : W6.cell? ⟨q, 0, none⟩ = some (.int .i64 y.key.time) ∧ W6.cell? ⟨q, 1, none⟩ = some (.int .i64 y.key.source) ∧ W6.cell? ⟨q, 2, none⟩ = some (.int .i64 y.key.seq) ∧ (Instr.lookup 72 (.map (some B)) (.agg #[.int .i64 y.key.time, .int .i64 y.key.source, .int .i64 y.key.seq]) false).run Try.prog W6 = .ok (.int .i64 cn) W6 := by
    have hb := (F6.out.block q (Array.getElem?_eq_some_iff.1 hbE.out).1 (fun e => by have := HqB.out; omega)).trans hbE.out
    refine ⟨?_, ?_, ?_, Hl1.out W6 hB6⟩
    ·rw [cells_in hb]; rfl
    ·rw [cells_in hb]; rfl
    ·rw [cells_in hb]; rfl
   have hr2 := Hr2.out W6 hB6
   have Hr2 := Lib.hid hr2
   clear hW6 hB6 hHeld hr2
   refine hK.out _ _ (.inr hHeld6) ?_
   clear hK K
   try simp only [pUt, pUn, sEt, sEz, sEs]
   refine takeZ_call (i := 6) rfl (by kernel_rfl) (by kernel_rfl) (fun K hK => ?_)
   go_simp
   refine hK.out _ _ (.inr hHeld6) ?_
   clear hK K
   try simp only [pUt, pUn, sEt, sEz, sEs]
   refine takeZ_call (i := 7) rfl (by kernel_rfl) (by kernel_rfl) (fun K hK => ?_)
   have hr2 := Hr2.out
   go_simp
   clear hr2
   obtain ⟨W7, hW7⟩ : ∃ W, setBlock W6 B o2 = W := ⟨_, rfl⟩
   have F7 := Lib.hid (show Fr0 (fun j => j = B) WD W7 by rw [← hW7]; exact F6.out.trans ((Fr0.refl (fun j => j = B) W6).setBlock (fun _ => rfl) _))
   have M7 := Lib.hid (Hm2.out W7 (by rw [← hW7]; exact setBlock_same (Array.getElem?_eq_getElem (Nat.lt_of_lt_of_le HM5.out.lt F6.out.size))))
   rw [hW7]
   clear hW7
   refine hK.out _ _ (.inl rfl) ?_
   clear hK K hHeld6
   try simp only [pUt, pUn, sEt, sEz, sEs]
   refine wpAnyZ_done (by kernel_rfl) ?_ _
   have hbE7 := Lib.hid ((F7.out.block q (Array.getElem?_eq_some_iff.1 hbE.out).1 (fun e => by have := HqB.out; omega)).trans hbE.out)
   have hlk := (M7.out.look key_law Try.underlying72 (Try.zeroValue3 W7) Hkl.out).2
   rw [if_pos rfl, show keyV y.key = .agg #[.int .i64 y.key.time, .int .i64 y.key.source, .int .i64 y.key.seq] from rfl] at hlk
   simp only [Option.getD_some] at hlk
   have n0 := cells_in hbE7.out 0
   have n1 := cells_in hbE7.out 1
   have n2 := cells_in hbE7.out 2
   simp at n0 n1 n2
   have Fw7 := Lib.hid (hfr.out.trans' (F4.out.trans F5.out |>.mono (fun _ _ h => h.elim) |>.trans F7.out) (fun i hi e => by have := HB.out; omega))
   have hrow7 := Lib.hid (ownsRow_fr0 (ownsRow_fr0 hrow4.out F5.out (fun _ _ h => h)) F7.out (fun g hg e => by have := (hrow4.out.lt g hg).1; omega))
   have htk : (xs.take (k + 1)).map madeV = (xs.take k).map madeV ++ [y] := by
    rw [List.take_add_one, Hx.out, ← Hy.out]
    simp
   have hded := dedK_snoc ((xs.take k).map madeV) y
   rw [← htk, dedK_any, cntY_any, Hcn.out] at hded
   have hcnt : ∀ nm, cntY ((xs.take (k + 1)).map madeV) nm = cntY ((xs.take k).map madeV) nm + if nm = y.key then 1 else 0 := fun nm => by rw [htk]; exact cntY_snoc _ _ _
   have hM7 := Lib.hid (show MgIs Try.prog 45 keyV W7 B (k + 1) (fun nm => if cntY ((xs.take (k + 1)).map madeV) nm = 0 then none else some (cntY ((xs.take (k + 1)).map madeV) nm : Nat)) by
    have h1 := M7.out
    refine cast ?_ h1
    congr 1
    funext nm
    rw [hcnt nm]
    by_cases e : nm = y.key
    ·subst e
     rw [if_pos rfl, if_pos rfl, Hcn.out, if_neg (by omega)]
     simp
    ·rw [if_neg e, if_neg e, Nat.add_zero])
   clear hcnt M7
   have Hded := Lib.hid hded
   clear hded htk
   obtain ⟨cv, hcv⟩ : ∃ cv, (cn : Int) + 1 = cv := ⟨_, rfl⟩
   rw [hcv] at hlk
   try rw [hcv]
   by_cases hc0 : cn = 0
   ·have d1 : (cv == 1) = true := by rw [← hcv, hc0]; rfl
    have Hc0 := Lib.hid hc0
    obtain ⟨va, vc, rfl, _, _⟩ := EsIn.of_own hrow7.out
    obtain ⟨kk, hkk⟩ : ∃ kk, (dedK ((xs.take k).map madeV)).length = kk := ⟨_, rfl⟩
    have Hkk := Lib.hid hkk
    have hkl : kk ≤ 100 := by
     rw [← hkk]
     have h1 := dedK_le ((xs.take k).map madeV)
     rw [List.length_map, List.length_take] at h1
     omega
    rw [hkk] at hrow7 ⊢
    have x3 := cells_in hbE7.out 3
    have x4 := cells_in hbE7.out 4
    simp at x3 x4
    have hsrc := Src.newRow (P := Try.prog) (size := 5) (tx := 24) (ty := 47) W7 Try.underlying24 1 1 (cev y) rfl (by simp [Value.oneCell', cev])
    simp only [cev] at hsrc
    have hbase : B + 1 ≤ W7.heap.size := hM7.out.lt
    clear hc0 hkk hcv
    go_wp2_with (at_builtin; refine wpList_append_k rfl _ _ 24 24 rfl (B + 1) 47 i0 (.agg #[.int .i64 0, .int .i64 0, .int .i64 0, .int .i64 0, .int .i64 0]) 5 40 Try.underlying24 hi hz0 hz1 hz2 rfl (by decide) (.slice va kk vc) kk _ rfl (ownsRow_fr0 hrow7.out ((Fr0.refl none' W7).alloc _) (fun _ _ h => h)) (.slice (some ⟨W7.heap.size, 0, none⟩) 1 1) 1 _ rfl hsrc (by unfold maxLen; omega) (by omega) (by simp; omega) ?_; intro v8 w8 hown hgrow hdr hob; have Hown := Lib.hid hown; have hfg : Fr0 (fun i => (Value.slice va kk vc).ownBlock = some i) W7 w8 := ((Fr0.refl _ W7).alloc _).grown hgrow (fun i hi _ => hi); have F8 := Lib.hid hfg; clear hown hgrow hdr hob x3 x4 hfg hsrc hlk n0 n1 n2)
    go_roundw
    case rel =>
     refine ⟨k + 1, by omega, by go_num, ?_, ?_, ?_⟩
     ·have h1 := Hown.out
      have h2 := Hded.out
      rw [if_neg (by simp [Hc0.out])] at h2
      rw [h2, List.length_append, flatEv_append, flatEv_single]
      rw [← Hkk.out] at h1
      exact h1
     ·exact hM7.out.fr0 F8.out (fun hs => by have := (hrow7.out.lt B hs).1; omega)
     ·exact Fw7.out.trans' F8.out (fun i hi hs => by have := (hrow7.out.lt i hs).1; have := HB.out; omega)
    case measure => simp [Go.RowKit.intOf]; omega
   ·have d1 : (cv == 1) = false := by simp; omega
    have Hc0 := Lib.hid hc0
    clear hc0 hcv
    go_wp2_with fail
    clear hlk n0 n1 n2
    go_roundw
    case rel =>
     refine ⟨k + 1, by omega, by go_num, ?_, hM7.out, Fw7.out⟩
     have h2 := Hded.out
     rw [if_pos (by simpa using Hc0.out)] at h2
     rw [h2]
     exact hrow7.out
    case measure => simp [Go.RowKit.intOf]; omega
  ·have hkm : k = m := by omega
   subst hkm
   go_wp2
   go_ret
   refine ⟨_, rfl, ?_, hfr.out⟩
   rw [Hev.out, HB.out]
   exact own_upE hrow.out (Nat.le_succ _)
end Go.Proofs.Ytmbjfmlicffclaa

/-
  A slice of small events (layer 11) among the arguments.
-/
namespace Go.Proofs.Ytmbjfmlicffclaa
open Go.ChangeShapes Go.WideShapes Go.ChangeAt Go.RowKit Go.Deep Go.Joins

set_option maxRecDepth 100000 in
/-- A slice of small events, opened. -/
theorem sm5s_arg {base : Nat} {H : Type} {enc : TypeId × Value → H} {W : World} {v : Value} {d : DataW H} {ps : List MemPlace}
  (hval : Value.okWide Try.prog W .any base 22 v) (h : DataW.Trod enc Try.prog W 0 (fun _ => true) true 22 v d ps) : ∃ a n cap xs, v = .slice a n cap ∧ xs.length = n ∧ n ≤ cap ∧ Sm5sIn W a xs := by
 obtain ⟨A, n, cap, rfl⟩ := okWide_slice Try.underlying22 hval
 obtain ⟨fuel, hf⟩ := h
 rcases open_slice Try.underlying22 hf with ⟨hcs, _⟩ | ⟨a, len, cap', m, _, D, Pl, hcs, _, hl, hm, hz, _, hi⟩
 ·simp [Value.cells] at hcs
  obtain ⟨rfl, rfl, rfl⟩ := hcs
  exact ⟨none, 0, 0, [], rfl, rfl, Nat.le_refl _, fun j x hj => by simp at hj⟩
 ·simp [Value.cells] at hcs
  obtain ⟨rfl, rfl, rfl⟩ := hcs
  have hmn : n ≤ m := by rw [hz]; split <;> omega
  have key : ∀ i, i < n → ∃ x : Sm5, x.ok ∧ ∃ g o, a = ⟨g, o, none⟩ ∧ W.cell? ⟨g, o + i * 5, none⟩ = some (.int .u8 x.t) ∧ W.cell? ⟨g, o + i * 5 + 1, none⟩ = some (.int .u8 x.s) ∧ W.cell? ⟨g, o + i * 5 + 2, none⟩ = some (.int .u8 x.q) ∧ W.cell? ⟨g, o + i * 5 + 3, none⟩ = some (.int .u8 x.o) ∧ W.cell? ⟨g, o + i * 5 + 4, none⟩ = some (.int .u8 x.l) := fun i hin => by
   obtain ⟨cs, hc, ht⟩ := hi i (by omega)
   rw [show Try.prog.cellsOf 74 = 5 by kernel_rfl] at hc
   obtain ⟨_, hcl, hat⟩ := World.cells?_some hc
   match cs, hcl with
   | [v0, v1, v2, v3, v4], _ =>
   have c0 := hat 0 (by omega)
   have c1 := hat 1 (by omega)
   have c2 := hat 2 (by omega)
   have c3 := hat 3 (by omega)
   have c4 := hat 4 (by omega)
   obtain ⟨x, hx, rfl, rfl, rfl, rfl, rfl⟩ := sm5_field ht
   obtain ⟨cs', hc', _⟩ := hi 0 (by omega)
   rw [show Try.prog.cellsOf 74 = 5 by kernel_rfl] at hc'
   obtain ⟨_, hcl', hat'⟩ := World.cells?_some hc'
   have z0 := hat' 0 (by omega)
   rw [List.getElem?_eq_getElem (by omega)] at z0
   obtain ⟨b, off, spot⟩ := a
   have hspot : spot = none := by simpa [Addr.add] using World.cell?_spot z0
   subst hspot
   rw [Addr.add_mid, Addr.add_mid] at c0 c1 c2 c3 c4
   exact ⟨x, hx, b, off, rfl, c0, c1, c2, c3, c4⟩
  obtain ⟨xs, hxl, hx⟩ := listC n key
  refine ⟨some a, n, cap, xs, rfl, hxl, by simpa using hl, fun j x hj => ?_⟩
  obtain ⟨hok, g, o, rfl, q0, q1, q2, q3, q4⟩ := hx j x hj
  exact ⟨hok, g, o, rfl, q0, q1, q2, q3, q4⟩
end Go.Proofs.Ytmbjfmlicffclaa

/-
  The list with the least first event.
-/
namespace Go.Proofs.Ytmbjfmlicffclaa
open Go Go.RowKit
attribute [local go_sem ↓] Go.wp_at_zero Go.wp_at_succ
attribute [local go_sem] Oper.semAt_some wide_fn wide_depth wide_fnR wide_depthR

/-- A slice of events, by its value. -/
structure Lv where
 a : Option Addr
 n : Nat
 c : Nat
 evs : List Ev
def LvsIn (w : World) (a : Option Addr) (L : List Lv) : Prop := ∀ i x, L[i]? = some x → ∃ g o, a = some ⟨g, o, none⟩ ∧ w.cell? ⟨g, o + i, none⟩ = some (.slice x.a x.n x.c)
theorem LvsIn.later {w w' : World} {a : Option Addr} {L : List Lv} (h : LvsIn w a L) (hf : Fr0 none' w w') : LvsIn w' a L := fun i x hi => by
 obtain ⟨g, o, e, c⟩ := h i x hi
 exact ⟨g, o, e, hf.later c⟩
def LvEv (w : World) (L : List Lv) : Prop := ∀ x ∈ L, EsIn w x.a x.evs ∧ x.evs.length = x.n ∧ x.n ≤ 10000 ∧ x.n ≤ x.c
theorem LvEv.later {w w' : World} {L : List Lv} (h : LvEv w L) (hf : Fr0 none' w w') : LvEv w' L := fun x hx => ⟨(h x hx).1.later hf, (h x hx).2⟩
/-- The first event of a list. -/
def hdM (L : List (List Ev)) (i : Nat) : Option Ev := (L[i]?).bind List.head?
/-- Which of the first k lists has the least first event. -/
def lstM (L : List (List Ev)) : Nat → Nat × Bool
 | 0 => (0, false)
 | k + 1 => match hdM L k with
  | none => lstM L k
  | some x => if (lstM L k).2 = false then (k, true) else match hdM L (lstM L k).1 with
   | none => lstM L k
   | some y => if cmpK x.key y.key < 0 then (k, true) else lstM L k
theorem lstM_ok (L : List (List Ev)) : ∀ k, (lstM L k).2 = true → (lstM L k).1 < k ∧ ∃ y, hdM L (lstM L k).1 = some y
 | 0, h => by cases h
 | k + 1, h => by
  rw [lstM] at h ⊢
  cases hx : hdM L k with
  | none =>
   rw [hx] at h
   obtain ⟨h1, h2⟩ := lstM_ok L k h
   exact ⟨by simp only; omega, h2⟩
  | some x =>
   rw [hx] at h
   simp only at h ⊢
   by_cases hf : (lstM L k).2 = false
   ·rw [if_pos hf]; exact ⟨by simp only; omega, x, hx⟩
   ·rw [if_neg hf] at h ⊢
    obtain ⟨h1, y, h2⟩ := lstM_ok L k (by simpa using hf)
    rw [h2] at h ⊢
    simp only at h ⊢
    split
    ·exact ⟨by simp only; omega, x, hx⟩
    ·exact ⟨by omega, y, h2⟩
theorem lstM_false (L : List (List Ev)) : ∀ k, (lstM L k).2 = false → (lstM L k).1 = 0 ∧ ∀ i, i < k → hdM L i = none
 | 0, _ => ⟨rfl, fun i h => by omega⟩
 | k + 1, h => by
  rw [lstM] at h ⊢
  cases hx : hdM L k with
  | none =>
   rw [hx] at h
   obtain ⟨h1, h2⟩ := lstM_false L k h
   refine ⟨h1, fun i hi => ?_⟩
   by_cases e : i = k
   ·rw [e]; exact hx
   ·exact h2 i (by omega)
  | some x =>
   rw [hx] at h
   simp only at h
   by_cases hf : (lstM L k).2 = false
   ·rw [if_pos hf] at h; cases h
   ·rw [if_neg hf] at h
    obtain ⟨h1, y, h2⟩ := lstM_ok L k (by simpa using hf)
    rw [h2] at h
    simp only at h
    split at h
    ·cases h
    ·exact absurd h hf
theorem lstM_least (L : List (List Ev)) : ∀ k, (lstM L k).2 = true → ∀ y, hdM L (lstM L k).1 = some y → ∀ i x, i < k → hdM L i = some x → 0 ≤ cmpK x.key y.key
 | 0, h, _, _, _, _, _, _ => by cases h
 | k + 1, h, y, hy, i, x, hi, hx => by
  rw [lstM] at h hy
  cases hz : hdM L k with
  | none =>
   rw [hz] at h hy
   by_cases e : i = k
   ·rw [e, hz] at hx; cases hx
   ·exact lstM_least L k h y hy i x (by omega) hx
  | some z =>
   rw [hz] at h hy
   simp only at h hy
   by_cases hf : (lstM L k).2 = false
   ·rw [if_pos hf] at hy
    simp only at hy
    rw [hz] at hy
    cases hy
    by_cases e : i = k
    ·rw [e, hz] at hx; cases hx
     exact Int.le_of_eq ((cmpK_eq _ _).2 rfl).symm
    ·have := (lstM_false L k hf).2 i (by omega)
     rw [this] at hx; cases hx
   ·rw [if_neg hf] at hy
    obtain ⟨h1, y0, h2⟩ := lstM_ok L k (by simpa using hf)
    rw [h2] at hy
    simp only at hy
    have hl := lstM_least L k (by simpa using hf) y0 h2
    split at hy
    ·next hlt =>
     simp only at hy
     rw [hz] at hy
     cases hy
     by_cases e : i = k
     ·rw [e, hz] at hx; cases hx
      exact Int.le_of_eq ((cmpK_eq _ _).2 rfl).symm
     ·have h3 := hl i x (by omega) hx
      exact Int.not_lt.1 (fun h => by have := cmpK_trans _ _ _ h hlt; omega)
    ·next hge =>
     rw [h2] at hy
     cases hy
     by_cases e : i = k
     ·rw [e, hz] at hx; cases hx
      omega
     ·exact hl i x (by omega) hx
set_option maxRecDepth 100000 in
set_option maxHeartbeats 4000000 in
theorem Least_any {w : World} {a : Option Addr} {n cap : Nat} (L : List Lv) (h : LvsIn w a L) (he : LvEv w L) (hl : L.length = n) (hn : n ≤ 10000) :
  Calls Try.prog 84 #[.slice a n cap] w fun e w' => e = .returned (.tuple #[.int .i64 ((lstM (L.map Lv.evs) n).1 : Nat), .bool (lstM (L.map Lv.evs) n).2]) ∧ Fr0 none' w w' := by
 have H := Lib.hid h
 have HE := Lib.hid he
 have Hl := Lib.hid hl
 obtain ⟨M, hM⟩ : ∃ M, L.map Lv.evs = M := ⟨_, rfl⟩
 rw [hM]
 have HM := Lib.hid hM
 clear h he hl hM
 go_enter Try.func84, Try.ntmps84
 go_wp2_with fail
 apply wp_scope_straight
 go_wp2_with fail
 apply wp_label
 go_wp2_with fail
 go_loopw [4, 5, 6, 7, 10] (fun at_ ok _ _ i wr => ∃ k : Nat, k ≤ n ∧ at_ = .int .i64 ((lstM M k).1 : Nat) ∧ ok = .bool (lstM M k).2 ∧ i = .int .i64 k ∧ Hid (Fr0 none' w wr)) (fun _ _ _ _ i _ => n - (Go.RowKit.intOf i).toNat)
 case atStart => exact ⟨0, Nat.zero_le _, rfl, rfl, rfl, Fr0.refl _ _⟩
 case round =>
  obtain ⟨k, hk, rfl, rfl, rfl, hfr⟩ := hrel
  by_cases hlt : k < n
  ·obtain ⟨x, hx⟩ : ∃ x, L[k]? = some x := ⟨_, List.getElem?_eq_getElem (by rw [Hl.out]; exact hlt)⟩
   obtain ⟨g, o, rfl, hxc⟩ := (H.out.later hfr.out) k x hx
   have hxe := (HE.out.later hfr.out) x (List.mem_of_getElem? hx)
   have k1 : (0 : Int) ≤ (k : Int) := by omega
   have k2 : (k : Int) < (n : Int) := by omega
   have hh : hdM M k = x.evs.head? := by
    unfold hdM
    rw [← HM.out, List.getElem?_map, hx]
    rfl
   obtain ⟨xa, xn, xc, xe⟩ := x
   simp only at hxc hxe hh
   have hst : lstM M (k + 1) = match hdM M k with
    | none => lstM M k
    | some x => if (lstM M k).2 = false then (k, true) else match hdM M (lstM M k).1 with
     | none => lstM M k
     | some y => if cmpK x.key y.key < 0 then (k, true) else lstM M k := rfl
   have hokk := lstM_ok M k
   obtain ⟨at_, hat⟩ : ∃ a, (lstM M k).1 = a := ⟨_, rfl⟩
   obtain ⟨b, hb⟩ : ∃ b, (lstM M k).2 = b := ⟨_, rfl⟩
   rw [hat, hb] at hst hokk ⊢
   cases xe with
   | nil =>
    have hn0 : xn = 0 := hxe.2.1.symm
    have d1 : ((xn : Int) == 0) = true := by rw [hn0]; rfl
    rw [hh] at hst
    have h2 : lstM M (k + 1) = lstM M k := hst
    have H1 := Lib.hid (show (lstM M (k + 1)).1 = at_ by rw [h2, hat])
    have H2 := Lib.hid (show (lstM M (k + 1)).2 = b by rw [h2, hb])
    clear hx hxe hh hst hokk hat hb hn0 h2
    go_wp2_with fail
    go_roundw
    case rel => exact ⟨k + 1, by omega, by rw [H1.out], by rw [H2.out], by go_num, hfr⟩
    case measure => simp [Go.RowKit.intOf]; omega
   | cons e r =>
    have hn0 : (xn : Int) ≠ 0 := by have := hxe.2.1; simp at this; omega
    have d1 : ((xn : Int) == 0) = false := beq_eq_false_iff_ne.2 hn0
    have d2 : (0 : Int) < (xn : Int) := by omega
    obtain ⟨g1, o1, rfl, hec⟩ := hxe.1 0 e rfl
    rw [Nat.zero_mul, Nat.add_zero] at hec
    obtain ⟨x0, x1, x2, x3, x4⟩ := hec
    rw [hh] at hst
    simp only [List.head?_cons] at hst
    cases b with
    | false =>
     rw [if_pos rfl] at hst
     have H1 := Lib.hid (show (lstM M (k + 1)).1 = k by rw [hst])
     have H2 := Lib.hid (show (lstM M (k + 1)).2 = true by rw [hst])
     clear hx hxe hh hst hokk hat hb hn0
     go_wp2_with fail
     refine wp_region_held_drew (S := fun W' => Fr0 none' wr W') (by kernel_rfl) ((Fr0.refl none' wr).drew) (fun hHeld => ?_)
     refine tkn (i := 0) (v := .bool false) (fun W' hSW => ?_) ?_
     ·first | (go_simp; done) | exact rfl | (go_simp; rfl) | (go_simp; omega)
     try simp only [pUt, pUn, sEt, sEz, sEs]
     refine tkn (i := 1) (v := .bool true) (fun W' hSW => ?_) ?_
     ·first | (go_simp; done) | exact rfl | (go_simp; rfl) | (go_simp; omega)
     try simp only [pUt, pUn, sEt, sEz, sEs]
     refine tkn (i := 2) (v := .bool true) (fun W' hSW => ?_) ?_
     ·first | (go_simp; done) | exact rfl | (go_simp; rfl) | (go_simp; omega)
     try simp only [pUt, pUn, sEt, sEz, sEs]
     refine take_off (i := 3) rfl (by kernel_rfl) (by kernel_rfl) (by kernel_rfl) (fun _ _ _ h => h) (by kernel_rfl) (by assumption) ?_
     try simp only [pUt, pUn, sEt, sEz, sEs]
     refine take_off (i := 4) rfl (by kernel_rfl) (by kernel_rfl) (by kernel_rfl) (fun _ _ _ h => h) (by kernel_rfl) (by assumption) ?_
     try simp only [pUt, pUn, sEt, sEz, sEs]
     refine take_off (i := 5) rfl (by kernel_rfl) (by kernel_rfl) (by kernel_rfl) (fun _ _ _ h => h) (by kernel_rfl) (by assumption) ?_
     try simp only [pUt, pUn, sEt, sEz, sEs]
     refine take_off (i := 6) rfl (by kernel_rfl) (by kernel_rfl) (by kernel_rfl) (fun _ _ _ h => h) (by kernel_rfl) (by assumption) ?_
     try simp only [pUt, pUn, sEt, sEz, sEs]
     refine take_off (i := 7) rfl (by kernel_rfl) (by kernel_rfl) (by kernel_rfl) (fun _ _ _ h => h) (by kernel_rfl) (by assumption) ?_
     try simp only [pUt, pUn, sEt, sEz, sEs]
     refine take_off (i := 8) rfl (by kernel_rfl) (by kernel_rfl) (by kernel_rfl) (fun _ _ _ h => h) (by kernel_rfl) (by assumption) ?_
     try simp only [pUt, pUn, sEt, sEz, sEs]
     refine take_off (i := 9) rfl (by kernel_rfl) (by kernel_rfl) (by kernel_rfl) (fun _ _ _ h => h) (by kernel_rfl) (by assumption) ?_
     try simp only [pUt, pUn, sEt, sEz, sEs]
     refine take_off (i := 10) rfl (by kernel_rfl) (by kernel_rfl) (by kernel_rfl) (fun _ _ _ h => h) (by kernel_rfl) (by assumption) ?_
     try simp only [pUt, pUn, sEt, sEz, sEs]
     refine take_off (i := 11) rfl (by kernel_rfl) (by kernel_rfl) (by kernel_rfl) (fun _ _ _ h => h) (by kernel_rfl) (by assumption) ?_
     try simp only [pUt, pUn, sEt, sEz, sEs]
     refine take_off (i := 12) rfl (by kernel_rfl) (by kernel_rfl) (by kernel_rfl) (fun _ _ _ h => h) (by kernel_rfl) (by assumption) ?_
     try simp only [pUt, pUn, sEt, sEz, sEs]
     refine tkn (i := 13) (v := .bool true) (fun W' hSW => ?_) ?_
     ·first | (go_simp; done) | exact rfl | (go_simp; rfl) | (go_simp; omega)
     try simp only [pUt, pUn, sEt, sEz, sEs]
     refine tkn (i := 14) (v := .bool true) (fun W' hSW => ?_) ?_
     ·first | (go_simp; done) | exact rfl | (go_simp; rfl) | (go_simp; omega)
     try simp only [pUt, pUn, sEt, sEz, sEs]
     refine wpAnyH_done (by kernel_rfl) ?_ _
     have FR := Lib.hid (hfr.out.trans hHeld)
     clear hHeld hfr
     go_wp2_with fail
     go_roundw
     case rel => exact ⟨k + 1, by omega, by rw [H1.out], by rw [H2.out], by go_num, FR⟩
     case measure => simp [Go.RowKit.intOf]; omega
    | true =>
     obtain ⟨hak, y, hy⟩ := hokk rfl
     rw [if_neg (by decide), hy] at hst
     simp only at hst
     obtain ⟨z, hz⟩ : ∃ z, L[at_]? = some z := ⟨_, List.getElem?_eq_getElem (by rw [Hl.out]; omega)⟩
     have hze := (HE.out.later hfr.out) z (List.mem_of_getElem? hz)
     obtain ⟨g', o', e', hzc⟩ := (H.out.later hfr.out) at_ z hz
     injection e' with e'
     injection e' with e1' e2' _
     subst e1'
     subst e2'
     have hzh : z.evs.head? = some y := by
      unfold hdM at hy
      rw [← HM.out, List.getElem?_map, hz] at hy
      exact hy
     obtain ⟨za, zn, zc, ze⟩ := z
     simp only at hzc hze hzh
     cases ze with
     | nil => cases hzh
     | cons f r2 =>
      cases hzh
      have z2 : (0 : Int) < (zn : Int) := by have := hze.2.1; simp at this; omega
      obtain ⟨g2, o2, rfl, hfc⟩ := hze.1 0 y rfl
      rw [Nat.zero_mul, Nat.add_zero] at hfc
      obtain ⟨y0, y1, y2, y3, y4⟩ := hfc
      have a1 : (0 : Int) ≤ (at_ : Int) := by omega
      have a2 : (at_ : Int) < (n : Int) := by omega
      have HB := Lib.hid (fun (W : World) => before_any e y W)
      have Hb := Lib.hid hb
      clear hx hxe hh hokk hb hn0 hy hz hze
      go_wp2_with fail
      have HL := Lib.hid (fun (W' : World) (hf : Fr0 none' wr W') => And.intro (hf.later x0) <| And.intro (hf.later x1) <| And.intro (hf.later x2) <| And.intro (hf.later x3) <| And.intro (hf.later x4) <| And.intro (hf.later hzc) <| And.intro (hf.later y0) <| And.intro (hf.later y1) <| And.intro (hf.later y2) <| And.intro (hf.later y3) (hf.later y4))
      clear x0 x1 x2 x3 x4 hzc y0 y1 y2 y3 y4
      refine wp_region_held_drew (S := fun W' => Fr0 none' wr W') (by kernel_rfl) ((Fr0.refl none' wr).drew) (fun hHeld => ?_)
      refine tkn (i := 0) (v := .bool true) (fun W' hSW => ?_) ?_
      ·obtain ⟨t0, t1, t2, t3, t4, t5, t6, t7, t8, t9, t10⟩ := HL.out W' hSW
       first | (go_simp; done) | exact rfl | (go_simp; rfl) | (go_simp; omega)
      try simp only [pUt, pUn, sEt, sEz, sEs]
      refine tkn (i := 1) (v := .bool false) (fun W' hSW => ?_) ?_
      ·obtain ⟨t0, t1, t2, t3, t4, t5, t6, t7, t8, t9, t10⟩ := HL.out W' hSW
       first | (go_simp; done) | exact rfl | (go_simp; rfl) | (go_simp; omega)
      try simp only [pUt, pUn, sEt, sEz, sEs]
      refine tkn (i := 2) (v := .bool false) (fun W' hSW => ?_) ?_
      ·obtain ⟨t0, t1, t2, t3, t4, t5, t6, t7, t8, t9, t10⟩ := HL.out W' hSW
       first | (go_simp; done) | exact rfl | (go_simp; rfl) | (go_simp; omega)
      try simp only [pUt, pUn, sEt, sEz, sEs]
      refine tkn (i := 3) (v := .slice (some ⟨g1, o1, none⟩) xn xc) (fun W' hSW => ?_) ?_
      ·obtain ⟨t0, t1, t2, t3, t4, t5, t6, t7, t8, t9, t10⟩ := HL.out W' hSW
       first | (go_simp; done) | exact rfl | (go_simp; rfl) | (go_simp; omega)
      try simp only [pUt, pUn, sEt, sEz, sEs]
      refine tkn (i := 4) (v := .pointer (some ⟨g1, o1, none⟩)) (fun W' hSW => ?_) ?_
      ·obtain ⟨t0, t1, t2, t3, t4, t5, t6, t7, t8, t9, t10⟩ := HL.out W' hSW
       first | (go_simp; done) | exact rfl | (go_simp; rfl) | (go_simp; omega)
      try simp only [pUt, pUn, sEt, sEz, sEs]
      refine tkn (i := 5) (v := .agg #[.int .i64 e.key.time, .int .i64 e.key.source, .int .i64 e.key.seq, .int .i64 e.to, .int .i64 e.value]) (fun W' hSW => ?_) ?_
      ·obtain ⟨t0, t1, t2, t3, t4, t5, t6, t7, t8, t9, t10⟩ := HL.out W' hSW
       first | (go_simp; done) | exact rfl | (go_simp; rfl) | (go_simp; omega)
      try simp only [pUt, pUn, sEt, sEz, sEs]
      refine tkn (i := 6) (v := .slice (some ⟨g, o, none⟩) n cap) (fun W' hSW => ?_) ?_
      ·obtain ⟨t0, t1, t2, t3, t4, t5, t6, t7, t8, t9, t10⟩ := HL.out W' hSW
       first | (go_simp; done) | exact rfl | (go_simp; rfl) | (go_simp; omega)
      try simp only [pUt, pUn, sEt, sEz, sEs]
      refine tkn (i := 7) (v := .int .i64 (at_ : Int)) (fun W' hSW => ?_) ?_
      ·obtain ⟨t0, t1, t2, t3, t4, t5, t6, t7, t8, t9, t10⟩ := HL.out W' hSW
       first | (go_simp; done) | exact rfl | (go_simp; rfl) | (go_simp; omega)
      try simp only [pUt, pUn, sEt, sEz, sEs]
      refine tkn (i := 8) (v := .pointer (some ⟨g, o + at_, none⟩)) (fun W' hSW => ?_) ?_
      ·obtain ⟨t0, t1, t2, t3, t4, t5, t6, t7, t8, t9, t10⟩ := HL.out W' hSW
       first | (go_simp; done) | exact rfl | (go_simp; rfl) | (go_simp; omega)
      try simp only [pUt, pUn, sEt, sEz, sEs]
      refine tkn (i := 9) (v := .slice (some ⟨g2, o2, none⟩) zn zc) (fun W' hSW => ?_) ?_
      ·obtain ⟨t0, t1, t2, t3, t4, t5, t6, t7, t8, t9, t10⟩ := HL.out W' hSW
       first | (go_simp; done) | exact rfl | (go_simp; rfl) | (go_simp; omega)
      try simp only [pUt, pUn, sEt, sEz, sEs]
      refine tkn (i := 10) (v := .pointer (some ⟨g2, o2, none⟩)) (fun W' hSW => ?_) ?_
      ·obtain ⟨t0, t1, t2, t3, t4, t5, t6, t7, t8, t9, t10⟩ := HL.out W' hSW
       first | (go_simp; done) | exact rfl | (go_simp; rfl) | (go_simp; omega)
      try simp only [pUt, pUn, sEt, sEz, sEs]
      refine tkn (i := 11) (v := .agg #[.int .i64 y.key.time, .int .i64 y.key.source, .int .i64 y.key.seq, .int .i64 y.to, .int .i64 y.value]) (fun W' hSW => ?_) ?_
      ·obtain ⟨t0, t1, t2, t3, t4, t5, t6, t7, t8, t9, t10⟩ := HL.out W' hSW
       first | (go_simp; done) | exact rfl | (go_simp; rfl) | (go_simp; omega)
      try simp only [pUt, pUn, sEt, sEz, sEs]
      refine take_call (i := 12) rfl (by kernel_rfl) (by kernel_rfl) (fun K hK => ?_)
      go_simp
      have HC := HB.out wr.drew
      simp only [evV] at HC
      refine HC.mono ?_
      clear HC
      rintro e' w5 ⟨rfl, hf5⟩
      have hHeld := hHeld.trans hf5
      clear hf5
      obtain ⟨d, hd⟩ : ∃ d, decide (cmpK e.key y.key < 0) = d := ⟨_, rfl⟩
      rw [hd]
      go_wp2_with fail
      refine hK.out _ _ hHeld (fun hS => ?_)
      clear hK K
      try simp only [pUt, pUn, sEt, sEz, sEs]
      refine tkn (i := 13) (v := .bool d) (fun W' hSW => ?_) ?_
      ·first | (go_simp; done) | exact rfl | (go_simp; rfl) | (go_simp; omega)
      try simp only [pUt, pUn, sEt, sEz, sEs]
      refine tkn (i := 14) (v := .bool d) (fun W' hSW => ?_) ?_
      ·first | (go_simp; done) | exact rfl | (go_simp; rfl) | (go_simp; omega)
      try simp only [pUt, pUn, sEt, sEz, sEs]
      refine wpAnyH_done (by kernel_rfl) ?_ _
      have FR := Lib.hid (hfr.out.trans hHeld)
      clear hHeld hfr hS HB
      cases d with
      | true =>
       rw [if_pos (of_decide_eq_true hd)] at hst
       have H1 := Lib.hid (show (lstM M (k + 1)).1 = k by rw [hst])
       have H2 := Lib.hid (show (lstM M (k + 1)).2 = true by rw [hst])
       clear hst hd hat
       go_wp2_with fail
       go_roundw
       case rel => exact ⟨k + 1, by omega, by rw [H1.out], by rw [H2.out], by go_num, FR⟩
       case measure => simp [Go.RowKit.intOf]; omega
      | false =>
       rw [if_neg (of_decide_eq_false hd)] at hst
       have H1 := Lib.hid (show (lstM M (k + 1)).1 = at_ by rw [hst, hat])
       have H2 := Lib.hid (show (lstM M (k + 1)).2 = true by rw [hst, Hb.out])
       clear hst hd hat
       go_wp2_with fail
       go_roundw
       case rel => exact ⟨k + 1, by omega, by rw [H1.out], by rw [H2.out], by go_num, FR⟩
       case measure => simp [Go.RowKit.intOf]; omega
  ·go_wp2_with fail
   simp only [Exit.noGoto]
   have hkn : k = n := by omega
   go_ret2
   exact ⟨by subst hkn; rfl, hfr.out⟩
end Go.Proofs.Ytmbjfmlicffclaa

/-
  The merge of lists, in plain words.
-/
namespace Go.Proofs.Ytmbjfmlicffclaa
open Go Go.RowKit

/-- The merge of lists, f events long. -/
def mrgE : Nat → List (List Ev) → List Ev
 | 0, _ => []
 | f + 1, M => match hdM M (lstM M M.length).1 with
  | none => []
  | some y => if (lstM M M.length).2 = true then y :: mrgE f (M.set (lstM M M.length).1 (M[(lstM M M.length).1]?.getD []).tail) else []
def totE (M : List (List Ev)) : Nat := (M.map List.length).sum
theorem totE_flat (M : List (List Ev)) : M.flatten.length = totE M := List.length_flatten
theorem hd_some {M : List (List Ev)} {i : Nat} {y : Ev} (h : hdM M i = some y) : ∃ r, M[i]? = some (y :: r) := by
 unfold hdM at h
 cases hm : M[i]? with
 | none => rw [hm] at h; cases h
 | some l =>
  rw [hm] at h
  cases l with
  | nil => cases h
  | cons a r => cases h; exact ⟨r, rfl⟩
theorem split_at {α : Type} {M : List α} {i : Nat} {x : α} (h : M[i]? = some x) (z : α) : M = M.take i ++ x :: M.drop (i + 1) ∧ M.set i z = M.take i ++ z :: M.drop (i + 1) := by
 obtain ⟨hi, e⟩ := List.getElem?_eq_some_iff.1 h
 refine ⟨?_, ?_⟩
 ·rw [← e, List.getElem_cons_drop, List.take_append_drop]
 ·rw [List.set_eq_take_append_cons_drop, if_pos hi]
theorem flat_take {M : List (List Ev)} {i : Nat} {y : Ev} {r : List Ev} (h : M[i]? = some (y :: r)) : M.flatten.Perm (y :: (M.set i r).flatten) := by
 obtain ⟨h1, h2⟩ := split_at h r
 rw [h2]
 conv => lhs; rw [h1]
 rw [List.flatten_append, List.flatten_append, List.flatten_cons, List.flatten_cons, List.cons_append]
 exact List.perm_middle
theorem tot_take {M : List (List Ev)} {i : Nat} {y : Ev} {r : List Ev} (h : M[i]? = some (y :: r)) : totE M = totE (M.set i r) + 1 := by
 have := (flat_take h).length_eq
 rw [List.length_cons, totE_flat, totE_flat] at this
 exact this
theorem tot_none {M : List (List Ev)} (h : (lstM M M.length).2 = false) : totE M = 0 := by
 have h1 := (lstM_false M M.length h).2
 rw [← totE_flat]
 have : M.flatten = [] := by
  rw [List.flatten_eq_nil_iff]
  intro l hl
  obtain ⟨i, hi⟩ := List.getElem?_of_mem hl
  have h2 := h1 i (List.getElem?_eq_some_iff.1 hi).1
  unfold hdM at h2
  rw [hi] at h2
  cases l with
  | nil => rfl
  | cons a r => cases h2
 rw [this]; rfl
theorem tot_some {M : List (List Ev)} (h : (lstM M M.length).2 = true) : ∃ y r, M[(lstM M M.length).1]? = some (y :: r) := by
 obtain ⟨_, y, hy⟩ := lstM_ok M M.length h
 obtain ⟨r, hr⟩ := hd_some hy
 exact ⟨y, r, hr⟩
theorem mrg_step {M : List (List Ev)} (h : (lstM M M.length).2 = true) {y : Ev} {r : List Ev} (hr : M[(lstM M M.length).1]? = some (y :: r)) (f : Nat) : mrgE (f + 1) M = y :: mrgE f (M.set (lstM M M.length).1 r) := by
 have hh : hdM M (lstM M M.length).1 = some y := by unfold hdM; rw [hr]; rfl
 rw [mrgE, hh]
 simp only
 rw [if_pos h, hr]
 rfl
theorem mrg_perm : ∀ (f : Nat) (M : List (List Ev)), totE M = f → (mrgE f M).Perm M.flatten
 | 0, M, h => by
  rw [← totE_flat] at h
  rw [List.eq_nil_of_length_eq_zero h]
  exact List.Perm.refl _
 | f + 1, M, h => by
  cases hb : (lstM M M.length).2 with
  | false => rw [tot_none hb] at h; cases h
  | true =>
   obtain ⟨y, r, hr⟩ := tot_some hb
   rw [mrg_step hb hr f]
   have h1 := tot_take hr
   exact ((mrg_perm f _ (by omega)).cons y).trans (flat_take hr).symm
theorem mrg_length {f : Nat} {M : List (List Ev)} (h : totE M = f) : (mrgE f M).length = f := by
 rw [(mrg_perm f M h).length_eq, totE_flat, h]
theorem mrg_asc : ∀ (f : Nat) (M : List (List Ev)), totE M = f → (∀ l ∈ M, AscE l) → M.flatten.Pairwise (fun x y => x.key ≠ y.key) → AscE (mrgE f M)
 | 0, _, _, _, _ => List.Pairwise.nil
 | f + 1, M, h, ha, hd => by
  cases hb : (lstM M M.length).2 with
  | false => rw [tot_none hb] at h; cases h
  | true =>
   obtain ⟨y, r, hr⟩ := tot_some hb
   rw [mrg_step hb hr f]
   have h1 := tot_take hr
   have hal : AscE (y :: r) := ha _ (List.mem_of_getElem? hr)
   have ha2 : ∀ l ∈ M.set (lstM M M.length).1 r, AscE l := fun l hl => by
    rcases List.mem_or_eq_of_mem_set hl with h | h
    ·exact ha l h
    ·rw [h]; exact (List.pairwise_cons.1 hal).2
   have hd2 : (y :: (M.set (lstM M M.length).1 r).flatten).Pairwise (fun x y => x.key ≠ y.key) := ((flat_take hr).pairwise_iff (fun h e => h e.symm)).1 hd
   obtain ⟨hd3, hd4⟩ := List.pairwise_cons.1 hd2
   refine List.pairwise_cons.2 ⟨fun z hz => ?_, mrg_asc f _ (by omega) ha2 hd4⟩
   have hz2 := (mrg_perm f _ (by omega)).mem_iff.1 hz
   have hne := hd3 z hz2
   obtain ⟨l, hl, hzl⟩ := List.mem_flatten.1 hz2
   have hyh : hdM M (lstM M M.length).1 = some y := by unfold hdM; rw [hr]; rfl
   have hle := lstM_least M M.length hb y hyh
   have hge : 0 ≤ cmpK z.key y.key := by
    rcases List.mem_or_eq_of_mem_set hl with h | h
    ·obtain ⟨i, hi⟩ := List.getElem?_of_mem h
     cases l with
     | nil => cases hzl
     | cons x s =>
      have h5 := hle i x (List.getElem?_eq_some_iff.1 hi).1 (by unfold hdM; rw [hi]; rfl)
      rcases List.mem_cons.1 hzl with rfl | hs
      ·exact h5
      ·have h6 := (List.pairwise_cons.1 (ha _ h)).1 z hs
       exact Int.not_lt.1 (fun hlt => by have := cmpK_trans _ _ _ h6 hlt; omega)
    ·rw [h] at hzl
     have h6 := (List.pairwise_cons.1 hal).1 z hzl
     rw [cmpK_anti]
     omega
   have hn0 : cmpK z.key y.key ≠ 0 := fun e => hne ((cmpK_eq _ _).1 e).symm
   have := cmpK_anti y.key z.key
   show cmpK y.key z.key < 0
   omega
end Go.Proofs.Ytmbjfmlicffclaa

/-
  The merge's iterator.
-/
namespace Go.Proofs.Ytmbjfmlicffclaa
open Go Go.RowKit
attribute [local go_sem ↓] Go.wp_at_zero Go.wp_at_succ
attribute [local go_sem] Oper.semAt_some wide_fn wide_depth wide_fnR wide_depthR

def Lv.v (x : Lv) : Value := .slice x.a x.n x.c
theorem lvs_one (L : List Lv) : ∀ v ∈ L.map Lv.v, v.oneCell' = true := fun v hv => by
 obtain ⟨p, _, rfl⟩ := List.mem_map.1 hv
 rfl
theorem LvsIn.src {w : World} {a : Option Addr} {L : List Lv} {n : Nat} (h : LvsIn w a L) (hn : L.length = n) (cap : Nat) {tx e' : TypeId} (hk : Try.prog.underlying tx = some (.slice e')) : Src Try.prog 1 tx (.slice a n cap) n (L.map Lv.v) w := by
 cases a with
 | none =>
  have hL : L = [] := by
   clear hn
   cases L with
   | nil => rfl
   | cons p r => obtain ⟨g, o, e, _⟩ := h 0 p rfl; cases e
  subst hL
  have hn : 0 = n := hn
  subst hn
  exact Src.ofNil w hk cap
 | some ad =>
  refine Src.ofSlice w hk ad n cap (L.map Lv.v) (by rw [List.length_map, hn, Nat.mul_one]) (fun j u hj => ?_) (lvs_one L)
  obtain ⟨g, o, s⟩ := ad
  rw [List.getElem?_map] at hj
  obtain ⟨p, hp, rfl⟩ := Option.map_eq_some_iff.1 hj
  obtain ⟨g', o', e, hc⟩ := h j p hp
  cases e
  rw [Addr.add_lit]
  exact hc
theorem info_evs0 : (Try.prog.info? 24).map (fun i => (i.zero, i.size, i.bytes)) = some (some (.slice none 0 0), 1, 24) := by kernel_rfl
set_option maxRecDepth 100000 in
set_option maxHeartbeats 2000000 in
/-- Clone of a list of lists. -/
theorem CloneL {w : World} {a : Option Addr} {n cap : Nat} (L : List Lv) (h : LvsIn w a L) (hl : L.length = n) (hn : n ≤ 1000000) :
  Calls Try.prog 83 #[.slice a n cap] w fun e w' => ∃ v, e = .returned v ∧ w'.ownsRow w.heap.size 24 1 v n (L.map Lv.v) ∧ Fr0 none' w w' := by
 obtain ⟨i0, hi0, hz0, hz1, hz2⟩ := info_parts info_evs0
 have q22 : ∀ (w : World) (a : Option Addr) (n c n' c' : Nat), (binOp .eql 66 (.slice a n c) (.slice none n' c')).run Try.prog w = .ok (.bool a.isNone) w := fun w a n c n' c' => Lib.run_eql_slice_nil w _ _ a n c n' c' Try.underlying66
 cases a with
 | none =>
  have hL : L = [] := by
   cases L with
   | nil => rfl
   | cons p r => obtain ⟨g, o, e, _⟩ := h 0 p rfl; cases e
  subst hL
  obtain rfl : n = 0 := by rw [← hl]; rfl
  go_enter Try.func83, Try.ntmps83
  go_wp2
  go_ret
  exact ⟨_, rfl, World.ownsRow_nil _ _ _ _, Fr0.refl _ _⟩
 | some a =>
  have hsrc := Lib.hid (fun (W : World) (hf : Fr0 none' w W) => (h.later hf).src hl cap Try.underlying66)
  clear h hl
  go_enter Try.func83, Try.ntmps83
  go_wp2_with (at_builtin; refine wpList_append_k rfl _ _ 66 66 rfl w.heap.size 24 i0 (.slice none 0 0) 1 24 Try.underlying66 hi0 hz0 hz1 hz2 rfl (by decide) (.slice (some ⟨w.heap.size, 0, none⟩) 0 0) 0 _ rfl (World.ownsRow_made w #[] 0 (Nat.le_refl _) (Nat.zero_le _) (by simp)) (.slice (some a) n cap) n _ rfl (hsrc.out _ ((Fr0.refl _ _).alloc _)) (by unfold maxLen; omega) (by omega) (by simp) ?_; intro v' w1 hown hgrow hdr hob)
  go_wp2
  go_ret
  exact ⟨_, rfl, by simpa using hown, ((Fr0.refl none' w).alloc _).grown hgrow (fun k hk hlt => by have : w.heap.size = k := Option.some.inj hk; omega)⟩
/-- A row of lists in a block. -/
def RowL (w : World) (g n cap : Nat) (R : List Lv) : Prop := ∃ cu ty, w.heap[g]? = some (.cells cu ty (0, 0)) ∧ n ≤ cap ∧ R.length = n ∧ cu.toList.take n = R.map Lv.v
theorem RowL.of_own {w : World} {base g n cap : Nat} {R : List Lv} (h : w.ownsRow base 24 1 (.slice (some ⟨g, 0, none⟩) n cap) n (R.map Lv.v)) : RowL w g n cap R := by
 have hl := h.1
 rcases h.2 with ⟨e, h0⟩ | ⟨g', cap', cur, e, hb, hg, hn, hcm, hs, ht⟩
 ·cases e
 ·cases e
  rw [List.length_map, Nat.mul_one] at hl
  rw [Nat.mul_one] at ht
  exact ⟨cur, _, hg, hn, hl, ht⟩
theorem RowL.of_block {w w' : World} {g n cap : Nat} {R : List Lv} (h : RowL w g n cap R) (hb : w'.heap[g]? = w.heap[g]?) : RowL w' g n cap R := by
 obtain ⟨cu, ty, hg, r⟩ := h
 exact ⟨cu, ty, hb.trans hg, r⟩
theorem RowL.lvs {w : World} {g n cap : Nat} {R : List Lv} (h : RowL w g n cap R) : LvsIn w (some ⟨g, 0, none⟩) R := fun i x hi => by
 obtain ⟨cu, ty, hg, hnc, hl, ht⟩ := h
 have hlt : i < n := by rw [← hl]; exact (List.getElem?_eq_some_iff.1 hi).1
 refine ⟨g, 0, rfl, ?_⟩
 have h1 : cu.toList[i]? = some x.v := by
  have h2 : (cu.toList.take n)[i]? = some x.v := by rw [ht, List.getElem?_map, hi]; rfl
  rwa [List.getElem?_take_of_lt hlt] at h2
 rw [Nat.zero_add, cells_in hg, ← Array.getElem?_toList, h1]
 rfl
theorem RowL.put {w : World} {g n cap i : Nat} {R : List Lv} (h : RowL w g n cap R) (x : Lv) : RowL (w.setCell ⟨g, i, none⟩ x.v) g n cap (R.set i x) := by
 obtain ⟨cu, ty, hg, hnc, hl, ht⟩ := h
 refine ⟨_, ty, heap_set_cell hg _, hnc, by rw [List.length_set]; exact hl, ?_⟩
 rw [Array.toList_setIfInBounds, List.take_set, ht, List.map_set]
theorem RowL.thaw {w : World} {g n cap : Nat} {R : List Lv} (h : RowL w g n cap R) (j : Nat) : w.frozen? ⟨g, j, none⟩ = false := by
 obtain ⟨cu, ty, hg, _⟩ := h
 exact thaw_in hg j
theorem EsIn.of_block {W W' : World} {a : Option Addr} {E : List Ev} (h : EsIn W a E) (hb : ∀ g o, a = some ⟨g, o, none⟩ → W'.heap[g]? = W.heap[g]?) : EsIn W' a E := fun i x hx => by
 obtain ⟨g, o, e, h0, h1, h2, h3, h4⟩ := h i x hx
 have hbg := hb g o e
 exact ⟨g, o, e, (World.cell?_of_block (w := W) hbg).trans h0, (World.cell?_of_block (w := W) hbg).trans h1, (World.cell?_of_block (w := W) hbg).trans h2, (World.cell?_of_block (w := W) hbg).trans h3, (World.cell?_of_block (w := W) hbg).trans h4⟩
/-- What is behind a list's first event. -/
def Lv.tail (x : Lv) : Lv := ⟨if x.c = 1 then x.a else x.a.map (fun y => y.add 5), x.n - 1, x.c - 1, x.evs.tail⟩
/-- The blocks that the lists are read from. -/
def rdL (cb : Nat) (a : Option Addr) (L : List Lv) (k : Nat) : Prop := k = cb ∨ (∃ o, a = some ⟨k, o, none⟩) ∨ ∃ x ∈ L, ∃ o, x.a = some ⟨k, o, none⟩
def lenV : Value → Nat
 | .slice _ n _ => n
 | _ => 0
/-- How many events are left. -/
def leftL (w : World) (g n : Nat) : Nat := match w.heap[g]? with
 | some (.cells cu _ _) => ((cu.toList.take n).map lenV).sum
 | _ => 0
theorem RowL.left {w : World} {g n cap : Nat} {R : List Lv} (h : RowL w g n cap R) (he : ∀ x ∈ R, x.evs.length = x.n) : leftL w g n = totE (R.map Lv.evs) := by
 obtain ⟨cu, ty, hg, hnc, hl, ht⟩ := h
 unfold leftL totE
 rw [hg]
 simp only
 rw [ht, List.map_map, List.map_map]
 congr 1
 exact List.map_congr_left (fun x hx => (he x hx).symm)
end Go.Proofs.Ytmbjfmlicffclaa

/-
  The merge's iterator: its walk.
-/
namespace Go.Proofs.Ytmbjfmlicffclaa
open Go Go.RowKit
attribute [local go_sem ↓] Go.wp_at_zero Go.wp_at_succ
attribute [local go_sem] Oper.semAt_some wide_fn wide_depth wide_fnR wide_depthR

theorem EsIn.of_old {W W' : World} {a : Option Addr} {E : List Ev} (h : EsIn W a E) (hb : ∀ g o, a = some ⟨g, o, none⟩ → g < W.heap.size → W'.heap[g]? = W.heap[g]?) : EsIn W' a E := fun i x hx => by
 obtain ⟨g, o, e, h0, h1, h2, h3, h4⟩ := h i x hx
 have hbg := hb g o e (World.block_lt_of_cell? _ _ h0)
 exact ⟨g, o, e, (World.cell?_of_block (w := W) hbg).trans h0, (World.cell?_of_block (w := W) hbg).trans h1, (World.cell?_of_block (w := W) hbg).trans h2, (World.cell?_of_block (w := W) hbg).trans h3, (World.cell?_of_block (w := W) hbg).trans h4⟩
theorem esIn_tail {W : World} {g o : Nat} {y : Ev} {r : List Ev} (h : EsIn W (some ⟨g, o, none⟩) (y :: r)) : EsIn W (some ⟨g, o + 5, none⟩) r := fun i z hz => by
 obtain ⟨g', o', e, hc⟩ := h (i + 1) z (by simpa using hz)
 injection e with e
 injection e with e1 e2 _
 subst e1
 subst e2
 rw [show o + (i + 1) * 5 = o + 5 + i * 5 by omega] at hc
 exact ⟨g, o + 5, rfl, hc⟩
set_option maxRecDepth 100000 in
set_option maxHeartbeats 4000000 in
theorem all_iter {w : World} {cb : Nat} {a : Option Addr} {n cap : Nat} (L : List Lv) (hb : Box w cb (.slice a n cap)) (h : LvsIn w a L) (he : LvEv w L) (hl : L.length = n) (hn : n ≤ 1000) (hn0 : 0 < n) :
  IterX0 Try.prog 82 #[.pointer (some ⟨cb, 0, none⟩)] (fun x : Ev => #[evV x]) (mrgE (totE (L.map Lv.evs)) (L.map Lv.evs)) none' (rdL cb a L) w := by
 intro l J Jx W hK hJ hJx hY h0
 obtain ⟨T, hT⟩ : ∃ T, totE (L.map Lv.evs) = T := ⟨_, rfl⟩
 rw [hT] at hY ⊢
 obtain ⟨xs, hxs⟩ : ∃ xs, mrgE T (L.map Lv.evs) = xs := ⟨_, rfl⟩
 have hxl : xs.length = T := by rw [← hxs]; exact mrg_length hT
 rw [hxs] at hY ⊢
 have HT := Lib.hid hT
 have Hxs := Lib.hid hxs
 have Hxl := Lib.hid hxl
 clear hT hxs hxl
 have hbW : Box W cb (.slice a n cap) := hb.of_block (hK.2 cb (.inl rfl))
 have hW : LvsIn W a L := fun i x hi => by
  obtain ⟨g, o, e, c⟩ := h i x hi
  exact ⟨g, o, e, (World.cell?_of_block (w := w) (hK.2 g (.inr (.inl ⟨o, e⟩)))).trans c⟩
 have hE : LvEv W L := fun x hx => ⟨(he x hx).1.of_block (fun g o e => hK.2 g (.inr (.inr ⟨x, hx, o, e⟩))), (he x hx).2⟩
 have HL := Lib.hid hW
 have HE := Lib.hid hE
 have Hl := Lib.hid hl
 have HY := Lib.hid hY
 have HJ := Lib.hid hJ
 have HB := Lib.hid hbW
 have hc := hbW.cell
 clear hY hJ hb hbW hK h he hW hE hl
 refine callsIn_of_wp Try.func82 rfl trivial ?_ rfl
 simp only [Try.ntmps82, List.size_toArray, List.length_cons, List.length_nil, Nat.reduceAdd, Nat.reduceSub, Array.replicate_succ, Array.replicate_zero, List.push_toArray, List.append_toArray, List.nil_append, List.cons_append]
 gi_wp2_with fail
 refine (callsIn_wide.2 (CloneL L HL.out Hl.out (by omega))).mono ?_
 rintro e w1 ⟨v, rfl, hrow, hf⟩
 obtain ⟨g, c, rfl, hrl⟩ : ∃ g c, v = .slice (some ⟨g, 0, none⟩) n c ∧ RowL w1 g n c L := by
  rcases hrow.2 with ⟨rfl, h0⟩ | ⟨g, cap, cur, rfl, _⟩
  ·omega
  ·exact ⟨g, cap, rfl, RowL.of_own hrow⟩
 have hgl := hrow.lt g rfl
 obtain ⟨X, hX⟩ : ∃ X : Nat → Prop, (fun k => k = g) = X := ⟨_, rfl⟩
 have hj1 : J 0 X w1 := HJ.out 0 none' _ W w1 h0 (hf.mono (fun k _ h => h.elim)) (fun k hk => .inr (by rw [← hX] at hk; have hk : k = g := hk; omega))
 have HX := Lib.hid (show ∀ k, X k ↔ k = g from fun k => by rw [← hX])
 have Hgl := Lib.hid hgl
 have Hrl := Lib.hid hrl
 have F1 := Lib.hid hf
 clear hrow hf hc h0 hX hrl
 gi_wp2_with fail
 gi_loopw [4, 5] (fun _ _ wr => ∃ (k : Nat) (R : List Lv), k ≤ T ∧ Hid (xs.drop k = mrgE (T - k) (R.map Lv.evs)) ∧ Hid (totE (R.map Lv.evs) = T - k) ∧ Hid (RowL wr g n c R) ∧ Hid (LvEv W R) ∧ Hid (∀ x ∈ R, ∀ b o, x.a = some ⟨b, o, none⟩ → rdL cb a L b) ∧ J k X wr ∧ Hid (w1.heap.size ≤ wr.heap.size ∧ ∀ b, rdL cb a L b → b < W.heap.size → wr.heap[b]? = W.heap[b]?)) (fun _ _ wr => leftL wr g n)
 case atStart => exact ⟨0, L, Nat.zero_le _, by rw [← Hxs.out]; rfl, HT.out, Hrl.out, HE.out, (fun x hx b o e => .inr (.inr ⟨x, hx, o, e⟩)), hj1, ⟨Nat.le_refl _, fun b _ hb => F1.out.block b hb id⟩⟩
 case round =>
  obtain ⟨k, R, hk, hdr, htt, hrw, hev, hrd, hj, hkp⟩ := hrel
  have hRl : R.length = n := by obtain ⟨_, _, _, _, h, _⟩ := hrw.out; exact h
  have hev2 : LvEv wr R := fun x hx => ⟨(hev.out x hx).1.of_old (fun b o e hb => hkp.out.2 b (hrd.out x hx b o e) hb), (hev.out x hx).2⟩
  have hlft : leftL wr g n = totE (R.map Lv.evs) := hrw.out.left (fun x hx => (hev.out x hx).2.1)
  have Hlft := Lib.hid hlft
  have Hev2 := Lib.hid hev2
  have HRl := Lib.hid hRl
  clear hRl hev2 hlft
  gi_wp2_with fail
  refine (callsIn_wide.2 (Least_any (cap := c) R hrw.out.lvs Hev2.out HRl.out (by omega))).mono ?_
  rintro e w2 ⟨rfl, hf2⟩
  obtain ⟨M, hM⟩ : ∃ M, R.map Lv.evs = M := ⟨_, rfl⟩
  have hMl : M.length = n := by rw [← hM, List.length_map, HRl.out]
  rw [hM] at hdr htt Hlft ⊢
  rw [← hMl]
  obtain ⟨i, hi⟩ : ∃ i, (lstM M M.length).1 = i := ⟨_, rfl⟩
  obtain ⟨b, hb⟩ : ∃ b, (lstM M M.length).2 = b := ⟨_, rfl⟩
  rw [hi, hb, hMl]
  have hj2 : J k X w2 := HJ.out k X X wr w2 hj (hf2.mono (fun _ _ h => h.elim)) (fun k hk => .inl hk)
  have F2 := Lib.hid hf2
  clear hj hf2
  cases b with
  | false =>
   have h0 := tot_none hb
   have hkT : k = xs.length := by rw [Hxl.out]; have := htt.out; omega
   have HJF := Lib.hid (show J xs.length X w2 by rw [← hkT]; exact hj2)
   clear hj2 hb hi hM hMl h0 hkT
   gi_wp2_with fail
   refine bodyPost_ret (results_none rfl _ _ _) rfl ?_
   exact ⟨⟨_, rfl⟩, .inl ⟨X, HJF.out⟩⟩
  | true =>
   obtain ⟨y, r, hr⟩ := tot_some hb
   rw [hi] at hr
   have hRi : ∃ x, R[i]? = some x ∧ x.evs = y :: r := by
    rw [← hM, List.getElem?_map] at hr
    exact Option.map_eq_some_iff.1 hr
   obtain ⟨x, hx, hxe⟩ := hRi
   have htt2 := tot_take hr
   obtain ⟨f, hf⟩ : ∃ f, T - k = f + 1 := ⟨T - k - 1, by have := htt.out; omega⟩
   have hstep : mrgE (T - k) M = y :: mrgE f (M.set i r) := by
    rw [hf]
    have := mrg_step hb (y := y) (r := r) (by rw [hi]; exact hr) f
    rw [hi] at this
    exact this
   have hd2 : xs.drop k = y :: mrgE f (M.set i r) := by rw [hdr.out, hstep]
   have hxk : xs[k]? = some y := by
    have := congrArg (fun l => l[0]?) hd2
    simpa using this
   have hd3 : xs.drop (k + 1) = mrgE (T - (k + 1)) (M.set i r) := by
    rw [show k + 1 = k + 1 from rfl, ← List.drop_drop, hd2, show T - (k + 1) = f by omega]
    rfl
   have hin : i < n := by rw [← HRl.out]; exact (List.getElem?_eq_some_iff.1 hx).1
   have hxm := List.mem_of_getElem? hx
   have hxE := (Hev2.out.later F2.out) x hxm
   obtain ⟨g', o', e', hc0⟩ := (hrw.out.lvs.later F2.out) i x hx
   injection e' with e'
   injection e' with e1' e2' _
   subst e1'
   subst e2'
   rw [Nat.zero_add] at hc0
   have Hxe := Lib.hid hxe
   have Hx := Lib.hid hx
   have Hd3 := Lib.hid hd3
   have Htt2 := Lib.hid htt2
   have HMs := Lib.hid hM
   obtain ⟨xa, xn, xc, xv⟩ := x
   simp only at hc0 hxE hxe
   subst hxe
   obtain ⟨g1, o1, rfl, hec⟩ := hxE.1 0 y rfl
   rw [Nat.zero_mul, Nat.add_zero] at hec
   obtain ⟨x0, x1, x2, x3, x4⟩ := hec
   have z1 : (0 : Int) ≤ (i : Int) := by omega
   have z2 : (i : Int) < (n : Int) := by omega
   have z3 : (0 : Int) < (xn : Int) := by have := hxE.2.1; simp at this; omega
   obtain ⟨fn, tmps, assign, body, hyy, hR⟩ := HY.out k y X w2 hxk hj2
   unfold evV at hyy
   have HR := Lib.hid hR
   have HXE := Lib.hid hxE
   clear hj2 hb hi hM hMl hr hx htt2 hf hstep hd2 hxk hd3 hxm hxE hR
   gi_wp2_with fail
   refine HR.out.mono ?_
   rintro e W3 (⟨rfl, hJ3, hk3⟩ | ⟨rfl, hJx3⟩)
   ·have HR3 := Lib.hid ((hrw.out.of_block (F2.out.block g (by obtain ⟨cu, ty, h, _⟩ := hrw.out; exact (Array.getElem?_eq_some_iff.1 h).1) id)).of_block (hk3.2 g (.inr ((HX.out g).2 rfl))))
    have hs3 : wr.heap.size ≤ W3.heap.size := Nat.le_trans F2.out.size hk3.1
    have hkp3 := Lib.hid (show w1.heap.size ≤ W3.heap.size ∧ ∀ b, rdL cb a L b → b < W.heap.size → W3.heap[b]? = W.heap[b]? from ⟨Nat.le_trans hkp.out.1 hs3, fun b h1 h2 => (hk3.2 b (.inl h1)).trans ((F2.out.block b (Nat.lt_of_lt_of_le h2 (Nat.le_trans F1.out.size hkp.out.1)) id).trans (hkp.out.2 b h1 h2))⟩)
    obtain ⟨_, _, e', hc3⟩ := HR3.out.lvs i _ Hx.out
    injection e' with e'
    injection e' with e1' e2' _
    subst e1'
    subst e2'
    rw [Nat.zero_add] at hc3
    simp only at hc3
    have ht3 := HR3.out.thaw i
    have HJ3 := Lib.hid hJ3
    have z4 : (1 : Int) ≤ (xn : Int) := by omega
    have z5 : (xn : Int) ≤ (xc : Int) := by have h5 : xn ≤ xc := HXE.out.2.2.2; omega
    clear hJ3 hk3 hs3 HR hc0 x0 x1 x2 x3 x4
    gi_wp2_with fail
    obtain ⟨ta, hta⟩ : ∃ ta : Option Addr, (if xc = 1 then some (⟨g1, o1, none⟩ : Addr) else some ⟨g1, o1 + 5, none⟩) = ta := ⟨_, rfl⟩
    rw [hta]
    have hput : RowL (W3.setCell ⟨g, i, none⟩ (.slice ta (xn - 1) (xc - 1))) g n c (R.set i ⟨ta, xn - 1, xc - 1, r⟩) := HR3.out.put ⟨ta, xn - 1, xc - 1, r⟩
    have hmap : (R.set i ⟨ta, xn - 1, xc - 1, r⟩).map Lv.evs = M.set i r := by rw [List.map_set, HMs.out]
    have hmem := List.mem_of_getElem? Hx.out
    obtain ⟨hq1, hq2, hq3, hq4⟩ := hev.out _ hmem
    simp only [List.length_cons] at hq1 hq2 hq3 hq4
    have hne : ∀ z ∈ R.set i ⟨ta, xn - 1, xc - 1, r⟩, EsIn W z.a z.evs ∧ z.evs.length = z.n ∧ z.n ≤ 10000 ∧ z.n ≤ z.c := fun z hz => by
     rcases List.mem_or_eq_of_mem_set hz with h | rfl
     ·exact hev.out z h
     ·refine ⟨?_, by simp only; omega, by simp only; omega, by simp only; omega⟩
      simp only
      rw [← hta]
      split
      ·have : r = [] := List.eq_nil_of_length_eq_zero (by omega)
       rw [this]
       exact fun j z hz => by simp at hz
      ·exact esIn_tail hq1
    have hrd2 : ∀ z ∈ R.set i ⟨ta, xn - 1, xc - 1, r⟩, ∀ b o, z.a = some ⟨b, o, none⟩ → rdL cb a L b := fun z hz b o e => by
     rcases List.mem_or_eq_of_mem_set hz with h | rfl
     ·exact hrd.out z h b o e
     ·simp only at e
      rw [← hta] at e
      have hb1 := hrd.out _ hmem g1 o1 rfl
      split at e
      ·injection e with e; injection e with e1; rw [← e1]; exact hb1
      ·injection e with e; injection e with e1; rw [← e1]; exact hb1
    have hfr : Fr0 (fun k => k = g) W3 (W3.setCell ⟨g, i, none⟩ (.slice ta (xn - 1) (xc - 1))) := (Fr0.refl (fun k => k = g) W3).setCell (fun _ => rfl) _
    have htt := htt.out
    have htt2 := Htt2.out
    refine ⟨⟨k + 1, R.set i ⟨ta, xn - 1, xc - 1, r⟩, by omega, by rw [hmap]; exact Hd3.out, ?_, hput, hne, hrd2, ?_, ?_⟩, ?_⟩
    ·rw [hmap]
     show totE (M.set i r) = T - (k + 1)
     omega
    ·exact HJ.out (k + 1) X X W3 _ HJ3.out (hfr.mono (fun k _ hk => .inr ((HX.out k).2 hk))) (fun k hk => .inl hk)
    ·refine ⟨Nat.le_trans hkp3.out.1 hfr.size, fun b h1 h2 => (hfr.block b ?_ ?_).trans (hkp3.out.2 b h1 h2)⟩
     ·have h3 := F1.out.size
      have h4 := hkp3.out.1
      omega
     ·intro e
      have e : b = g := e
      have := Hgl.out.1
      omega
    ·rw [hput.left (fun z hz => (hne z hz).2.1), hmap, Hlft.out]
     omega
   ·gi_wp2
    refine bodyPost_ret (results_none rfl _ _ _) rfl ?_
    exact ⟨⟨_, rfl⟩, .inr hJx3⟩
end Go.Proofs.Ytmbjfmlicffclaa

/-
  slices.Collect over the merge.
-/
namespace Go.Proofs.Ytmbjfmlicffclaa
open Go Go.RowKit
attribute [local go_sem ↓] Go.wp_at_zero Go.wp_at_succ
attribute [local go_sem] Oper.semAt_some wide_fn wide_depth wide_fnR wide_depthR

set_option maxRecDepth 100000 in
set_option maxHeartbeats 4000000 in
theorem all_iter0 {w : World} {cb : Nat} {a : Option Addr} {cap : Nat} (hb : Box w cb (.slice a 0 cap)) :
  IterX0 Try.prog 82 #[.pointer (some ⟨cb, 0, none⟩)] (fun x : Ev => #[evV x]) [] none' (rdL cb a []) w := by
 intro l J Jx W hK hJ hJx hY h0
 have hbW : Box W cb (.slice a 0 cap) := hb.of_block (hK.2 cb (.inl rfl))
 have HJ := Lib.hid hJ
 have hc := hbW.cell
 clear hY hJ hb hK
 refine callsIn_of_wp Try.func82 rfl trivial ?_ rfl
 simp only [Try.ntmps82, List.size_toArray, List.length_cons, List.length_nil, Nat.reduceAdd, Nat.reduceSub, Array.replicate_succ, Array.replicate_zero, List.push_toArray, List.append_toArray, List.nil_append, List.cons_append]
 gi_wp2_with fail
 refine (callsIn_wide.2 (CloneL (n := 0) (cap := cap) [] (fun i x hi => by simp at hi) rfl (by omega))).mono ?_
 rintro e w1 ⟨v, rfl, hrow, hf⟩
 obtain ⟨ga, gc, rfl⟩ : ∃ ga gc, v = .slice ga 0 gc := by
  rcases hrow.2 with ⟨rfl, h0⟩ | ⟨g, cap, cur, rfl, _⟩
  ·exact ⟨none, 0, rfl⟩
  ·exact ⟨_, cap, rfl⟩
 have hj1 : J 0 none' w1 := HJ.out 0 none' none' W w1 h0 (hf.mono (fun k _ h => h.elim)) (fun k hk => .inl hk)
 clear hrow hf hc h0 hbW
 gi_wp2_with fail
 gi_loopw [4, 5] (fun _ _ wr => J 0 none' wr) (fun _ _ _ => 0)
 case atStart => exact hj1
 case round =>
  gi_wp2_with fail
  refine (callsIn_wide.2 (Least_any (n := 0) (cap := gc) [] (fun i x hi => by simp at hi) (fun x hx => by simp at hx) rfl (by omega))).mono ?_
  rintro e w2 ⟨rfl, hf2⟩
  have hj2 : J 0 none' w2 := HJ.out 0 none' none' wr w2 hrel (hf2.mono (fun k _ h => h.elim)) (fun k hk => .inl hk)
  have d1 : (lstM (([] : List Lv).map Lv.evs) 0).2 = false := rfl
  rw [d1]
  clear hf2 hrel
  gi_wp2_with fail
  refine bodyPost_ret (results_none rfl _ _ _) rfl ?_
  exact ⟨⟨_, rfl⟩, .inl ⟨none', hj2⟩⟩
/-- The iterator's box: what merge.all makes. -/
theorem all_any {w : World} {a : Option Addr} {n cap : Nat} :
  Calls Try.prog 57 #[.slice a n cap] w fun e w' => e = .returned (.func (.func 82) #[] #[.pointer (some ⟨w.heap.size, 0, none⟩)]) ∧ Box w' w.heap.size (.slice a n cap) ∧ Fr0 none' w w' := by
 go_enter Try.func57, Try.ntmps57
 go_wp2_with fail
 go_ret
 exact ⟨rfl, Box.new _ _ _, (Fr0.refl _ _).alloc _⟩
/-- A block that a list is read from lies in the world. -/
theorem rdL_lt {w : World} {cb : Nat} {a : Option Addr} {L : List Lv} (hc : cb < w.heap.size) (ha : ∀ g o, a = some ⟨g, o, none⟩ → g < w.heap.size) (hL : ∀ x ∈ L, ∀ g o, x.a = some ⟨g, o, none⟩ → g < w.heap.size) : ∀ k, rdL cb a L k → k < w.heap.size := fun k h => by
 rcases h with rfl | ⟨o, e⟩ | ⟨x, hx, o, e⟩
 ·exact hc
 ·exact ha k o e
 ·exact hL x hx k o e
set_option maxRecDepth 100000 in
theorem CollectM {w : World} {cb : Nat} {a : Option Addr} {n cap : Nat} (L : List Lv) (hb : Box w cb (.slice a n cap)) (h : LvsIn w a L) (he : LvEv w L) (hl : L.length = n) (hn : n ≤ 1000) (ha : ∀ g o, a = some ⟨g, o, none⟩ → g < w.heap.size) (hL : ∀ x ∈ L, ∀ g o, x.a = some ⟨g, o, none⟩ → g < w.heap.size) (ht : totE (L.map Lv.evs) ≤ 1000000) :
  Calls Try.prog 56 #[.func (.func 82) #[] #[.pointer (some ⟨cb, 0, none⟩)]] w fun e w' => ∃ v, e = .returned v ∧ w'.ownsRow w.heap.size 47 5 v (mrgE (totE (L.map Lv.evs)) (L.map Lv.evs)).length (flatEv (mrgE (totE (L.map Lv.evs)) (L.map Lv.evs))) ∧ Fr0 none' w w' := by
 by_cases h0 : n = 0
 ·subst h0
  have hL0 := List.eq_nil_of_length_eq_zero hl
  subst hL0
  exact CollectE 82 _ [] none' (rdL cb a []) w (fun _ _ => rfl) (all_iter0 hb) (fun k h => h.elim) (rdL_lt hb.lt ha hL) (Nat.zero_le _)
 ·exact CollectE 82 _ _ none' (rdL cb a L) w (fun _ _ => rfl) (all_iter L hb h he hl hn (by omega)) (fun k h => h.elim) (rdL_lt hb.lt ha hL) (by rw [mrg_length rfl]; exact ht)
end Go.Proofs.Ytmbjfmlicffclaa

/-
  merge.Merge.
-/
namespace Go.Proofs.Ytmbjfmlicffclaa
open Go Go.RowKit Go.ChangeMaps
attribute [local go_sem ↓] Go.wp_at_zero Go.wp_at_succ
attribute [local go_sem] Oper.semAt_some wide_fn wide_depth wide_fnR wide_depthR

set_option maxRecDepth 100000 in
set_option maxHeartbeats 4000000 in
theorem Merge_any {w : World} {a : Option Addr} {n cap : Nat} (L : List Lv) (h : LvsIn w a L) (he : LvEv w L) (hl : L.length = n) (hn : n ≤ 1000) (ha : ∀ g o, a = some ⟨g, o, none⟩ → g < w.heap.size) (hL : ∀ x ∈ L, ∀ g o, x.a = some ⟨g, o, none⟩ → g < w.heap.size) (ht : totE (L.map Lv.evs) ≤ 10000)
  (hA : ∀ x ∈ L, AscE x.evs) (hD : (L.map Lv.evs).flatten.Pairwise (fun x y => x.key ≠ y.key)) (hR : ∀ x ∈ L, ∀ y ∈ x.evs, R64K y.key) :
  Calls Try.prog 32 #[.slice a n cap] w fun e w' => ∃ v, e = .returned (.tuple #[v, .int .i64 (-1), .int .i64 0]) ∧ w'.ownsRow w.heap.size 47 5 v (mrgE (totE (L.map Lv.evs)) (L.map Lv.evs)).length (flatEv (mrgE (totE (L.map Lv.evs)) (L.map Lv.evs))) ∧ Fr0 none' w w' := by
 obtain ⟨T, hT⟩ : ∃ T, totE (L.map Lv.evs) = T := ⟨_, rfl⟩
 have HC := Lib.hid (fun (W : World) (cb : Nat) (hf : Fr0 none' w W) (hb : Box W cb (.slice a n cap)) => CollectM L hb (h.later hf) (he.later hf) hl hn (fun g o e => Nat.lt_of_lt_of_le (ha g o e) hf.size) (fun x hx g o e => Nat.lt_of_lt_of_le (hL x hx g o e) hf.size) (by omega))
 have H := Lib.hid h
 have HE := Lib.hid he
 have Hl := Lib.hid hl
 have HA := Lib.hid hA
 have HD := Lib.hid hD
 have HR := Lib.hid hR
 have HT := Lib.hid hT
 obtain ⟨xs, hxs⟩ : ∃ xs, mrgE (totE (L.map Lv.evs)) (L.map Lv.evs) = xs := ⟨_, rfl⟩
 rw [hxs] at HC ⊢
 rw [hT] at ht
 have hmm := @run_makeMap Try.prog
 clear h he hl ha hL hA hD hR hT hxs
 go_enter Try.func32, Try.ntmps32
 go_wp2_with fail
 go_loopw [5, 6, 16] (fun _ _ i wr => ∃ k : Nat, k ≤ n ∧ i = .int .i64 k ∧ Hid (Fr0 none' w wr)) (fun _ _ i _ => n - (Go.RowKit.intOf i).toNat)
 case atStart => exact ⟨0, Nat.zero_le _, rfl, Fr0.refl _ _⟩
 case round =>
  obtain ⟨k, hk, rfl, hfr⟩ := hrel
  by_cases hlt : k < n
  ·obtain ⟨x, hx⟩ : ∃ x, L[k]? = some x := ⟨_, List.getElem?_eq_getElem (by rw [Hl.out]; exact hlt)⟩
   have hxm := List.mem_of_getElem? hx
   obtain ⟨g, o, rfl, hxc⟩ := (H.out.later hfr.out) k x hx
   have hxe := (HE.out.later hfr.out) x hxm
   have HS := Sorted_any (w := wr) (cap := x.c) x.evs hxe.1 hxe.2.1 hxe.2.2.1
   rw [decide_eq_true (HA.out x hxm)] at HS
   have HS := Lib.hid HS
   have k1 : (0 : Int) ≤ (k : Int) := by omega
   have k2 : (k : Int) < (n : Int) := by omega
   clear hx hxm hxe
   go_wp2_with fail
   refine HS.out.mono ?_
   rintro e w2 ⟨rfl, hf2⟩
   have FR := Lib.hid (hfr.out.trans hf2)
   clear hf2 hfr
   go_wp2_with fail
   go_roundw
   case rel => exact ⟨k + 1, by omega, by go_num, FR⟩
   case measure => simp [Go.RowKit.intOf]; omega
  ·have HF := Lib.hid hfr.out
   clear hfr
   go_wp2_with fail
   clear hmm
   obtain ⟨B, hB⟩ : ∃ B, wr.heap.size = B := ⟨_, rfl⟩
   obtain ⟨W2, hW2⟩ : ∃ W, wr.alloc (.map #[] 0) = W := ⟨_, rfl⟩
   have M2 := Lib.hid (show MgIs Try.prog 45 keyV W2 B 0 (fun _ => none) by rw [← hW2, ← hB]; exact mg_made wr)
   have F2 := Lib.hid (show Fr0 none' w W2 by rw [← hW2]; exact HF.out.alloc _)
   have HB := Lib.hid (show w.heap.size ≤ B by rw [← hB]; exact HF.out.size)
   rw [hW2]
   try rw [hB]
   clear hW2 hB
   go_loopw [8, 9, 11, 12, 13, 29] (fun _ _ _ _ _ i wr => ∃ (k : Nat) (c : Key3 → Option Int), k ≤ n ∧ i = .int .i64 k ∧ Hid (MgIs Try.prog 45 keyV wr B ((L.map Lv.evs).take k).flatten.length c) ∧ Hid (∀ nm, (c nm).isSome = true → ∃ e ∈ ((L.map Lv.evs).take k).flatten, e.key = nm) ∧ Hid (Fr0 none' w wr)) (fun _ _ _ _ _ i _ => n - (Go.RowKit.intOf i).toNat)
   case atStart => exact ⟨0, _, Nat.zero_le _, rfl, M2, (fun nm h => by cases h), F2⟩
   case round =>
    obtain ⟨k, c, hk, rfl, hmg, hcs, hfr⟩ := hrel
    by_cases hlt : k < n
    ·obtain ⟨x, hx⟩ : ∃ x, L[k]? = some x := ⟨_, List.getElem?_eq_getElem (by rw [Hl.out]; exact hlt)⟩
     have hxm := List.mem_of_getElem? hx
     obtain ⟨g, o, rfl, hxc⟩ := (H.out.later hfr.out) k x hx
     have Hxe := Lib.hid (HE.out x hxm)
     have Hxr := Lib.hid (HR.out x hxm)
     have Hx := Lib.hid hx
     have k1 : (0 : Int) ≤ (k : Int) := by omega
     have k2 : (k : Int) < (n : Int) := by omega
     have htk : ((L.map Lv.evs).take (k + 1)).flatten = ((L.map Lv.evs).take k).flatten ++ x.evs := by
      rw [List.take_add_one, List.getElem?_map, hx]
      simp
     have hdp : ((L.map Lv.evs).take k).flatten ++ x.evs ++ ((L.map Lv.evs).drop (k + 1)).flatten = (L.map Lv.evs).flatten := by
      rw [← htk, ← List.flatten_append, List.take_append_drop]
     obtain ⟨D, hDd⟩ : ∃ D, ((L.map Lv.evs).take k).flatten = D := ⟨_, rfl⟩
     rw [hDd] at htk hdp hmg hcs
     have HDp := Lib.hid (show (D ++ x.evs ++ ((L.map Lv.evs).drop (k + 1)).flatten).Pairwise (fun x y => x.key ≠ y.key) by rw [hdp]; exact HD.out)
     have hlen : D.length + x.evs.length ≤ 10000 := by
      have h1 := congrArg List.length hdp
      rw [List.length_append, List.length_append] at h1
      have h2 := totE_flat (L.map Lv.evs)
      rw [HT.out] at h2
      omega
     have Htk := Lib.hid htk
     obtain ⟨xa, xn, xc, xe⟩ := x
     simp only at hxc Hxe Hxr HDp hlen Htk
     have hxn : xe.length = xn := Hxe.out.2.1
     rw [hxn] at hlen
     have Hxn := Lib.hid hxn
     clear hx hxm htk hdp hDd hxn
     go_wp2_with fail
     go_loopw [11, 12, 13, 36] (fun _ _ _ jv wr => ∃ (j : Nat) (c : Key3 → Option Int), j ≤ xn ∧ jv = .int .i64 j ∧ Hid (MgIs Try.prog 45 keyV wr B (D.length + j) c) ∧ Hid (∀ nm, (c nm).isSome = true → ∃ e ∈ D ++ xe.take j, e.key = nm) ∧ Hid (Fr0 none' w wr)) (fun _ _ _ jv _ => xn - (Go.RowKit.intOf jv).toNat)
     case atStart => exact ⟨0, c, Nat.zero_le _, rfl, hmg, (fun nm h => by rw [List.take_zero, List.append_nil]; exact hcs.out nm h), hfr⟩
     case round =>
      obtain ⟨j, c2, hj, rfl, hmj, hcj, hfj⟩ := hrel
      by_cases hlj : j < xn
      ·obtain ⟨y, hy⟩ : ∃ y, xe[j]? = some y := ⟨_, List.getElem?_eq_getElem (by rw [Hxn.out]; exact hlj)⟩
       have hfresh : ∀ e ∈ D ++ xe.take j, e.key ≠ y.key := by
        have h1 := HDp.out
        have h2 : xe = xe.take j ++ y :: xe.drop (j + 1) := (split_at hy y).1
        rw [h2, List.append_assoc, List.append_assoc, List.cons_append, ← List.append_assoc] at h1
        exact fun e he => (List.pairwise_append.1 h1).2.2 e he y List.mem_cons_self
       have hcn : c2 y.key = none := by
        cases hc : c2 y.key with
        | none => rfl
        | some v =>
         obtain ⟨e, he, hek⟩ := hcj.out y.key (by rw [hc]; rfl)
         exact absurd hek (hfresh e he)
       obtain ⟨kl, hkl⟩ := key_key_is (Hxr.out y (List.mem_of_getElem? hy))
       obtain ⟨g5, o5, rfl, y0, y1, y2, y3, y4⟩ := (Hxe.out.1.later hfj.out) j y hy
       have hty : xe.take (j + 1) = xe.take j ++ [y] := by rw [List.take_add_one, hy]; rfl
       have Hty := Lib.hid hty
       obtain ⟨yb, hyb⟩ : ∃ b, wr.heap.size = b := ⟨_, rfl⟩
       obtain ⟨W3, hW3⟩ : ∃ V, wr.alloc (.cells #[.int .i64 y.key.time, .int .i64 y.key.source, .int .i64 y.key.seq, .int .i64 y.to, .int .i64 y.value] 47) = V := ⟨_, rfl⟩
       have f3 : Fr0 none' wr W3 := by rw [← hW3]; exact (Fr0.refl _ _).alloc _
       have b3 : W3.heap[yb]? = some (.cells #[.int .i64 y.key.time, .int .i64 y.key.source, .int .i64 y.key.seq, .int .i64 y.to, .int .i64 y.value] 47 (0, 0)) := by rw [← hW3, ← hyb]; exact World.alloc_heap_new _ _
       have c0 := cells_in b3 0
       have c1 := cells_in b3 1
       have c2' := cells_in b3 2
       have c3 := cells_in b3 3
       have c4 := cells_in b3 4
       simp at c0 c1 c2' c3 c4
       have hm3 := hmj.out.later f3
       have hlk := (hm3.look key_law Try.underlying72 (Try.zeroValue3 W3) hkl).1
       obtain ⟨W4, hup, hm4, hf4⟩ := hm3.put keyV_inj key_law Try.underlying72 (by unfold maxLen; omega) hkl (k : Int)
       rw [hcn, show keyV y.key = .agg #[.int .i64 y.key.time, .int .i64 y.key.source, .int .i64 y.key.seq] from rfl] at hlk
       rw [show keyV y.key = .agg #[.int .i64 y.key.time, .int .i64 y.key.source, .int .i64 y.key.seq] from rfl] at hup
       simp only [Option.getD_none, Option.isSome_none] at hlk
       have HM4 := Lib.hid hm4
       have F4 := Lib.hid (show Fr0 none' w W4 from (hfj.out.trans f3).trans' hf4 (fun i hi e => by have e : i = B := e; have := HB.out; omega))
       have HCJ := Lib.hid (show ∀ nm, ((if nm = y.key then some (k : Int) else c2 nm) : Option Int).isSome = true → ∃ e ∈ D ++ xe.take (j + 1), e.key = nm from fun nm h => by
        rw [Hty.out]
        by_cases e : nm = y.key
        ·exact ⟨y, by simp, e.symm⟩
        ·rw [if_neg e] at h
         obtain ⟨e', he', hek⟩ := hcj.out nm h
         exact ⟨e', by rw [← List.append_assoc]; exact List.mem_append_left _ he', hek⟩)
       have j1 : (0 : Int) ≤ (j : Int) := by omega
       have j2 : (j : Int) < (xn : Int) := by omega
       clear hy hfresh hcn hkl hty f3 b3 hm3 hm4 hf4 hmj hcj hfj hmg hcs hfr
       go_wp2_with fail
       go_roundw
       case rel => exact ⟨j + 1, _, by omega, by go_num, by rw [← Nat.add_assoc]; exact HM4, HCJ, F4⟩
       case measure => simp [Go.RowKit.intOf]; omega
      ·have hjx : j = xn := by omega
       subst hjx
       have hfin := Lib.hid (show MgIs Try.prog 45 keyV wr B ((L.map Lv.evs).take (k + 1)).flatten.length c2 by rw [Htk.out, List.length_append, Hxn.out]; exact hmj.out)
       have hfc := Lib.hid (show ∀ nm, (c2 nm).isSome = true → ∃ e ∈ ((L.map Lv.evs).take (k + 1)).flatten, e.key = nm from fun nm h => by rw [Htk.out]; have := hcj.out nm h; rwa [List.take_of_length_le (by rw [Hxn.out]; exact Nat.le_refl _)] at this)
       clear hmg hcs hmj hcj hfr
       go_wp2_with fail
       go_roundw
       case rel => exact ⟨k + 1, c2, by omega, by go_num, hfin, hfc, hfj⟩
       case measure => simp [Go.RowKit.intOf]; omega
    ·have F5 := Lib.hid hfr.out
     clear hmg hcs hfr
     go_wp2_with fail
     refine all_any.mono ?_
     rintro e w6 ⟨rfl, hb6, hf6⟩
     have HC6 := Lib.hid (HC.out w6 _ (F5.out.trans hf6) hb6)
     have F6 := Lib.hid (F5.out.trans hf6)
     clear hb6 hf6
     go_wp2_with fail
     refine HC6.out.mono ?_
     rintro e w7 ⟨v, rfl, hrow, hf7⟩
     have F7 := Lib.hid (F6.out.trans hf7)
     have HROW := Lib.hid (own_upE hrow F6.out.size)
     clear hrow hf7
     go_wp2_with fail
     go_ret3
     exact ⟨_, rfl, HROW.out, F7.out⟩
end Go.Proofs.Ytmbjfmlicffclaa

/-
  The runs of a list, in plain words; merge.Sort.
-/
namespace Go.Proofs.Ytmbjfmlicffclaa
open Go Go.RowKit Go.ChangeMaps
attribute [local go_sem ↓] Go.wp_at_zero Go.wp_at_succ
attribute [local go_sem] Oper.semAt_some wide_fn wide_depth wide_fnR wide_depthR

/-- A piece of a list. -/
def slE (l : List Ev) (p : Nat × Nat) : List Ev := (l.take p.2).drop p.1
def adjI (l : List Ev) (f i : Nat) : Prop := ∀ j a b, f ≤ j → j + 1 < i → l[j]? = some a → l[j + 1]? = some b → cmpK a.key b.key < 0
theorem adjI.asc {l : List Ev} {f i : Nat} (h : adjI l f i) : AscE (slE l (f, i)) := by
 rw [asc_adj]
 intro j a b ha hb
 unfold slE at ha hb
 simp only [List.getElem?_drop] at ha hb
 have hlt : f + (j + 1) < i := by
  have h1 := (List.getElem?_eq_some_iff.1 hb).1
  rw [List.length_take] at h1
  omega
 rw [List.getElem?_take_of_lt (by omega)] at ha hb
 exact h (f + j) a b (by omega) (by omega) ha (by rw [Nat.add_assoc]; exact hb)
theorem slE_snoc {l : List Ev} {f i : Nat} {x : Ev} (hx : l[i]? = some x) (hf : f ≤ i) : slE l (f, i + 1) = slE l (f, i) ++ [x] := by
 unfold slE
 simp only
 rw [List.take_add_one, hx]
 have hi := (List.getElem?_eq_some_iff.1 hx).1
 rw [List.drop_append_of_le_length (by rw [List.length_take]; omega)]
 rfl
theorem runS_lt (l : List Ev) : ∀ i, 0 < i → (runS l i).2 < i
 | 0, h => by omega
 | i + 1, _ => by
  have h1 := (runS_le l i).2
  rw [runS]
  split
  ·split
   ·simp only; omega
   ·omega
  ·omega
theorem runS_inv (l : List Ev) : ∀ i, i ≤ l.length → ((runS l i).1.flatMap (slE l) ++ slE l ((runS l i).2, i) = l.take i) ∧ (∀ p ∈ (runS l i).1, p.1 < p.2 ∧ p.2 ≤ i ∧ adjI l p.1 p.2) ∧ adjI l (runS l i).2 i ∧ (0 < i → (runS l i).2 < i)
 | 0, _ => ⟨by simp [runS, slE], fun p hp => by simp [runS] at hp, fun j a b _ h => by omega, fun h => by omega⟩
 | i + 1, hi => by
  obtain ⟨h1, h2, h3, h4⟩ := runS_inv l i (by omega)
  have hi1 : l[i]? = some l[i] := List.getElem?_eq_getElem (by omega)
  have hi0 : l[i - 1]? = some l[i - 1] := List.getElem?_eq_getElem (by omega)
  have htk : l.take (i + 1) = l.take i ++ [l[i]] := by rw [List.take_add_one, hi1]; rfl
  have hfi : (runS l i).2 ≤ i := (runS_le l i).2
  rw [runS, hi0, hi1]
  simp only
  by_cases h : 0 < i ∧ ¬ cmpK l[i - 1].key l[i].key < 0
  ·rw [if_pos h]
   refine ⟨?_, fun p hp => ?_, fun j a b hj hj2 => by simp only at hj; omega, fun _ => by simp only; omega⟩
   ·simp only
    rw [List.flatMap_append, List.flatMap_singleton, h1, htk]
    congr 1
    rw [slE_snoc hi1 (Nat.le_refl i)]
    have : slE l (i, i) = [] := by
     unfold slE
     exact List.drop_of_length_le (by rw [List.length_take]; exact Nat.min_le_left _ _)
    rw [this]
    rfl
   ·simp only at hp
    rcases List.mem_append.1 hp with hp | hp
    ·obtain ⟨g1, g2, g3⟩ := h2 p hp
     exact ⟨g1, by omega, g3⟩
    ·rw [List.mem_singleton.1 hp]
     exact ⟨h4 h.1, by simp only; omega, h3⟩
  ·rw [if_neg h]
   refine ⟨?_, fun p hp => ?_, fun j a b hj hj2 ha hb => ?_, fun _ => by omega⟩
   ·rw [slE_snoc hi1 hfi, ← List.append_assoc, h1, htk]
   ·obtain ⟨g1, g2, g3⟩ := h2 p hp
    exact ⟨g1, by omega, g3⟩
   ·by_cases hji : j + 1 < i
    ·exact h3 j a b hj hji ha hb
    ·have hj2 : j = i - 1 := by omega
     subst hj2
     rw [hi0] at ha
     rw [show i - 1 + 1 = i by omega, hi1] at hb
     injection ha with ha
     injection hb with hb
     subst ha hb
     exact Classical.not_not.1 (fun hn => h ⟨by omega, hn⟩)
theorem runsN (l : List Ev) : ∀ i, (runS l i).1.length ≤ (runS l i).2
 | 0 => Nat.le_refl _
 | i + 1 => by
  have h := runsN l i
  have h1 := (runS_le l i).2
  have h2 : (runS l i).1.length ≤ i - 1 ∨ i = 0 ∨ (runS l i).2 = i := by
   by_cases e : i = 0
   ·exact .inr (.inl e)
   ·by_cases e2 : (runS l i).2 = i
    ·exact .inr (.inr e2)
    ·left; omega
  rw [runS]
  split
  ·split
   ·next hc =>
    simp only [List.length_append, List.length_singleton]
    rcases Nat.lt_or_ge (runS l i).2 i with h3 | h3
    ·omega
    ·exact absurd (runS_lt l i hc.1) (by omega)
   ·exact h
  ·exact h
/-- The runs of a list are the list, and each is in order. -/
theorem runsE_flat (l : List Ev) : (runsE l).flatMap (slE l) = l ∧ ∀ p ∈ runsE l, p.1 < p.2 ∧ p.2 ≤ l.length ∧ AscE (slE l p) := by
 obtain ⟨h1, h2, h3, h4⟩ := runS_inv l l.length (Nat.le_refl _)
 unfold runsE
 by_cases h : 0 < l.length
 ·rw [if_pos h]
  refine ⟨?_, fun p hp => ?_⟩
  ·rw [List.flatMap_append, List.flatMap_singleton, h1, List.take_length]
  ·rcases List.mem_append.1 hp with hp | hp
   ·obtain ⟨g1, g2, g3⟩ := h2 p hp
    exact ⟨g1, g2, g3.asc⟩
   ·rw [List.mem_singleton.1 hp]
    exact ⟨h4 h, Nat.le_refl _, h3.asc⟩
 ·rw [if_neg h]
  have : l = [] := List.eq_nil_of_length_eq_zero (by omega)
  subst this
  exact ⟨rfl, fun p hp => by simp at hp⟩
/-- A piece of a slice. -/
def pieceA (cap lo : Nat) (a : Option Addr) : Option Addr := if cap = lo then a else a.map (fun x => x.add (lo * 5))
def runLv (a : Option Addr) (cap : Nat) (l : List Ev) (p : Nat × Nat) : Lv := ⟨pieceA cap p.1 a, p.2 - p.1, cap - p.1, slE l p⟩
theorem runLv_evs (a : Option Addr) (cap : Nat) (l : List Ev) (ps : List (Nat × Nat)) : (ps.map (runLv a cap l)).map Lv.evs = ps.map (slE l) := by
 rw [List.map_map]; rfl
theorem runLv_ok {w : World} {a : Option Addr} {n cap : Nat} {l : List Ev} (h : EsIn w a l) (hl : l.length = n) (hc : n ≤ cap) (hn : n ≤ 10000) {p : Nat × Nat} (hp : p.1 < p.2 ∧ p.2 ≤ l.length) : EsIn w (runLv a cap l p).a (runLv a cap l p).evs ∧ (runLv a cap l p).evs.length = (runLv a cap l p).n ∧ (runLv a cap l p).n ≤ 10000 ∧ (runLv a cap l p).n ≤ (runLv a cap l p).c := by
 obtain ⟨lo, hi⟩ := p
 simp only at hp
 unfold runLv slE pieceA
 simp only
 refine ⟨?_, by rw [List.length_drop, List.length_take]; omega, by omega, by omega⟩
 rw [if_neg (by omega)]
 intro i x hx
 rw [List.getElem?_drop] at hx
 have hlt : lo + i < hi := by
  have h1 := (List.getElem?_eq_some_iff.1 hx).1
  rw [List.length_take] at h1
  omega
 rw [List.getElem?_take_of_lt hlt] at hx
 obtain ⟨g, o, e, hat⟩ := h (lo + i) x hx
 subst e
 refine ⟨g, o + lo * 5, ?_, ?_⟩
 ·rw [Option.map_some, Addr.add_lit]
 ·rw [show o + lo * 5 + i * 5 = o + (lo + i) * 5 by omega]
  exact hat
end Go.Proofs.Ytmbjfmlicffclaa

/-
  merge.Sort.
-/
namespace Go.Proofs.Ytmbjfmlicffclaa
open Go Go.RowKit Go.ChangeMaps
attribute [local go_sem ↓] Go.wp_at_zero Go.wp_at_succ
attribute [local go_sem] Oper.semAt_some wide_fn wide_depth wide_fnR wide_depthR

theorem LvsIn.of_own {w : World} {base : Nat} {v : Value} {n : Nat} {L : List Lv} (h : w.ownsRow base 24 1 v n (L.map Lv.v)) : ∃ a cap, v = .slice a n cap ∧ L.length = n ∧ LvsIn w a L ∧ ∀ g o, a = some ⟨g, o, none⟩ → g < w.heap.size := by
 have hl : L.length = n := by have := h.1; rw [List.length_map] at this; omega
 rcases h.2 with ⟨rfl, h0⟩ | ⟨g, cap, cur, rfl, hb, hg, hn', hcm, hs, ht⟩
 ·have : L = [] := List.eq_nil_of_length_eq_zero (by omega)
  subst this
  exact ⟨none, 0, by rw [h0], hl, fun i x h => by simp at h, fun g o e => by cases e⟩
 ·refine ⟨_, cap, rfl, hl, (RowL.of_own h).lvs, fun g' o e => ?_⟩
  injection e with e
  injection e with e1
  rw [← e1]
  exact (Array.getElem?_eq_some_iff.1 hg).1
theorem flatPr_at {L : List (Nat × Nat)} {k : Nat} {p : Nat × Nat} (h : L[k]? = some p) : (flatPr L)[k * 2]? = some (.int .i64 (p.1 : Nat)) ∧ (flatPr L)[k * 2 + 1]? = some (.int .i64 (p.2 : Nat)) := by
 have h0 := flat_at (show ∀ p, (pairC p).length = 2 from fun _ => rfl) L k 0 (by omega)
 have h1 := flat_at (show ∀ p, (pairC p).length = 2 from fun _ => rfl) L k 1 (by omega)
 rw [h] at h0 h1
 exact ⟨h0, h1⟩
theorem row_pairs {w : World} {base n : Nat} {v : Value} {L : List (Nat × Nat)} (h : w.ownsRow base 69 2 v n (flatPr L)) : ∃ a cap, v = .slice a n cap ∧ ∀ k p, L[k]? = some p → ∃ g, a = some ⟨g, 0, none⟩ ∧ w.cell? ⟨g, k * 2, none⟩ = some (.int .i64 (p.1 : Nat)) ∧ w.cell? ⟨g, k * 2 + 1, none⟩ = some (.int .i64 (p.2 : Nat)) := by
 rcases h.2 with ⟨rfl, h0⟩ | ⟨g, cap, cur, rfl, hb, hg, hn', hcm, hs, ht⟩
 ·refine ⟨none, 0, by rw [h0], fun k p hk => ?_⟩
  have h1 := (flatPr_at hk).1
  have h2 := h.1
  have h3 := (List.getElem?_eq_some_iff.1 h1).1
  omega
 ·refine ⟨_, cap, rfl, fun k p hk => ⟨g, rfl, ?_, ?_⟩⟩
  ·have h1 := (flatPr_at hk).1
   rw [← ht] at h1
   have h3 := (List.getElem?_eq_some_iff.1 h1).1
   rw [List.length_take] at h3
   rw [List.getElem?_take_of_lt (by omega), Array.getElem?_toList] at h1
   rw [cells_in hg, h1]
  ·have h1 := (flatPr_at hk).2
   rw [← ht] at h1
   have h3 := (List.getElem?_eq_some_iff.1 h1).1
   rw [List.length_take] at h3
   rw [List.getElem?_take_of_lt (by omega), Array.getElem?_toList] at h1
   rw [cells_in hg, h1]
set_option maxRecDepth 100000 in
set_option maxHeartbeats 4000000 in
theorem MSort_any {w : World} {a : Option Addr} {n cap : Nat} (L : List Ev) (h : EsIn w a L) (hl : L.length = n) (hc : n ≤ cap) (hn : n ≤ 1000) (hab : ∀ ad, a = some ad → ad.block < w.heap.size) (hD : L.Pairwise (fun x y => x.key ≠ y.key)) (hR : ∀ y ∈ L, R64K y.key) :
  Calls Try.prog 10 #[.slice a n cap] w fun e w' => ∃ v S, e = .returned (.tuple #[v, .int .i64 0]) ∧ S.Perm L ∧ AscE S ∧ w'.ownsRow w.heap.size 47 5 v n (flatEv S) ∧ Fr0 none' w w' := by
 obtain ⟨i0, hi, hz0, hz1, hz2⟩ := info_parts info_evs0
 have H := Lib.hid h
 have Hl := Lib.hid hl
 have HD := Lib.hid hD
 have HR := Lib.hid hR
 have Hab := Lib.hid hab
 have HRu := Lib.hid (Runs_any (cap := cap) L h hl (by omega))
 have hrl : (runsE L).length ≤ n := by
  unfold runsE
  split
  ·have h1 := (runS_inv L L.length (Nat.le_refl _)).2.2.2 (by assumption)
   have h2 := runsN L L.length
   rw [List.length_append, List.length_singleton]
   omega
  ·exact Nat.zero_le _
 obtain ⟨m, hm⟩ : ∃ m, (runsE L).length = m := ⟨_, rfl⟩
 rw [hm] at HRu hrl
 have Hm := Lib.hid hm
 clear h hl hD hR hab hm
 go_enter Try.func10, Try.ntmps10
 go_wp2_with fail
 refine HRu.out.mono ?_
 rintro e w1 ⟨v, rfl, hrow, hf1⟩
 obtain ⟨ra, rc, rfl, hpr⟩ := row_pairs hrow
 have F1 := Lib.hid hf1
 have HP := Lib.hid hpr
 obtain ⟨N, hN⟩ : ∃ N, w1.heap.size = N := ⟨_, rfl⟩
 have HN := Lib.hid hN
 clear hrow hf1 hpr hN HRu
 go_wp2_with fail
 go_loopw [4, 6, 13] (fun u _ i wr => ∃ k : Nat, k ≤ m ∧ i = .int .i64 k ∧ Hid (wr.ownsRow N 24 1 u k ((((runsE L).take k).map (runLv a cap L)).map Lv.v)) ∧ Hid (Fr0 none' w1 wr)) (fun _ _ i _ => m - (Go.RowKit.intOf i).toNat)
 case atStart => exact ⟨0, Nat.zero_le _, rfl, World.ownsRow_nil _ _ _ _, Fr0.refl _ _⟩
 case round =>
  obtain ⟨k, hk, rfl, hown, hfr⟩ := hrel
  by_cases hlt : k < m
  ·obtain ⟨p, hp⟩ : ∃ p, (runsE L)[k]? = some p := ⟨_, List.getElem?_eq_getElem (by rw [Hm.out]; exact hlt)⟩
   obtain ⟨hp1, hp2, _⟩ := (runsE_flat L).2 p (List.mem_of_getElem? hp)
   obtain ⟨gr, rfl, r0, r1⟩ := HP.out k p hp
   have c0 := hfr.out.later r0
   have c1 := hfr.out.later r1
   have htk : ((((runsE L).take (k + 1)).map (runLv a cap L)).map Lv.v) = ((((runsE L).take k).map (runLv a cap L)).map Lv.v) ++ [(runLv a cap L p).v] := by
    rw [List.take_add_one, hp]
    simp
   rw [Hl.out] at hp2
   obtain ⟨lo, hi'⟩ := p
   simp only at hp1 hp2 c0 c1
   obtain ⟨y, hy⟩ : ∃ y, L[lo]? = some y := ⟨_, List.getElem?_eq_getElem (by rw [Hl.out]; omega)⟩
   obtain ⟨g, o, rfl, _⟩ := H.out lo y hy
   have hrv : (runLv (some ⟨g, o, none⟩) cap L (lo, hi')).v = .slice (some ⟨g, o + lo * 5, none⟩) (hi' - lo) (cap - lo) := by
    unfold runLv pieceA Lv.v
    simp only
    rw [if_neg (by omega), Option.map_some, Addr.add_lit]
   rw [hrv] at htk
   have Htk := Lib.hid htk
   obtain ⟨va, vc, rfl⟩ : ∃ va vc, u4 = .slice va k vc := by
    rcases hown.out.2 with ⟨rfl, h0⟩ | ⟨g, cap, cur, rfl, _⟩
    ·exact ⟨none, 0, by rw [h0]⟩
    ·exact ⟨_, cap, rfl⟩
   have k1 : (0 : Int) ≤ (k : Int) := by omega
   have k2 : (k : Int) < (m : Int) := by omega
   have k3 : (0 : Int) ≤ (lo : Int) := by omega
   have k4 : (lo : Int) ≤ (hi' : Int) := by omega
   have k5 : (hi' : Int) ≤ (cap : Int) := by omega
   have k6 : (cap = lo) = False := eq_false (by omega)
   obtain ⟨xb, hxb⟩ : ∃ b, wr.heap.size = b := ⟨_, rfl⟩
   obtain ⟨W2, hW2⟩ : ∃ W, wr.alloc (.cells #[.int .i64 (lo : Nat), .int .i64 (hi' : Nat)] 69) = W := ⟨_, rfl⟩
   have hf2 : Fr0 none' wr W2 := by rw [← hW2]; exact (Fr0.refl _ _).alloc _
   have hb : W2.heap[xb]? = some (.cells #[.int .i64 (lo : Nat), .int .i64 (hi' : Nat)] 69 (0, 0)) := by rw [← hW2, ← hxb]; exact World.alloc_heap_new _ _
   have z0 := cells_in hb 0
   have z1 := cells_in hb 1
   simp at z0 z1
   have hsrc := Src.newRow (P := Try.prog) (size := 1) (tx := 66) (ty := 24) W2 Try.underlying66 1 1 [.slice (some ⟨g, o + lo * 5, none⟩) (hi' - lo) (cap - lo)] rfl (by simp [Value.oneCell'])
   have Hsrc := Lib.hid hsrc
   have HO2 := Lib.hid ((ownsRow_fr0 hown.out hf2 (fun _ _ h => h)).alloc (.cells [Value.slice (some ⟨g, o + lo * 5, none⟩) (hi' - lo) (cap - lo)].toArray 24))
   have F2 := Lib.hid (hfr.out.trans hf2)
   have FA := Lib.hid ((hfr.out.trans hf2).alloc (.cells [Value.slice (some ⟨g, o + lo * 5, none⟩) (hi' - lo) (cap - lo)].toArray 24))
   have hNW : N ≤ W2.heap.size := by rw [← HN.out]; exact F2.out.size
   clear hp r0 r1 htk hy hrv hsrc hf2 hb hown hfr
   go_wp2_with (at_builtin; refine wpList_append_k rfl _ _ 66 66 rfl N 24 i0 (.slice none 0 0) 1 24 Try.underlying66 hi hz0 hz1 hz2 rfl (by decide) _ k _ rfl HO2.out (.slice (some ⟨W2.heap.size, 0, none⟩) 1 1) 1 _ rfl Hsrc.out (by unfold maxLen; omega) (by omega) (by simp; omega) ?_; intro v' w4 hown' hgrow hdr hob)
   have hfin := FA.out.grown hgrow (fun i hi hl => by
    have h1 := (HO2.out.lt i hi).1
    rw [HN.out] at hl; omega)
   refine ⟨⟨k + 1, by omega, by go_num, Lib.hid (by rw [Htk.out]; exact hown'), Lib.hid hfin⟩, ?_⟩
   simp [Go.RowKit.intOf]; omega
  ·have hkm : k = m := by omega
   have htm : (runsE L).take k = runsE L := List.take_of_length_le (by rw [Hm.out]; omega)
   rw [htm, hkm] at hown
   obtain ⟨la, lc, rfl, hLl, hLi, hLb⟩ := LvsIn.of_own hown.out
   have hfw : Fr0 none' w wr := F1.out.trans hfr.out
   obtain ⟨hfl, hrp⟩ := runsE_flat L
   obtain ⟨Ls, hLs⟩ : ∃ Ls, (runsE L).map (runLv a cap L) = Ls := ⟨_, rfl⟩
   have hev : Ls.map Lv.evs = (runsE L).map (slE L) := by rw [← hLs]; exact runLv_evs a cap L _
   have hflat : (Ls.map Lv.evs).flatten = L := by rw [hev, ← List.flatMap_def]; exact hfl
   have hmem : ∀ x ∈ Ls, ∃ p ∈ runsE L, x = runLv a cap L p := fun x hx => by
    rw [← hLs] at hx
    obtain ⟨p, hp, rfl⟩ := List.mem_map.1 hx
    exact ⟨p, hp, rfl⟩
   rw [hLs] at hLl hLi
   have htot : totE (Ls.map Lv.evs) = n := by rw [← totE_flat, hflat, Hl.out]
   have hLE : LvEv wr Ls := fun x hx => by
    obtain ⟨p, hp, rfl⟩ := hmem x hx
    exact runLv_ok (H.out.later hfw) Hl.out hc (by omega) ⟨(hrp p hp).1, (hrp p hp).2.1⟩
   have hLA : ∀ x ∈ Ls, AscE x.evs := fun x hx => by
    obtain ⟨p, hp, rfl⟩ := hmem x hx
    exact (hrp p hp).2.2
   have hLD : (Ls.map Lv.evs).flatten.Pairwise (fun x y => x.key ≠ y.key) := by rw [hflat]; exact HD.out
   have hLR : ∀ x ∈ Ls, ∀ y ∈ x.evs, R64K y.key := fun x hx y hy => HR.out y (by rw [← hflat]; exact List.mem_flatten.2 ⟨x.evs, List.mem_map.2 ⟨x, hx, rfl⟩, hy⟩)
   have hLB : ∀ x ∈ Ls, ∀ g o, x.a = some ⟨g, o, none⟩ → g < wr.heap.size := fun x hx g o e => by
    obtain ⟨p, hp, rfl⟩ := hmem x hx
    have e : pieceA cap p.1 a = some ⟨g, o, none⟩ := e
    unfold pieceA at e
    refine Nat.lt_of_lt_of_le ?_ hfw.size
    split at e
    ·exact Hab.out _ e
    ·obtain ⟨y, hy⟩ : ∃ y, L[p.1]? = some y := ⟨_, List.getElem?_eq_getElem (by have := (hrp p hp).1; have := (hrp p hp).2.1; omega)⟩
     obtain ⟨g2, o2, ea, _⟩ := H.out p.1 y hy
     rw [ea, Option.map_some, Addr.add_lit] at e
     injection e with e
     injection e with e1
     rw [← e1]
     exact Hab.out _ ea
   have HMg := Lib.hid (Merge_any (cap := lc) Ls hLi hLE hLl (by omega) hLb hLB (by omega) hLA hLD hLR)
   have hSP := Lib.hid ((mrg_perm (totE (Ls.map Lv.evs)) _ rfl).trans (by rw [hflat]))
   have hSA := Lib.hid (mrg_asc (totE (Ls.map Lv.evs)) _ rfl (fun l hl => by obtain ⟨x, hx, rfl⟩ := List.mem_map.1 hl; exact hLA x hx) hLD)
   have hSL := Lib.hid ((mrg_length (f := totE (Ls.map Lv.evs)) rfl).trans htot)
   obtain ⟨S, hS⟩ : ∃ S, mrgE (totE (Ls.map Lv.evs)) (Ls.map Lv.evs) = S := ⟨_, rfl⟩
   rw [hS] at HMg hSP hSA hSL
   have Fw := Lib.hid hfw
   clear hown hfr hkm htm hLl hLi hLb hfw hfl hrp hLs hev hflat hmem htot hLE hLA hLD hLR hLB hS
   go_wp2_with fail
   refine HMg.out.mono ?_
   rintro e w5 ⟨v5, rfl, hrow5, hf5⟩
   rw [hSL.out] at hrow5
   have HR5 := Lib.hid (own_upE hrow5 Fw.out.size)
   have F5 := Lib.hid (Fw.out.trans hf5)
   clear hrow5 hf5 HMg
   go_wp2_with fail
   go_ret2
   exact ⟨v5, S, rfl, hSP.out, hSA.out, HR5.out, F5.out⟩
end Go.Proofs.Ytmbjfmlicffclaa

/-
  How many come between times, in plain words.
-/
namespace Go.Proofs.Ytmbjfmlicffclaa
open Go Go.RowKit

theorem btw_add {a b c : Int} (h1 : a ≤ b) (h2 : b ≤ c) : ∀ L : List Ev, btwE a b L + btwE b c L = btwE a c L
 | [] => rfl
 | x :: r => by
  have ih := btw_add h1 h2 r
  unfold btwE at ih ⊢
  rw [List.countP_cons, List.countP_cons, List.countP_cons]
  by_cases g1 : a ≤ x.key.time <;> by_cases g2 : x.key.time < b <;> by_cases g3 : b ≤ x.key.time <;> by_cases g4 : x.key.time < c <;> simp [g1, g2, g3, g4] <;> omega
theorem btw_none {a c : Int} (h : c ≤ a) (L : List Ev) : btwE a c L = 0 := by
 unfold btwE
 rw [List.countP_eq_zero]
 intro x _
 simp
 omega
theorem sum_off {t : Int} : ∀ ts : List Int, (∀ u ∈ ts, u ≠ t) → (ts.map (fun u => if u = t then 1 else 0)).sum = 0
 | [], _ => rfl
 | u :: r, h => by
  rw [List.map_cons, List.sum_cons, if_neg (h u List.mem_cons_self), sum_off r (fun v hv => h v (List.mem_cons_of_mem _ hv))]
theorem sum_one {t : Int} : ∀ ts : List Int, ts.Pairwise (· < ·) → t ∈ ts → (ts.map (fun u => if u = t then 1 else 0)).sum = 1
 | [], _, h => by cases h
 | u :: r, hp, h => by
  obtain ⟨h1, h2⟩ := List.pairwise_cons.1 hp
  rw [List.map_cons, List.sum_cons]
  by_cases e : u = t
  ·rw [if_pos e, sum_off r (fun v hv => by have := h1 v hv; omega)]
  ·rw [if_neg e, sum_one r h2 ((List.mem_cons.1 h).resolve_left (fun h => e h.symm))]
theorem btw_cons (u : Int) (x : Ev) (r : List Ev) : btwE u (u + 1) (x :: r) = btwE u (u + 1) r + if u = x.key.time then 1 else 0 := by
 unfold btwE
 rw [List.countP_cons]
 congr 1
 by_cases e : u = x.key.time
 ·rw [if_pos e, if_pos (by simp; omega)]
 ·rw [if_neg e, if_neg (by simp; omega)]
theorem sum_add2 (f g : Int → Nat) : ∀ ts : List Int, (ts.map (fun u => f u + g u)).sum = (ts.map f).sum + (ts.map g).sum
 | [] => rfl
 | u :: r => by
  rw [List.map_cons, List.map_cons, List.map_cons, List.sum_cons, List.sum_cons, List.sum_cons, sum_add2 f g r]
  omega
theorem sum_zero : ∀ ts : List Int, (ts.map (fun u => btwE u (u + 1) [])).sum = 0
 | [] => rfl
 | u :: r => by rw [List.map_cons, List.sum_cons, sum_zero r]; rfl
theorem btw_sum {ts : List Int} (hp : ts.Pairwise (· < ·)) : ∀ L : List Ev, (∀ x ∈ L, x.key.time ∈ ts) → (ts.map (fun u => btwE u (u + 1) L)).sum = L.length
 | [], _ => sum_zero ts
 | x :: r, h => by
  have e : (fun u => btwE u (u + 1) (x :: r)) = fun u => btwE u (u + 1) r + if u = x.key.time then 1 else 0 := funext (fun u => btw_cons u x r)
  rw [e, sum_add2, btw_sum hp r (fun y hy => h y (List.mem_cons_of_mem _ hy)), sum_one ts hp (h x List.mem_cons_self), List.length_cons]
theorem btw_pos {u : Int} {L : List Ev} (h : u ∈ timesE L) : 1 ≤ btwE u (u + 1) L := by
 unfold timesE at h
 obtain ⟨x, hx, rfl⟩ := List.mem_map.1 h
 unfold btwE
 exact List.countP_pos_iff.2 ⟨x, hx, by simp; omega⟩
theorem times_sorted {L : List Ev} (h : AscE L) : (timesE L).Pairwise (· ≤ ·) := by
 unfold timesE
 rw [List.pairwise_map]
 exact h.imp (fun hab => by have := (cmpK_lt _ _).1 hab; omega)
theorem sum_le {L : List Ev} {ts : List Int} : ∀ k, ((ts.take k).map (fun u => btwE u (u + 1) L)).sum ≤ k * L.length
 | 0 => by simp
 | k + 1 => by
  have ih := sum_le (L := L) (ts := ts) k
  cases h : ts[k]? with
  | none => rw [List.take_add_one, h, Option.toList_none, List.append_nil, Nat.succ_mul]; omega
  | some u =>
   rw [List.take_add_one, h, Option.toList_some, List.map_append, List.sum_append, List.map_cons, List.map_nil, List.sum_cons, List.sum_nil, Nat.succ_mul]
   have := btwE_le u (u + 1) L
   omega
theorem sum_snoc {L : List Ev} {ts : List Int} {k : Nat} {u : Int} (h : ts[k]? = some u) : ((ts.take (k + 1)).map (fun u => btwE u (u + 1) L)).sum = ((ts.take k).map (fun u => btwE u (u + 1) L)).sum + btwE u (u + 1) L := by
 rw [List.take_add_one, h, Option.toList_some, List.map_append, List.sum_append, List.map_cons, List.map_nil, List.sum_cons, List.sum_nil]
 omega
end Go.Proofs.Ytmbjfmlicffclaa

/-
  CalendarTimes.
-/
namespace Go.Proofs.Ytmbjfmlicffclaa
open Go Go.RowKit
attribute [local go_sem ↓] Go.wp_at_zero Go.wp_at_succ
attribute [local go_sem] Oper.semAt_some wide_fn wide_depth wide_fnR wide_depthR

theorem row_own {w : World} {base : Nat} {v : Value} {n : Nat} {E : List Ev} (h : w.ownsRow base 47 5 v n (flatEv E)) : ∃ a cap, v = .slice a n cap ∧ E.length = n ∧ n ≤ cap ∧ EsIn w a E ∧ ∀ ad, a = some ad → ad.block < w.heap.size := by
 obtain ⟨a, cap, rfl, hl, he⟩ := EsIn.of_own h
 refine ⟨a, cap, rfl, hl, ?_, he, ?_⟩
 ·rcases h.2 with ⟨e, h0⟩ | ⟨g, cap', cur, e, hb, hg, hn', _⟩
  ·omega
  ·cases e; exact hn'
 ·intro ad e
  rcases h.2 with ⟨e', h0⟩ | ⟨g, cap', cur, e', hb, hg, hn', _⟩
  ·cases e'; cases e
  ·cases e'; cases e
   exact (Array.getElem?_eq_some_iff.1 hg).1
theorem evsK_r64 {l : List Sm5} (h : ∀ x ∈ l, x.ok) (most : Nat) : ∀ y ∈ evsK l most, R64K y.key := fun y hy => by
 have := dedK_sub _ y hy
 obtain ⟨x, hx, rfl⟩ := List.mem_map.1 this
 exact madeV_r64 (h x (List.mem_of_mem_take hx))
theorem evsK_time (l : List Sm5) (most : Nat) : ∀ y ∈ evsK l most, 0 ≤ y.key.time ∧ y.key.time < 16 := fun y hy => by
 have := dedK_sub _ y hy
 obtain ⟨x, hx, rfl⟩ := List.mem_map.1 this
 unfold madeV
 simp only
 omega
theorem row_ints {w : World} {base n : Nat} {v : Value} {L : List Int} (h : w.ownsRow base 3 1 v n (L.map (Value.int .i64))) : ∃ a cap, v = .slice a n cap ∧ ∀ k u, L[k]? = some u → ∃ g, a = some ⟨g, 0, none⟩ ∧ w.cell? ⟨g, k, none⟩ = some (.int .i64 u) := by
 have hl := h.1
 rw [List.length_map] at hl
 rcases h.2 with ⟨rfl, h0⟩ | ⟨g, cap, cur, rfl, hb, hg, hn', hcm, hs, ht⟩
 ·refine ⟨none, 0, by rw [h0], fun k u hk => ?_⟩
  have := (List.getElem?_eq_some_iff.1 hk).1
  omega
 ·refine ⟨_, cap, rfl, fun k u hk => ⟨g, rfl, ?_⟩⟩
  have h3 := (List.getElem?_eq_some_iff.1 hk).1
  have h1 : (L.map (Value.int .i64))[k]? = some (.int .i64 u) := by rw [List.getElem?_map, hk]; rfl
  rw [← ht, List.getElem?_take_of_lt (by omega), Array.getElem?_toList] at h1
  rw [cells_in hg, h1]
theorem sort3 (a b c : Int) (ha : 0 ≤ a ∧ a ≤ 20) (hb : 0 ≤ b ∧ b ≤ 20) (hc : 0 ≤ c ∧ c ≤ 20) : ∃ t0 t1 t2, sortI [a, b, c] = [t0, t1, t2] ∧ 0 ≤ t0 ∧ t0 ≤ t1 ∧ t1 ≤ t2 ∧ t2 ≤ 20 := by
 have h1 := sortI_len [a, b, c]
 have h2 := sortI_sorted [a, b, c]
 have h3 : ∀ x ∈ sortI [a, b, c], 0 ≤ x ∧ x ≤ 20 := fun x hx => by
  have := (sortI_perm [a, b, c]).mem_iff.1 hx
  simp at this
  rcases this with rfl | rfl | rfl <;> assumption
 match hs : sortI [a, b, c], h1 with
 | [t0, t1, t2], _ =>
  rw [hs] at h2 h3
  obtain ⟨g1, g2⟩ := List.pairwise_cons.1 h2
  obtain ⟨g3, _⟩ := List.pairwise_cons.1 g2
  exact ⟨t0, t1, t2, rfl, (h3 t0 (by simp)).1, g1 t1 (by simp), g3 t2 (by simp), (h3 t2 (by simp)).2⟩
set_option maxRecDepth 100000 in
set_option maxHeartbeats 4000000 in
theorem CalendarTimes_any {w : World} {a : Option Addr} {m cap : Nat} {x y z : Int} (l : List Sm5) (h : Sm5sIn w a l) (hl : l.length = m) (hc : m ≤ cap) (hx : 0 ≤ x ∧ x < 256) (hy : 0 ≤ y ∧ y < 256) (hz : 0 ≤ z ∧ z < 256) :
  Calls Try.prog 3 #[.slice a m cap, .int .u8 x, .int .u8 y, .int .u8 z] w fun e w' => e = .returned (.bool true) ∧ Fr0 none' w w' := by
 have HA := Lib.hid (fun (W : World) => cawake_any W)
 have HX := Lib.hid (fun (W : World) (hf : Fr0 none' w W) => events11_any (most := 60) l (h.later hf) hl hc (by omega))
 have hok : ∀ x ∈ l, x.ok := fun x hx => by
  obtain ⟨j, hj⟩ := List.getElem?_of_mem hx
  exact (h j x hj).1
 have HE0 := Lib.hid (show (evsK l 60).Pairwise (fun x y => x.key ≠ y.key) ∧ (∀ y ∈ evsK l 60, R64K y.key) ∧ (evsK l 60).length ≤ 60 ∧ (∀ y ∈ evsK l 60, 0 ≤ y.key.time ∧ y.key.time < 16) from ⟨dedK_once _, evsK_r64 hok 60, evsK_le l 60, evsK_time l 60⟩)
 clear h hl hc hok
 obtain ⟨E, hE⟩ : ∃ E, evsK l 60 = E := ⟨_, rfl⟩
 rw [hE] at HX HE0
 clear hE
 go_enter Try.func3, Try.ntmps3
 go_wp2_with fail
 refine (HA.out _).mono ?_
 rintro e w1 ⟨rfl, hf⟩
 have F := Lib.hid hf
 clear hf HA
 go_wp2_with fail
 refine (HX.out _ F.out).mono ?_
 rintro e w2 ⟨v, rfl, hr, hf⟩
 obtain ⟨N, hN⟩ : ∃ N, E.length = N := ⟨_, rfl⟩
 have hN60 : N ≤ 60 := by rw [← hN]; exact HE0.out.2.2.1
 rw [hN] at hr
 obtain ⟨ea, ec, rfl, _, hec, hes, heb⟩ := row_own hr
 have F := Lib.hid (F.out.trans hf)
 have HS := Lib.hid (MSort_any (w := w2) E hes hN hec (by omega) heb HE0.out.1 HE0.out.2.1)
 clear hr hf hes heb HX hN
 go_wp2_with fail
 refine HS.out.mono ?_
 rintro e w3 ⟨v, S, rfl, hSp, hSa, hr, hf⟩
 obtain ⟨sa, sc, rfl, hSl, hsc, hes, heb⟩ := row_own hr
 have F := Lib.hid (F.out.trans hf)
 have HAs := Lib.hid hSa
 have HSl := Lib.hid hSl
 have HI := Lib.hid hes
 have HIb := Lib.hid heb
 have HSt := Lib.hid (show ∀ y ∈ S, 0 ≤ y.key.time ∧ y.key.time < 16 from fun y hy => HE0.out.2.2.2 y (hSp.mem_iff.1 hy))
 clear hSp hr hf hes heb HS hSa hSl HE0
 obtain ⟨x', hx'⟩ : ∃ x', x % 21 = x' := ⟨_, rfl⟩
 obtain ⟨y', hy'⟩ : ∃ y', y % 21 = y' := ⟨_, rfl⟩
 obtain ⟨z', hz'⟩ : ∃ z', z % 21 = z' := ⟨_, rfl⟩
 have q1 : Int.tmod x 21 = x' := by rw [Int.tmod_eq_emod_of_nonneg hx.1, hx']
 have q2 : Int.tmod y 21 = y' := by rw [Int.tmod_eq_emod_of_nonneg hy.1, hy']
 have q3 : Int.tmod z 21 = z' := by rw [Int.tmod_eq_emod_of_nonneg hz.1, hz']
 have b1 : 0 ≤ x' ∧ x' ≤ 20 := by omega
 have b2 : 0 ≤ y' ∧ y' ≤ 20 := by omega
 have b3 : 0 ≤ z' ∧ z' ≤ 20 := by omega
 have q4 : IntKind.i64.wrap x' = x' := IntWalk.i64_in _ (by omega)
 have q5 : IntKind.i64.wrap y' = y' := IntWalk.i64_in _ (by omega)
 have q6 : IntKind.i64.wrap z' = z' := IntWalk.i64_in _ (by omega)
 have Hb := Lib.hid (show (0 ≤ x' ∧ x' ≤ 20) ∧ (0 ≤ y' ∧ y' ≤ 20) ∧ (0 ≤ z' ∧ z' ≤ 20) from ⟨b1, b2, b3⟩)
 clear hx' hy' hz' b1 b2 b3 hx hy hz
 go_wp2_with fail
 obtain ⟨g, hg⟩ : ∃ g, w3.heap.size = g := ⟨_, rfl⟩
 obtain ⟨W0, hW0⟩ : ∃ W, w3.alloc (.cells #[.int .i64 x', .int .i64 y', .int .i64 z'] 3) = W := ⟨_, rfl⟩
 have hrow : W0.ownsRow g 3 1 (.slice (some ⟨g, 0, none⟩) 3 3) 3 ([x', y', z'].map (Value.int .i64)) := ⟨by simp, .inr ⟨g, 3, _, rfl, Nat.le_refl _, by rw [← hW0, ← hg]; exact World.alloc_heap_new _ _, Nat.le_refl _, by unfold maxLen; omega, by simp, by simp⟩⟩
 have f0 : Fr0 none' w3 W0 := by rw [← hW0]; exact (Fr0.refl _ _).alloc _
 rw [hW0, hg]
 obtain ⟨t0, t1, t2, hts, ht0, ht1, ht2, ht3⟩ := sort3 x' y' z' Hb.out.1 Hb.out.2.1 Hb.out.2.2
 have hso := sort_row [x', y', z'] hrow (by omega)
 rw [hts] at hso
 refine hso.mono ?_
 rintro e w4 ⟨rfl, hr4, hf4⟩
 have F := Lib.hid (show Fr0 none' w w4 from (F.out.trans f0).trans' hf4 (fun k hk e => by have e : k = g := e; have := F.out.size; omega))
 have hI4 : EsIn w4 sa S := (HI.out.later f0).fr0 hf4 (fun g' o s e1 e2 => by have h1 := HIb.out _ e1; have h1 : g' < w3.heap.size := h1; have e2 : g' = g := e2; omega)
 obtain ⟨cur, hcg, hct⟩ : ∃ cur, w4.heap[g]? = some (.cells cur 3 (0, 0)) ∧ cur.toList.take 3 = [Value.int .i64 t0, .int .i64 t1, .int .i64 t2] := by
  rcases hr4.2 with ⟨e, _⟩ | ⟨g', cap', cur, e, hb, hg', hn', hcm, hs, ht⟩
  ·cases e
  ·cases e; exact ⟨cur, hg', ht⟩
 have HC3 := Lib.hid (fun (W : World) (hf : Fr0 none' w4 W) => show W.cell? ⟨g, 0, none⟩ = some (.int .i64 t0) ∧ W.cell? ⟨g, 1, none⟩ = some (.int .i64 t1) ∧ W.cell? ⟨g, 2, none⟩ = some (.int .i64 t2) from by
  have hb := (hf.block g (Array.getElem?_eq_some_iff.1 hcg).1 id).trans hcg
  refine ⟨?_, ?_, ?_⟩
  ·rw [cells_in hb, ← Array.getElem?_toList, ← List.getElem?_take_of_lt (show 0 < 3 by omega), hct]; rfl
  ·rw [cells_in hb, ← Array.getElem?_toList, ← List.getElem?_take_of_lt (show 1 < 3 by omega), hct]; rfl
  ·rw [cells_in hb, ← Array.getElem?_toList, ← List.getElem?_take_of_lt (show 2 < 3 by omega), hct]; rfl)
 have HCt := Lib.hid (fun (f t : Int) (W : World) (hf : Fr0 none' w4 W) => show Calls Try.prog 13 #[.slice sa N sc, .int .i64 f, .int .i64 t] W fun e w' => e = .returned (.tuple #[.int .i64 (btwE f t S : Nat), .int .i64 0]) ∧ Fr0 none' W w' from by
  have := Count_any (cap := sc) (f := f) (t := t) S (hI4.later hf) HSl.out (by omega)
  rw [countC, if_pos HAs.out] at this
  exact this)
 have HTm := Lib.hid (fun (W : World) (hf : Fr0 none' w4 W) => show Calls Try.prog 14 #[.slice sa N sc] W fun e w' => ∃ v, e = .returned (.tuple #[v, .int .i64 0]) ∧ w'.ownsRow W.heap.size 3 1 v (timesC S).length ((timesC S).map (Value.int .i64)) ∧ Fr0 none' W w' from by
  have := Times_any (cap := sc) S (hI4.later hf) HSl.out (by omega)
  rw [if_pos HAs.out, if_pos HAs.out, if_pos HAs.out] at this
  exact this)
 have hcs := comp_sorted (times_sorted HAs.out)
 obtain ⟨ts, hts'⟩ : ∃ ts, timesC S = ts := ⟨_, rfl⟩
 rw [show Lib.compact (timesE S) = ts from hts'] at hcs
 rw [hts'] at HTm
 have HP := Lib.hid hcs.1
 have HTi := Lib.hid (show ∀ u ∈ ts, 0 ≤ u ∧ u < 16 from fun u hu => by obtain ⟨x, hx, rfl⟩ := List.mem_map.1 ((hcs.2 u).1 hu); exact HSt.out x hx)
 have HtM := Lib.hid (show ts.length ≤ N by rw [← hts']; have := Lib.compact_length_le (timesE S); unfold timesC; unfold timesE at this ⊢; rw [List.length_map, HSl.out] at this; exact this)
 have Hpos := Lib.hid (show ∀ u ∈ ts, 1 ≤ btwE u (u + 1) S from fun u hu => btw_pos ((hcs.2 u).1 hu))
 have Hsum := Lib.hid (show (ts.map (fun u => btwE u (u + 1) S)).sum = N by rw [← HSl.out]; exact btw_sum hcs.1 S (fun x hx => (hcs.2 _).2 (List.mem_map.2 ⟨x, hx, rfl⟩)))
 have hbd : ∀ f t, btwE f t S ≤ N := fun f t => by rw [← HSl.out]; exact btwE_le f t S
 have hadd := btw_add ht1 ht2 S
 have hnone := btw_none (a := t2) (c := t0) (by omega) S
 obtain ⟨p1, hp1⟩ : ∃ p, btwE t0 t1 S = p := ⟨_, rfl⟩
 obtain ⟨p2, hp2⟩ : ∃ p, btwE t1 t2 S = p := ⟨_, rfl⟩
 obtain ⟨p3, hp3⟩ : ∃ p, btwE t0 t2 S = p := ⟨_, rfl⟩
 have l1 : p1 ≤ N := by rw [← hp1]; exact hbd _ _
 have l2 : p2 ≤ N := by rw [← hp2]; exact hbd _ _
 rw [hp1, hp2, hp3] at hadd
 have Hp1 := Lib.hid hp1
 have Hp2 := Lib.hid hp2
 have Hp3 := Lib.hid hp3
 have Hp4 := Lib.hid hnone
 have s0 : IntKind.i64.wrap ((p1 : Int) + (p2 : Int)) = (p3 : Int) := by rw [IntWalk.i64_in _ (by omega)]; omega
 have s1 : ((p3 : Int) != (p3 : Int)) = false := by simp
 have FR := Lib.hid (Fr0.refl none' w4)
 clear hrow f0 hW0 hg hts ht0 ht1 ht2 ht3 hso hr4 hf4 hI4 hcg hct hcs hts' hbd hadd hnone hp1 hp2 hp3 q1 q2 q3 q4 q5 q6 HI HIb HAs
 go_wp2_with fail
 refine wp_region_held_drew (S := fun W' => Fr0 none' w4 W') (by kernel_rfl) (FR.out.trans (Fr0.refl none' _).drew) (fun hHeld => ?_)
 refine tkn (i := 0) (v := .slice sa N sc) (fun W' hSW => ?_) ?_
 ·obtain ⟨c0, c1, c2⟩ := HC3.out W' hSW
  first | (go_simp; done) | exact rfl | (go_simp; rfl) | (go_simp; omega)
 try simp only [pUt, pUn, sEt, sEz, sEs]
 refine tkn (i := 1) (v := .slice (some ⟨g, 0, none⟩) 3 3) (fun W' hSW => ?_) ?_
 ·obtain ⟨c0, c1, c2⟩ := HC3.out W' hSW
  first | (go_simp; done) | exact rfl | (go_simp; rfl) | (go_simp; omega)
 try simp only [pUt, pUn, sEt, sEz, sEs]
 refine tkn (i := 2) (v := .pointer (some ⟨g, 0, none⟩)) (fun W' hSW => ?_) ?_
 ·obtain ⟨c0, c1, c2⟩ := HC3.out W' hSW
  first | (go_simp; done) | exact rfl | (go_simp; rfl) | (go_simp; omega)
 try simp only [pUt, pUn, sEt, sEz, sEs]
 refine tkn (i := 3) (v := .int .i64 (t0)) (fun W' hSW => ?_) ?_
 ·obtain ⟨c0, c1, c2⟩ := HC3.out W' hSW
  first | (go_simp; done) | exact rfl | (go_simp; rfl) | (go_simp; omega)
 try simp only [pUt, pUn, sEt, sEz, sEs]
 refine tkn (i := 4) (v := .slice (some ⟨g, 0, none⟩) 3 3) (fun W' hSW => ?_) ?_
 ·obtain ⟨c0, c1, c2⟩ := HC3.out W' hSW
  first | (go_simp; done) | exact rfl | (go_simp; rfl) | (go_simp; omega)
 try simp only [pUt, pUn, sEt, sEz, sEs]
 refine tkn (i := 5) (v := .pointer (some ⟨g, 1, none⟩)) (fun W' hSW => ?_) ?_
 ·obtain ⟨c0, c1, c2⟩ := HC3.out W' hSW
  first | (go_simp; done) | exact rfl | (go_simp; rfl) | (go_simp; omega)
 try simp only [pUt, pUn, sEt, sEz, sEs]
 refine tkn (i := 6) (v := .int .i64 (t1)) (fun W' hSW => ?_) ?_
 ·obtain ⟨c0, c1, c2⟩ := HC3.out W' hSW
  first | (go_simp; done) | exact rfl | (go_simp; rfl) | (go_simp; omega)
 try simp only [pUt, pUn, sEt, sEz, sEs]
 refine take_call (i := 7) rfl (by kernel_rfl) (by kernel_rfl) (fun K hK => ?_)
 go_simp
 refine (HCt.out (t0) (t1) _ hHeld).mono ?_
 rintro e w5 ⟨rfl, hf⟩
 rw [(Hp1).out]
 have hHeld := hHeld.trans hf
 clear hf
 go_wp2_with fail
 refine hK.out _ _ hHeld (fun hS => ?_)
 clear hK K
 try simp only [pUt, pUn, sEt, sEz, sEs]
 refine tkn (i := 8) (v := .tuple #[.int .i64 ((p1 : Int)), .int .i64 0]) (fun W' hSW => ?_) ?_
 ·obtain ⟨c0, c1, c2⟩ := HC3.out W' hSW
  first | (go_simp; done) | exact rfl | (go_simp; rfl) | (go_simp; omega)
 try simp only [pUt, pUn, sEt, sEz, sEs]
 refine tkn (i := 9) (v := .int .i64 ((p1 : Int))) (fun W' hSW => ?_) ?_
 ·obtain ⟨c0, c1, c2⟩ := HC3.out W' hSW
  first | (go_simp; done) | exact rfl | (go_simp; rfl) | (go_simp; omega)
 try simp only [pUt, pUn, sEt, sEz, sEs]
 refine tkn (i := 10) (v := .int .i64 0) (fun W' hSW => ?_) ?_
 ·obtain ⟨c0, c1, c2⟩ := HC3.out W' hSW
  first | (go_simp; done) | exact rfl | (go_simp; rfl) | (go_simp; omega)
 try simp only [pUt, pUn, sEt, sEz, sEs]
 refine tkn (i := 11) (v := .int .i64 ((p1 : Int))) (fun W' hSW => ?_) ?_
 ·obtain ⟨c0, c1, c2⟩ := HC3.out W' hSW
  first | (go_simp; done) | exact rfl | (go_simp; rfl) | (go_simp; omega)
 try simp only [pUt, pUn, sEt, sEz, sEs]
 refine tkn (i := 12) (v := .int .i64 0) (fun W' hSW => ?_) ?_
 ·obtain ⟨c0, c1, c2⟩ := HC3.out W' hSW
  first | (go_simp; done) | exact rfl | (go_simp; rfl) | (go_simp; omega)
 try simp only [pUt, pUn, sEt, sEz, sEs]
 refine wpAnyH_done (by kernel_rfl) ?_ _
 have FR := Lib.hid hHeld
 clear hS hHeld
 go_wp2_with fail
 refine wp_region_held_drew (S := fun W' => Fr0 none' w4 W') (by kernel_rfl) (FR.out.trans (Fr0.refl none' _).drew) (fun hHeld => ?_)
 refine tkn (i := 0) (v := .slice sa N sc) (fun W' hSW => ?_) ?_
 ·obtain ⟨c0, c1, c2⟩ := HC3.out W' hSW
  first | (go_simp; done) | exact rfl | (go_simp; rfl) | (go_simp; omega)
 try simp only [pUt, pUn, sEt, sEz, sEs]
 refine tkn (i := 1) (v := .slice (some ⟨g, 0, none⟩) 3 3) (fun W' hSW => ?_) ?_
 ·obtain ⟨c0, c1, c2⟩ := HC3.out W' hSW
  first | (go_simp; done) | exact rfl | (go_simp; rfl) | (go_simp; omega)
 try simp only [pUt, pUn, sEt, sEz, sEs]
 refine tkn (i := 2) (v := .pointer (some ⟨g, 1, none⟩)) (fun W' hSW => ?_) ?_
 ·obtain ⟨c0, c1, c2⟩ := HC3.out W' hSW
  first | (go_simp; done) | exact rfl | (go_simp; rfl) | (go_simp; omega)
 try simp only [pUt, pUn, sEt, sEz, sEs]
 refine tkn (i := 3) (v := .int .i64 (t1)) (fun W' hSW => ?_) ?_
 ·obtain ⟨c0, c1, c2⟩ := HC3.out W' hSW
  first | (go_simp; done) | exact rfl | (go_simp; rfl) | (go_simp; omega)
 try simp only [pUt, pUn, sEt, sEz, sEs]
 refine tkn (i := 4) (v := .slice (some ⟨g, 0, none⟩) 3 3) (fun W' hSW => ?_) ?_
 ·obtain ⟨c0, c1, c2⟩ := HC3.out W' hSW
  first | (go_simp; done) | exact rfl | (go_simp; rfl) | (go_simp; omega)
 try simp only [pUt, pUn, sEt, sEz, sEs]
 refine tkn (i := 5) (v := .pointer (some ⟨g, 2, none⟩)) (fun W' hSW => ?_) ?_
 ·obtain ⟨c0, c1, c2⟩ := HC3.out W' hSW
  first | (go_simp; done) | exact rfl | (go_simp; rfl) | (go_simp; omega)
 try simp only [pUt, pUn, sEt, sEz, sEs]
 refine tkn (i := 6) (v := .int .i64 (t2)) (fun W' hSW => ?_) ?_
 ·obtain ⟨c0, c1, c2⟩ := HC3.out W' hSW
  first | (go_simp; done) | exact rfl | (go_simp; rfl) | (go_simp; omega)
 try simp only [pUt, pUn, sEt, sEz, sEs]
 refine take_call (i := 7) rfl (by kernel_rfl) (by kernel_rfl) (fun K hK => ?_)
 go_simp
 refine (HCt.out (t1) (t2) _ hHeld).mono ?_
 rintro e w5 ⟨rfl, hf⟩
 rw [(Hp2).out]
 have hHeld := hHeld.trans hf
 clear hf
 go_wp2_with fail
 refine hK.out _ _ hHeld (fun hS => ?_)
 clear hK K
 try simp only [pUt, pUn, sEt, sEz, sEs]
 refine tkn (i := 8) (v := .tuple #[.int .i64 ((p2 : Int)), .int .i64 0]) (fun W' hSW => ?_) ?_
 ·obtain ⟨c0, c1, c2⟩ := HC3.out W' hSW
  first | (go_simp; done) | exact rfl | (go_simp; rfl) | (go_simp; omega)
 try simp only [pUt, pUn, sEt, sEz, sEs]
 refine tkn (i := 9) (v := .int .i64 ((p2 : Int))) (fun W' hSW => ?_) ?_
 ·obtain ⟨c0, c1, c2⟩ := HC3.out W' hSW
  first | (go_simp; done) | exact rfl | (go_simp; rfl) | (go_simp; omega)
 try simp only [pUt, pUn, sEt, sEz, sEs]
 refine tkn (i := 10) (v := .int .i64 0) (fun W' hSW => ?_) ?_
 ·obtain ⟨c0, c1, c2⟩ := HC3.out W' hSW
  first | (go_simp; done) | exact rfl | (go_simp; rfl) | (go_simp; omega)
 try simp only [pUt, pUn, sEt, sEz, sEs]
 refine tkn (i := 11) (v := .int .i64 ((p2 : Int))) (fun W' hSW => ?_) ?_
 ·obtain ⟨c0, c1, c2⟩ := HC3.out W' hSW
  first | (go_simp; done) | exact rfl | (go_simp; rfl) | (go_simp; omega)
 try simp only [pUt, pUn, sEt, sEz, sEs]
 refine tkn (i := 12) (v := .int .i64 0) (fun W' hSW => ?_) ?_
 ·obtain ⟨c0, c1, c2⟩ := HC3.out W' hSW
  first | (go_simp; done) | exact rfl | (go_simp; rfl) | (go_simp; omega)
 try simp only [pUt, pUn, sEt, sEz, sEs]
 refine wpAnyH_done (by kernel_rfl) ?_ _
 have FR := Lib.hid hHeld
 clear hS hHeld
 go_wp2_with fail
 refine wp_region_held_drew (S := fun W' => Fr0 none' w4 W') (by kernel_rfl) (FR.out.trans (Fr0.refl none' _).drew) (fun hHeld => ?_)
 refine tkn (i := 0) (v := .slice sa N sc) (fun W' hSW => ?_) ?_
 ·obtain ⟨c0, c1, c2⟩ := HC3.out W' hSW
  first | (go_simp; done) | exact rfl | (go_simp; rfl) | (go_simp; omega)
 try simp only [pUt, pUn, sEt, sEz, sEs]
 refine tkn (i := 1) (v := .slice (some ⟨g, 0, none⟩) 3 3) (fun W' hSW => ?_) ?_
 ·obtain ⟨c0, c1, c2⟩ := HC3.out W' hSW
  first | (go_simp; done) | exact rfl | (go_simp; rfl) | (go_simp; omega)
 try simp only [pUt, pUn, sEt, sEz, sEs]
 refine tkn (i := 2) (v := .pointer (some ⟨g, 0, none⟩)) (fun W' hSW => ?_) ?_
 ·obtain ⟨c0, c1, c2⟩ := HC3.out W' hSW
  first | (go_simp; done) | exact rfl | (go_simp; rfl) | (go_simp; omega)
 try simp only [pUt, pUn, sEt, sEz, sEs]
 refine tkn (i := 3) (v := .int .i64 (t0)) (fun W' hSW => ?_) ?_
 ·obtain ⟨c0, c1, c2⟩ := HC3.out W' hSW
  first | (go_simp; done) | exact rfl | (go_simp; rfl) | (go_simp; omega)
 try simp only [pUt, pUn, sEt, sEz, sEs]
 refine tkn (i := 4) (v := .slice (some ⟨g, 0, none⟩) 3 3) (fun W' hSW => ?_) ?_
 ·obtain ⟨c0, c1, c2⟩ := HC3.out W' hSW
  first | (go_simp; done) | exact rfl | (go_simp; rfl) | (go_simp; omega)
 try simp only [pUt, pUn, sEt, sEz, sEs]
 refine tkn (i := 5) (v := .pointer (some ⟨g, 2, none⟩)) (fun W' hSW => ?_) ?_
 ·obtain ⟨c0, c1, c2⟩ := HC3.out W' hSW
  first | (go_simp; done) | exact rfl | (go_simp; rfl) | (go_simp; omega)
 try simp only [pUt, pUn, sEt, sEz, sEs]
 refine tkn (i := 6) (v := .int .i64 (t2)) (fun W' hSW => ?_) ?_
 ·obtain ⟨c0, c1, c2⟩ := HC3.out W' hSW
  first | (go_simp; done) | exact rfl | (go_simp; rfl) | (go_simp; omega)
 try simp only [pUt, pUn, sEt, sEz, sEs]
 refine take_call (i := 7) rfl (by kernel_rfl) (by kernel_rfl) (fun K hK => ?_)
 go_simp
 refine (HCt.out (t0) (t2) _ hHeld).mono ?_
 rintro e w5 ⟨rfl, hf⟩
 rw [(Hp3).out]
 have hHeld := hHeld.trans hf
 clear hf
 go_wp2_with fail
 refine hK.out _ _ hHeld (fun hS => ?_)
 clear hK K
 try simp only [pUt, pUn, sEt, sEz, sEs]
 refine tkn (i := 8) (v := .tuple #[.int .i64 ((p3 : Int)), .int .i64 0]) (fun W' hSW => ?_) ?_
 ·obtain ⟨c0, c1, c2⟩ := HC3.out W' hSW
  first | (go_simp; done) | exact rfl | (go_simp; rfl) | (go_simp; omega)
 try simp only [pUt, pUn, sEt, sEz, sEs]
 refine tkn (i := 9) (v := .int .i64 ((p3 : Int))) (fun W' hSW => ?_) ?_
 ·obtain ⟨c0, c1, c2⟩ := HC3.out W' hSW
  first | (go_simp; done) | exact rfl | (go_simp; rfl) | (go_simp; omega)
 try simp only [pUt, pUn, sEt, sEz, sEs]
 refine tkn (i := 10) (v := .int .i64 0) (fun W' hSW => ?_) ?_
 ·obtain ⟨c0, c1, c2⟩ := HC3.out W' hSW
  first | (go_simp; done) | exact rfl | (go_simp; rfl) | (go_simp; omega)
 try simp only [pUt, pUn, sEt, sEz, sEs]
 refine tkn (i := 11) (v := .int .i64 ((p3 : Int))) (fun W' hSW => ?_) ?_
 ·obtain ⟨c0, c1, c2⟩ := HC3.out W' hSW
  first | (go_simp; done) | exact rfl | (go_simp; rfl) | (go_simp; omega)
 try simp only [pUt, pUn, sEt, sEz, sEs]
 refine tkn (i := 12) (v := .int .i64 0) (fun W' hSW => ?_) ?_
 ·obtain ⟨c0, c1, c2⟩ := HC3.out W' hSW
  first | (go_simp; done) | exact rfl | (go_simp; rfl) | (go_simp; omega)
 try simp only [pUt, pUn, sEt, sEz, sEs]
 refine wpAnyH_done (by kernel_rfl) ?_ _
 have FR := Lib.hid hHeld
 clear hS hHeld
 go_wp2_with fail
 refine wp_region_held_drew (S := fun W' => Fr0 none' w4 W') (by kernel_rfl) (FR.out.trans (Fr0.refl none' _).drew) (fun hHeld => ?_)
 refine tkn (i := 0) (v := .slice sa N sc) (fun W' hSW => ?_) ?_
 ·obtain ⟨c0, c1, c2⟩ := HC3.out W' hSW
  first | (go_simp; done) | exact rfl | (go_simp; rfl) | (go_simp; omega)
 try simp only [pUt, pUn, sEt, sEz, sEs]
 refine tkn (i := 1) (v := .slice (some ⟨g, 0, none⟩) 3 3) (fun W' hSW => ?_) ?_
 ·obtain ⟨c0, c1, c2⟩ := HC3.out W' hSW
  first | (go_simp; done) | exact rfl | (go_simp; rfl) | (go_simp; omega)
 try simp only [pUt, pUn, sEt, sEz, sEs]
 refine tkn (i := 2) (v := .pointer (some ⟨g, 2, none⟩)) (fun W' hSW => ?_) ?_
 ·obtain ⟨c0, c1, c2⟩ := HC3.out W' hSW
  first | (go_simp; done) | exact rfl | (go_simp; rfl) | (go_simp; omega)
 try simp only [pUt, pUn, sEt, sEz, sEs]
 refine tkn (i := 3) (v := .int .i64 (t2)) (fun W' hSW => ?_) ?_
 ·obtain ⟨c0, c1, c2⟩ := HC3.out W' hSW
  first | (go_simp; done) | exact rfl | (go_simp; rfl) | (go_simp; omega)
 try simp only [pUt, pUn, sEt, sEz, sEs]
 refine tkn (i := 4) (v := .slice (some ⟨g, 0, none⟩) 3 3) (fun W' hSW => ?_) ?_
 ·obtain ⟨c0, c1, c2⟩ := HC3.out W' hSW
  first | (go_simp; done) | exact rfl | (go_simp; rfl) | (go_simp; omega)
 try simp only [pUt, pUn, sEt, sEz, sEs]
 refine tkn (i := 5) (v := .pointer (some ⟨g, 0, none⟩)) (fun W' hSW => ?_) ?_
 ·obtain ⟨c0, c1, c2⟩ := HC3.out W' hSW
  first | (go_simp; done) | exact rfl | (go_simp; rfl) | (go_simp; omega)
 try simp only [pUt, pUn, sEt, sEz, sEs]
 refine tkn (i := 6) (v := .int .i64 (t0)) (fun W' hSW => ?_) ?_
 ·obtain ⟨c0, c1, c2⟩ := HC3.out W' hSW
  first | (go_simp; done) | exact rfl | (go_simp; rfl) | (go_simp; omega)
 try simp only [pUt, pUn, sEt, sEz, sEs]
 refine take_call (i := 7) rfl (by kernel_rfl) (by kernel_rfl) (fun K hK => ?_)
 go_simp
 refine (HCt.out (t2) (t0) _ hHeld).mono ?_
 rintro e w5 ⟨rfl, hf⟩
 rw [(Hp4).out]
 have hHeld := hHeld.trans hf
 clear hf
 go_wp2_with fail
 refine hK.out _ _ hHeld (fun hS => ?_)
 clear hK K
 try simp only [pUt, pUn, sEt, sEz, sEs]
 refine tkn (i := 8) (v := .tuple #[.int .i64 (0), .int .i64 0]) (fun W' hSW => ?_) ?_
 ·obtain ⟨c0, c1, c2⟩ := HC3.out W' hSW
  first | (go_simp; done) | exact rfl | (go_simp; rfl) | (go_simp; omega)
 try simp only [pUt, pUn, sEt, sEz, sEs]
 refine tkn (i := 9) (v := .int .i64 (0)) (fun W' hSW => ?_) ?_
 ·obtain ⟨c0, c1, c2⟩ := HC3.out W' hSW
  first | (go_simp; done) | exact rfl | (go_simp; rfl) | (go_simp; omega)
 try simp only [pUt, pUn, sEt, sEz, sEs]
 refine tkn (i := 10) (v := .int .i64 0) (fun W' hSW => ?_) ?_
 ·obtain ⟨c0, c1, c2⟩ := HC3.out W' hSW
  first | (go_simp; done) | exact rfl | (go_simp; rfl) | (go_simp; omega)
 try simp only [pUt, pUn, sEt, sEz, sEs]
 refine tkn (i := 11) (v := .int .i64 (0)) (fun W' hSW => ?_) ?_
 ·obtain ⟨c0, c1, c2⟩ := HC3.out W' hSW
  first | (go_simp; done) | exact rfl | (go_simp; rfl) | (go_simp; omega)
 try simp only [pUt, pUn, sEt, sEz, sEs]
 refine tkn (i := 12) (v := .int .i64 0) (fun W' hSW => ?_) ?_
 ·obtain ⟨c0, c1, c2⟩ := HC3.out W' hSW
  first | (go_simp; done) | exact rfl | (go_simp; rfl) | (go_simp; omega)
 try simp only [pUt, pUn, sEt, sEz, sEs]
 refine wpAnyH_done (by kernel_rfl) ?_ _
 have FR := Lib.hid hHeld
 clear hS hHeld
 go_wp2_with fail
 refine (HTm.out _ FR.out).mono ?_
 rintro e w6 ⟨v6, rfl, hr6, hf6⟩
 obtain ⟨M, hM⟩ : ∃ M, ts.length = M := ⟨_, rfl⟩
 have hMN : M ≤ N := by rw [← hM]; exact HtM.out
 rw [hM] at hr6
 obtain ⟨ua, uc, rfl, hcell⟩ := row_ints hr6
 have HM := Lib.hid hM
 have HCl := Lib.hid hcell
 have FR := Lib.hid (FR.out.trans hf6)
 clear hr6 hf6 hM hcell
 go_wp2_with fail
 go_loopw [22, 23, 24, 25, 26, 121] (fun sm _ _ _ _ i wr => ∃ k : Nat, k ≤ M ∧ i = .int .i64 k ∧ sm = .int .i64 (((ts.take k).map (fun u => btwE u (u + 1) S)).sum : Nat) ∧ Hid (Fr0 none' w6 wr)) (fun _ _ _ _ _ i _ => M - (Go.RowKit.intOf i).toNat)
 case atStart => exact ⟨0, Nat.zero_le _, rfl, rfl, Fr0.refl _ _⟩
 case round =>
  obtain ⟨k, hk, rfl, rfl, hfr⟩ := hrel
  by_cases hlt : k < M
  ·obtain ⟨u, hu⟩ : ∃ u, ts[k]? = some u := ⟨_, List.getElem?_eq_getElem (by rw [HM.out]; exact hlt)⟩
   have hum := List.mem_of_getElem? hu
   obtain ⟨gu, rfl, cu⟩ := HCl.out k u hu
   have cu := hfr.out.later cu
   have hub := HTi.out u hum
   have hq1 := Hpos.out u hum
   have hq2 := sum_snoc (L := S) hu
   have hq3 := sum_le (L := S) (ts := ts) k
   have hq4 := btwE_le u (u + 1) S
   rw [HSl.out] at hq3 hq4
   obtain ⟨q, hq⟩ : ∃ q, btwE u (u + 1) S = q := ⟨_, rfl⟩
   obtain ⟨sm, hsm⟩ : ∃ sm, ((ts.take k).map (fun u => btwE u (u + 1) S)).sum = sm := ⟨_, rfl⟩
   rw [hq] at hq1 hq2 hq4
   rw [hsm] at hq2 hq3 ⊢
   have hsb : sm ≤ 60 * 60 := Nat.le_trans hq3 (Nat.mul_le_mul (by omega) hN60)
   have Hq := Lib.hid hq
   have Hs2 := Lib.hid hq2
   have k1 : (0 : Int) ≤ (k : Int) := by omega
   have k2 : (k : Int) < (M : Int) := by omega
   have w1 : IntKind.i64.wrap (u + 1) = u + 1 := IntWalk.i64_in _ (by omega)
   have w2 : IntKind.i64.wrap ((sm : Int) + (q : Int)) = ((sm + q : Nat) : Int) := by rw [IntWalk.i64_in _ (by omega)]; push_cast; rfl
   have d1 : decide ((q : Int) < 1) = false := decide_eq_false (by omega)
   have HU := Lib.hid (HCt.out u (u + 1) wr (FR.out.trans hfr.out))
   have hprev : k = 0 ∨ ∃ j u', k = j + 1 ∧ ts[j]? = some u' ∧ u' < u := by
    cases k with
    | zero => exact .inl rfl
    | succ j =>
     obtain ⟨u', hu'⟩ : ∃ u', ts[j]? = some u' := ⟨_, List.getElem?_eq_getElem (by rw [HM.out]; omega)⟩
     refine .inr ⟨j, u', rfl, hu', ?_⟩
     obtain ⟨h1, e1⟩ := List.getElem?_eq_some_iff.1 hu'
     obtain ⟨h2, e2⟩ := List.getElem?_eq_some_iff.1 hu
     rw [← e1, ← e2]
     exact List.pairwise_iff_getElem.1 HP.out j (j + 1) h1 h2 (by omega)
   clear hum hub hq1 hq2 hq3 hq4 hq hsm hu
   rcases hprev with rfl | ⟨j, u', rfl, hu', hlt'⟩
   ·go_wp2_with fail
    refine HU.out.mono ?_
    rintro e w7 ⟨rfl, hf7⟩
    rw [Hq.out]
    have F7 := Lib.hid (hfr.out.trans hf7)
    clear hf7 hfr HU
    go_wp2_with fail
    refine ⟨⟨0 + 1, by omega, rfl, by rw [Hs2.out]; push_cast; rfl, F7⟩, ?_⟩
    simp [Go.RowKit.intOf]; omega
   ·go_wp2_with fail
    refine HU.out.mono ?_
    rintro e w7 ⟨rfl, hf7⟩
    rw [Hq.out]
    have F7 := Lib.hid (hfr.out.trans hf7)
    obtain ⟨gu2, e', cp⟩ := HCl.out j u' hu'
    cases e'
    have cp := F7.out.later cp
    have d2 : decide (u' ≥ u) = false := decide_eq_false (by omega)
    have d3 : decide (u ≤ u') = false := decide_eq_false (by omega)
    have w3 : IntKind.i64.wrap (((j + 1 : Nat) : Int) - 1) = (j : Int) := by rw [IntWalk.i64_in _ (by omega)]; omega
    clear hf7 hfr HU hu' hlt'
    go_wp2_with fail
    refine ⟨⟨j + 1 + 1, by omega, by push_cast; rfl, by rw [Hs2.out]; push_cast; rfl, F7⟩, ?_⟩
    simp [Go.RowKit.intOf]; omega
  ·have hkM : k = M := by omega
   have hsm : ((ts.take k).map (fun u => btwE u (u + 1) S)).sum = N := by rw [List.take_of_length_le (by rw [HM.out]; omega)]; exact Hsum.out
   rw [hsm]
   have s2 : ((N : Int) == (N : Int)) = true := by simp
   have F8 := Lib.hid (F.out.trans (FR.out.trans hfr.out))
   clear hsm hfr
   go_wp2_with fail
   go_ret
   exact ⟨rfl, F8.out⟩
end Go.Proofs.Ytmbjfmlicffclaa

namespace Go.Proofs.Ytmbjfmlicffclaa.calendarTimes
open Go.ChangeShapes Go.WideShapes Go.ChangeAt Go.RowKit Go.Proofs.Ytmbjfmlicffclaa

set_option maxRecDepth 100000 in
theorem lifted (os : Os) (started : os.Started) (H : Type) (enc : TypeId × Value → H) :
  ReturnsInHanded {} Try.checked os 3 .any (Rows.calendarTimesSpec.pre6 enc Try.prog Try.f3 Rows.calendarTimesRow.domain false) (Rows.calendarTimesSpec.post enc Try.prog Try.f3 false true false false) := by
 refine returnsInHanded_of_change (C := Try.checked) knobC started (by kernel_rfl) Try.func3
  (ChangeSpec.witness6 (enc := enc) (C := Try.checked) false ⟨#[], #[.slice none 0 0, .int .u8 0, .int .u8 0, .int .u8 0], []⟩ 8 (by kernel_rfl) (by kernel_rfl) (by kernel_rfl) (by kernel_rfl)) ?_
 intro W base args ds gs before hval0 hW hcnd _
 have hval : ∀ (j : Nat) t v, Try.f3.params[j]? = some t → args[j]? = some v → Value.okWide Try.prog W .any base t v := hval0
 have hW' := hW
 obtain ⟨p, q, hA0, hV, rfl, hfz, hnd⟩ := hW
 have hA : DataW.TrodAll enc Try.prog W 0 (fun _ => true) true Try.f3.params.toList args.toList ds p := hA0
 rw [Try.params3] at hA hval
 obtain ⟨v0, vs0, d0, ds0, p0, q0, hargs, rfl, rfl, h0, r0⟩ := trodAll_cons hA
 obtain ⟨v1, vs1, d1, ds1, p1, q1, rfl, rfl, rfl, h1, r1⟩ := trodAll_cons r0
 obtain ⟨v2, vs2, d2, ds2, p2, q2, rfl, rfl, rfl, h2, r2⟩ := trodAll_cons r1
 obtain ⟨v3, vs3, d3, ds3, p3, q3, rfl, rfl, rfl, h3, r3⟩ := trodAll_cons r2
 obtain ⟨rfl, rfl, rfl⟩ := trodAll_nil r3
 obtain rfl : args = #[v0, v1, v2, v3] := by cases args; simp_all
 obtain ⟨rfl, rfl⟩ := trodVars_none hV
 clear hA0 hval0
 simp only [List.append_nil] at hW'
 have l0 : ∀ x ∈ p0, x.block < W.heap.size := fun x hx => hW'.lt x (by simp [hx])
 have t0 := fun W' (hb : Below W.heap.size W W') => Below.trod laidC (by kernel_rfl) (of_decide_eq_true (by kernel_rfl)) h0 hb l0
 have l1 : ∀ x ∈ p1, x.block < W.heap.size := fun x hx => hW'.lt x (by simp [hx])
 have t1 := fun W' (hb : Below W.heap.size W W') => Below.trod laidC (by kernel_rfl) (of_decide_eq_true (by kernel_rfl)) h1 hb l1
 have l2 : ∀ x ∈ p2, x.block < W.heap.size := fun x hx => hW'.lt x (by simp [hx])
 have t2 := fun W' (hb : Below W.heap.size W W') => Below.trod laidC (by kernel_rfl) (of_decide_eq_true (by kernel_rfl)) h2 hb l2
 have l3 : ∀ x ∈ p3, x.block < W.heap.size := fun x hx => hW'.lt x (by simp [hx])
 have t3 := fun W' (hb : Below W.heap.size W W') => Below.trod laidC (by kernel_rfl) (of_decide_eq_true (by kernel_rfl)) h3 hb l3
 obtain ⟨a0, n0, c0, xs0, rfl, hl0, hc0, hx0⟩ := sm5s_arg (hval 0 22 v0 rfl rfl) h0
 obtain ⟨a1, rfl, _, _, w1⟩ := open_int Try.underlying5 (hval 1 5 v1 rfl rfl) h1
 have b1 : 0 ≤ a1 ∧ a1 < 256 := by
  have := bounds_u8 w1
  omega
 obtain ⟨a2, rfl, _, _, w2⟩ := open_int Try.underlying5 (hval 2 5 v2 rfl rfl) h2
 have b2 : 0 ≤ a2 ∧ a2 < 256 := by
  have := bounds_u8 w2
  omega
 obtain ⟨a3, rfl, _, _, w3⟩ := open_int Try.underlying5 (hval 3 5 v3 rfl rfl) h3
 have b3 : 0 ≤ a3 ∧ a3 < 256 := by
  have := bounds_u8 w3
  omega
 refine (CalendarTimes_any xs0 hx0 hl0 hc0 b1 b2 b3).mono fun e W' ⟨he, hf⟩ => ?_
 have hg : Below W.heap.size W W' := hf.below (Nat.le_refl _) (fun _ _ h => h)
 subst he
 exact ⟨_, rfl, post_belowC (pa := p0 ++ (p1 ++ (p2 ++ (p3 ++ ([]))))) (pv := []) hW' (fun _ _ _ => (trodAll_cons_mk (shut_bool Try.underlying4 _) trodAll_mk0)) (trodAll_cons_mk (t0 _ hg) (trodAll_cons_mk (t1 _ hg) (trodAll_cons_mk (t2 _ hg) (trodAll_cons_mk (t3 _ hg) trodAll_mk0)))) (fun _ _ => rfl) hg⟩

theorem over : Rows.calendarTimesRow.holds Try.pinned (OpenSpec.ofChange Rows.calendarTimesSpec) :=
 OpenClaim.holds_of_wide 3 Try.f3 rfl rfl rfl rfl rfl rfl rfl ⟨rfl, rfl, rfl, rfl, rfl⟩ rfl rfl rfl rfl rfl (by kernel_rfl) Try.func3 (by kernel_rfl)
  (of_decide_eq_true (by kernel_rfl)) (by unfold Func.isWrapper; first | (rw [if_pos (by decide +kernel)]; kernel_rfl) | (rw [if_neg (by decide +kernel)]; exact ⟨rfl, rfl⟩))
  (fun os started H enc _ => lifted os started H enc)

theorem proved : Rows.CalendarTimesSaid := over
#print axioms proved
end Go.Proofs.Ytmbjfmlicffclaa.calendarTimes
