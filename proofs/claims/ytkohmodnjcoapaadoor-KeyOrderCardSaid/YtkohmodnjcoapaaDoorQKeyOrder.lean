/- KeyOrder: the statement, and its tied card: for any arguments the law returns true, and the arguments read as before. -/
import Derived.Test.YtkohmodnjcoapaaDoorJb3
import Derived.Test.YtkohmodnjcoapaaDoorJb2
import Derived.Test.YtkohmodnjcoapaaDoorCards
import Derived.Test.YtkohmodnjcoapaaDoorTie
set_option linter.unusedSimpArgs false
set_option linter.unusedVariables false

/-
  KeyOrder.
-/
namespace Go.Proofs.YtkohmodnjcoapaaDoor
open Go Go.RowKit
attribute [local go_sem ↓] Go.wp_at_zero Go.wp_at_succ
attribute [local go_sem] Oper.semAt_some wide_fn wide_depth wide_fnR wide_depthR
attribute [local go_sem high] run_neq_k run_eql_k

theorem ss_same {a b : List Key3} (h : ∀ x, x ∈ a ↔ x ∈ b) : ss a = ss b := inc_ext (ss_inc a) (ss_inc b) (fun x => by rw [ss_mem, ss_mem]; exact h x)
/-- The rest of a row from a place on. -/
theorem KsIn.drop {w : World} {g o : Nat} {L : List Key3} (h : KsIn w (some ⟨g, o, none⟩) L) (d : Nat) : KsIn w (some ⟨g, o + d * 3, none⟩) (L.drop d) := fun i p hp => by
  rw [List.getElem?_drop] at hp
  obtain ⟨g', o', e, hc⟩ := h (d + i) p hp
  cases e
  refine ⟨g, o + d * 3, rfl, ?_⟩
  rw [show o + d * 3 + i * 3 = o + (d + i) * 3 by omega]
  exact hc
theorem KsIn.take {w : World} {a : Option Addr} {L : List Key3} (h : KsIn w a L) (d : Nat) : KsIn w a (L.take d) := fun i p hp => h i p (by
  have h1 := (List.getElem?_eq_some_iff.1 hp).1
  simp at h1
  rwa [List.getElem?_take_of_lt (by omega)] at hp)
/-- The keys that the loop has put into its row: each of the first j, once. -/
def MadeOk (K : List Key3) (o : List Nat) (j : Nat) (M : List Key3) : Prop := Inc M ∧ (∀ x, x ∈ M ↔ ∃ t p, t < j ∧ o[t]? = some p ∧ kat K p = x) ∧ M.length ≤ j
theorem mk_zero (K : List Key3) (o : List Nat) : MadeOk K o 0 [] := ⟨List.Pairwise.nil, fun x => by simp, Nat.le_refl _⟩
theorem ord_le {K : List Key3} {o : List Nat} (h : OrdOk K o) {t j p q : Nat} (htj : t < j) (ht : o[t]? = some p) (hj : o[j]? = some q) : cmpK (kat K p) (kat K q) ≤ 0 := by
  have h1 := List.pairwise_iff_getElem.1 h.asc t j (List.getElem?_eq_some_iff.1 ht).1 (List.getElem?_eq_some_iff.1 hj).1 htj
  rw [(List.getElem?_eq_some_iff.1 ht).2, (List.getElem?_eq_some_iff.1 hj).2] at h1
  unfold befI at h1
  omega
theorem ord_tie {K : List Key3} {o : List Nat} (h : OrdOk K o) {t j p q : Nat} (htj : t < j) (ht : o[t]? = some p) (hj : o[j]? = some q) (hc : cmpK (kat K p) (kat K q) = 0) : p < q := by
  have h1 := List.pairwise_iff_getElem.1 h.asc t j (List.getElem?_eq_some_iff.1 ht).1 (List.getElem?_eq_some_iff.1 hj).1 htj
  rw [(List.getElem?_eq_some_iff.1 ht).2, (List.getElem?_eq_some_iff.1 hj).2] at h1
  unfold befI at h1
  omega
theorem mk_add {K : List Key3} {o : List Nat} {j p : Nat} {M : List Key3} (h : OrdOk K o) (hM : MadeOk K o j M) (hp : o[j]? = some p) (hb : j = 0 ∨ ∃ q, o[j - 1]? = some q ∧ cmpK (kat K q) (kat K p) < 0) : MadeOk K o (j + 1) (M ++ [kat K p]) := by
  obtain ⟨h1, h2, h3⟩ := hM
  refine ⟨List.pairwise_append.2 ⟨h1, List.pairwise_singleton _ _, fun x hx y hy => ?_⟩, fun x => ?_, by simp; omega⟩
  · rw [List.mem_singleton] at hy
    subst hy
    obtain ⟨t, r, htj, hr, rfl⟩ := (h2 x).1 hx
    rcases hb with rfl | ⟨q, hq, hl⟩
    · omega
    · by_cases e : t = j - 1
      · subst e
        rw [hr] at hq
        cases hq
        exact hl
      · have h4 := ord_le h (show t < j - 1 by omega) hr hq
        by_cases e0 : cmpK (kat K r) (kat K q) = 0
        · rw [(cmpK_eq _ _).1 e0]; exact hl
        · exact cmpK_trans _ _ _ (by omega) hl
  · rw [List.mem_append, List.mem_singleton, h2 x]
    constructor
    · rintro (⟨t, r, ht, hr, e⟩ | rfl)
      · exact ⟨t, r, by omega, hr, e⟩
      · exact ⟨j, p, by omega, hp, rfl⟩
    · rintro ⟨t, r, ht, hr, e⟩
      by_cases htj : t = j
      · subst htj
        rw [hp] at hr
        cases hr
        exact .inr e.symm
      · exact .inl ⟨t, r, by omega, hr, e⟩
theorem mk_same {K : List Key3} {o : List Nat} {j p q : Nat} {M : List Key3} (hM : MadeOk K o j M) (hp : o[j]? = some p) (hj : 0 < j) (hq : o[j - 1]? = some q) (he : cmpK (kat K q) (kat K p) = 0) : MadeOk K o (j + 1) M := by
  obtain ⟨h1, h2, h3⟩ := hM
  have he := (cmpK_eq _ _).1 he
  refine ⟨h1, fun x => ?_, by omega⟩
  rw [h2 x]
  constructor
  · rintro ⟨t, r, ht, hr, e⟩
    exact ⟨t, r, by omega, hr, e⟩
  · rintro ⟨t, r, ht, hr, e⟩
    by_cases htj : t = j
    · subst htj
      rw [hp] at hr
      cases hr
      exact ⟨t - 1, q, by omega, hq, he.trans e⟩
    · exact ⟨t, r, by omega, hr, e⟩
theorem mk_end {K : List Key3} {o : List Nat} {m : Nat} {M : List Key3} (h : OrdOk K o) (hl : K.length = m) (hM : MadeOk K o m M) : M = ss K := inc_ext hM.1 (ss_inc K) (fun x => by
  rw [hM.2.1 x, ss_mem]
  constructor
  · rintro ⟨t, p, ht, hp, rfl⟩
    have hlt := h.lt p (List.mem_of_getElem? hp)
    exact List.mem_of_getElem? (kat_get hlt)
  · intro hx
    obtain ⟨p, hp, e⟩ := List.getElem_of_mem hx
    obtain ⟨t, ht, e2⟩ := List.getElem_of_mem (h.all p hp)
    have hk := kat_get hp
    rw [List.getElem?_eq_getElem hp] at hk
    injection hk with hk
    exact ⟨t, p, by rw [h.len, hl] at ht; exact ht, by rw [List.getElem?_eq_getElem ht, e2], by rw [← hk, e]⟩)
/-- The row of marks: no mark at a number that has not come. -/
def SeenOk (o : List Nat) (m j : Nat) (Z : List Value) : Prop := ∀ p, p < m → (∀ t, t < j → o[t]? ≠ some p) → Z[p]? = some (.int .i64 0)
theorem seen_zero (o : List Nat) (m : Nat) : SeenOk o m 0 (List.replicate m (.int .i64 0)) := fun p hp _ => by simp [hp]
theorem seen_set {o : List Nat} {m j p : Nat} {Z : List Value} (v : Value) (h : SeenOk o m j Z) (hp : o[j]? = some p) : SeenOk o m (j + 1) (Z.set p v) := fun r hr ht => by
  have hne : p ≠ r := fun e => ht j (by omega) (by rw [hp, e])
  rw [List.getElem?_set_ne hne]
  exact h r hr (fun t htj => ht t (by omega))
theorem seen_at {K : List Key3} {o : List Nat} {m j p : Nat} {Z : List Value} (hk : OrdOk K o) (h : SeenOk o m j Z) (hl : K.length = m) (hp : o[j]? = some p) : Z[p]? = some (.int .i64 0) := h p (by rw [← hl]; exact hk.lt p (List.mem_of_getElem? hp)) (fun t ht e => by
  have h1 := List.getElem?_eq_some_iff.1 hp
  have h2 := List.getElem?_eq_some_iff.1 e
  have := List.pairwise_iff_getElem.1 hk.nd t j h2.1 h1.1 ht
  exact this (by rw [h1.2, h2.2]))
set_option maxRecDepth 100000 in
set_option maxHeartbeats 8000000 in
theorem KeyOrder_any (a : Option Addr) (n cap : Nat) (X : List Num3) (t : Nat) (w : World) (hLd : Laid7 w) (hl : X.length = n) (hc : n ≤ cap) (hcm : cap ≤ maxLen) (hX : NsIn w a X) (ht : t < 256) :
    Calls Tryd.prog 7 #[.slice a n cap, .int .u8 t] w fun e w' => e = .returned (.bool true) ∧ Fr0 none' w w' := by
  obtain ⟨i0, hi, hz0, hz1, hz2⟩ := info_parts info_key
  have HL := Lib.hid hLd
  have HX := Lib.hid hX
  clear hLd hX
  go_enter Tryd.func7, Tryd.ntmps7
  go_wp2_with fail
  refine (awake_any _ HL.out).mono ?_
  rintro e w1 ⟨rfl, hf⟩
  have F1 := Lib.hid hf
  clear hf
  go_wp2_with fail
  refine (Keys_any a n cap X 40 w1 hl hc hcm (HX.out.later F1.out) (by omega)).mono ?_
  rintro e w2 ⟨v1, rfl, hr, hf⟩
  have hKl : ((X.take 40).map Num3.key).length = min n 40 := by rw [List.length_map, List.length_take, hl, Nat.min_comm]
  obtain ⟨K, hK⟩ : ∃ K, (X.take 40).map Num3.key = K := ⟨_, rfl⟩
  rw [hK] at hr hKl
  obtain ⟨m, hm⟩ : ∃ m, min n 40 = m := ⟨_, rfl⟩
  rw [hm] at hr hKl
  have hm40 : m ≤ 40 := by omega
  obtain ⟨a1, c1, rfl, hk⟩ := KsAt.of_own hr hKl
  rw [hKl] at hr ⊢
  have F2 := Lib.hid (F1.out.trans hf)
  have R := Lib.hid (ownsRow_k_mono hr F1.out.size)
  have P := Lib.hid hk
  have Hl := Lib.hid hKl
  have Hm := Lib.hid hm40
  obtain ⟨q, hq⟩ : ∃ q, t % (m + 1) = q := ⟨_, rfl⟩
  have hqm : q ≤ m := by have := Nat.mod_lt t (show m + 1 > 0 by omega); omega
  have z1 : IntKind.i64.wrap (t : Int) = (t : Int) := IntWalk.i64_in _ (by omega)
  have z2 : IntKind.i64.wrap ((m : Int) + 1) = (m : Int) + 1 := IntWalk.i64_in _ (by omega)
  have z3 : (t : Int).tmod ((m : Int) + 1) = (q : Int) := by rw [Int.tmod_eq_emod_of_nonneg (by omega), ← hq]; push_cast; rfl
  have z4 : ((m : Int) + 1 == 0) = false := by simp; omega
  have z5 : IntKind.i64.wrap (q : Int) = (q : Int) := IntWalk.i64_in _ (by omega)
  have Hq := Lib.hid hqm
  clear hr hf hKl hm hK hk hq
  go_wp2_with fail
  clear z1 z2 z3 z4 z5
  refine viaT (T := Nat → Value) (fun us W => W.ownsRow w.heap.size 24 3 (us 7) m (flatKy (K.drop q ++ K.take q)) ∧ Fr0 none' w2 W) (fun us => [(25, us 0), (26, us 1), (27, us 2), (28, us 3), (29, us 4), (30, us 5), (31, us 6), (32, us 7), (7, us 7)]) (fun us W hF => ?_) (fun hT => ?_)
  · simp only [List.foldl, Act.put, List.setIfInBounds_toArray, List.set_cons_zero, List.set_cons_succ]
    obtain ⟨vT, hvT⟩ : ∃ v, us 7 = v := ⟨_, rfl⟩
    rw [hvT] at hF ⊢
    obtain ⟨hrT, hf⟩ := hF
    have RT := Lib.hid hrT
    have FT := Lib.hid (F2.out.trans hf)
    have R := Lib.hid (ownsRow_q_fr R.out hf (fun _ _ h => h))
    have P := Lib.hid (P.out.later hf)
    clear hrT hf hvT
    go_wp2_with fail
    refine (Order_any K a1 m c1 _ P.out Hl.out (by have := Hm.out; omega)).mono ?_
    rintro e w4 ⟨RO, rc, o, rfl, hro, hok, hf⟩
    have FO := Lib.hid (FT.out.trans hf)
    have RT := Lib.hid (ownsRow_q_fr RT.out hf (fun _ _ h => h))
    have R := Lib.hid (ownsRow_q_fr R.out hf (fun _ _ h => h))
    have P := Lib.hid (P.out.later hf)
    have RI := Lib.hid (ownsRow_k_mono hro FT.out.size)
    have Hok := Lib.hid hok
    have HSt := Lib.hid (Sort_own K R.out Hl.out (by have := Hm.out; omega))
    clear hro hok hf FT
    go_wp2_with fail
    refine HSt.out.mono ?_
    rintro e w5 ⟨vS, rfl, hr, hf⟩
    have FS := Lib.hid (FO.out.trans hf)
    have RT := Lib.hid (ownsRow_q_fr RT.out hf (fun _ _ h => h))
    have R := Lib.hid (ownsRow_q_fr R.out hf (fun _ _ h => h))
    have P := Lib.hid (P.out.later hf)
    have RI := Lib.hid (ownsRow_q_fr RI.out hf (fun _ _ h => h))
    have hSl := ss_len K
    rw [Hl.out] at hSl
    obtain ⟨s, hs⟩ : ∃ s, (ss K).length = s := ⟨_, rfl⟩
    rw [hs] at hr hSl
    obtain ⟨aS, cS, rfl, hkS⟩ := KsAt.of_own hr hs
    rw [hs] at hr ⊢
    have RS := Lib.hid (ownsRow_k_mono hr FO.out.size)
    have PS := Lib.hid hkS
    have HSl := Lib.hid (show (ss K).length = s ∧ s ≤ m from ⟨hs, hSl⟩)
    obtain ⟨aT, cT, rfl, hkT⟩ := KsAt.of_own RT.out (by rw [List.length_append, List.length_drop, List.length_take, Hl.out]; have := Hq.out; omega)
    have hTl : (K.drop q ++ K.take q).length = m := by rw [List.length_append, List.length_drop, List.length_take, Hl.out]; have := Hq.out; omega
    rw [hTl] at RT ⊢
    have PT := Lib.hid hkT
    have HTl := Lib.hid hTl
    clear hr hf hSl hs hkS hkT hTl FO HSt
    have d0 : ((m : Int) != (m : Int)) = false := by simp
    go_wp2_with fail
    refine (Sort_own (K.drop q ++ K.take q) RT.out HTl.out (by have := Hm.out; have := HSl.out.2; omega)).mono ?_
    rintro e w6 ⟨vA, rfl, hr, hf⟩
    rw [show ss (K.drop q ++ K.take q) = ss K from ss_same (fun x => by rw [List.mem_append, or_comm, ← List.mem_append, List.take_append_drop]), HSl.out.1] at hr
    have FS := Lib.hid (FS.out.trans hf)
    have RT := Lib.hid (ownsRow_q_fr RT.out hf (fun _ _ h => h))
    have R := Lib.hid (ownsRow_q_fr R.out hf (fun _ _ h => h))
    have P := Lib.hid (P.out.later hf)
    have RI := Lib.hid (ownsRow_q_fr RI.out hf (fun _ _ h => h))
    have RS := Lib.hid (ownsRow_q_fr RS.out hf (fun _ _ h => h))
    have PS := Lib.hid (PS.out.later hf)
    have PT := Lib.hid (PT.out.later hf)
    obtain ⟨aA, cA, rfl, hkA⟩ := KsAt.of_own hr HSl.out.1
    have PA := Lib.hid hkA
    clear hr hf hkA
    rw [HSl.out.1]
    go_wp2_with fail
    refine (sameKs_any aA aS s s cA cS (ss K) (ss K) _ HSl.out.1 HSl.out.1 (by have := HSl.out.2; have := Hm.out; omega) (by have := HSl.out.2; have := Hm.out; omega) PA.out PS.out).mono ?_
    rintro e w9 ⟨rfl, hf⟩
    rw [show decide (ss K = ss K) = true from decide_eq_true rfl]
    have FS := Lib.hid (FS.out.trans hf)
    have RT := Lib.hid (ownsRow_q_fr RT.out hf (fun _ _ h => h))
    have R := Lib.hid (ownsRow_q_fr R.out hf (fun _ _ h => h))
    have P := Lib.hid (P.out.later hf)
    have RI := Lib.hid (ownsRow_q_fr RI.out hf (fun _ _ h => h))
    have RS := Lib.hid (ownsRow_q_fr RS.out hf (fun _ _ h => h))
    have PS := Lib.hid (PS.out.later hf)
    have PT := Lib.hid (PT.out.later hf)
    clear hf PA
    go_wp2_with fail
    refine (Sort_own (ss K) RS.out HSl.out.1 (by have := Hm.out; have := HSl.out.2; omega)).mono ?_
    rintro e w7 ⟨vA, rfl, hr, hf⟩
    rw [show ss (ss K) = ss K from ss_same (fun x => ss_mem K x), HSl.out.1] at hr
    have FS := Lib.hid (FS.out.trans hf)
    have RT := Lib.hid (ownsRow_q_fr RT.out hf (fun _ _ h => h))
    have R := Lib.hid (ownsRow_q_fr R.out hf (fun _ _ h => h))
    have P := Lib.hid (P.out.later hf)
    have RI := Lib.hid (ownsRow_q_fr RI.out hf (fun _ _ h => h))
    have RS := Lib.hid (ownsRow_q_fr RS.out hf (fun _ _ h => h))
    have PS := Lib.hid (PS.out.later hf)
    have PT := Lib.hid (PT.out.later hf)
    obtain ⟨aA, cA, rfl, hkA⟩ := KsAt.of_own hr HSl.out.1
    have PA := Lib.hid hkA
    clear hr hf hkA
    rw [HSl.out.1]
    go_wp2_with fail
    refine (sameKs_any aA aS s s cA cS (ss K) (ss K) _ HSl.out.1 HSl.out.1 (by have := HSl.out.2; have := Hm.out; omega) (by have := HSl.out.2; have := Hm.out; omega) PA.out PS.out).mono ?_
    rintro e w9 ⟨rfl, hf⟩
    rw [show decide (ss K = ss K) = true from decide_eq_true rfl]
    have FS := Lib.hid (FS.out.trans hf)
    have RT := Lib.hid (ownsRow_q_fr RT.out hf (fun _ _ h => h))
    have R := Lib.hid (ownsRow_q_fr R.out hf (fun _ _ h => h))
    have P := Lib.hid (P.out.later hf)
    have RI := Lib.hid (ownsRow_q_fr RI.out hf (fun _ _ h => h))
    have RS := Lib.hid (ownsRow_q_fr RS.out hf (fun _ _ h => h))
    have PS := Lib.hid (PS.out.later hf)
    have PT := Lib.hid (PT.out.later hf)
    clear hf PA
    go_wp2_with fail
    obtain ⟨lb, hlb⟩ : ∃ x, w9.heap.size = x := ⟨_, rfl⟩
    obtain ⟨wA, hwA⟩ : ∃ W, w9.alloc (.cells #[.slice a1 m c1, .slice aT m cT] 22) = W := ⟨_, rfl⟩
    have hf : Fr0 none' w9 wA := by rw [← hwA]; exact (Fr0.refl none' w9).alloc _
    have T := Lib.hid (show TwoRows wA lb a1 aT m m c1 cT K (K.drop q ++ K.take q) from ⟨by rw [← hwA, ← hlb]; exact World.alloc_heap_new w9 _, P.out.later hf, PT.out.later hf, Hl.out, HTl.out, by have := Hm.out; omega⟩)
    rw [hwA, hlb]
    have FS := Lib.hid (FS.out.trans hf)
    have RT := Lib.hid (ownsRow_q_fr RT.out hf (fun _ _ h => h))
    have R := Lib.hid (ownsRow_q_fr R.out hf (fun _ _ h => h))
    have P := Lib.hid (P.out.later hf)
    have RI := Lib.hid (ownsRow_q_fr RI.out hf (fun _ _ h => h))
    have RS := Lib.hid (ownsRow_q_fr RS.out hf (fun _ _ h => h))
    have PS := Lib.hid (PS.out.later hf)
    have PT := Lib.hid (PT.out.later hf)
    clear hf hwA hlb
    refine (Concat2 _ _ _ _ _ _ _ _ _ _ T.out).mono ?_
    rintro e wB ⟨vC, rfl, hr, hf⟩
    have RC := Lib.hid (ownsRow_k_mono hr FS.out.size)
    have FS := Lib.hid (FS.out.trans hf)
    have RT := Lib.hid (ownsRow_q_fr RT.out hf (fun _ _ h => h))
    have R := Lib.hid (ownsRow_q_fr R.out hf (fun _ _ h => h))
    have P := Lib.hid (P.out.later hf)
    have RI := Lib.hid (ownsRow_q_fr RI.out hf (fun _ _ h => h))
    have RS := Lib.hid (ownsRow_q_fr RS.out hf (fun _ _ h => h))
    have PS := Lib.hid (PS.out.later hf)
    have PT := Lib.hid (PT.out.later hf)
    obtain ⟨aC, cC, rfl, _⟩ := KsAt.of_own RC.out (by rw [List.length_append, Hl.out, HTl.out])
    rw [List.length_append, Hl.out, HTl.out] at RC ⊢
    clear hr hf T
    go_wp2_with fail
    refine (Sort_own (K ++ (K.drop q ++ K.take q)) RC.out (by rw [List.length_append, Hl.out, HTl.out]) (by have := Hm.out; omega)).mono ?_
    rintro e wD ⟨vA, rfl, hr, hf⟩
    rw [show ss (K ++ (K.drop q ++ K.take q)) = ss K from ss_same (fun x => by rw [List.mem_append, List.mem_append, or_comm (a := x ∈ K.drop q), ← List.mem_append, List.take_append_drop, or_self]), HSl.out.1] at hr
    have FS := Lib.hid (FS.out.trans hf)
    have RT := Lib.hid (ownsRow_q_fr RT.out hf (fun _ _ h => h))
    have R := Lib.hid (ownsRow_q_fr R.out hf (fun _ _ h => h))
    have P := Lib.hid (P.out.later hf)
    have RI := Lib.hid (ownsRow_q_fr RI.out hf (fun _ _ h => h))
    have RS := Lib.hid (ownsRow_q_fr RS.out hf (fun _ _ h => h))
    have PS := Lib.hid (PS.out.later hf)
    have PT := Lib.hid (PT.out.later hf)
    obtain ⟨aA, cA, rfl, hkA⟩ := KsAt.of_own hr HSl.out.1
    have PA := Lib.hid hkA
    clear hr hf hkA RC
    rw [HSl.out.1]
    go_wp2_with fail
    refine (sameKs_any aA aS s s cA cS (ss K) (ss K) _ HSl.out.1 HSl.out.1 (by have := HSl.out.2; have := Hm.out; omega) (by have := HSl.out.2; have := Hm.out; omega) PA.out PS.out).mono ?_
    rintro e wE ⟨rfl, hf⟩
    rw [show decide (ss K = ss K) = true from decide_eq_true rfl]
    have FS := Lib.hid (FS.out.trans hf)
    have RT := Lib.hid (ownsRow_q_fr RT.out hf (fun _ _ h => h))
    have R := Lib.hid (ownsRow_q_fr R.out hf (fun _ _ h => h))
    have P := Lib.hid (P.out.later hf)
    have RI := Lib.hid (ownsRow_q_fr RI.out hf (fun _ _ h => h))
    have RS := Lib.hid (ownsRow_q_fr RS.out hf (fun _ _ h => h))
    have PS := Lib.hid (PS.out.later hf)
    have PT := Lib.hid (PT.out.later hf)
    clear hf PA RT PT d0
    have hmk := make_intsK m (by have := Hm.out; omega) wE
    go_wp2_with fail
    clear hmk
    obtain ⟨W1, hW1⟩ : ∃ W, wE.alloc (.cells (Array.replicate m (.int .i64 0)) 3) = W := ⟨_, rfl⟩
    obtain ⟨bS, hbS⟩ : ∃ x, wE.heap.size = x := ⟨_, rfl⟩
    have hO1 : W1.ownsRow bS 3 1 (.slice (some ⟨bS, 0, none⟩) m m) m (List.replicate m (.int .i64 0)) := by
      rw [← hW1, ← hbS]
      refine ⟨by simp, .inr ⟨wE.heap.size, m, Array.replicate m (.int .i64 0), rfl, by omega, ?_, Nat.le_refl _, by have := Hm.out; unfold maxLen; omega, by simp, by simp⟩⟩
      exact World.alloc_heap_new wE _
    have f1 : Fr0 none' wE W1 := by rw [← hW1]; exact (Fr0.refl _ _).alloc _
    have hs1 : W1.heap.size = bS + 1 := by rw [← hW1, ← hbS]; simp
    have HO := Lib.hid hO1
    have HF1 := Lib.hid f1
    have HS1 := Lib.hid hs1
    rw [hW1, hbS]
    have HbS := Lib.hid hbS
    clear hW1 hbS hO1 f1 hs1
    go_loopw [11, 12, 13, 14, 71] (fun v _ _ _ c wr => ∃ (j : Nat) (M : List Key3) (Z : List Value), c = .int .i64 j ∧ j ≤ m ∧ Hid (wr.ownsRow (bS + 1) 24 3 v M.length (flatKy M)) ∧ Hid (wr.ownsRow bS 3 1 (.slice (some ⟨bS, 0, none⟩) m m) m Z) ∧ Hid (SeenOk o m j Z) ∧ Hid (MadeOk K o j M) ∧ Hid (Fr0 none' wE wr) ∧ Hid (bS < wr.heap.size)) (fun _ _ _ _ c _ => m - (Go.RowKit.intOf c).toNat)
    case atStart => exact ⟨0, [], _, rfl, Nat.zero_le _, World.ownsRow_nil _ _ _ _, HO.out, seen_zero _ _, mk_zero _ _, HF1.out, by unfold Hid; rw [HS1.out]; omega⟩
    case round =>
      obtain ⟨j, M, Z, rfl, hj, hr, hz, hse, hM, hf, hsz⟩ := hrel
      by_cases hlt : j < m
      · have d0 : decide ((j : Int) < (m : Int)) = true := decide_eq_true (by omega)
        have e5 : IntKind.i64.wrap ((j : Int) + 1) = (j : Int) + 1 := IntWalk.i64_in _ (by have := Hm.out; omega)
        have b1 : (0 : Int) ≤ (j : Int) := by omega
        have b2 : (j : Int) < (m : Int) := by omega
        obtain ⟨p, hp⟩ : ∃ p, o[j]? = some p := ⟨_, List.getElem?_eq_getElem (by rw [Hok.out.len, Hl.out]; exact hlt)⟩
        have hpm : p < m := by rw [← Hl.out]; exact Hok.out.lt p (List.mem_of_getElem? hp)
        have HIr := Lib.hid (ownsRow_q_fr RI.out hf.out (fun _ _ h => h))
        have hIc := fun (t q : Nat) (h : o[t]? = some q) => show wr.cell? ⟨RO, t, none⟩ = some (.int .i64 (q : Int)) from by
          have hc := HIr.out.cells (g := RO) rfl t (.int .i64 (q : Int)) (by rw [List.getElem?_map, h]; rfl)
          unfold Addr.add at hc
          split at hc
          · next h0 => subst h0; exact hc
          · simpa using hc
        have HIc := Lib.hid hIc
        have y0 := hIc j p hp
        have y1 : wr.cell? ⟨bS, p, none⟩ = some (.int .i64 0) := by
          have hc := hz.out.cells (g := bS) rfl p _ (seen_at Hok.out hse.out Hl.out hp)
          unfold Addr.add at hc
          split at hc
          · next h0 => subst h0; exact hc
          · simpa using hc
        have y2 := row_frozen hz.out p
        have d1 : decide ((p : Int) < 0) = false := decide_eq_false (by omega)
        have d2 : decide ((p : Int) ≥ (m : Int)) = false := decide_eq_false (by omega)
        have b3 : (0 : Int) ≤ (p : Int) := by omega
        have b4 : (p : Int) < (m : Int) := by omega
        have Hlt := Lib.hid hlt
        have Hp := Lib.hid hp
        obtain ⟨g, og, rfl, hx⟩ := P.out.at (i := p) (by rw [Hl.out]; exact hpm)
        obtain ⟨kp, hkp⟩ : ∃ k, kat K p = k := ⟨_, rfl⟩
        rw [hkp] at hx
        obtain ⟨W2, hW2⟩ : ∃ W, wr.setCell ⟨bS, p, none⟩ (.int .i64 1) = W := ⟨_, rfl⟩
        have F2 := Lib.hid (show Fr0 none' wE W2 by rw [← hW2]; exact hf.out.setCell (fun h => by rw [HbS.out] at h; exact absurd h (Nat.lt_irrefl _)) _)
        have f2 : Fr0 (fun b => b = bS) wr W2 := by rw [← hW2]; exact (Fr0.refl (fun b => b = bS) wr).setCell (fun _ => rfl) _
        have Z2 := Lib.hid (show W2.ownsRow bS 3 1 (.slice (some ⟨bS, 0, none⟩) m m) m (Z.set p (.int .i64 1)) by rw [← hW2]; exact row_set1 hz.out hpm)
        have R2 := Lib.hid (ownsRow_q_fr hr.out f2 (fun g hg h => by have := (hr.out.lt g hg).1; omega))
        have S2 := Lib.hid (seen_set (.int .i64 1) hse.out hp)
        have Hs2 := Lib.hid (show bS < W2.heap.size by have := hsz.out; have := f2.size; omega)
        have HX2 := Lib.hid (hx.later F2.out)
        obtain ⟨x0, x1, x2⟩ := HX2.out
        have Hkp := Lib.hid hkp
        clear hIc hp f2 hx hkp
        by_cases hj0 : 0 < j
        · have Hj0 := Lib.hid hj0
          have d3 : decide ((j : Int) > 0) = true := decide_eq_true (by omega)
          have d4 : decide (0 < j) = true := decide_eq_true hj0
          clear hj0
          go_wp2_with fail
          have hj0 := Hj0.out
          clear hW2 y0 y1 y2 x0 x1 x2 d3 d4
          obtain ⟨jm, hjm⟩ : ∃ jm, jm + 1 = j := ⟨j - 1, by omega⟩
          obtain ⟨z, hzz⟩ : ∃ z, o[jm]? = some z := ⟨_, List.getElem?_eq_getElem (by rw [Hok.out.len, Hl.out]; omega)⟩
          have hzm : z < m := by rw [← Hl.out]; exact Hok.out.lt z (List.mem_of_getElem? hzz)
          obtain ⟨g', og', e', hy⟩ := P.out.at (i := z) (by rw [Hl.out]; exact hzm)
          cases e'
          obtain ⟨kz, hkz⟩ : ∃ k, kat K z = k := ⟨_, rfl⟩
          rw [hkz] at hy
          have HY2 := Lib.hid (hy.later F2.out)
          have HI2 := Lib.hid (fun (W' : World) (h : Fr0 none' W2 W') => show W'.cell? ⟨RO, jm, none⟩ = some (.int .i64 (z : Int)) from by
            have hc := (ownsRow_q_fr RI.out (F2.out.trans h) (fun _ _ h => h)).cells (g := RO) rfl jm (.int .i64 (z : Int)) (by rw [List.getElem?_map, hzz]; rfl)
            unfold Addr.add at hc
            split at hc
            · next h0 => subst h0; exact hc
            · simpa using hc)
          have e6 : IntKind.i64.wrap ((j : Int) - 1) = (jm : Int) := by rw [IntWalk.i64_in _ (by have := Hm.out; omega)]; omega
          have b5 : (0 : Int) ≤ (jm : Int) := by omega
          have b6 : (jm : Int) < (m : Int) := by omega
          have b7 : (0 : Int) ≤ (z : Int) := by omega
          have b8 : (z : Int) < (m : Int) := by omega
          have Hjm := Lib.hid (show o[j - 1]? = some z by rw [← hjm]; exact hzz)
          have hle : cmpK kz kp ≤ 0 := by rw [← hkz, ← Hkp.out]; exact ord_le Hok.out (show jm < j by omega) hzz Hp.out
          have htie : cmpK kz kp = 0 → z < p := fun h => by rw [← hkz, ← Hkp.out] at h; exact ord_tie Hok.out (show jm < j by omega) hzz Hp.out h
          have Hle := Lib.hid hle
          have Htie := Lib.hid htie
          have Hkz := Lib.hid hkz
          have HO2 := Lib.hid (order_any kz kp)
          simp only [keyV] at HO2
          clear hy hzz hjm hle htie hkz
          refine wp_region_held_drew (S := fun W' => Fr0 none' W2 W') (by kernel_rfl) ((Fr0.refl none' W2).drew) (fun hHeld => ?_)
          refine take_on (i := 0) (v := .slice (some ⟨g, og, none⟩) m c1) rfl (by kernel_rfl) (by kernel_rfl) (by kernel_rfl) (fun _ _ _ h => h) (by kernel_rfl) (fun W' hSW => ?_) (by assumption) ?_
          · clear hSW
            first | (go_simp; done) | exact rfl | (go_simp; rfl) | (go_simp; omega)
          try simp only [Act.put, List.setIfInBounds_toArray, List.set_cons_zero, List.set_cons_succ]
          refine take_on (i := 1) (v := .slice (some ⟨RO, 0, none⟩) m rc) rfl (by kernel_rfl) (by kernel_rfl) (by kernel_rfl) (fun _ _ _ h => h) (by kernel_rfl) (fun W' hSW => ?_) (by assumption) ?_
          · clear hSW
            first | (go_simp; done) | exact rfl | (go_simp; rfl) | (go_simp; omega)
          try simp only [Act.put, List.setIfInBounds_toArray, List.set_cons_zero, List.set_cons_succ]
          refine take_on (i := 2) (v := .int .i64 (j : Int)) rfl (by kernel_rfl) (by kernel_rfl) (by kernel_rfl) (fun _ _ _ h => h) (by kernel_rfl) (fun W' hSW => ?_) (by assumption) ?_
          · clear hSW
            first | (go_simp; done) | exact rfl | (go_simp; rfl) | (go_simp; omega)
          try simp only [Act.put, List.setIfInBounds_toArray, List.set_cons_zero, List.set_cons_succ]
          refine take_on (i := 3) (v := .int .i64 (jm : Int)) rfl (by kernel_rfl) (by kernel_rfl) (by kernel_rfl) (fun _ _ _ h => h) (by kernel_rfl) (fun W' hSW => ?_) (by assumption) ?_
          · clear hSW
            first | (go_simp; done) | exact rfl | (go_simp; rfl) | (go_simp; omega)
          try simp only [Act.put, List.setIfInBounds_toArray, List.set_cons_zero, List.set_cons_succ]
          refine take_on (i := 4) (v := .pointer (some ⟨RO, jm, none⟩)) rfl (by kernel_rfl) (by kernel_rfl) (by kernel_rfl) (fun _ _ _ h => h) (by kernel_rfl) (fun W' hSW => ?_) (by assumption) ?_
          · clear hSW
            first | (go_simp; done) | exact rfl | (go_simp; rfl) | (go_simp; omega)
          try simp only [Act.put, List.setIfInBounds_toArray, List.set_cons_zero, List.set_cons_succ]
          refine take_on (i := 5) (v := .int .i64 (z : Int)) rfl (by kernel_rfl) (by kernel_rfl) (by kernel_rfl) (fun _ _ _ h => h) (by kernel_rfl) (fun W' hSW => ?_) (by assumption) ?_
          · have y9 := HI2.out W' hSW
            clear hSW
            first | (go_simp; done) | exact rfl | (go_simp; rfl) | (go_simp; omega)
          try simp only [Act.put, List.setIfInBounds_toArray, List.set_cons_zero, List.set_cons_succ]
          refine take_on (i := 6) (v := .pointer (some ⟨g, og + z * 3, none⟩)) rfl (by kernel_rfl) (by kernel_rfl) (by kernel_rfl) (fun _ _ _ h => h) (by kernel_rfl) (fun W' hSW => ?_) (by assumption) ?_
          · clear hSW
            first | (go_simp; done) | exact rfl | (go_simp; rfl) | (go_simp; omega)
          try simp only [Act.put, List.setIfInBounds_toArray, List.set_cons_zero, List.set_cons_succ]
          refine take_on (i := 7) (v := .agg #[.int .i64 (kz : Key3).time, .int .i64 (kz : Key3).source, .int .i64 (kz : Key3).seq]) rfl (by kernel_rfl) (by kernel_rfl) (by kernel_rfl) (fun _ _ _ h => h) (by kernel_rfl) (fun W' hSW => ?_) (by assumption) ?_
          · obtain ⟨x0, x1, x2⟩ := HY2.out.later hSW
            clear hSW
            first | (go_simp; done) | exact rfl | (go_simp; rfl) | (go_simp; omega)
          try simp only [Act.put, List.setIfInBounds_toArray, List.set_cons_zero, List.set_cons_succ]
          refine take_on (i := 8) (v := .slice (some ⟨g, og, none⟩) m c1) rfl (by kernel_rfl) (by kernel_rfl) (by kernel_rfl) (fun _ _ _ h => h) (by kernel_rfl) (fun W' hSW => ?_) (by assumption) ?_
          · clear hSW
            first | (go_simp; done) | exact rfl | (go_simp; rfl) | (go_simp; omega)
          try simp only [Act.put, List.setIfInBounds_toArray, List.set_cons_zero, List.set_cons_succ]
          refine take_on (i := 9) (v := .int .i64 (p : Int)) rfl (by kernel_rfl) (by kernel_rfl) (by kernel_rfl) (fun _ _ _ h => h) (by kernel_rfl) (fun W' hSW => ?_) (by assumption) ?_
          · clear hSW
            first | (go_simp; done) | exact rfl | (go_simp; rfl) | (go_simp; omega)
          try simp only [Act.put, List.setIfInBounds_toArray, List.set_cons_zero, List.set_cons_succ]
          refine take_on (i := 10) (v := .pointer (some ⟨g, og + p * 3, none⟩)) rfl (by kernel_rfl) (by kernel_rfl) (by kernel_rfl) (fun _ _ _ h => h) (by kernel_rfl) (fun W' hSW => ?_) (by assumption) ?_
          · clear hSW
            first | (go_simp; done) | exact rfl | (go_simp; rfl) | (go_simp; omega)
          try simp only [Act.put, List.setIfInBounds_toArray, List.set_cons_zero, List.set_cons_succ]
          refine take_on (i := 11) (v := .agg #[.int .i64 (kp : Key3).time, .int .i64 (kp : Key3).source, .int .i64 (kp : Key3).seq]) rfl (by kernel_rfl) (by kernel_rfl) (by kernel_rfl) (fun _ _ _ h => h) (by kernel_rfl) (fun W' hSW => ?_) (by assumption) ?_
          · obtain ⟨x0, x1, x2⟩ := HX2.out.later hSW
            clear hSW
            first | (go_simp; done) | exact rfl | (go_simp; rfl) | (go_simp; omega)
          try simp only [Act.put, List.setIfInBounds_toArray, List.set_cons_zero, List.set_cons_succ]
          refine take_call (i := 12) rfl (by kernel_rfl) (by kernel_rfl) (fun K' hK => ?_)
          go_simp
          refine (HO2.out _).mono ?_
          rintro e W4 ⟨rfl, hf4⟩
          have hS4 := hHeld.trans hf4
          clear hf4 hHeld
          go_wp2_with fail
          refine hK.out _ _ hS4 (fun hHeld => ?_)
          clear hK K' hS4
          try simp only [Act.put, List.setIfInBounds_toArray, List.set_cons_zero, List.set_cons_succ]
          have H4 := Lib.hid hHeld
          refine take_on (i := 13) (v := .int .i64 (cmpK kz kp)) rfl (by kernel_rfl) (by kernel_rfl) (by kernel_rfl) (fun _ _ _ h => h) (by kernel_rfl) (fun W' hSW => ?_) (by assumption) ?_
          · clear hSW
            first | (go_simp; done) | exact rfl
          try simp only [Act.put, List.setIfInBounds_toArray, List.set_cons_zero, List.set_cons_succ]
          refine wpAnyH_done (by kernel_rfl) ?_ _
          clear hHeld
          have F4 := Lib.hid (F2.out.trans H4.out)
          have Z4 := Lib.hid (ownsRow_q_fr Z2.out H4.out (fun _ _ h => h))
          have R4 := Lib.hid (ownsRow_q_fr R2.out H4.out (fun _ _ h => h))
          have y3 := HI2.out W4 H4.out
          obtain ⟨x0, x1, x2⟩ := HX2.out.later H4.out
          have Hs4 := Lib.hid (show bS < W4.heap.size by have h1 := Hs2.out; have h2 := H4.out.size; omega)
          by_cases hc0 : cmpK kz kp = 0
          · have hzp := Htie.out hc0
            have Hc0 := Lib.hid hc0
            have d5 : decide ((z : Int) > (p : Int)) = false := decide_eq_false (by omega)
            have d6 : decide (p < z) = false := decide_eq_false (by omega)
            rw [hc0]
            clear hc0 hzp
            go_wp2_with fail
            refine ⟨⟨j + 1, M, _, by simp, by have := Hlt.out; omega, R4.out, Z4.out, S2.out, mk_same hM.out Hp.out Hj0.out Hjm.out (by rw [Hkz.out, Hkp.out]; exact Hc0.out), F4.out, Hs4.out⟩, by simp [Go.RowKit.intOf]; have := Hlt.out; omega⟩
          · have hcm1 : cmpK kz kp = -1 := by
              rcases cmpK_in kz kp with h | h | h
              · exact h
              · exact absurd h hc0
              · have := Hle.out; omega
            have Hc1 := Lib.hid hcm1
            rw [hcm1]
            clear hc0 hcm1 y3
            have hsrc := Lib.hid (Src.newRow (P := Tryd.prog) (size := 3) (tx := 22) (ty := 24) W4 Tryd.underlying22 1 1 [.int .i64 kp.time, .int .i64 kp.source, .int .i64 kp.seq] rfl (by simp [Value.oneCell']))
            have hsz3 := F4.out.size
            have HR3 := Lib.hid (ownsRow_q_fr R4.out ((Fr0.refl none' W4).alloc (.cells #[.int .i64 kp.time, .int .i64 kp.source, .int .i64 kp.seq] 24)) (fun _ _ h => h))
            have HZ3 := Lib.hid (ownsRow_q_fr Z4.out ((Fr0.refl none' W4).alloc (.cells #[.int .i64 kp.time, .int .i64 kp.source, .int .i64 kp.seq] 24)) (fun _ _ h => h))
            have HR0 := Lib.hid (fun g hg => (HR3.out.lt g hg).1)
            have HMl := Lib.hid (show M.length + 1 ≤ 41 by have h1 := hM.out.2.2; have h2 := Hm.out; have h3 := Hlt.out; omega)
            have hmx := HMl.out
            have hsz4 := Hs4.out
            go_wp2_with (at_builtin; refine wpList_append_k rfl _ _ 22 22 rfl (bS + 1) 24 i0 (.agg #[.int .i64 0, .int .i64 0, .int .i64 0]) 3 24 Tryd.underlying22 hi hz0 hz1 hz2 rfl (by decide) u11 M.length _ rfl HR3.out (.slice (some ⟨(W4).heap.size, 0, none⟩) 1 1) 1 _ rfl hsrc.out (by unfold maxLen; omega) (by omega) (by simp; omega) ?_; intro v' w3 hown' hgrow hdr hob; have Hown := Lib.hid hown'; have Hgr := Lib.hid hgrow; clear hown' hgrow hdr hob)
            have FG := Lib.hid ((Fr0.refl (fun b => bS + 1 ≤ b) _).grown Hgr.out (fun g hg _ => HR0.out g hg))
            have FE := Lib.hid ((F4.out.alloc _).grown Hgr.out (fun g hg hl2 => by have h1 := HR0.out g hg; have h2 := HbS.out; omega))
            have HMk := Lib.hid (show MadeOk K o (j + 1) (M ++ [kp]) from by rw [← Hkp.out]; exact mk_add Hok.out hM.out Hp.out (.inr ⟨z, Hjm.out, by rw [Hkz.out, Hkp.out, Hc1.out]; decide⟩))
            refine ⟨⟨j + 1, M ++ [kp], _, by simp, by have := Hlt.out; omega, ?_, ownsRow_q_fr HZ3.out FG.out (fun g hg h => by cases hg; exact absurd h (Nat.not_succ_le_self bS)), S2.out, HMk.out, FE.out, ?_⟩, by simp [Go.RowKit.intOf]; have := Hlt.out; omega⟩
            · unfold Hid; rw [flatKy_snoc, List.length_append]; exact Hown.out
            · unfold Hid; have h1 := FG.out.size; simp at h1; omega
        · have Hj0 := Lib.hid (show j = 0 by omega)
          have d3 : decide ((j : Int) > 0) = false := decide_eq_false (by omega)
          have d4 : decide (0 < j) = false := decide_eq_false hj0
          clear hj0
          have hsrc := Lib.hid (Src.newRow (P := Tryd.prog) (size := 3) (tx := 22) (ty := 24) W2 Tryd.underlying22 1 1 [.int .i64 kp.time, .int .i64 kp.source, .int .i64 kp.seq] rfl (by simp [Value.oneCell']))
          have hsz3 := F2.out.size
          have HR3 := Lib.hid (ownsRow_q_fr R2.out ((Fr0.refl none' W2).alloc (.cells #[.int .i64 kp.time, .int .i64 kp.source, .int .i64 kp.seq] 24)) (fun _ _ h => h))
          have HZ3 := Lib.hid (ownsRow_q_fr Z2.out ((Fr0.refl none' W2).alloc (.cells #[.int .i64 kp.time, .int .i64 kp.source, .int .i64 kp.seq] 24)) (fun _ _ h => h))
          have HR0 := Lib.hid (fun g hg => (HR3.out.lt g hg).1)
          have HMl := Lib.hid (show M.length + 1 ≤ 41 by have h1 := hM.out.2.2; have h2 := Hm.out; have h3 := Hlt.out; omega)
          have hmx := HMl.out
          have hsz4 := Hs2.out
          go_wp2_with (at_builtin; refine wpList_append_k rfl _ _ 22 22 rfl (bS + 1) 24 i0 (.agg #[.int .i64 0, .int .i64 0, .int .i64 0]) 3 24 Tryd.underlying22 hi hz0 hz1 hz2 rfl (by decide) u11 M.length _ rfl HR3.out (.slice (some ⟨(W2).heap.size, 0, none⟩) 1 1) 1 _ rfl hsrc.out (by unfold maxLen; omega) (by omega) (by simp; omega) ?_; intro v' w3 hown' hgrow hdr hob; have Hown := Lib.hid hown'; have Hgr := Lib.hid hgrow; clear hown' hgrow hdr hob)
          have FG := Lib.hid ((Fr0.refl (fun b => bS + 1 ≤ b) _).grown Hgr.out (fun g hg _ => HR0.out g hg))
          have FE := Lib.hid ((F2.out.alloc _).grown Hgr.out (fun g hg hl2 => by have h1 := HR0.out g hg; have h2 := HbS.out; omega))
          have HMk := Lib.hid (show MadeOk K o (j + 1) (M ++ [kp]) from by rw [← Hkp.out]; exact mk_add Hok.out hM.out Hp.out (.inl Hj0.out))
          refine ⟨⟨j + 1, M ++ [kp], _, by simp, by have := Hlt.out; omega, ?_, ownsRow_q_fr HZ3.out FG.out (fun g hg h => by cases hg; exact absurd h (Nat.not_succ_le_self bS)), S2.out, HMk.out, FE.out, ?_⟩, by simp [Go.RowKit.intOf]; have := Hlt.out; omega⟩
          · unfold Hid; rw [flatKy_snoc, List.length_append]; exact Hown.out
          · unfold Hid; have h1 := FG.out.size; simp at h1; omega
      · obtain rfl : j = m := by omega
        have d0 : decide ((j : Int) < (j : Int)) = false := decide_eq_false (by omega)
        have hMe := mk_end Hok.out Hl.out hM.out
        have hML : M.length = s := by rw [hMe]; exact HSl.out.1
        obtain ⟨aM, cM, rfl, hkM⟩ := KsAt.of_own hr.out rfl
        have PM := Lib.hid hkM
        have HMe := Lib.hid hMe
        have Hfr := Lib.hid hf.out
        have PS := Lib.hid (PS.out.later hf.out)
        have HML := Lib.hid hML
        clear hMe hkM hr hz hse hM hsz hf
        rw [hML]
        clear hML
        go_wp2_with fail
        refine (sameKs_any aM aS s s cM cS M (ss K) _ HML.out HSl.out.1 (by have := HSl.out.2; have := Hm.out; omega) (by have := HSl.out.2; have := Hm.out; omega) PM.out PS.out).mono ?_
        rintro e w9 ⟨rfl, hf⟩
        rw [show decide (M = ss K) = true from decide_eq_true HMe.out]
        have FF := Lib.hid ((FS.out.trans Hfr.out).trans hf)
        clear hf
        go_wp2_with fail
        try go_ret
        exact ⟨rfl, FF.out⟩
  · simp only [List.foldl, Act.put, List.setIfInBounds_toArray, List.set_cons_zero, List.set_cons_succ] at hT
    have HT := Lib.hid hT
    clear hT
    have hql := Hq.out
    have hml := Hm.out
    rcases R.out.2 with ⟨hv, h0⟩ | ⟨g, c', cur, hv, _, hg, hmc, hcm', _⟩
    · cases hv
      obtain rfl : q = 0 := by omega
      have b1 : (0 : Int) ≤ (0 : Nat) := by omega
      refine wp_region_held_drew (S := fun W' => Fr0 none' w2 W') (by kernel_rfl) ((Fr0.refl none' w2).drew) (fun hHeld => ?_)
      refine take_on (i := 0) (v := .slice none 0 0) rfl (by kernel_rfl) (by kernel_rfl) (by kernel_rfl) (fun _ _ _ h => h) (by kernel_rfl) (fun W' hSW => ?_) (by assumption) ?_
      · clear hSW
        first | (go_simp; done) | exact rfl | (go_simp; rfl) | (go_simp; omega)
      try simp only [Act.put, List.setIfInBounds_toArray, List.set_cons_zero, List.set_cons_succ]
      refine take_on (i := 1) (v := .int .i64 (0 : Nat)) rfl (by kernel_rfl) (by kernel_rfl) (by kernel_rfl) (fun _ _ _ h => h) (by kernel_rfl) (fun W' hSW => ?_) (by assumption) ?_
      · clear hSW
        first | (go_simp; done) | exact rfl | (go_simp; rfl) | (go_simp; omega)
      try simp only [Act.put, List.setIfInBounds_toArray, List.set_cons_zero, List.set_cons_succ]
      refine take_on (i := 2) (v := .slice none 0 0) rfl (by kernel_rfl) (by kernel_rfl) (by kernel_rfl) (fun _ _ _ h => h) (by kernel_rfl) (fun W' hSW => ?_) (by assumption) ?_
      · clear hSW
        first | (go_simp; done) | exact rfl | (go_simp; rfl) | (go_simp; omega)
      try simp only [Act.put, List.setIfInBounds_toArray, List.set_cons_zero, List.set_cons_succ]
      refine take_on (i := 3) (v := .slice none 0 0) rfl (by kernel_rfl) (by kernel_rfl) (by kernel_rfl) (fun _ _ _ h => h) (by kernel_rfl) (fun W' hSW => ?_) (by assumption) ?_
      · clear hSW
        first | (go_simp; done) | exact rfl | (go_simp; rfl) | (go_simp; omega)
      try simp only [Act.put, List.setIfInBounds_toArray, List.set_cons_zero, List.set_cons_succ]
      refine take_on (i := 4) (v := .int .i64 (0 : Nat)) rfl (by kernel_rfl) (by kernel_rfl) (by kernel_rfl) (fun _ _ _ h => h) (by kernel_rfl) (fun W' hSW => ?_) (by assumption) ?_
      · clear hSW
        first | (go_simp; done) | exact rfl | (go_simp; rfl) | (go_simp; omega)
      try simp only [Act.put, List.setIfInBounds_toArray, List.set_cons_zero, List.set_cons_succ]
      refine take_on (i := 5) (v := .slice (none) (0) (0)) rfl (by kernel_rfl) (by kernel_rfl) (by kernel_rfl) (fun _ _ _ h => h) (by kernel_rfl) (fun W' hSW => ?_) (by assumption) ?_
      · clear hSW
        first | (go_simp; done) | exact rfl | (go_simp; rfl) | (go_simp; omega)
      try simp only [Act.put, List.setIfInBounds_toArray, List.set_cons_zero, List.set_cons_succ]
      refine take_call (i := 6) rfl (by kernel_rfl) (by kernel_rfl) (fun K' hK => ?_)
      go_simp
      obtain ⟨lb, hlb⟩ : ∃ x, w2.heap.size = x := ⟨_, rfl⟩
      obtain ⟨W3, hW3⟩ : ∃ W, (w2.alloc (.cells #[.slice none 0 0, .slice (none) (0) (0)] 22)).drew = W := ⟨_, rfl⟩
      have f3 : Fr0 none' w2 W3 := by rw [← hW3]; exact ((Fr0.refl none' w2).alloc _).drew
      have T := Lib.hid (show TwoRows W3 lb (none) (none) (0) (0) (0) (0) (K.drop (0)) (K.take (0)) from ⟨by rw [← hW3, ← hlb]; exact World.alloc_heap_new w2 _, ((by have := P.out; simpa using this) : KsIn w2 (none) (K.drop (0))).later f3, (P.out.take (0)).later f3, by rw [List.length_drop, Hl.out] <;> omega, by rw [List.length_take, Hl.out]; omega, by omega⟩)
      rw [hW3, hlb]
      refine hK.out _ _ f3 (fun hHeld => ?_)
      have F3 := Lib.hid f3
      clear hK K' hHeld hW3 hlb f3
      try simp only [Act.put, List.setIfInBounds_toArray, List.set_cons_zero, List.set_cons_succ]
      refine take_call (i := 7) rfl (by kernel_rfl) (by kernel_rfl) (fun K' hK => ?_)
      go_simp
      refine (Concat2 _ _ _ _ _ _ _ _ _ _ T.out).mono ?_
      rintro e W4 ⟨vT, rfl, hr, hf⟩
      have RT := Lib.hid (ownsRow_k_mono hr (Nat.le_trans F2.out.size F3.out.size))
      have hHeld := F3.out.trans hf
      clear hr hf
      go_wp2_with fail
      refine hK.out _ _ hHeld (fun _ => ?_)
      clear hK K'
      try simp only [Act.put, List.setIfInBounds_toArray, List.set_cons_zero, List.set_cons_succ]
      refine take_on (i := 8) (v := vT) rfl (by kernel_rfl) (by kernel_rfl) (by kernel_rfl) (fun _ _ _ h => h) (by kernel_rfl) (fun W' hSW => ?_) (by assumption) ?_
      · clear hSW
        first | (go_simp; done) | exact rfl
      try simp only [Act.put, List.setIfInBounds_toArray, List.set_cons_zero, List.set_cons_succ]
      refine wpAnyH_done (by kernel_rfl) ?_ _
      exact HT.out (fun n => ([.slice none 0 0, .int .i64 (0 : Nat), .slice none 0 0, .slice none 0 0, .int .i64 (0 : Nat), .slice (none) (0) (0), .slice (some ⟨lb, 0, none⟩) 2 2, vT] : List Value).getD n undef) W4 ⟨by have h1 := RT.out; rw [show 0 + 0 = 0 from by omega] at h1; exact h1, hHeld⟩
    · cases hv
      by_cases hcq : c1 = q
      · have hcm2 : c1 = m := by omega
        subst hcq
        subst hcm2
        have b1 : (0 : Int) ≤ (c1 : Nat) := by omega
        refine wp_region_held_drew (S := fun W' => Fr0 none' w2 W') (by kernel_rfl) ((Fr0.refl none' w2).drew) (fun hHeld => ?_)
        refine take_on (i := 0) (v := .slice (some ⟨g, 0, none⟩) c1 c1) rfl (by kernel_rfl) (by kernel_rfl) (by kernel_rfl) (fun _ _ _ h => h) (by kernel_rfl) (fun W' hSW => ?_) (by assumption) ?_
        · clear hSW
          first | (go_simp; done) | exact rfl | (go_simp; rfl) | (go_simp; omega)
        try simp only [Act.put, List.setIfInBounds_toArray, List.set_cons_zero, List.set_cons_succ]
        refine take_on (i := 1) (v := .int .i64 (c1 : Nat)) rfl (by kernel_rfl) (by kernel_rfl) (by kernel_rfl) (fun _ _ _ h => h) (by kernel_rfl) (fun W' hSW => ?_) (by assumption) ?_
        · clear hSW
          first | (go_simp; done) | exact rfl | (go_simp; rfl) | (go_simp; omega)
        try simp only [Act.put, List.setIfInBounds_toArray, List.set_cons_zero, List.set_cons_succ]
        refine take_on (i := 2) (v := .slice (some ⟨g, 0, none⟩) 0 0) rfl (by kernel_rfl) (by kernel_rfl) (by kernel_rfl) (fun _ _ _ h => h) (by kernel_rfl) (fun W' hSW => ?_) (by assumption) ?_
        · clear hSW
          first | (go_simp; done) | exact rfl | (go_simp; rfl) | (go_simp; omega)
        try simp only [Act.put, List.setIfInBounds_toArray, List.set_cons_zero, List.set_cons_succ]
        refine take_on (i := 3) (v := .slice (some ⟨g, 0, none⟩) c1 c1) rfl (by kernel_rfl) (by kernel_rfl) (by kernel_rfl) (fun _ _ _ h => h) (by kernel_rfl) (fun W' hSW => ?_) (by assumption) ?_
        · clear hSW
          first | (go_simp; done) | exact rfl | (go_simp; rfl) | (go_simp; omega)
        try simp only [Act.put, List.setIfInBounds_toArray, List.set_cons_zero, List.set_cons_succ]
        refine take_on (i := 4) (v := .int .i64 (c1 : Nat)) rfl (by kernel_rfl) (by kernel_rfl) (by kernel_rfl) (fun _ _ _ h => h) (by kernel_rfl) (fun W' hSW => ?_) (by assumption) ?_
        · clear hSW
          first | (go_simp; done) | exact rfl | (go_simp; rfl) | (go_simp; omega)
        try simp only [Act.put, List.setIfInBounds_toArray, List.set_cons_zero, List.set_cons_succ]
        refine take_on (i := 5) (v := .slice (some ⟨g, 0, none⟩) (c1) (c1)) rfl (by kernel_rfl) (by kernel_rfl) (by kernel_rfl) (fun _ _ _ h => h) (by kernel_rfl) (fun W' hSW => ?_) (by assumption) ?_
        · clear hSW
          first | (go_simp; done) | exact rfl | (go_simp; rfl) | (go_simp; omega)
        try simp only [Act.put, List.setIfInBounds_toArray, List.set_cons_zero, List.set_cons_succ]
        refine take_call (i := 6) rfl (by kernel_rfl) (by kernel_rfl) (fun K' hK => ?_)
        go_simp
        obtain ⟨lb, hlb⟩ : ∃ x, w2.heap.size = x := ⟨_, rfl⟩
        obtain ⟨W3, hW3⟩ : ∃ W, (w2.alloc (.cells #[.slice (some ⟨g, 0, none⟩) 0 0, .slice (some ⟨g, 0, none⟩) (c1) (c1)] 22)).drew = W := ⟨_, rfl⟩
        have f3 : Fr0 none' w2 W3 := by rw [← hW3]; exact ((Fr0.refl none' w2).alloc _).drew
        have T := Lib.hid (show TwoRows W3 lb (some ⟨g, 0, none⟩) (some ⟨g, 0, none⟩) (0) (c1) (0) (c1) (K.drop (c1)) (K.take (c1)) from ⟨by rw [← hW3, ← hlb]; exact World.alloc_heap_new w2 _, ((by rw [List.drop_of_length_le (by rw [Hl.out]; exact Nat.le_refl _)]; exact KsIn.nil _ _) : KsIn w2 (some ⟨g, 0, none⟩) (K.drop (c1))).later f3, (P.out.take (c1)).later f3, by rw [List.length_drop, Hl.out] <;> omega, by rw [List.length_take, Hl.out]; omega, by omega⟩)
        rw [hW3, hlb]
        refine hK.out _ _ f3 (fun hHeld => ?_)
        have F3 := Lib.hid f3
        clear hK K' hHeld hW3 hlb f3
        try simp only [Act.put, List.setIfInBounds_toArray, List.set_cons_zero, List.set_cons_succ]
        refine take_call (i := 7) rfl (by kernel_rfl) (by kernel_rfl) (fun K' hK => ?_)
        go_simp
        refine (Concat2 _ _ _ _ _ _ _ _ _ _ T.out).mono ?_
        rintro e W4 ⟨vT, rfl, hr, hf⟩
        have RT := Lib.hid (ownsRow_k_mono hr (Nat.le_trans F2.out.size F3.out.size))
        have hHeld := F3.out.trans hf
        clear hr hf
        go_wp2_with fail
        refine hK.out _ _ hHeld (fun _ => ?_)
        clear hK K'
        try simp only [Act.put, List.setIfInBounds_toArray, List.set_cons_zero, List.set_cons_succ]
        refine take_on (i := 8) (v := vT) rfl (by kernel_rfl) (by kernel_rfl) (by kernel_rfl) (fun _ _ _ h => h) (by kernel_rfl) (fun W' hSW => ?_) (by assumption) ?_
        · clear hSW
          first | (go_simp; done) | exact rfl
        try simp only [Act.put, List.setIfInBounds_toArray, List.set_cons_zero, List.set_cons_succ]
        refine wpAnyH_done (by kernel_rfl) ?_ _
        exact HT.out (fun n => ([.slice (some ⟨g, 0, none⟩) c1 c1, .int .i64 (c1 : Nat), .slice (some ⟨g, 0, none⟩) 0 0, .slice (some ⟨g, 0, none⟩) c1 c1, .int .i64 (c1 : Nat), .slice (some ⟨g, 0, none⟩) (c1) (c1), .slice (some ⟨lb, 0, none⟩) 2 2, vT] : List Value).getD n undef) W4 ⟨by have h1 := RT.out; rw [show 0 + c1 = c1 from by omega] at h1; exact h1, hHeld⟩
      · have s1 : ¬ c1 - q = 0 := by omega
        have s2 : ¬ c1 ≤ q := by omega
        have s3 : ¬ (c1 : Int) = (q : Int) := by omega
        have b1 : (0 : Int) ≤ (q : Nat) := by omega
        refine wp_region_held_drew (S := fun W' => Fr0 none' w2 W') (by kernel_rfl) ((Fr0.refl none' w2).drew) (fun hHeld => ?_)
        refine take_on (i := 0) (v := .slice (some ⟨g, 0, none⟩) m c1) rfl (by kernel_rfl) (by kernel_rfl) (by kernel_rfl) (fun _ _ _ h => h) (by kernel_rfl) (fun W' hSW => ?_) (by assumption) ?_
        · clear hSW
          first | (go_simp; done) | exact rfl | (go_simp; rfl) | (go_simp; omega)
        try simp only [Act.put, List.setIfInBounds_toArray, List.set_cons_zero, List.set_cons_succ]
        refine take_on (i := 1) (v := .int .i64 (q : Nat)) rfl (by kernel_rfl) (by kernel_rfl) (by kernel_rfl) (fun _ _ _ h => h) (by kernel_rfl) (fun W' hSW => ?_) (by assumption) ?_
        · clear hSW
          first | (go_simp; done) | exact rfl | (go_simp; rfl) | (go_simp; omega)
        try simp only [Act.put, List.setIfInBounds_toArray, List.set_cons_zero, List.set_cons_succ]
        refine take_on (i := 2) (v := .slice (some ⟨g, q * 3, none⟩) (m - q) (c1 - q)) rfl (by kernel_rfl) (by kernel_rfl) (by kernel_rfl) (fun _ _ _ h => h) (by kernel_rfl) (fun W' hSW => ?_) (by assumption) ?_
        · clear hSW
          first | (go_simp; done) | exact rfl | (go_simp; rfl) | (go_simp; omega)
        try simp only [Act.put, List.setIfInBounds_toArray, List.set_cons_zero, List.set_cons_succ]
        refine take_on (i := 3) (v := .slice (some ⟨g, 0, none⟩) m c1) rfl (by kernel_rfl) (by kernel_rfl) (by kernel_rfl) (fun _ _ _ h => h) (by kernel_rfl) (fun W' hSW => ?_) (by assumption) ?_
        · clear hSW
          first | (go_simp; done) | exact rfl | (go_simp; rfl) | (go_simp; omega)
        try simp only [Act.put, List.setIfInBounds_toArray, List.set_cons_zero, List.set_cons_succ]
        refine take_on (i := 4) (v := .int .i64 (q : Nat)) rfl (by kernel_rfl) (by kernel_rfl) (by kernel_rfl) (fun _ _ _ h => h) (by kernel_rfl) (fun W' hSW => ?_) (by assumption) ?_
        · clear hSW
          first | (go_simp; done) | exact rfl | (go_simp; rfl) | (go_simp; omega)
        try simp only [Act.put, List.setIfInBounds_toArray, List.set_cons_zero, List.set_cons_succ]
        refine take_on (i := 5) (v := .slice (some ⟨g, 0, none⟩) (q) (c1)) rfl (by kernel_rfl) (by kernel_rfl) (by kernel_rfl) (fun _ _ _ h => h) (by kernel_rfl) (fun W' hSW => ?_) (by assumption) ?_
        · clear hSW
          first | (go_simp; done) | exact rfl | (go_simp; rfl) | (go_simp; omega)
        try simp only [Act.put, List.setIfInBounds_toArray, List.set_cons_zero, List.set_cons_succ]
        refine take_call (i := 6) rfl (by kernel_rfl) (by kernel_rfl) (fun K' hK => ?_)
        go_simp
        obtain ⟨lb, hlb⟩ : ∃ x, w2.heap.size = x := ⟨_, rfl⟩
        obtain ⟨W3, hW3⟩ : ∃ W, (w2.alloc (.cells #[.slice (some ⟨g, q * 3, none⟩) (m - q) (c1 - q), .slice (some ⟨g, 0, none⟩) (q) (c1)] 22)).drew = W := ⟨_, rfl⟩
        have f3 : Fr0 none' w2 W3 := by rw [← hW3]; exact ((Fr0.refl none' w2).alloc _).drew
        have T := Lib.hid (show TwoRows W3 lb (some ⟨g, q * 3, none⟩) (some ⟨g, 0, none⟩) (m - q) (q) (c1 - q) (c1) (K.drop (q)) (K.take (q)) from ⟨by rw [← hW3, ← hlb]; exact World.alloc_heap_new w2 _, ((by have := P.out.drop q; simpa using this) : KsIn w2 (some ⟨g, q * 3, none⟩) (K.drop (q))).later f3, (P.out.take (q)).later f3, by rw [List.length_drop, Hl.out] <;> omega, by rw [List.length_take, Hl.out]; omega, by omega⟩)
        rw [hW3, hlb]
        refine hK.out _ _ f3 (fun hHeld => ?_)
        have F3 := Lib.hid f3
        clear hK K' hHeld hW3 hlb f3
        try simp only [Act.put, List.setIfInBounds_toArray, List.set_cons_zero, List.set_cons_succ]
        refine take_call (i := 7) rfl (by kernel_rfl) (by kernel_rfl) (fun K' hK => ?_)
        go_simp
        refine (Concat2 _ _ _ _ _ _ _ _ _ _ T.out).mono ?_
        rintro e W4 ⟨vT, rfl, hr, hf⟩
        have RT := Lib.hid (ownsRow_k_mono hr (Nat.le_trans F2.out.size F3.out.size))
        have hHeld := F3.out.trans hf
        clear hr hf
        go_wp2_with fail
        refine hK.out _ _ hHeld (fun _ => ?_)
        clear hK K'
        try simp only [Act.put, List.setIfInBounds_toArray, List.set_cons_zero, List.set_cons_succ]
        refine take_on (i := 8) (v := vT) rfl (by kernel_rfl) (by kernel_rfl) (by kernel_rfl) (fun _ _ _ h => h) (by kernel_rfl) (fun W' hSW => ?_) (by assumption) ?_
        · clear hSW
          first | (go_simp; done) | exact rfl
        try simp only [Act.put, List.setIfInBounds_toArray, List.set_cons_zero, List.set_cons_succ]
        refine wpAnyH_done (by kernel_rfl) ?_ _
        exact HT.out (fun n => ([.slice (some ⟨g, 0, none⟩) m c1, .int .i64 (q : Nat), .slice (some ⟨g, q * 3, none⟩) (m - q) (c1 - q), .slice (some ⟨g, 0, none⟩) m c1, .int .i64 (q : Nat), .slice (some ⟨g, 0, none⟩) (q) (c1), .slice (some ⟨lb, 0, none⟩) 2 2, vT] : List Value).getD n undef) W4 ⟨by have h1 := RT.out; rw [show m - q + q = m from by omega] at h1; exact h1, hHeld⟩
end Go.Proofs.YtkohmodnjcoapaaDoor

namespace Go.Proofs.YtkohmodnjcoapaaDoor.keyOrder
open Go Go.ChangeShapes Go.WideShapes Go.ChangeAt Go.RowKit Go.Proofs.YtkohmodnjcoapaaDoor

set_option maxRecDepth 100000 in
theorem lifted (os : Os) (started : os.Started) (H : Type) (enc : TypeId × Value → H) :
    ReturnsInHanded {} Tryd.checked os 7 .any (fun w args => (Rows.keyOrderSpec.pre enc Tryd.prog Tryd.f7 Rows.keyOrderRow.domain false w args ∧ laidMet Tryd.prog laidK w) ∧ sizedMet enc Tryd.prog Tryd.f7 (OpenSpec.ofChange Rows.keyOrderSpec) false w args)
      (Rows.keyOrderSpec.post enc Tryd.prog Tryd.f7 false true false false) := by
  refine returnsInHanded_of_change_and (C := Tryd.checked) (X := fun w _ => laidMet Tryd.prog laidK w) (fun _ _ _ hh h => h.of_heap hh) own_knob started (by kernel_rfl) Tryd.func7
    (ChangeSpec.witness_at (enc := enc) (C := Tryd.checked) (os := os) (X := fun w _ => laidMet Tryd.prog laidK w) false (laidWorld os) #[.slice none 0 0, .int .u8 0] 8 rfl (by kernel_rfl) (by kernel_rfl) (by kernel_rfl) (by kernel_rfl) (by kernel_rfl) (laidWorld_met os _)) ?_
  intro W base args ds gs before hval0 hW _ hsz0 hL _
  have hval : ∀ (j : Nat) t v, Tryd.f7.params[j]? = some t → args[j]? = some v → Value.okWide Tryd.prog W .any base t v := hval0
  have hW' := hW
  obtain ⟨p, q, hA0, hV, rfl, hfz, hnd⟩ := hW
  have hA : DataW.TrodAll enc Tryd.prog W 0 (fun _ => true) true Tryd.f7.params.toList args.toList ds p := hA0
  rw [Tryd.params7] at hA hval
  obtain ⟨v0, vs0, d0, ds0, p0, q0, hargs, rfl, rfl, h0, r0⟩ := trodAll_cons hA
  obtain ⟨v1, vs1, d1, ds1, p1, q1, rfl, rfl, rfl, h1, r1⟩ := trodAll_cons r0
  obtain ⟨rfl, rfl, rfl⟩ := trodAll_nil r1
  obtain rfl : args = #[v0, v1] := by cases args; simp_all
  obtain ⟨rfl, rfl⟩ := trodVars_none hV
  clear hA0 hval0
  simp only [List.append_nil] at hW'
  have l0 : ∀ x ∈ p0, x.block < W.heap.size := fun x hx => hW'.lt x (by simp [hx])
  have t0 := fun W' (hb : Below W.heap.size W W') => Below.trod laid_own (by kernel_rfl) (of_decide_eq_true (by kernel_rfl)) h0 hb l0
  have l1 : ∀ x ∈ p1, x.block < W.heap.size := fun x hx => hW'.lt x (by simp [hx])
  have t1 := fun W' (hb : Below W.heap.size W W') => Below.trod laid_own (by kernel_rfl) (of_decide_eq_true (by kernel_rfl)) h1 hb l1
  obtain ⟨a0, n0, cap0, X0, rfl, hn0, hc0, hm0, hb0⟩ := nums_arg (hval 0 50 v0 rfl rfl) h0
  obtain ⟨z1, rfl, _, _, w1⟩ := open_int Tryd.underlying5 (hval 1 5 v1 rfl rfl) h1
  have hz1 : 0 ≤ z1 ∧ z1 < 256 := by have h := bounds_u8 w1; exact ⟨by omega, by omega⟩
  obtain ⟨t1n, ht1⟩ : ∃ t : Nat, z1 = (t : Int) := ⟨z1.toNat, by omega⟩
  subst ht1
  refine (KeyOrder_any a0 n0 cap0 X0 t1n W (laid7_of hL) hn0 hc0 hm0 hb0 (by omega)).mono fun e W' ⟨he, hg0⟩ => ?_
  have hg := hg0.below (Nat.le_refl _) (fun _ _ h => h)
  subst he
  exact ⟨_, rfl, post_belowK (pa := (p0 ++ (p1 ++ []))) (pv := []) hW' (fun _ _ _ => (trodAll_cons_mk (shut_bool Tryd.underlying4 _) trodAll_mk0)) (trodAll_cons_mk (t0 _ hg) (trodAll_cons_mk (t1 _ hg) trodAll_mk0)) (fun _ _ => rfl) hg⟩

theorem over : Rows.keyOrderRow.holds Tryd.pinned (OpenSpec.ofChange Rows.keyOrderSpec) :=
  OpenClaim.holds_of_wide 7 Tryd.f7 rfl rfl rfl rfl rfl rfl rfl ⟨rfl, rfl, rfl, rfl, rfl⟩ rfl rfl rfl rfl rfl (by kernel_rfl) Tryd.func7 (by kernel_rfl)
    (of_decide_eq_true (by kernel_rfl)) (by unfold Func.isWrapper; first | (rw [if_pos (by decide +kernel)]; kernel_rfl) | (rw [if_neg (by decide +kernel)]; exact ⟨rfl, rfl⟩))
    (fun os started H enc _ => lifted os started H enc)

theorem proved : Rows.KeyOrderCardSaid :=
  Claim7.holds_tied_plain_at .later [] [.data, .data, .data, .sentinel, .sentinel] true _ true
    over (fun _ h => by cases h) (by kernel_rfl) (fun _ h => by cases h) keyOrder_row_tie rfl ⟨rfl, rfl⟩ (by kernel_rfl) rfl
    (fun f fn hf hfn => by
      obtain rfl : f = 7 := Option.some.inj ((show Tryd.prog.funcNamed "fermata/fermatalaw07.KeyOrder" = some 7 by kernel_rfl).symm.trans hf) |>.symm
      obtain rfl : fn = Tryd.f7 := (Option.some.inj (Tryd.func7.symm.trans hfn)).symm
      exact ⟨by kernel_rfl, fun j t ht => by
        rw [Tryd.params7] at ht
        have sN : Tryd.prog.wantsStandIn 50 = false := by kernel_rfl
        have su : Tryd.prog.wantsStandIn 5 = false := by kernel_rfl
        have hm : t ∈ [50, 5] := by
          have := Array.mem_of_getElem? ht
          simpa using this
        simp only [List.mem_cons, List.not_mem_nil, or_false, or_self] at hm
        rcases hm with rfl | rfl
        · exact sN
        · exact su⟩)
    (by kernel_rfl)
#print axioms proved
end Go.Proofs.YtkohmodnjcoapaaDoor.keyOrder
