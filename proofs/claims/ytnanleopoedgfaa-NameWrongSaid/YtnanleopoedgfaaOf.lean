/-
  name.Of.
-/
import Derived.Test.YtnanleopoedgfaaSort
import Derived.Test.YtnanleopoedgfaaTells
set_option linter.unusedSimpArgs false
set_option linter.unusedVariables false
namespace Go.Proofs.Ytnanleopoedgfaa
open Go.RowKit Go.Sort
attribute [local go_sem ↓] Go.wp_at_zero Go.wp_at_succ

theorem map_strV (xs : List Bs) : xs.map strV = xs.map Go.Proofs.encStr := rfl

theorem Clone_any (a : Option Addr) (n cap : Nat) (xs : List Bs) (w : World) (hn : xs.length = n) (hm : n ≤ 1000000) (hc : Cells w a (xs.map strV)) :
    Calls Try.prog 39 #[.slice a n cap] w fun e w' => ∃ v, e = .returned v ∧ w'.ownsRow w.heap.size 9 1 v n (xs.map strV) ∧ (0 < n → v ≠ .slice none 0 0) ∧ Below w.heap.size w w' := by
  by_cases h0 : n = 0
  · subst h0
    obtain rfl := List.length_eq_zero_iff.1 hn
    cases a with
    | none =>
      refine (Try.slices_Clone_string_nil 0 cap w).mono ?_
      rintro e w' ⟨rfl, rfl⟩
      exact ⟨_, rfl, World.ownsRow_nil _ _ _ _, fun h => absurd h (by omega), Below.refl _ _⟩
    | some a =>
      refine (Try.slices_Clone_string_zero a cap w).mono ?_
      rintro e w' ⟨v, rfl, h1, h2, h3⟩
      exact ⟨v, rfl, h1, fun _ => h2, h3⟩
  · obtain ⟨x, hx⟩ : ∃ x, xs[0]? = some x := ⟨_, List.getElem?_eq_getElem (by omega)⟩
    obtain ⟨b, off, rfl, _⟩ := hc.at (k := 0) (x := strV x) (by simp [hx])
    have h := Try.slices_Clone_string b off n cap (xs.map bs) w (by rw [List.length_map, hn]; exact Nat.le_refl _) (by omega) (fun j hj => by
      have hj' : j < xs.length := by simpa using hj
      obtain ⟨b', off', hbo, hcell⟩ := hc.at (k := j) (x := strV xs[j]) (by simp [List.getElem?_eq_getElem hj'])
      cases hbo
      rw [hcell]
      simp [List.getD, List.getElem?_eq_getElem hj', strV])
    refine h.mono ?_
    rintro e w' ⟨v, rfl, h1, h2, h3⟩
    rw [List.take_of_length_le (by rw [List.length_map, hn]; exact Nat.le_refl _), List.map_map] at h1
    exact ⟨v, rfl, h1, fun _ => h2, h3⟩

theorem Sort_any (v : Value) (n base : Nat) (xs : List Bs) (w : World) (hx : ∀ p ∈ xs, p.length ≤ 32) (hm : n ≤ 1000000) (hrow : w.ownsRow base 9 1 v n (xs.map strV)) (hv : 0 < n → v ≠ .slice none 0 0) (hbase : base ≤ w.heap.size) :
    Calls Try.prog 40 #[v, .func (.func 34) #[] #[]] w fun e w' => e = .returned (.tuple #[]) ∧
      ∃ zs : List Bs, Lib.compact zs = ofB xs ∧ w'.ownsRow base 9 1 v n (zs.map strV) ∧ Below base w w' := by
  by_cases h0 : n = 0
  · subst h0
    have hl : xs = [] := List.length_eq_zero_iff.1 (by have := hrow.1; simpa using this)
    subst hl
    obtain ⟨a, cap, rfl, _⟩ := ownsRow_cells hrow
    refine Calls.mono (AnyF.slices_SortFunc_none (P := Try.prog) (ρ := Try.laysSlF6_f40_ren) { Try.laysSlF6_f40 with } a cap (.func (.func 34) #[] #[]) w) ?_
    rintro e w' ⟨rfl, rfl⟩
    exact ⟨rfl, [], rfl, hrow, Below.refl _ _⟩
  · obtain ⟨g, cap, rfl, hbg, hgl, hncap, hcm, hlen, hH⟩ := Lib.holds_of_ownsRow (enc := Go.Proofs.encStr) hrow (hv (by omega))
    refine (sort_names g cap n xs w hx hH hgl hlen (by omega)).mono ?_
    rintro e w' ⟨rfl, nn, os, zs, hz, hcomp, rfl⟩
    refine ⟨rfl, zs, hcomp, ?_, ?_⟩
    · rcases hrow.2 with ⟨h0, _⟩ | ⟨g', cap', cur, hv', hbase', hb, h1, h2, h3, h4⟩
      · cases h0
      cases hv'
      have hs := ownsRow_sorted (n := nn) (os := os) (ss := xs) (ts := zs) (by rw [hz, hlen]) hbase' hb (by rw [hlen]; exact h1) h2 h3
      rw [hlen] at hs
      exact hs
    · exact (Below.refl base w).grown (grownBy_sorted _) hbase (fun j hj => by cases hj; exact hbg)

theorem Compact_any (v : Value) (n base : Nat) (zs : List Bs) (w : World) (hm : n ≤ 1000000) (hrow : w.ownsRow base 9 1 v n (zs.map strV)) (hv : 0 < n → v ≠ .slice none 0 0) :
    Calls Try.prog 41 #[v] w fun e w' => ∃ v', e = .returned v' ∧ w'.ownsRow base 9 1 v' (Lib.compact zs).length ((Lib.compact zs).map strV) ∧ Below base w w' := by
  by_cases h0 : n = 0
  · subst h0
    have hl : zs = [] := List.length_eq_zero_iff.1 (by have := hrow.1; simpa using this)
    subst hl
    obtain ⟨a, cap, rfl, _⟩ := ownsRow_cells hrow
    refine (Try.slices_Compact_string_empty a cap w).mono ?_
    rintro e w' ⟨rfl, rfl⟩
    exact ⟨_, rfl, hrow, Below.refl _ _⟩
  · obtain ⟨g, cap, rfl, hbg, hgl, hncap, hcm, hlen, hH⟩ := Lib.holds_of_ownsRow (enc := Go.Proofs.encStr) hrow (hv (by omega))
    subst hlen
    refine (Try.slices_Compact_string g 0 cap zs w hH (by omega) hncap).mono ?_
    rintro e w' ⟨rfl, q, rfl⟩
    have hle := Lib.compact_length_le zs
    have hc := Lib.ownsRow_putRow (enc := Go.Proofs.encStr) (q := q) (k := (Lib.compact zs).length) (ys := Lib.compact zs ++ List.replicate (zs.length - (Lib.compact zs).length) []) hrow (by simp; omega) (by omega)
    rw [List.take_left] at hc
    exact ⟨_, rfl, hc, Lib.below_putRow (Below.refl base w) hbg⟩

theorem insB_len (x : Bs) (L : List Bs) : (insB x L).length ≤ L.length + 1 := by
  induction L with
  | nil => simp [insB]
  | cons y r ih =>
    simp only [insB]
    split
    · simp; omega
    · split <;> simp
theorem foldl_len (xs L : List Bs) : (xs.foldl (fun L x => insB x L) L).length ≤ L.length + xs.length := by
  induction xs generalizing L with
  | nil => simp
  | cons x r ih =>
    have h1 := ih (insB x L)
    have h2 := insB_len x L
    simp only [List.foldl_cons, List.length_cons]; omega
theorem ofB_len (xs : List Bs) : (ofB xs).length ≤ xs.length := by
  have := foldl_len xs []
  simpa [ofB] using this
def allR (xs : List Bs) : Bool := xs.all rightB
def ofL (xs : List Bs) : List Bs := if allR xs && decide ((ofB xs).length ≤ 256) then ofB xs else []
def ofE (xs : List Bs) : Int := if allR xs then (if (ofB xs).length ≤ 256 then 0 else 5) else 40
def RowPost (L : List Bs) (n : Nat) (E : Int) (w : World) (e : Ending) (w' : World) : Prop := ∃ v, e = .returned (.tuple #[v, .int .i64 E]) ∧ w'.ownsRow w.heap.size 9 1 v n (L.map strV) ∧ Below w.heap.size w w'
theorem RowPost.nil {L : List Bs} {n : Nat} {E E' : Int} {w w' : World} (hL : [] = L) (hn : L.length = n) (hE : E' = E) (hb : Below w.heap.size w w') : RowPost L n E w (.returned (.tuple #[.slice none 0 0, .int .i64 E'])) w' := by
  subst hL hn hE
  exact ⟨_, rfl, World.ownsRow_nil _ _ _ _, hb⟩
theorem RowPost.row {L : List Bs} {n m : Nat} {E E' : Int} {v : Value} {M : List Bs} {w w' : World} (hM : M = L) (hm : m = n) (hE : E' = E) (hrow : w'.ownsRow w.heap.size 9 1 v m (M.map strV)) (hb : Below w.heap.size w w') : RowPost L n E w (.returned (.tuple #[v, .int .i64 E'])) w' := by
  subst hM hm hE
  exact ⟨_, rfl, hrow, hb⟩

set_option maxRecDepth 100000 in
set_option maxHeartbeats 4000000 in
theorem Of_any (a : Option Addr) (n cap : Nat) (xs : List Bs) (w : World) (hn : xs.length = n) (hm : n ≤ 100000) (hp : ∀ p ∈ xs, p.length ≤ 1000) (hc : Cells w a (xs.map strV)) :
    Calls Try.prog 17 #[.slice a n cap] w (RowPost (ofL xs) (ofL xs).length (ofE xs) w) := by
  have hCl := Clone_any a n cap xs w hn (by omega) hc
  obtain ⟨L, hL⟩ : ∃ L, ofL xs = L := ⟨_, rfl⟩
  obtain ⟨E, hE⟩ : ∃ L, ofE xs = L := ⟨_, rfl⟩
  obtain ⟨m, hLm⟩ : ∃ m, L.length = m := ⟨_, rfl⟩
  rw [hL, hE, hLm]
  have HL := Lib.hid hL
  have HE := Lib.hid hE
  have Hm := Lib.hid hLm
  have Hn := Lib.hid hn
  have Hc := Lib.hid hc
  have Hp := Lib.hid hp
  have HC := Lib.hid hCl
  clear hL hE hLm hn hc hp hCl
  go_enter Try.func17, Try.ntmps17
  go_wp2
  go_loop [9] (fun i => ∃ k : Nat, k ≤ n ∧ i = .int .i64 k ∧ Hid ((xs.take k).all rightB = true)) (fun i => n - (intOf i).toNat)
  case atStart => exact ⟨0, Nat.zero_le _, rfl, rfl⟩
  case round =>
    obtain ⟨k, hk, rfl, hpre⟩ := hrel
    by_cases hlt : k < n
    · have h1 : k < xs.length := by rw [Hn.out]; exact hlt
      obtain ⟨x, hx⟩ : ∃ x, xs[k]? = some x := ⟨_, List.getElem?_eq_getElem h1⟩
      obtain ⟨b, off, rfl, hcx⟩ := Hc.out.at (k := k) (x := strV x) (by simp [hx])
      rw [strV] at hcx
      have hxl : x.length ≤ 1000 := Hp.out x (List.mem_of_getElem? hx)
      obtain ⟨r, hr⟩ : ∃ r, rightB x = r := ⟨_, rfl⟩
      have HR := Right_l x hxl
      simp only [hr] at HR
      have HR := Lib.hid HR
      have hbad : Hid (r = false → [] = L ∧ 40 = E) := fun h => by
        have : allR xs = false := by
          rw [Bool.eq_false_iff]; intro h2
          have := List.all_eq_true.1 h2 x (List.mem_of_getElem? hx)
          rw [hr, h] at this; cases this
        refine ⟨?_, ?_⟩
        · rw [← HL.out, ofL, this]; rfl
        · rw [← HE.out, ofE, this]; rfl
      have hgood : Hid (r = true → (xs.take (k + 1)).all rightB = true) := fun h => by
        rw [List.take_add_one, hx]; simp [hpre.out, hr, h]
      clear hx hxl hr h1
      cases r with
      | false =>
        have hb := Lib.hid (hbad.out rfl)
        go_wp2_with fail
        refine (HR.out _).mono ?_
        rintro e w1 ⟨rfl, rfl⟩
        go_wp2
        go_ret2
        exact RowPost.nil hb.out.1 Hm.out hb.out.2 (Below.refl _ _)
      | true =>
        have hg := Lib.hid (hgood.out rfl)
        go_wp2_with fail
        refine (HR.out _).mono ?_
        rintro e w1 ⟨rfl, rfl⟩
        go_wp2
        go_round
        case rel => exact ⟨k + 1, by omega, by go_num, hg.out⟩
        case measure => simp [intOf]; omega
    · have hkn : k = n := by omega
      subst hkn
      have hall : Hid (allR xs = true) := by
        have := hpre.out
        rwa [List.take_of_length_le (by rw [Hn.out]; omega)] at this
      have H32 : Hid (∀ p ∈ xs, p.length ≤ 32) := fun p hp => rightB_len (List.all_eq_true.1 hall.out p hp)
      have hle : Hid ((ofB xs).length ≤ k) := by
        have := ofB_len xs; rw [Hn.out] at this; exact this
      clear hpre
      go_wp2_with fail
      refine HC.out.mono ?_
      rintro e w1 ⟨v, rfl, hrow, hv, hb1⟩
      have HS := Lib.hid (Sort_any v k w.heap.size xs w1 H32.out (by omega) hrow hv hb1.size)
      have Hv := Lib.hid hv
      clear hrow hv HC
      go_wp2_with fail
      refine HS.out.mono ?_
      rintro e w2 ⟨rfl, zs, hcomp, hrow, hb2⟩
      have hb02 := hb1.trans hb2
      have HK := Lib.hid (Compact_any v k w.heap.size zs w2 (by omega) hrow Hv.out)
      have Hcomp := Lib.hid hcomp
      clear hrow hcomp HS hb1 hb2
      go_wp2_with fail
      refine HK.out.mono ?_
      rintro e w3 ⟨v', rfl, hrow, hb3⟩
      have hb03 := hb02.trans hb3
      rw [Hcomp.out] at hrow
      obtain ⟨M, hM⟩ : ∃ M, ofB xs = M := ⟨_, rfl⟩
      rw [hM] at hrow
      have hle' := hle.out
      rw [hM] at hle'
      obtain ⟨q, hq⟩ : ∃ q, M.length = q := ⟨_, rfl⟩
      rw [hq] at hrow hle'
      have HM := Lib.hid hM
      have Hq := Lib.hid hq
      have Hrow := Lib.hid hrow
      obtain ⟨A, cap', rfl, _⟩ := ownsRow_cells hrow
      clear hrow hM hq hle hb02 hb3 HK
      by_cases h256 : q ≤ 256
      · have g1 : ¬ (256 : Int) < (q : Int) := by omega
        have hres : Hid (M = L ∧ 0 = E) := by
          refine ⟨?_, ?_⟩
          · rw [← HL.out, ofL, hall.out, HM.out, Hq.out, decide_eq_true h256]; rfl
          · rw [← HE.out, ofE, hall.out, HM.out, Hq.out, if_pos h256]; rfl
        go_wp2
        go_ret2
        exact RowPost.row hres.out.1 (by rw [← Hm.out, ← hres.out.1]; exact Hq.out.symm) hres.out.2 Hrow.out hb03
      · have g1 : (256 : Int) < (q : Int) := by omega
        have hres : Hid ([] = L ∧ 5 = E) := by
          refine ⟨?_, ?_⟩
          · rw [← HL.out, ofL, hall.out, HM.out, Hq.out, decide_eq_false h256]; rfl
          · rw [← HE.out, ofE, hall.out, HM.out, Hq.out, if_neg h256]; rfl
        go_wp2
        go_ret2
        exact RowPost.nil hres.out.1 Hm.out hres.out.2 hb03
end Go.Proofs.Ytnanleopoedgfaa
