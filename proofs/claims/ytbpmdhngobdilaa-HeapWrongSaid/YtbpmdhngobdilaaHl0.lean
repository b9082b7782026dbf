/-
  The small functions of the heap's laws.
-/
import Derived.Test.YtbpmdhngobdilaaHpH
namespace Go.Proofs.Ytbpmdhngobdilaa
open Go.RowKit
attribute [local go_sem ↓] Go.wp_at_zero Go.wp_at_succ

/-- A row of ints behind a slice. -/
def IntsAt (w : World) (v : Value) (xs : List Int) : Prop := ∃ a cap, v = .slice a xs.length cap ∧ ∀ j x, xs[j]? = some x → ∃ g, a = some ⟨g, 0, none⟩ ∧ w.cell? ⟨g, j, none⟩ = some (.int .i64 x)
theorem IntsAt.of_own {w : World} {base : Nat} {v : Value} {n : Nat} {xs : List Int} (h : w.ownsRow base 3 1 v n (xs.map (Value.int .i64))) : IntsAt w v xs := by
  have hl : xs.length = n := by simpa using h.1
  rcases h.2 with ⟨rfl, h0⟩ | ⟨g, cap, cur, rfl, hb, hg, hn, hm, hs, ht⟩
  · have : xs = [] := List.eq_nil_of_length_eq_zero (by omega)
    subst this
    exact ⟨none, 0, rfl, fun j x hx => by simp at hx⟩
  · refine ⟨_, cap, by rw [hl], fun j x hx => ⟨g, rfl, ?_⟩⟩
    have hj : j < n := by rw [← hl]; exact (List.getElem?_eq_some_iff.1 hx).1
    have h1 : (cur.toList.take (n * 1))[j]? = (xs.map (Value.int .i64))[j]? := by rw [ht]
    rw [List.getElem?_take_of_lt (by omega), Array.getElem?_toList, List.getElem?_map, hx] at h1
    rw [cells_at hg]
    simpa using h1
theorem IntsAt.later {w w' : World} {v : Value} {xs : List Int} (h : IntsAt w v xs) (hf : Fr0 none' w w') : IntsAt w' v xs := by
  obtain ⟨a, cap, rfl, hc⟩ := h
  exact ⟨a, cap, rfl, fun j x hx => by obtain ⟨g, h1, h2⟩ := hc j x hx; exact ⟨g, h1, hf.later h2⟩⟩
/-- The places of entries. -/
def plI (L : List Ent) : List Int := L.map (fun e => (e.place : Int))
theorem placesV_eq (L : List Ent) : placesV L = (plI L).map (Value.int .i64) := by simp [placesV, plI, natV]

set_option maxRecDepth 100000 in
set_option maxHeartbeats 1000000 in
theorem at_any (t : Int) (w : World) : Calls Try.prog 28 #[.int .i64 t] w fun e w' => e = .returned (keyV ⟨t, 0, 0⟩) ∧ Fr none' w w' := by
  go_enter Try.func28, Try.ntmps28
  go_wp2
  refine bodyPost_ret (v := keyV ⟨t, 0, 0⟩) (by simp [results, Try.results28, go_sem, keyV]) rfl ⟨rfl, ?_⟩
  exact (Fr.refl _ _).alloc _

/-- The key of small numbers. -/
structure Sm4 where
  kind : Int
  place : Int
  time : Int
  source : Int
def Sm4.ok (x : Sm4) : Prop := (0 ≤ x.kind ∧ x.kind < 256) ∧ (0 ≤ x.place ∧ x.place < 256) ∧ (0 ≤ x.time ∧ x.time < 256) ∧ (0 ≤ x.source ∧ x.source < 256)
def smV (x : Sm4) : Value := .agg #[.int .u8 x.kind, .int .u8 x.place, .int .u8 x.time, .int .u8 x.source]
def ofK (x : Sm4) : Key3 := ⟨x.time % 8, x.source % 3, 0⟩
set_option maxRecDepth 100000 in
set_option maxHeartbeats 1000000 in
theorem of_any (x : Sm4) (hx : x.ok) (w : World) : Calls Try.prog 14 #[smV x] w fun e w' => e = .returned (keyV (ofK x)) ∧ Fr none' w w' := by
  obtain ⟨⟨_, _⟩, ⟨_, _⟩, ⟨h1, h2⟩, ⟨h3, h4⟩⟩ := hx
  obtain ⟨k, p, t, s⟩ := x
  simp only at *
  have q1 : 0 ≤ t % 8 := by omega
  have q2 : t % 8 < 8 := by omega
  have q3 : 0 ≤ s % 3 := by omega
  have q4 : s % 3 < 3 := by omega
  simp only [smV, ofK]
  go_enter Try.func14, Try.ntmps14
  go_wp2
  refine bodyPost_ret (v := keyV ⟨t % 8, s % 3, 0⟩) (by simp [results, Try.results14, go_sem, keyV]) rfl ⟨rfl, ?_⟩
  exact ((Fr.refl _ _).alloc _).alloc _

set_option maxRecDepth 100000 in
set_option maxHeartbeats 2000000 in
theorem SameInts_any (u v : Value) (xs ys : List Int) (w : World) (hu : IntsAt w u xs) (hv : IntsAt w v ys) (hm : xs.length ≤ 100000) (hm' : ys.length ≤ 100000) :
    Calls Try.prog 18 #[u, v] w fun e w' => e = .returned (.bool (decide (xs = ys))) ∧ Fr none' w w' := by
  obtain ⟨a, cap, rfl, hc⟩ := hu
  obtain ⟨a', cap', rfl, hc'⟩ := hv
  obtain ⟨n, hn⟩ : ∃ n, xs.length = n := ⟨_, rfl⟩
  obtain ⟨n', hn'⟩ : ∃ n', ys.length = n' := ⟨_, rfl⟩
  obtain ⟨R, hR⟩ : ∃ R, decide (xs = ys) = R := ⟨_, rfl⟩
  rw [hn] at hm
  rw [hn'] at hm'
  rw [hn, hn', hR]
  by_cases hne : n = n'
  · subst hne
    have d1 : ((n : Int) != (n : Int)) = false := by simp
    have Hn := Lib.hid hn
    have Hn' := Lib.hid hn'
    have HR := Lib.hid hR
    have Hc := Lib.hid hc
    have Hc' := Lib.hid hc'
    clear hn hn' hR hc hc'
    go_enter Try.func18, Try.ntmps18
    go_wp2
    go_loopw [5] (fun i wr => ∃ k : Nat, k ≤ n ∧ i = .int .i64 k ∧ Hid (∀ j, j < k → xs[j]? = ys[j]?) ∧ Hid (Fr none' w wr)) (fun i _ => n - (intOf i).toNat)
    case atStart => exact ⟨0, Nat.zero_le _, rfl, fun j hj => by omega, Fr.refl _ _⟩
    case round =>
      obtain ⟨k, hk, rfl, hall, hfr⟩ := hrel
      by_cases hlt : k < n
      · obtain ⟨x, hx⟩ : ∃ x, xs[k]? = some x := ⟨_, List.getElem?_eq_getElem (by rw [Hn.out]; exact hlt)⟩
        obtain ⟨y, hy⟩ : ∃ y, ys[k]? = some y := ⟨_, List.getElem?_eq_getElem (by rw [Hn'.out]; exact hlt)⟩
        obtain ⟨g, rfl, hgc⟩ := Hc.out k x hx
        obtain ⟨g', rfl, hgc'⟩ := Hc'.out k y hy
        have e1 := hfr.out.later hgc
        have e2 := hfr.out.later hgc'
        have Hx := Lib.hid hx
        have Hy := Lib.hid hy
        have q1 : (0 : Int) ≤ (k : Int) := by omega
        have q2 : (k : Int) < (n : Int) := by omega
        clear hx hy hgc hgc'
        by_cases hxy : x = y
        · have d2 : (x != y) = false := by simpa using hxy
          have Hxy := Lib.hid hxy
          clear hxy
          go_wp2
          go_quiet (fail)
          go_wp2
          go_roundw
          case rel =>
            refine ⟨k + 1, by omega, by go_num, fun j hj => ?_, by have h1 := hfr.out; exact h1.drewN _⟩
            by_cases hjk : j = k
            · rw [hjk, Hx.out, Hy.out, Hxy.out]
            · exact hall.out j (by omega)
          case measure => simp [intOf]; omega
        · have d2 : (x != y) = true := by simpa using hxy
          have hRf : R = false := by
            rw [← HR.out]
            refine decide_eq_false (fun e => ?_)
            have h1 := Hx.out
            rw [e, Hy.out] at h1
            injection h1 with h1
            exact hxy h1.symm
          subst hRf
          clear HR
          go_wp2
          go_quiet (fail)
          go_wp2
          go_ret
          exact ⟨rfl, by have h1 := hfr.out; exact h1.drewN _⟩
      · have hkn : k = n := by omega
        have hRt : R = true := by
          rw [← HR.out]
          refine decide_eq_true (List.ext_getElem? (fun j => ?_))
          by_cases hj : j < k
          · exact hall.out j hj
          · rw [List.getElem?_eq_none (by rw [Hn.out]; omega), List.getElem?_eq_none (by rw [Hn'.out]; omega)]
        subst hkn
        subst hRt
        clear HR
        go_wp2
        go_ret
        exact ⟨rfl, hfr.out⟩
  · have d1 : ((n : Int) != (n' : Int)) = true := by simp; omega
    have hRf : R = false := by
      rw [← hR]
      exact decide_eq_false (fun e => hne (by rw [← hn, ← hn', e]))
    subst hRf
    clear hR hn hn' hc hc'
    go_enter Try.func18, Try.ntmps18
    go_wp2
    go_ret
    exact ⟨rfl, Fr.refl _ _⟩
end Go.Proofs.Ytbpmdhngobdilaa
