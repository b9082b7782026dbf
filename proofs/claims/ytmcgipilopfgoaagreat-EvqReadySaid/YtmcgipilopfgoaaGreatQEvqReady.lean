/- EvqReady: the statement: for any input the law returns true, and the arguments read as before; no condition. -/
import Derived.Test.YtmcgipilopfgoaaGreatJb3
import Derived.Test.YtmcgipilopfgoaaGreatJb2
set_option linter.unusedSimpArgs false
set_option linter.unusedVariables false

/-
  slices.Contains, slices.ContainsFunc at ints and at events; the closures of EvqReady.
-/
namespace Go.Proofs.YtmcgipilopfgoaaGreat
open Go Go.RowKit
attribute [local go_sem ↓] Go.wp_at_zero Go.wp_at_succ
attribute [local go_sem] Oper.semAt_some wide_fn wide_depth wide_fnR wide_depthR

/-- The cells of a row of numbers. -/
def PsIn (w : World) (a : Option Addr) (L : List Nat) : Prop := ∀ i x, L[i]? = some x → ∃ g, a = some ⟨g, 0, none⟩ ∧ w.cell? ⟨g, i, none⟩ = some (.int .i64 ((x : Nat) : Int))
theorem PsIn.later {w w' : World} {a : Option Addr} {L : List Nat} (h : PsIn w a L) (hf : Fr0 none' w w') : PsIn w' a L := fun i x hx => by
  obtain ⟨g, e, hc⟩ := h i x hx
  exact ⟨g, e, hf.later hc⟩
theorem PsIn.of_own {w : World} {base : Nat} {v : Value} {n : Nat} {L : List Nat} (h : w.ownsRow base 3 1 v n (L.map natV')) : ∃ a cap, v = .slice a n cap ∧ L.length = n ∧ PsIn w a L := by
  have hl : L.length = n := by simpa using h.1
  rcases h.2 with ⟨rfl, h0⟩ | ⟨g, cap, cur, rfl, hb, hg, hn, hcm, hs, ht⟩
  · have : L = [] := List.eq_nil_of_length_eq_zero (by omega)
    subst this
    exact ⟨none, 0, by rw [h0], hl, fun i x hx => by simp at hx⟩
  · refine ⟨some ⟨g, 0, none⟩, cap, rfl, hl, fun i x hx => ⟨g, rfl, ?_⟩⟩
    have hil : i < n * 1 := by have := (List.getElem?_eq_some_iff.1 hx).1; omega
    have hm : (L.map natV')[i]? = some (natV' x) := by rw [List.getElem?_map, hx]; rfl
    rw [cells_in hg, ← Array.getElem?_toList]
    rw [← ht, List.getElem?_take_of_lt hil] at hm
    exact hm
def idxP (f : Nat → Bool) (L : List Nat) : Int := match L.findIdx? f with
  | some i => i
  | none => -1
theorem idxP_at {f : Nat → Bool} {L : List Nat} {k : Nat} {x : Nat} (h : ∀ y ∈ L.take k, f y = false) (hx : L[k]? = some x) (hf : f x = true) : idxP f L = k := by
  unfold idxP
  have : L.findIdx? f = some k := by
    rw [List.findIdx?_eq_some_iff_getElem]
    obtain ⟨hk, e⟩ := List.getElem?_eq_some_iff.1 hx
    refine ⟨hk, by rw [e]; exact hf, fun j hj => ?_⟩
    have hjl : j < L.length := by omega
    have := h L[j] (List.mem_take_iff_getElem.2 ⟨j, by omega, rfl⟩)
    simp [this]
  rw [this]
theorem idxP_none {f : Nat → Bool} {L : List Nat} (h : ∀ y ∈ L, f y = false) : idxP f L = -1 := by
  unfold idxP
  have : L.findIdx? f = none := by
    rw [List.findIdx?_eq_none_iff]
    exact h
  rw [this]
theorem idxP_any (f : Nat → Bool) (L : List Nat) : decide (idxP f L ≥ 0) = L.any f := by
  unfold idxP
  cases h : L.findIdx? f with
  | none =>
    rw [List.findIdx?_eq_none_iff] at h
    have : L.any f = false := by rw [List.any_eq_false]; intro x hx; simp [h x hx]
    rw [this]
    rfl
  | some k =>
    rw [List.findIdx?_eq_some_iff_getElem] at h
    obtain ⟨hk, h1, _⟩ := h
    have : L.any f = true := List.any_eq_true.2 ⟨_, List.getElem_mem hk, h1⟩
    rw [this]
    exact decide_eq_true (by simp)
theorem idxI_any (f : Ev → Bool) (L : List Ev) : decide (idxI f L ≥ 0) = L.any f := by
  rcases idxI_cases f L with ⟨h1, h2⟩ | ⟨k, h1, _, x, hx, hfx, _⟩
  · rw [h1]
    have : L.any f = false := by rw [List.any_eq_false]; intro x hx; simp [h2 x hx]
    rw [this]
    rfl
  · rw [h1]
    have : L.any f = true := List.any_eq_true.2 ⟨x, List.mem_of_getElem? hx, hfx⟩
    rw [this]
    exact decide_eq_true (by simp)
set_option maxRecDepth 100000 in
set_option maxHeartbeats 2000000 in
theorem IndexP {w : World} {a : Option Addr} {n cap : Nat} (L : List Nat) (h : PsIn w a L) (hl : L.length = n) (hn : n ≤ 1000000) (p : Int) :
    Calls Tryz.prog 41 #[.slice a n cap, .int .i64 p] w fun e w' => e = .returned (.int .i64 (idxP (fun x => decide ((x : Int) = p)) L)) ∧ Fr0 none' w w' := by
  obtain ⟨R, hR⟩ : ∃ R, idxP (fun x => decide ((x : Int) = p)) L = R := ⟨_, rfl⟩
  rw [hR]
  have HR := Lib.hid hR
  have H := Lib.hid h
  have Hl := Lib.hid hl
  clear h hl hR
  go_enter Tryz.func41, Tryz.ntmps41
  go_wp2_with fail
  go_loopw [5, 8] (fun _ i wr => ∃ k : Nat, k ≤ n ∧ i = .int .i64 k ∧ Hid (∀ y ∈ L.take k, decide (((y : Nat) : Int) = p) = false) ∧ Hid (Fr0 none' w wr)) (fun _ i _ => n - (Go.RowKit.intOf i).toNat)
  case atStart => exact ⟨0, Nat.zero_le _, rfl, by unfold Hid; simp, Fr0.refl _ _⟩
  case round =>
    obtain ⟨k, hk, rfl, hpre, hfr⟩ := hrel
    by_cases hlt : k < n
    · obtain ⟨x, hx⟩ : ∃ x, L[k]? = some x := ⟨_, List.getElem?_eq_getElem (by rw [Hl.out]; exact hlt)⟩
      obtain ⟨g2, rfl, hxc⟩ := H.out k x hx
      have x0 := hfr.out.later hxc
      have Hx := Lib.hid hx
      have k1 : (0 : Int) ≤ (k : Int) := by omega
      have k2 : (k : Int) < (n : Int) := by omega
      clear hx hxc
      by_cases hp : (x : Int) = p
      · have e1 : (p == (x : Int)) = true := by simp [hp]
        have hres := Lib.hid (show (k : Int) = R by rw [← HR.out]; exact (idxP_at hpre.out Hx.out (decide_eq_true hp)).symm)
        clear hp
        go_wp2_with fail
        go_ret
        exact ⟨congrArg (fun b => Ending.returned (Value.int .i64 b)) hres.out, hfr.out⟩
      · have e1 : (p == (x : Int)) = false := beq_eq_false_iff_ne.2 (fun e => hp e.symm)
        have hnext := Lib.hid (show ∀ y ∈ L.take (k + 1), decide (((y : Nat) : Int) = p) = false from fun y hy => by
          rw [List.take_add_one, Hx.out, List.mem_append] at hy
          rcases hy with hy | hy
          · exact hpre.out y hy
          · simp at hy; subst hy; exact decide_eq_false hp)
        clear hp
        go_wp2_with fail
        go_roundw
        case rel => exact ⟨k + 1, by omega, by go_num, hnext, hfr⟩
        case measure => simp [Go.RowKit.intOf]; omega
    · have hres := Lib.hid (show (-1 : Int) = R by
        rw [← HR.out]
        have := hpre.out
        rw [List.take_of_length_le (by rw [Hl.out]; omega)] at this
        exact (idxP_none this).symm)
      go_wp2_with fail
      go_ret
      exact ⟨congrArg (fun b => Ending.returned (Value.int .i64 b)) hres.out, hfr.out⟩
set_option maxRecDepth 100000 in
theorem ContainsP {w : World} {a : Option Addr} {n cap : Nat} (L : List Nat) (h : PsIn w a L) (hl : L.length = n) (hn : n ≤ 1000000) (p : Int) :
    Calls Tryz.prog 14 #[.slice a n cap, .int .i64 p] w fun e w' => e = .returned (.bool (L.any (fun x => decide ((x : Int) = p)))) ∧ Fr0 none' w w' := by
  have HI := Lib.hid (IndexP L h hl hn (cap := cap) p)
  have hd := idxP_any (fun x => decide ((x : Int) = p)) L
  obtain ⟨i, hi⟩ : ∃ i, idxP (fun x => decide ((x : Int) = p)) L = i := ⟨_, rfl⟩
  rw [hi] at HI hd
  rw [← hd]
  clear hi hd h hl
  go_enter Tryz.func14, Tryz.ntmps14
  go_wp2_with fail
  refine HI.out.mono ?_
  rintro e w1 ⟨rfl, hf⟩
  go_wp2_with fail
  go_ret
  exact ⟨rfl, hf⟩
set_option maxRecDepth 100000 in
set_option maxHeartbeats 2000000 in
theorem IndexFP {w : World} {a : Option Addr} {n cap : Nat} (L : List Nat) (h : PsIn w a L) (hl : L.length = n) (hn : n ≤ 1000000) (g : Nat) (lb : Array Value) (f : Nat → Bool)
    (eg : ∀ args w, (callFunc g args).run Tryz.prog w = .ok (.enter g args) w)
    (hf : ∀ (x : Nat) W, Fr0 none' w W → Calls Tryz.prog g (#[.int .i64 (x : Int)] ++ lb) W fun e w' => e = .returned (.bool (f x)) ∧ Fr0 none' W w') :
    Calls Tryz.prog 42 #[.slice a n cap, .func (.func g) #[] lb] w fun e w' => e = .returned (.int .i64 (idxP f L)) ∧ Fr0 none' w w' := by
  obtain ⟨R, hR⟩ : ∃ R, idxP f L = R := ⟨_, rfl⟩
  rw [hR]
  have HR := Lib.hid hR
  have H := Lib.hid h
  have Hl := Lib.hid hl
  have Hf := Lib.hid hf
  clear h hl hf hR
  go_enter Tryz.func42, Tryz.ntmps42
  go_wp2_with fail
  go_loopw [5, 8] (fun _ i wr => ∃ k : Nat, k ≤ n ∧ i = .int .i64 k ∧ Hid (∀ y ∈ L.take k, f y = false) ∧ Hid (Fr0 none' w wr)) (fun _ i _ => n - (Go.RowKit.intOf i).toNat)
  case atStart => exact ⟨0, Nat.zero_le _, rfl, by unfold Hid; simp, Fr0.refl _ _⟩
  case round =>
    obtain ⟨k, hk, rfl, hpre, hfr⟩ := hrel
    by_cases hlt : k < n
    · obtain ⟨x, hx⟩ : ∃ x, L[k]? = some x := ⟨_, List.getElem?_eq_getElem (by rw [Hl.out]; exact hlt)⟩
      obtain ⟨g2, rfl, hxc⟩ := H.out k x hx
      have x0 := hfr.out.later hxc
      have Hx := Lib.hid hx
      have k1 : (0 : Int) ≤ (k : Int) := by omega
      have k2 : (k : Int) < (n : Int) := by omega
      clear hx hxc
      go_wp2_with fail
      refine (Hf.out x wr hfr.out).mono ?_
      rintro e w2 ⟨rfl, hf2⟩
      have hfin := Lib.hid (hfr.out.trans hf2)
      cases hfx : f x
      · have hnext := Lib.hid (show ∀ y ∈ L.take (k + 1), f y = false from fun y hy => by
          rw [List.take_add_one, Hx.out, List.mem_append] at hy
          rcases hy with hy | hy
          · exact hpre.out y hy
          · simp at hy; subst hy; exact hfx)
        clear hf2 hfx
        go_wp2
        go_roundw
        case rel => exact ⟨k + 1, by omega, by go_num, hnext, hfin⟩
        case measure => simp [Go.RowKit.intOf]; omega
      · have hres := Lib.hid (show (k : Int) = R by rw [← HR.out]; exact (idxP_at hpre.out Hx.out hfx).symm)
        clear hf2 hfx
        go_wp2
        go_ret
        exact ⟨congrArg (fun b => Ending.returned (Value.int .i64 b)) hres.out, hfin.out⟩
    · have hres := Lib.hid (show (-1 : Int) = R by
        rw [← HR.out]
        have := hpre.out
        rw [List.take_of_length_le (by rw [Hl.out]; omega)] at this
        exact (idxP_none this).symm)
      go_wp2
      go_ret
      exact ⟨congrArg (fun b => Ending.returned (Value.int .i64 b)) hres.out, hfr.out⟩
set_option maxRecDepth 100000 in
theorem ContainsFP {w : World} {a : Option Addr} {n cap : Nat} (L : List Nat) (h : PsIn w a L) (hl : L.length = n) (hn : n ≤ 1000000) (g : Nat) (lb : Array Value) (f : Nat → Bool)
    (eg : ∀ args w, (callFunc g args).run Tryz.prog w = .ok (.enter g args) w)
    (hf : ∀ (x : Nat) W, Fr0 none' w W → Calls Tryz.prog g (#[.int .i64 (x : Int)] ++ lb) W fun e w' => e = .returned (.bool (f x)) ∧ Fr0 none' W w') :
    Calls Tryz.prog 15 #[.slice a n cap, .func (.func g) #[] lb] w fun e w' => e = .returned (.bool (L.any f)) ∧ Fr0 none' w w' := by
  have HI := Lib.hid (IndexFP L h hl hn (cap := cap) g lb f eg hf)
  have hd := idxP_any f L
  obtain ⟨i, hi⟩ : ∃ i, idxP f L = i := ⟨_, rfl⟩
  rw [hi] at HI hd
  rw [← hd]
  clear hi hd h hl hf
  go_enter Tryz.func15, Tryz.ntmps15
  go_wp2_with fail
  refine HI.out.mono ?_
  rintro e w1 ⟨rfl, hf⟩
  go_wp2_with fail
  go_ret
  exact ⟨rfl, hf⟩
set_option maxRecDepth 100000 in
theorem ContainsFE {w : World} {a : Option Addr} {n cap : Nat} (L : List Ev) (h : EsIn w a L) (hl : L.length = n) (hn : n ≤ 1000000) (g : Nat) (lb : Array Value) (f : Ev → Bool)
    (eg : ∀ args w, (callFunc g args).run Tryz.prog w = .ok (.enter g args) w)
    (hf : ∀ x W, Fr0 none' w W → Calls Tryz.prog g (#[evV x] ++ lb) W fun e w' => e = .returned (.bool (f x)) ∧ Fr0 none' W w') :
    Calls Tryz.prog 17 #[.slice a n cap, .func (.func g) #[] lb] w fun e w' => e = .returned (.bool (L.any f)) ∧ Fr0 none' w w' := by
  have HI := Lib.hid (IndexE (cap := cap) L h hl hn g lb f eg hf)
  have hd := idxI_any f L
  obtain ⟨i, hi⟩ : ∃ i, idxI f L = i := ⟨_, rfl⟩
  rw [hi] at HI hd
  rw [← hd]
  clear hi hd h hl hf
  go_enter Tryz.func17, Tryz.ntmps17
  go_wp2_with fail
  refine HI.out.mono ?_
  rintro e w1 ⟨rfl, hf⟩
  go_wp2_with fail
  go_ret
  exact ⟨rfl, hf⟩
set_option maxRecDepth 100000 in
set_option maxHeartbeats 2000000 in
/-- Whether an event is one of a process before a time. -/
theorem has_any {w : World} {pb tb : Nat} {p t : Int} (hp : Box w pb (.int .i64 p)) (ht : Box w tb (.int .i64 t)) (x : Ev) :
    Calls Tryz.prog 18 #[evV x, .pointer (some ⟨pb, 0, none⟩), .pointer (some ⟨tb, 0, none⟩)] w fun e w' => e = .returned (.bool (x.to == p && decide (x.key.time < t))) ∧ Fr0 none' w w' := by
  obtain ⟨W, hW⟩ : ∃ W, w.alloc (.cells #[.int .i64 x.key.time, .int .i64 x.key.source, .int .i64 x.key.seq, .int .i64 x.to, .int .i64 x.value] 28) = W := ⟨_, rfl⟩
  have hf : Fr0 none' w W := by rw [← hW]; exact (Fr0.refl _ _).alloc _
  have hb : W.heap[w.heap.size]? = some (.cells #[.int .i64 x.key.time, .int .i64 x.key.source, .int .i64 x.key.seq, .int .i64 x.to, .int .i64 x.value] 28 (0, 0)) := by rw [← hW]; exact World.alloc_heap_new _ _
  have cp := (hp.fr0 hf id).cell
  have ct := (ht.fr0 hf id).cell
  have x0 := cells_in hb 0
  have x1 := cells_in hb 1
  have x2 := cells_in hb 2
  have x3 := cells_in hb 3
  have x4 := cells_in hb 4
  simp at x0 x1 x2 x3 x4
  have HF := Lib.hid hf
  unfold evV
  clear hf hb hp ht
  obtain ⟨R, hR⟩ : ∃ R, (x.to == p && decide (x.key.time < t)) = R := ⟨_, rfl⟩
  rw [hR]
  by_cases h1 : x.to = p
  · have d1 : (x.to == p) = true := by simpa using h1
    by_cases h2 : x.key.time < t
    · have d2 : decide (x.key.time < t) = true := decide_eq_true h2
      obtain rfl : R = true := by rw [← hR, d1, d2]; rfl
      clear hR h1 h2
      go_enter Tryz.func18, Tryz.ntmps18
      subst hW
      go_wp2_with fail
      go_ret
      exact ⟨rfl, HF.out⟩
    · have d2 : decide (x.key.time < t) = false := decide_eq_false h2
      obtain rfl : R = false := by rw [← hR, d1, d2]; rfl
      clear hR h1 h2
      go_enter Tryz.func18, Tryz.ntmps18
      subst hW
      go_wp2_with fail
      go_ret
      exact ⟨rfl, HF.out⟩
  · have d1 : (x.to == p) = false := by simpa using h1
    obtain rfl : R = false := by rw [← hR, d1]; rfl
    clear hR h1
    go_enter Tryz.func18, Tryz.ntmps18
    subst hW
    go_wp2_with fail
    go_ret
    exact ⟨rfl, HF.out⟩
set_option maxRecDepth 100000 in
set_option maxHeartbeats 2000000 in
/-- Whether a process has no event before a time. -/
theorem hasnt_any {w : World} {sb tb : Nat} {a : Option Addr} {n cap : Nat} {t : Int} {E : List Ev} (hs : Box w sb (.slice a n cap)) (hE : EsIn w a E) (hl : E.length = n) (hn : n ≤ 1000000) (ht : Box w tb (.int .i64 t)) (p : Nat) :
    Calls Tryz.prog 16 #[.int .i64 (p : Int), .pointer (some ⟨sb, 0, none⟩), .pointer (some ⟨tb, 0, none⟩)] w fun e w' => e = .returned (.bool (!hasE t E p)) ∧ Fr0 none' w w' := by
  obtain ⟨W, hW⟩ : ∃ W, w.alloc (.cells #[.int .i64 (p : Int)] 3) = W := ⟨_, rfl⟩
  obtain ⟨pb, hpb⟩ : ∃ b, w.heap.size = b := ⟨_, rfl⟩
  have hf : Fr0 none' w W := by rw [← hW]; exact (Fr0.refl _ _).alloc _
  have hbx : Box W pb (.int .i64 (p : Int)) := by rw [← hW, ← hpb]; exact Box.new _ _ _
  have ht1 := ht.fr0 hf id
  have cs := (hs.fr0 hf id).cell
  have HC := Lib.hid (fun (W' : World) (hf' : Fr0 none' W W') => ContainsFE (cap := cap) E (hE.later (hf.trans hf')) hl hn 18 #[.pointer (some ⟨pb, 0, none⟩), .pointer (some ⟨tb, 0, none⟩)] (fun x => x.to == (p : Int) && decide (x.key.time < t)) (by intro args w; rfl) (fun x W2 hf2 => has_any (hbx.fr0 (hf'.trans hf2) id) (ht1.fr0 (hf'.trans hf2) id) x))
  have HF := Lib.hid hf
  obtain ⟨R, hR⟩ : ∃ R, hasE t E p = R := ⟨_, rfl⟩
  rw [hR]
  have HC := Lib.hid (show ∀ W', Fr0 none' W W' → Calls Tryz.prog 17 #[.slice a n cap, .func (.func 18) #[] #[.pointer (some ⟨pb, 0, none⟩), .pointer (some ⟨tb, 0, none⟩)]] W' fun e w' => e = .returned (.bool R) ∧ Fr0 none' W' w' from by rw [← hR]; exact HC.out)
  clear hf hbx ht1 hs hE ht hR
  go_enter Tryz.func16, Tryz.ntmps16
  have HCW := Lib.hid (HC.out W (Fr0.refl _ _))
  subst hW
  go_wp2_with fail
  refine HCW.out.mono ?_
  rintro e w1 ⟨rfl, hf⟩
  have HFF := Lib.hid (HF.out.trans hf)
  clear hf
  go_wp2_with fail
  go_ret
  exact ⟨rfl, HFF.out⟩
end Go.Proofs.YtmcgipilopfgoaaGreat

/-
  EvqReady.
-/
namespace Go.Proofs.YtmcgipilopfgoaaGreat
open Go Go.RowKit Go.ChangeMaps
attribute [local go_sem ↓] Go.wp_at_zero Go.wp_at_succ
attribute [local go_sem] Oper.semAt_some wide_fn wide_depth wide_fnR wide_depthR

theorem rdy_mem {t : Int} {E : List Ev} {p : Nat} : p ∈ rdyE t E 17 ↔ (1 ≤ p ∧ p ≤ 16) ∧ hasE t E p = true := by
  unfold rdyE
  rw [List.mem_filter, List.mem_range'_1]
  constructor
  · rintro ⟨h1, h2⟩; exact ⟨by omega, h2⟩
  · rintro ⟨h1, h2⟩; exact ⟨by omega, h2⟩
theorem has_mono {t t2 : Int} {E : List Ev} {p : Nat} (h : t ≤ t2) (hh : hasE t E p = true) : hasE t2 E p = true := by
  unfold hasE at hh ⊢
  rw [List.any_eq_true] at hh ⊢
  obtain ⟨x, hx, hp⟩ := hh
  refine ⟨x, hx, ?_⟩
  simp at hp ⊢
  exact ⟨hp.1, by omega⟩
theorem rdy_lt {t : Int} {E : List Ev} {i p q : Nat} (h1 : (rdyE t E 17)[i]? = some p) (h2 : (rdyE t E 17)[i + 1]? = some q) : p < q := by
  have hs : (rdyE t E 17).Pairwise (· < ·) := by
    unfold rdyE
    exact List.Pairwise.filter _ (List.pairwise_lt_range' ..)
  obtain ⟨a1, e1⟩ := List.getElem?_eq_some_iff.1 h1
  obtain ⟨a2, e2⟩ := List.getElem?_eq_some_iff.1 h2
  have := List.pairwise_iff_getElem.1 hs i (i + 1) a1 a2 (by omega)
  rwa [e1, e2] at this
theorem any_is {L : List Nat} {p : Nat} (h : p ∈ L) {q : Int} (e : (p : Int) = q) : L.any (fun x => decide ((x : Int) = q)) = true := List.any_eq_true.2 ⟨p, h, decide_eq_true e⟩
set_option maxRecDepth 100000 in
set_option maxHeartbeats 4000000 in
theorem EvqReady_any {w : World} {u : Value} {xs : List Sme} {tm mo : Int} (hu : SmesAt w u xs) (htm : 0 ≤ tm ∧ tm < 256) (hmo : 0 ≤ mo ∧ mo < 256) :
    Calls Tryz.prog 5 #[u, .int .u8 tm, .int .u8 mo] w fun e w' => e = .returned (.bool true) ∧ Fr0 none' w w' := by
  have HU := Lib.hid (fun (W : World) (hf : Fr0 none' w W) => events_any xs 60 (by omega) W (hu.later hf))
  obtain ⟨S, hS⟩ : ∃ S, evsE xs 60 = S := ⟨_, rfl⟩
  have R0 := Lib.hid (evsE_right (xs := xs) (most := 60))
  have O0 := Lib.hid (evsE_once xs 60)
  have L0 := Lib.hid (evsE_le xs 60)
  rw [hS] at HU R0 O0 L0
  clear hu hS
  obtain ⟨t, ht⟩ : ∃ t, tm % 21 = t := ⟨_, rfl⟩
  obtain ⟨t2, ht2⟩ : ∃ t2, t + mo % 21 = t2 := ⟨_, rfl⟩
  have w1' : IntKind.i64.wrap (tm % 21) = t := by rw [IntWalk.i64_in _ (by omega)]; exact ht
  have w2' : IntKind.i64.wrap (mo % 21) = mo % 21 := IntWalk.i64_in _ (by omega)
  have w3' : IntKind.i64.wrap (t + mo % 21) = t2 := by rw [IntWalk.i64_in _ (by omega)]; exact ht2
  have htt : t ≤ t2 := by omega
  have hmt : mo.tmod 21 = mo % 21 := Int.tmod_eq_emod_of_nonneg hmo.1
  clear ht ht2
  go_enter Tryz.func5, Tryz.ntmps5
  go_wp2_with fail
  refine (awake_any w).mono ?_
  rintro e w1 ⟨rfl, f1⟩
  have F1 := Lib.hid f1
  clear f1
  go_wp2_with fail
  refine (HU.out w1 F1.out).mono ?_
  rintro e w2 ⟨r, rfl, hr, f2⟩
  obtain ⟨va, vc, rfl, _, hva⟩ := EsIn.of_own hr
  have F2 := Lib.hid (F1.out.trans f2)
  have Hva := Lib.hid hva
  clear f2 hr hva HU
  obtain ⟨L, hL⟩ : ∃ n, S.length = n := ⟨_, rfl⟩
  rw [hL] at L0 ⊢
  have N0 := Lib.hid hL
  clear hL
  have hL60 : L ≤ 60 := L0.out
  go_wp2_with fail
  refine (filled_any (c := 60) (cap := vc) S Hva.out N0.out hL60 (by omega) R0.out O0.out).mono ?_
  rintro e w3 ⟨qb, ft, r, rfl, hq, hr, hge, hno, hf⟩
  obtain ⟨Z, hZ⟩ : ∃ Z, putsE S [] = Z := ⟨_, rfl⟩
  rw [hZ] at hq hr
  have HQ := Lib.hid hq
  have HF := Lib.hid (F2.out.trans hf)
  obtain ⟨sa, sc, rfl, hsl, hsa⟩ := EsIn.of_own hr
  have HR := Lib.hid hsa
  have hZ60 : Z.length ≤ 60 := hq.le.1
  have HZr := Lib.hid hq.good.2.2
  clear hq hr hge hno hf hZ hsl hsa
  go_wp2_with fail
  obtain ⟨B, hB⟩ : ∃ B, w3.heap.size = B := ⟨_, rfl⟩
  obtain ⟨W4, hW4⟩ : ∃ W, (w3.alloc (.cells #[.slice sa Z.length sc] 30)).alloc (.cells #[.int .i64 t] 3) = W := ⟨_, rfl⟩
  have hf : Fr0 none' w3 W4 := by rw [← hW4]; exact ((Fr0.refl _ _).alloc _).alloc _
  have HSb := Lib.hid (show Box W4 B (.slice sa Z.length sc) by rw [← hW4, ← hB]; exact (Box.new w3 _ _).alloc _)
  have HT := Lib.hid (show Box W4 (B + 1) (.int .i64 t) by
    rw [← hW4]
    have h1 := Box.new (w3.alloc (.cells #[.slice sa Z.length sc] 30)) (.int .i64 t) 3
    rw [World.size_alloc, hB] at h1
    exact h1)
  have HQ := Lib.hid (HQ.out.later hf)
  have HR := Lib.hid (HR.out.later hf)
  have HF := Lib.hid (HF.out.trans hf)
  rw [hW4]
  try rw [hB]
  clear hW4 hf hB
  refine wp_region_held_drew (S := fun W' => Fr0 none' W4 W') (by kernel_rfl) ((Fr0.refl _ W4).drew) (fun hHeld => ?_)
  refine take_on (i := 0) (v := .pointer (some ⟨qb, 0, none⟩)) rfl (by kernel_rfl) (by kernel_rfl) (by kernel_rfl) (fun _ _ _ h => h) (by kernel_rfl) (fun W' hSW => ?_) (by assumption) ?_
  · have ct := (HT.out.fr0 hSW id).cell
    first | (go_simp; done) | exact rfl | (go_simp; rfl) | (go_simp; omega)
  try simp only [Act.put, List.setIfInBounds_toArray, List.set_cons_zero, List.set_cons_succ]
  refine take_on (i := 1) (v := .int .i64 t) rfl (by kernel_rfl) (by kernel_rfl) (by kernel_rfl) (fun _ _ _ h => h) (by kernel_rfl) (fun W' hSW => ?_) (by assumption) ?_
  · have ct := (HT.out.fr0 hSW id).cell
    first | (go_simp; done) | exact rfl | (go_simp; rfl) | (go_simp; omega)
  try simp only [Act.put, List.setIfInBounds_toArray, List.set_cons_zero, List.set_cons_succ]
  refine take_on (i := 3) (v := .pointer (some ⟨qb, 0, none⟩)) rfl (by kernel_rfl) (by kernel_rfl) (by kernel_rfl) (fun _ _ _ h => h) (by kernel_rfl) (fun W' hSW => ?_) (by assumption) ?_
  · have ct := (HT.out.fr0 hSW id).cell
    first | (go_simp; done) | exact rfl | (go_simp; rfl) | (go_simp; omega)
  try simp only [Act.put, List.setIfInBounds_toArray, List.set_cons_zero, List.set_cons_succ]
  refine take_on (i := 4) (v := .int .i64 t) rfl (by kernel_rfl) (by kernel_rfl) (by kernel_rfl) (fun _ _ _ h => h) (by kernel_rfl) (fun W' hSW => ?_) (by assumption) ?_
  · have ct := (HT.out.fr0 hSW id).cell
    first | (go_simp; done) | exact rfl | (go_simp; rfl) | (go_simp; omega)
  try simp only [Act.put, List.setIfInBounds_toArray, List.set_cons_zero, List.set_cons_succ]
  refine take_on (i := 5) (v := .int .u8 mo) rfl (by kernel_rfl) (by kernel_rfl) (by kernel_rfl) (fun _ _ _ h => h) (by kernel_rfl) (fun W' hSW => ?_) (by assumption) ?_
  · have ct := (HT.out.fr0 hSW id).cell
    first | (go_simp; done) | exact rfl | (go_simp; rfl) | (go_simp; omega)
  try simp only [Act.put, List.setIfInBounds_toArray, List.set_cons_zero, List.set_cons_succ]
  refine take_on (i := 6) (v := .int .u8 (mo % 21)) rfl (by kernel_rfl) (by kernel_rfl) (by kernel_rfl) (fun _ _ _ h => h) (by kernel_rfl) (fun W' hSW => ?_) (by assumption) ?_
  · have ct := (HT.out.fr0 hSW id).cell
    first | (go_simp; done) | exact rfl | (go_simp; rfl) | (go_simp; omega)
  try simp only [Act.put, List.setIfInBounds_toArray, List.set_cons_zero, List.set_cons_succ]
  refine take_on (i := 7) (v := .int .i64 (mo % 21)) rfl (by kernel_rfl) (by kernel_rfl) (by kernel_rfl) (fun _ _ _ h => h) (by kernel_rfl) (fun W' hSW => ?_) (by assumption) ?_
  · have ct := (HT.out.fr0 hSW id).cell
    first | (go_simp; done) | exact rfl | (go_simp; rfl) | (go_simp; omega)
  try simp only [Act.put, List.setIfInBounds_toArray, List.set_cons_zero, List.set_cons_succ]
  refine take_on (i := 8) (v := .int .i64 t2) rfl (by kernel_rfl) (by kernel_rfl) (by kernel_rfl) (fun _ _ _ h => h) (by kernel_rfl) (fun W' hSW => ?_) (by assumption) ?_
  · have ct := (HT.out.fr0 hSW id).cell
    first | (go_simp; done) | exact rfl | (go_simp; rfl) | (go_simp; omega)
  try simp only [Act.put, List.setIfInBounds_toArray, List.set_cons_zero, List.set_cons_succ]
  refine take_call (i := 2) rfl (by kernel_rfl) (by kernel_rfl) (fun K hK => ?_)
  go_simp
  refine ((HQ.out.later hHeld).ready t).mono ?_
  rintro e w5 ⟨v5, rfl, hr5, hf5⟩
  have h5 : Fr0 none' W4 w5 := hHeld.trans hf5
  obtain ⟨ra, rc, rfl, hrl, hra⟩ := PsIn.of_own hr5
  have HP5 := Lib.hid hra
  clear hr5 hHeld hf5 hra
  go_wp2_with fail
  refine hK.out _ _ h5 (fun hS => ?_)
  clear hK K
  try simp only [Act.put, List.setIfInBounds_toArray, List.set_cons_zero, List.set_cons_succ]
  refine take_call (i := 9) rfl (by kernel_rfl) (by kernel_rfl) (fun K hK => ?_)
  go_simp
  refine ((HQ.out.later h5).ready t2).mono ?_
  rintro e w6 ⟨v6, rfl, hr6, hf6⟩
  have h6 : Fr0 none' W4 w6 := h5.trans hf6
  obtain ⟨la, lc, rfl, hll, hla⟩ := PsIn.of_own hr6
  have HP6 := Lib.hid hla
  have HP5 := Lib.hid (HP5.out.later hf6)
  clear hr6 hf6 hla h5
  go_wp2_with fail
  refine hK.out _ _ h6 (fun hS => ?_)
  clear hK K
  try simp only [Act.put, List.setIfInBounds_toArray, List.set_cons_zero, List.set_cons_succ]
  obtain ⟨A, hA⟩ : ∃ A, rdyE t Z 17 = A := ⟨_, rfl⟩
  obtain ⟨C, hC⟩ : ∃ C, rdyE t2 Z 17 = C := ⟨_, rfl⟩
  rw [hA] at HP5 ⊢
  rw [hC] at HP6 ⊢
  refine take_on (i := 10) (v := .slice ra A.length rc) rfl (by kernel_rfl) (by kernel_rfl) (by kernel_rfl) (fun _ _ _ h => h) (by kernel_rfl) (fun W' hSW => ?_) (by assumption) ?_
  · have ct := (HT.out.fr0 hSW id).cell
    first | (go_simp; done) | exact rfl | (go_simp; rfl) | (go_simp; omega)
  try simp only [Act.put, List.setIfInBounds_toArray, List.set_cons_zero, List.set_cons_succ]
  refine take_on (i := 11) (v := .slice la C.length lc) rfl (by kernel_rfl) (by kernel_rfl) (by kernel_rfl) (fun _ _ _ h => h) (by kernel_rfl) (fun W' hSW => ?_) (by assumption) ?_
  · have ct := (HT.out.fr0 hSW id).cell
    first | (go_simp; done) | exact rfl | (go_simp; rfl) | (go_simp; omega)
  try simp only [Act.put, List.setIfInBounds_toArray, List.set_cons_zero, List.set_cons_succ]
  refine wpAnyH_done (by kernel_rfl) ?_ _
  have HF := Lib.hid (HF.out.trans h6)
  have HR := Lib.hid (HR.out.later h6)
  have HT := Lib.hid (HT.out.fr0 h6 id)
  have HSb := Lib.hid (HSb.out.fr0 h6 id)
  have HFw := HF
  have hal : A.length ≤ 16 := by rw [← hA]; have := rdy_len t Z 17; omega
  have hcl : C.length ≤ 16 := by rw [← hC]; have := rdy_len t2 Z 17; omega
  have HA := Lib.hid hA
  have HC := Lib.hid hC
  clear h6 hA hC hrl hll
  go_wp2_with fail
  go_loopw [12, 13, 41] (fun _ _ v41 wr => ∃ i : Nat, i ≤ A.length ∧ v41 = .int .i64 i ∧ Hid (Fr0 none' w6 wr)) (fun _ _ v41 _ => A.length - (Go.RowKit.intOf v41).toNat)
  case atStart => exact ⟨0, Nat.zero_le _, rfl, Fr0.refl _ _⟩
  case round =>
    obtain ⟨i, hi, rfl, hfr⟩ := hrel
    by_cases hlt : i < A.length
    · obtain ⟨p, hp⟩ : ∃ p, A[i]? = some p := ⟨_, List.getElem?_eq_getElem hlt⟩
      obtain ⟨g, rfl, hc⟩ := HP5.out i p hp
      have hmem := List.mem_of_getElem? hp
      rw [← HA.out] at hmem
      have hm := rdy_mem.1 hmem
      have k1 : (0 : Int) ≤ (i : Int) := by omega
      have k2 : (i : Int) < (A.length : Int) := by omega
      have d1 : decide ((p : Int) < 1) = false := decide_eq_false (by omega)
      have d2 : decide ((p : Int) > 16) = false := decide_eq_false (by omega)
      have d3 : decide ((16 : Int) < (p : Int)) = false := decide_eq_false (by omega)
      have x0 := hfr.out.later hc
      have hpc := Lib.hid (show p ∈ C from by rw [← HC.out]; exact rdy_mem.2 ⟨hm.1, has_mono htt hm.2⟩)
      have HCn := Lib.hid (fun (W : World) (hf : Fr0 none' w6 W) => ContainsP (cap := lc) C (HP6.out.later hf) rfl (by omega) (p : Int))
      rw [any_is hpc.out rfl] at HCn
      have Hp := Lib.hid hp
      have Hc := Lib.hid hc
      clear hp hc hmem hm
      rcases Nat.eq_zero_or_pos i with h0 | h0
      · have d4 : decide ((i : Int) > 0) = false := decide_eq_false (by omega)
        have d5 : decide ((0 : Int) < (i : Int)) = false := decide_eq_false (by omega)
        have d6 : decide (0 < i) = false := decide_eq_false (by omega)
        clear h0
        go_wp2_with fail
        refine (HCn.out _ hfr.out).mono ?_
        rintro e w7 ⟨rfl, hf⟩
        have hfn := Lib.hid (hfr.out.trans hf)
        clear hf
        go_wp2_with fail
        go_roundw
        case rel => exact ⟨i + 1, by omega, by go_num, hfn⟩
        case measure => simp [Go.RowKit.intOf]; omega
      · have d4 : decide ((i : Int) > 0) = true := decide_eq_true (by omega)
        have d5 : decide ((0 : Int) < (i : Int)) = true := decide_eq_true (by omega)
        have d6 : decide (0 < i) = true := decide_eq_true h0
        obtain ⟨q, hq⟩ : ∃ q, A[i - 1]? = some q := ⟨_, List.getElem?_eq_getElem (by omega)⟩
        obtain ⟨g', eg, hcq⟩ := HP5.out (i - 1) q hq
        injection eg with eg
        injection eg with eg
        subst eg
        have x1 := hfr.out.later hcq
        have hlt2 : q < p := by
          have h1 := Hp.out
          rw [← HA.out] at hq h1
          rw [show i = (i - 1) + 1 by omega] at h1
          exact rdy_lt hq h1
        obtain ⟨j, hj⟩ : ∃ j, i - 1 = j := ⟨_, rfl⟩
        rw [hj] at x1
        have wj : IntKind.i64.wrap ((i : Int) - 1) = (j : Int) := by rw [IntWalk.i64_in _ (by omega)]; omega
        have j1 : (0 : Int) ≤ (j : Int) := by omega
        have j2 : (j : Int) < (A.length : Int) := by omega
        have d7 : decide ((q : Int) ≥ (p : Int)) = false := decide_eq_false (by omega)
        have d8 : decide ((p : Int) ≤ (q : Int)) = false := decide_eq_false (by omega)
        have d9 : decide (p ≤ q) = false := decide_eq_false (by omega)
        clear hq hcq hj h0 hlt2
        go_wp2_with fail
        refine (HCn.out _ hfr.out).mono ?_
        rintro e w7 ⟨rfl, hf⟩
        have hfn := Lib.hid (hfr.out.trans hf)
        clear hf
        go_wp2_with fail
        go_roundw
        case rel => exact ⟨i + 1, by omega, by go_num, hfn⟩
        case measure => simp [Go.RowKit.intOf]; omega
    · have cS := (HSb.out.fr0 hfr.out id).cell
      go_wp2_with fail
      have HFr := hfr
      have HF := Lib.hid (HF.out.trans hfr.out)
      have HRo := HR
      clear cS hlt hi
      go_loopw [15, 74] (fun _ v74 wr => ∃ i : Nat, i ≤ Z.length ∧ v74 = .int .i64 i ∧ Hid (Fr0 none' w6 wr)) (fun _ v74 _ => Z.length - (Go.RowKit.intOf v74).toNat)
      case atStart => exact ⟨0, Nat.zero_le _, rfl, hfr⟩
      case round =>
        obtain ⟨i, hi, rfl, hfr⟩ := hrel
        by_cases hlt : i < Z.length
        · obtain ⟨x, hx⟩ : ∃ x, Z[i]? = some x := ⟨_, List.getElem?_eq_getElem hlt⟩
          obtain ⟨g, o, rfl, hxc⟩ := HR.out i x hx
          obtain ⟨x0, x1, x2, x3, x4⟩ := hxc.later hfr.out
          have k1 : (0 : Int) ≤ (i : Int) := by omega
          have k2 : (i : Int) < (Z.length : Int) := by omega
          have Hx := Lib.hid hx
          obtain ⟨V, hV⟩ : ∃ V, wr.alloc (.cells #[.int .i64 x.key.time, .int .i64 x.key.source, .int .i64 x.key.seq, .int .i64 x.to, .int .i64 x.value] 28) = V := ⟨_, rfl⟩
          have hf : Fr0 none' wr V := by rw [← hV]; exact (Fr0.refl _ _).alloc _
          have cT := (HT.out.fr0 (hfr.out.trans hf) id).cell
          have HFV := Lib.hid (hfr.out.trans hf)
          clear hx hxc hf
          subst hV
          by_cases ht : x.key.time < t
          · have d1 : decide (x.key.time < t) = true := decide_eq_true ht
            go_wp2_with fail
            have hzr := HZr.out x (List.mem_of_getElem? Hx.out)
            have hto := hzr.2
            have hmem : x.to.toNat ∈ A := by
              rw [← HA.out]
              refine rdy_mem.2 ⟨by omega, has_true Hx.out (by omega) ht⟩
            have HCn := Lib.hid (ContainsP (cap := rc) A (HP5.out.later HFV.out) rfl (by omega) x.to)
            rw [any_is hmem (by omega)] at HCn
            clear hzr hto hmem ht
            refine HCn.out.mono ?_
            rintro e w7 ⟨rfl, hf⟩
            have hfn := Lib.hid (HFV.out.trans hf)
            clear hf
            go_wp2_with fail
            go_roundw
            case rel => exact ⟨i + 1, by omega, by go_num, hfn⟩
            case measure => simp [Go.RowKit.intOf]; omega
          · have d1 : decide (x.key.time < t) = false := decide_eq_false ht
            clear ht
            go_wp2_with fail
            refine ⟨⟨i + 1, by omega, by go_num, HFV⟩, by simp [Go.RowKit.intOf]; omega⟩
        · go_wp2_with fail
          have HEr := HR.out.later hfr.out
          have HC2 := Lib.hid (ContainsFP (cap := rc) A (HP5.out.later hfr.out) rfl (by omega) 16 #[.pointer (some ⟨B, 0, none⟩), .pointer (some ⟨B + 1, 0, none⟩)] (fun p => !hasE t Z p) (by intro args w; rfl) (fun p W hf => hasnt_any (HSb.out.fr0 (hfr.out.trans hf) id) (HEr.later hf) rfl (by omega) (HT.out.fr0 (hfr.out.trans hf) id) p))
          have hno : A.any (fun p => !hasE t Z p) = false := by
            rw [List.any_eq_false]
            intro p hp
            rw [← HA.out] at hp
            simp [(rdy_mem.1 hp).2]
          rw [hno] at HC2
          have HFe := Lib.hid (HFw.out.trans hfr.out)
          clear HEr hno
          refine HC2.out.mono ?_
          rintro e w7 ⟨rfl, hf⟩
          have HFF := Lib.hid (HFe.out.trans hf)
          clear hf
          go_wp2_with fail
          go_ret
          exact ⟨rfl, HFF.out⟩
end Go.Proofs.YtmcgipilopfgoaaGreat

namespace Go.Proofs.YtmcgipilopfgoaaGreat.evqReady
open Go.ChangeShapes Go.WideShapes Go.ChangeAt Go.RowKit Go.Proofs.YtmcgipilopfgoaaGreat

set_option maxRecDepth 100000 in
theorem lifted (os : Os) (started : os.Started) (H : Type) (enc : TypeId × Value → H) :
    ReturnsInHanded {} Tryz.checked os 5 .any (Rows.evqReadySpec.pre6 enc Tryz.prog Tryz.f5 Rows.evqReadyRow.domain false) (Rows.evqReadySpec.post enc Tryz.prog Tryz.f5 false true false false) := by
  refine returnsInHanded_of_change (C := Tryz.checked) own_knob started (by kernel_rfl) Tryz.func5
    (ChangeSpec.witness6 (enc := enc) (C := Tryz.checked) false ⟨#[], #[.slice none 0 0, .int .u8 0, .int .u8 0], []⟩ 8 (by kernel_rfl) (by kernel_rfl) (by kernel_rfl) (by kernel_rfl)) ?_
  intro W base args ds gs before hval0 hW hcnd _
  have hval : ∀ (j : Nat) t v, Tryz.f5.params[j]? = some t → args[j]? = some v → Value.okWide Tryz.prog W .any base t v := hval0
  have hW' := hW
  obtain ⟨p, q, hA0, hV, rfl, hfz, hnd⟩ := hW
  have hA : DataW.TrodAll enc Tryz.prog W 0 (fun _ => true) true Tryz.f5.params.toList args.toList ds p := hA0
  rw [Tryz.params5] at hA hval
  obtain ⟨v0, vs0, d0, ds0, p0, q0, hargs, rfl, rfl, h0, r0⟩ := trodAll_cons hA
  obtain ⟨v1, vs1, d1, ds1, p1, q1, rfl, rfl, rfl, h1, r1⟩ := trodAll_cons r0
  obtain ⟨v2, vs2, d2, ds2, p2, q2, rfl, rfl, rfl, h2, r2⟩ := trodAll_cons r1
  obtain ⟨rfl, rfl, rfl⟩ := trodAll_nil r2
  obtain rfl : args = #[v0, v1, v2] := by cases args; simp_all
  obtain ⟨rfl, rfl⟩ := trodVars_none hV
  clear hA0 hval0
  simp only [List.append_nil] at hW'
  have l0 : ∀ x ∈ p0, x.block < W.heap.size := fun x hx => hW'.lt x (by simp [hx])
  have t0 := fun W' (hb : Below W.heap.size W W') => Below.trod laid_own (by kernel_rfl) (of_decide_eq_true (by kernel_rfl)) h0 hb l0
  have l1 : ∀ x ∈ p1, x.block < W.heap.size := fun x hx => hW'.lt x (by simp [hx])
  have t1 := fun W' (hb : Below W.heap.size W W') => Below.trod laid_own (by kernel_rfl) (of_decide_eq_true (by kernel_rfl)) h1 hb l1
  have l2 : ∀ x ∈ p2, x.block < W.heap.size := fun x hx => hW'.lt x (by simp [hx])
  have t2 := fun W' (hb : Below W.heap.size W W') => Below.trod laid_own (by kernel_rfl) (of_decide_eq_true (by kernel_rfl)) h2 hb l2
  obtain ⟨xs0, hx0⟩ := smalls_arg (hval 0 34 v0 rfl rfl) h0
  obtain ⟨a1, rfl, _, _, w1⟩ := open_int Tryz.underlying5 (hval 1 5 v1 rfl rfl) h1
  have b1 : 0 ≤ a1 ∧ a1 < 256 := by
    have := bounds_u8 w1
    omega
  obtain ⟨a2, rfl, _, _, w2⟩ := open_int Tryz.underlying5 (hval 2 5 v2 rfl rfl) h2
  have b2 : 0 ≤ a2 ∧ a2 < 256 := by
    have := bounds_u8 w2
    omega
  refine (EvqReady_any hx0 b1 b2).mono fun e W' ⟨he, hf⟩ => ?_
  have hg : Below W.heap.size W W' := hf.below (Nat.le_refl _) (fun _ _ h => h)
  subst he
  exact ⟨_, rfl, post_below2 (pa := p0 ++ (p1 ++ (p2 ++ ([])))) (pv := []) hW' (fun _ _ _ => (trodAll_cons_mk (shut_bool Tryz.underlying4 _) trodAll_mk0)) (trodAll_cons_mk (t0 _ hg) (trodAll_cons_mk (t1 _ hg) (trodAll_cons_mk (t2 _ hg) trodAll_mk0))) (fun _ _ => rfl) hg⟩

theorem over : Rows.evqReadyRow.holds Tryz.pinned (OpenSpec.ofChange Rows.evqReadySpec) :=
  OpenClaim.holds_of_wide 5 Tryz.f5 rfl rfl rfl rfl rfl rfl rfl ⟨rfl, rfl, rfl, rfl, rfl⟩ rfl rfl rfl rfl rfl (by kernel_rfl) Tryz.func5 (by kernel_rfl)
    (of_decide_eq_true (by kernel_rfl)) (by unfold Func.isWrapper; first | (rw [if_pos (by decide +kernel)]; kernel_rfl) | (rw [if_neg (by decide +kernel)]; exact ⟨rfl, rfl⟩))
    (fun os started H enc _ => lifted os started H enc)

theorem proved : Rows.EvqReadySaid := over
#print axioms proved
end Go.Proofs.YtmcgipilopfgoaaGreat.evqReady
