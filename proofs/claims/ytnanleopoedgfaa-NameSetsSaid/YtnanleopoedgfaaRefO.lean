/-
  The reference: Of.
-/
import Derived.Test.YtnanleopoedgfaaRefA
set_option linter.unusedSimpArgs false
set_option linter.unusedVariables false
namespace Go.Proofs.Ytnanleopoedgfaa
open Go.RowKit
attribute [local go_sem ↓] Go.wp_at_zero Go.wp_at_succ

/-- The set of the first names. -/
def ofK (xs : List Bs) (k : Nat) : List Bs := ofB (xs.take k)
theorem ofK_zero (xs : List Bs) : ofK xs 0 = [] := rfl
theorem ofK_succ (xs : List Bs) (k : Nat) (x : Bs) (h : xs[k]? = some x) : ofK xs (k + 1) = insB x (ofK xs k) := by
  unfold ofK ofB
  rw [List.take_add_one, h, List.foldl_append]; rfl
theorem ofK_len (xs : List Bs) (k : Nat) : (ofK xs k).length ≤ k := by
  have h1 := ofB_len (xs.take k)
  rw [List.length_take] at h1
  unfold ofK; omega

set_option maxRecDepth 100000 in
set_option maxHeartbeats 8000000 in
theorem refOf_any (a : Option Addr) (n cap : Nat) (xs : List Bs) (w : World) (hn : xs.length = n) (hm : n ≤ 10000) (hp : ∀ p ∈ xs, p.length ≤ 1000) (hc : Cells w a (xs.map strV)) :
    Calls Try.prog 47 #[.slice a n cap] w (RowPost (ofL xs) (ofL xs).length (ofE xs) w) := by
  obtain ⟨L, hL⟩ : ∃ L, ofL xs = L := ⟨_, rfl⟩
  obtain ⟨E, hE⟩ : ∃ L, ofE xs = L := ⟨_, rfl⟩
  obtain ⟨m, hLm⟩ : ∃ m, L.length = m := ⟨_, rfl⟩
  rw [hL, hE, hLm]
  have HL := Lib.hid hL
  have HE := Lib.hid hE
  have Hm := Lib.hid hLm
  have Hn := Lib.hid hn
  have Hc := Lib.hid hc
  have Hp := Lib.hid hp
  clear hL hE hLm hn hc hp
  go_enter Try.func47, Try.ntmps47
  go_wp2
  go_loopw [4, 5, 6] (fun o i _ wr => ∃ k : Nat, k ≤ n ∧ i = .int .i64 k ∧ Hid ((xs.take k).all rightB = true ∧ SortedL (ofK xs k)) ∧ wr.ownsRow w.heap.size 9 1 o (ofK xs k).length ((ofK xs k).map strV) ∧ Below w.heap.size w wr) (fun _ i _ _ => n - (intOf i).toNat)
  case atStart => exact ⟨0, Nat.zero_le _, rfl, ⟨rfl, List.Pairwise.nil⟩, World.ownsRow_nil _ _ _ _, Below.refl _ _⟩
  case round =>
    obtain ⟨k, hk, rfl, hpre, hown, hb⟩ := hrel
    by_cases hlt : k < n
    · have h1 : k < xs.length := by rw [Hn.out]; exact hlt
      obtain ⟨x, hx⟩ : ∃ x, xs[k]? = some x := ⟨_, List.getElem?_eq_getElem h1⟩
      obtain ⟨b, off, rfl, _⟩ := Hc.out.at (k := k) (x := strV x) (by simp [hx])
      have hcx : ∀ W, Below w.heap.size w W → W.cell? ⟨b, off + k, none⟩ = some (.string (bs x)) := fun W hW => by
        obtain ⟨b', off', he, h⟩ := (Hc.out.below hW).at (k := k) (x := strV x) (by simp [hx])
        cases he
        exact h
      have hxl : x.length ≤ 1000 := Hp.out x (List.mem_of_getElem? hx)
      obtain ⟨r, hr⟩ : ∃ r, rightB x = r := ⟨_, rfl⟩
      have HR := Lib.hid (refRight_r x (by omega) hr)
      have hbad : Hid (r = false → [] = L ∧ 40 = E) := fun h => by
        have : allR xs = false := by
          rw [Bool.eq_false_iff]; intro h2
          have := List.all_eq_true.1 h2 x (List.mem_of_getElem? hx)
          rw [hr, h] at this; cases this
        refine ⟨?_, ?_⟩
        · rw [← HL.out, ofL, this]; rfl
        · rw [← HE.out, ofE, this]; rfl
      have hgood : Hid (r = true → (xs.take (k + 1)).all rightB = true) := fun h => by
        rw [List.take_add_one, hx]; simp [hpre.out.1, hr, h]
      have hsucc : Hid (ofK xs (k + 1) = insB x (ofK xs k)) := ofK_succ xs k x hx
      have hOl := ofK_len xs k
      have hOs := hpre.out.2
      obtain ⟨O, hO⟩ : ∃ O, ofK xs k = O := ⟨_, rfl⟩
      rw [hO] at hown hsucc hOl hOs
      have hsort2 : Hid (SortedL (insB x O)) := insB_sorted x O hOs
      obtain ⟨A4, c4, rfl, hcap4, hcm4, hOlen, hc4, hnone4, hblk4⟩ := ownsRow_cells hown
      have hthere := insB_there x O
      have hnone := insB_none x O
      have hisat : ∀ j y, O[j]? = some y → isAt O x j = decide (y = x) := fun j y hy => by rw [isAt, hy]; simp
      have hlow := fun j (h : j < lowN O x) => lowN_before h
      have hatt := fun (h : lowN O x < O.length) => lowN_at (xs := O) (s := x) h
      have hlo := lowN_le O x
      obtain ⟨lo, hlo'⟩ : ∃ lo, lowN O x = lo := ⟨_, rfl⟩
      rw [hlo'] at hthere hnone hlow hatt hlo
      have hget : ∀ j, j < O.length → ∃ y, O[j]? = some y ∧ y.length ≤ 1000 ∧ O.getD j [] = y := fun j hj => by
        refine ⟨O[j], List.getElem?_eq_getElem hj, ?_, getD_lt hj⟩
        have hm1 : O[j] ∈ ofK xs k := hO ▸ List.getElem_mem hj
        have hm2 := (ofB_mem (xs.take k) _).1 hm1
        exact Hp.out _ (List.mem_of_mem_take hm2)
      obtain ⟨ol, hol⟩ : ∃ ol, O.length = ol := ⟨_, rfl⟩
      rw [hol] at hown hatt hlo hget hOl hcap4 hnone4 ⊢
      have HC4 := Lib.hid hc4
      have Hown := Lib.hid hown
      have Hget := Lib.hid hget
      have Hlow := Lib.hid hlow
      have Hatt := Lib.hid hatt
      have Hthere := Lib.hid hthere
      have Hnone := Lib.hid hnone
      have Hisat := Lib.hid hisat
      have Hol := Lib.hid hol
      have HPut := Lib.hid (fun W (hW : Cells W A4 (O.map strV)) => put_any A4 ol c4 lo O x W hol (by omega) hcap4 hcm4 hlo hnone4 hW)
      have Hcx := Lib.hid hcx
      have hx0 := hcx wr hb
      clear hx hr hcx h1 hO hown hc4 hthere hnone hisat hlow hatt hlo' hget hol hOs hpre
      cases r with
      | false =>
        have hbd := Lib.hid (hbad.out rfl)
        go_wp2_with fail
        refine (HR.out _).mono ?_
        rintro e w1 ⟨rfl, hb1⟩
        go_wp2
        go_ret2
        exact RowPost.nil hbd.out.1 Hm.out hbd.out.2 (hb.trans (hb1.mono hb.size))
      | true =>
        have hgd := Lib.hid (hgood.out rfl)
        clear hgood hbad
        go_wp2_with fail
        refine (HR.out _).mono ?_
        rintro e w1 ⟨rfl, hb1⟩
        have HC4 := Lib.hid (HC4.out.below hb1)
        have Hown := Lib.hid (Hown.out.kept (below_grows hb1) (Classical.em _))
        have hb01 := hb.trans (hb1.mono hb.size)
        clear hb1 HR hx0
        go_wp2
        go_loopw [6] (fun j wq => ∃ q : Nat, q ≤ lo ∧ j = .int .i64 q ∧ Below w1.heap.size w1 wq) (fun j _ => ol - (intOf j).toNat)
        case atStart => exact ⟨0, Nat.zero_le _, rfl, Below.refl _ _⟩
        case round =>
          obtain ⟨q, hq, rfl, hbq⟩ := hrel
          have hbw := hb01.trans (hbq.mono hb01.size)
          have hx1 := Hcx.out _ hbw
          by_cases hqo : q < ol
          · obtain ⟨y, hy, hyl, hyd⟩ := Hget.out q hqo
            obtain ⟨b4, off4, rfl, hcy⟩ := (HC4.out.below hbq).at (k := q) (x := strV y) (by simp [hy])
            rw [strV] at hcy
            have HX := fun W => refOrder_any y x W (by omega) (by omega)
            have hlt' : q < lo → ordN y x < 0 := fun h => by have := Hlow.out q h; rwa [hyd] at this
            have hge' : q = lo → 0 ≤ ordN y x := fun h => by have := Hatt.out (by omega); rwa [← h, hyd] at this
            obtain ⟨c, hcd⟩ : ∃ c, ordN y x = c := ⟨_, rfl⟩
            simp only [hcd] at HX
            rw [hcd] at hlt' hge'
            have HX := Lib.hid HX
            have hisq := Hisat.out q y hy
            clear hcd hy
            go_wp2
            by_cases hc0 : c < 0
            · have hqlo : q + 1 ≤ lo := by
                rcases Nat.lt_or_ge q lo with h | h
                · exact h
                · have := hge' (by omega); omega
              clear hlt' hge' hisq
              refine wp_region_held_drew (S := fun W => W.cell? ⟨b4, off4 + q, none⟩ = some (.string (bs y)) ∧ W.cell? ⟨b, off + k, none⟩ = some (.string (bs x))) (by kernel_rfl) ⟨hcy, hx1⟩ (fun hHeld => ?_)
              refine take_on (i := 0) (v := .int .i64 q) rfl (by kernel_rfl) (by kernel_rfl) (by kernel_rfl) (fun _ _ _ h => h) (by kernel_rfl) (fun W hSW => ?_) (by assumption) ?_
              · (try dsimp only at hSW)
                first | (go_simp; done) | exact rfl | (go_simp; rfl) | (go_simp; omega)
              try simp only [Act.put, List.setIfInBounds_toArray, List.set_cons_zero, List.set_cons_succ]
              refine take_on (i := 1) (v := .slice (some ⟨b4, off4, none⟩) ol c4) rfl (by kernel_rfl) (by kernel_rfl) (by kernel_rfl) (fun _ _ _ h => h) (by kernel_rfl) (fun W hSW => ?_) (by assumption) ?_
              · (try dsimp only at hSW)
                first | (go_simp; done) | exact rfl | (go_simp; rfl) | (go_simp; omega)
              try simp only [Act.put, List.setIfInBounds_toArray, List.set_cons_zero, List.set_cons_succ]
              refine take_on (i := 2) (v := .int .i64 ol) rfl (by kernel_rfl) (by kernel_rfl) (by kernel_rfl) (fun _ _ _ h => h) (by kernel_rfl) (fun W hSW => ?_) (by assumption) ?_
              · (try dsimp only at hSW)
                first | (go_simp; done) | exact rfl | (go_simp; rfl) | (go_simp; omega)
              try simp only [Act.put, List.setIfInBounds_toArray, List.set_cons_zero, List.set_cons_succ]
              refine take_on (i := 3) (v := .bool true) rfl (by kernel_rfl) (by kernel_rfl) (by kernel_rfl) (fun _ _ _ h => h) (by kernel_rfl) (fun W hSW => ?_) (by assumption) ?_
              · (try dsimp only at hSW)
                first | (go_simp; done) | exact rfl | (go_simp; rfl) | (go_simp; omega)
              try simp only [Act.put, List.setIfInBounds_toArray, List.set_cons_zero, List.set_cons_succ]
              refine take_on (i := 4) (v := .bool true) rfl (by kernel_rfl) (by kernel_rfl) (by kernel_rfl) (fun _ _ _ h => h) (by kernel_rfl) (fun W hSW => ?_) (by assumption) ?_
              · (try dsimp only at hSW)
                first | (go_simp; done) | exact rfl | (go_simp; rfl) | (go_simp; omega)
              try simp only [Act.put, List.setIfInBounds_toArray, List.set_cons_zero, List.set_cons_succ]
              refine take_on (i := 5) (v := .slice (some ⟨b4, off4, none⟩) ol c4) rfl (by kernel_rfl) (by kernel_rfl) (by kernel_rfl) (fun _ _ _ h => h) (by kernel_rfl) (fun W hSW => ?_) (by assumption) ?_
              · (try dsimp only at hSW)
                first | (go_simp; done) | exact rfl | (go_simp; rfl) | (go_simp; omega)
              try simp only [Act.put, List.setIfInBounds_toArray, List.set_cons_zero, List.set_cons_succ]
              refine take_on (i := 6) (v := .int .i64 q) rfl (by kernel_rfl) (by kernel_rfl) (by kernel_rfl) (fun _ _ _ h => h) (by kernel_rfl) (fun W hSW => ?_) (by assumption) ?_
              · (try dsimp only at hSW)
                first | (go_simp; done) | exact rfl | (go_simp; rfl) | (go_simp; omega)
              try simp only [Act.put, List.setIfInBounds_toArray, List.set_cons_zero, List.set_cons_succ]
              refine take_on (i := 7) (v := .pointer (some ⟨b4, off4 + q, none⟩)) rfl (by kernel_rfl) (by kernel_rfl) (by kernel_rfl) (fun _ _ _ h => h) (by kernel_rfl) (fun W hSW => ?_) (by assumption) ?_
              · (try dsimp only at hSW)
                first | (go_simp; done) | exact rfl | (go_simp; rfl) | (go_simp; omega)
              try simp only [Act.put, List.setIfInBounds_toArray, List.set_cons_zero, List.set_cons_succ]
              refine take_on (i := 8) (v := .string (bs y)) rfl (by kernel_rfl) (by kernel_rfl) (by kernel_rfl) (fun _ _ _ h => h) (by kernel_rfl) (fun W hSW => ?_) (by assumption) ?_
              · (try dsimp only at hSW)
                first | (go_simp; done) | exact rfl | (go_simp; rfl) | (go_simp; omega)
              try simp only [Act.put, List.setIfInBounds_toArray, List.set_cons_zero, List.set_cons_succ]
              refine take_on (i := 9) (v := .slice (some ⟨b, off, none⟩) n cap) rfl (by kernel_rfl) (by kernel_rfl) (by kernel_rfl) (fun _ _ _ h => h) (by kernel_rfl) (fun W hSW => ?_) (by assumption) ?_
              · (try dsimp only at hSW)
                first | (go_simp; done) | exact rfl | (go_simp; rfl) | (go_simp; omega)
              try simp only [Act.put, List.setIfInBounds_toArray, List.set_cons_zero, List.set_cons_succ]
              refine take_on (i := 10) (v := .int .i64 k) rfl (by kernel_rfl) (by kernel_rfl) (by kernel_rfl) (fun _ _ _ h => h) (by kernel_rfl) (fun W hSW => ?_) (by assumption) ?_
              · (try dsimp only at hSW)
                first | (go_simp; done) | exact rfl | (go_simp; rfl) | (go_simp; omega)
              try simp only [Act.put, List.setIfInBounds_toArray, List.set_cons_zero, List.set_cons_succ]
              refine take_on (i := 11) (v := .pointer (some ⟨b, off + k, none⟩)) rfl (by kernel_rfl) (by kernel_rfl) (by kernel_rfl) (fun _ _ _ h => h) (by kernel_rfl) (fun W hSW => ?_) (by assumption) ?_
              · (try dsimp only at hSW)
                first | (go_simp; done) | exact rfl | (go_simp; rfl) | (go_simp; omega)
              try simp only [Act.put, List.setIfInBounds_toArray, List.set_cons_zero, List.set_cons_succ]
              refine take_on (i := 12) (v := .string (bs x)) rfl (by kernel_rfl) (by kernel_rfl) (by kernel_rfl) (fun _ _ _ h => h) (by kernel_rfl) (fun W hSW => ?_) (by assumption) ?_
              · (try dsimp only at hSW)
                first | (go_simp; done) | exact rfl | (go_simp; rfl) | (go_simp; omega)
              try simp only [Act.put, List.setIfInBounds_toArray, List.set_cons_zero, List.set_cons_succ]
              refine take_call (i := 13) rfl (by kernel_rfl) (by kernel_rfl) (fun K hK => ?_)
              go_simp
              refine (HX.out _).mono ?_
              rintro e w2 ⟨rfl, hb2⟩
              go_wp2_with fail
              refine hK.out _ _ ⟨cell_later hb2 hHeld.1, cell_later hb2 hHeld.2⟩ (fun hHeld => ?_)
              clear hK K
              try simp only [Act.put, List.setIfInBounds_toArray, List.set_cons_zero, List.set_cons_succ]
              have hbq2 := hbq.drew.trans (hb2.mono hbq.size)
              refine take_on (i := 14) (v := .bool true) rfl (by kernel_rfl) (by kernel_rfl) (by kernel_rfl) (fun _ _ _ h => h) (by kernel_rfl) (fun W hSW => ?_) (by assumption) ?_
              · (try dsimp only at hSW)
                first | (go_simp; done) | exact rfl | (go_simp; rfl) | (go_simp; omega)
              try simp only [Act.put, List.setIfInBounds_toArray, List.set_cons_zero, List.set_cons_succ]
              refine take_on (i := 15) (v := .bool true) rfl (by kernel_rfl) (by kernel_rfl) (by kernel_rfl) (fun _ _ _ h => h) (by kernel_rfl) (fun W hSW => ?_) (by assumption) ?_
              · (try dsimp only at hSW)
                first | (go_simp; done) | exact rfl | (go_simp; rfl) | (go_simp; omega)
              try simp only [Act.put, List.setIfInBounds_toArray, List.set_cons_zero, List.set_cons_succ]
              refine wpAnyH_done (by kernel_rfl) ?_ _
              go_wp2
              refine ⟨?_, by simp [intOf]; omega⟩
              first
                | exact ⟨q + 1, hqlo, by go_num, hbq2⟩
                | ((repeat apply Exists.intro); refine ⟨?_, rfl⟩; exact ⟨q + 1, hqlo, by go_num, hbq2⟩)
            · have hqlo : q = lo := by
                rcases Nat.lt_or_ge q lo with h | h
                · have := hlt' h; omega
                · omega
              subst hqlo
              clear hlt' hge'
              refine wp_region_held_drew (S := fun W => W.cell? ⟨b4, off4 + q, none⟩ = some (.string (bs y)) ∧ W.cell? ⟨b, off + k, none⟩ = some (.string (bs x))) (by kernel_rfl) ⟨hcy, hx1⟩ (fun hHeld => ?_)
              refine take_on (i := 0) (v := .int .i64 q) rfl (by kernel_rfl) (by kernel_rfl) (by kernel_rfl) (fun _ _ _ h => h) (by kernel_rfl) (fun W hSW => ?_) (by assumption) ?_
              · (try dsimp only at hSW)
                first | (go_simp; done) | exact rfl | (go_simp; rfl) | (go_simp; omega)
              try simp only [Act.put, List.setIfInBounds_toArray, List.set_cons_zero, List.set_cons_succ]
              refine take_on (i := 1) (v := .slice (some ⟨b4, off4, none⟩) ol c4) rfl (by kernel_rfl) (by kernel_rfl) (by kernel_rfl) (fun _ _ _ h => h) (by kernel_rfl) (fun W hSW => ?_) (by assumption) ?_
              · (try dsimp only at hSW)
                first | (go_simp; done) | exact rfl | (go_simp; rfl) | (go_simp; omega)
              try simp only [Act.put, List.setIfInBounds_toArray, List.set_cons_zero, List.set_cons_succ]
              refine take_on (i := 2) (v := .int .i64 ol) rfl (by kernel_rfl) (by kernel_rfl) (by kernel_rfl) (fun _ _ _ h => h) (by kernel_rfl) (fun W hSW => ?_) (by assumption) ?_
              · (try dsimp only at hSW)
                first | (go_simp; done) | exact rfl | (go_simp; rfl) | (go_simp; omega)
              try simp only [Act.put, List.setIfInBounds_toArray, List.set_cons_zero, List.set_cons_succ]
              refine take_on (i := 3) (v := .bool true) rfl (by kernel_rfl) (by kernel_rfl) (by kernel_rfl) (fun _ _ _ h => h) (by kernel_rfl) (fun W hSW => ?_) (by assumption) ?_
              · (try dsimp only at hSW)
                first | (go_simp; done) | exact rfl | (go_simp; rfl) | (go_simp; omega)
              try simp only [Act.put, List.setIfInBounds_toArray, List.set_cons_zero, List.set_cons_succ]
              refine take_on (i := 4) (v := .bool true) rfl (by kernel_rfl) (by kernel_rfl) (by kernel_rfl) (fun _ _ _ h => h) (by kernel_rfl) (fun W hSW => ?_) (by assumption) ?_
              · (try dsimp only at hSW)
                first | (go_simp; done) | exact rfl | (go_simp; rfl) | (go_simp; omega)
              try simp only [Act.put, List.setIfInBounds_toArray, List.set_cons_zero, List.set_cons_succ]
              refine take_on (i := 5) (v := .slice (some ⟨b4, off4, none⟩) ol c4) rfl (by kernel_rfl) (by kernel_rfl) (by kernel_rfl) (fun _ _ _ h => h) (by kernel_rfl) (fun W hSW => ?_) (by assumption) ?_
              · (try dsimp only at hSW)
                first | (go_simp; done) | exact rfl | (go_simp; rfl) | (go_simp; omega)
              try simp only [Act.put, List.setIfInBounds_toArray, List.set_cons_zero, List.set_cons_succ]
              refine take_on (i := 6) (v := .int .i64 q) rfl (by kernel_rfl) (by kernel_rfl) (by kernel_rfl) (fun _ _ _ h => h) (by kernel_rfl) (fun W hSW => ?_) (by assumption) ?_
              · (try dsimp only at hSW)
                first | (go_simp; done) | exact rfl | (go_simp; rfl) | (go_simp; omega)
              try simp only [Act.put, List.setIfInBounds_toArray, List.set_cons_zero, List.set_cons_succ]
              refine take_on (i := 7) (v := .pointer (some ⟨b4, off4 + q, none⟩)) rfl (by kernel_rfl) (by kernel_rfl) (by kernel_rfl) (fun _ _ _ h => h) (by kernel_rfl) (fun W hSW => ?_) (by assumption) ?_
              · (try dsimp only at hSW)
                first | (go_simp; done) | exact rfl | (go_simp; rfl) | (go_simp; omega)
              try simp only [Act.put, List.setIfInBounds_toArray, List.set_cons_zero, List.set_cons_succ]
              refine take_on (i := 8) (v := .string (bs y)) rfl (by kernel_rfl) (by kernel_rfl) (by kernel_rfl) (fun _ _ _ h => h) (by kernel_rfl) (fun W hSW => ?_) (by assumption) ?_
              · (try dsimp only at hSW)
                first | (go_simp; done) | exact rfl | (go_simp; rfl) | (go_simp; omega)
              try simp only [Act.put, List.setIfInBounds_toArray, List.set_cons_zero, List.set_cons_succ]
              refine take_on (i := 9) (v := .slice (some ⟨b, off, none⟩) n cap) rfl (by kernel_rfl) (by kernel_rfl) (by kernel_rfl) (fun _ _ _ h => h) (by kernel_rfl) (fun W hSW => ?_) (by assumption) ?_
              · (try dsimp only at hSW)
                first | (go_simp; done) | exact rfl | (go_simp; rfl) | (go_simp; omega)
              try simp only [Act.put, List.setIfInBounds_toArray, List.set_cons_zero, List.set_cons_succ]
              refine take_on (i := 10) (v := .int .i64 k) rfl (by kernel_rfl) (by kernel_rfl) (by kernel_rfl) (fun _ _ _ h => h) (by kernel_rfl) (fun W hSW => ?_) (by assumption) ?_
              · (try dsimp only at hSW)
                first | (go_simp; done) | exact rfl | (go_simp; rfl) | (go_simp; omega)
              try simp only [Act.put, List.setIfInBounds_toArray, List.set_cons_zero, List.set_cons_succ]
              refine take_on (i := 11) (v := .pointer (some ⟨b, off + k, none⟩)) rfl (by kernel_rfl) (by kernel_rfl) (by kernel_rfl) (fun _ _ _ h => h) (by kernel_rfl) (fun W hSW => ?_) (by assumption) ?_
              · (try dsimp only at hSW)
                first | (go_simp; done) | exact rfl | (go_simp; rfl) | (go_simp; omega)
              try simp only [Act.put, List.setIfInBounds_toArray, List.set_cons_zero, List.set_cons_succ]
              refine take_on (i := 12) (v := .string (bs x)) rfl (by kernel_rfl) (by kernel_rfl) (by kernel_rfl) (fun _ _ _ h => h) (by kernel_rfl) (fun W hSW => ?_) (by assumption) ?_
              · (try dsimp only at hSW)
                first | (go_simp; done) | exact rfl | (go_simp; rfl) | (go_simp; omega)
              try simp only [Act.put, List.setIfInBounds_toArray, List.set_cons_zero, List.set_cons_succ]
              refine take_call (i := 13) rfl (by kernel_rfl) (by kernel_rfl) (fun K hK => ?_)
              go_simp
              refine (HX.out _).mono ?_
              rintro e w2 ⟨rfl, hb2⟩
              go_wp2_with fail
              refine hK.out _ _ ⟨cell_later hb2 hHeld.1, cell_later hb2 hHeld.2⟩ (fun hHeld => ?_)
              clear hK K
              try simp only [Act.put, List.setIfInBounds_toArray, List.set_cons_zero, List.set_cons_succ]
              have hbq2 := hbq.drew.trans (hb2.mono hbq.size)
              refine take_on (i := 14) (v := .bool false) rfl (by kernel_rfl) (by kernel_rfl) (by kernel_rfl) (fun _ _ _ h => h) (by kernel_rfl) (fun W hSW => ?_) (by assumption) ?_
              · (try dsimp only at hSW)
                first | (go_simp; done) | exact rfl | (go_simp; rfl) | (go_simp; omega)
              try simp only [Act.put, List.setIfInBounds_toArray, List.set_cons_zero, List.set_cons_succ]
              refine take_on (i := 15) (v := .bool false) rfl (by kernel_rfl) (by kernel_rfl) (by kernel_rfl) (fun _ _ _ h => h) (by kernel_rfl) (fun W hSW => ?_) (by assumption) ?_
              · (try dsimp only at hSW)
                first | (go_simp; done) | exact rfl | (go_simp; rfl) | (go_simp; omega)
              try simp only [Act.put, List.setIfInBounds_toArray, List.set_cons_zero, List.set_cons_succ]
              refine wpAnyH_done (by kernel_rfl) ?_ _
              have hbe := hb01.trans (hbq2.mono hb01.size)
              have hc4e := HC4.out.below hbq2
              have hcye := hHeld.1
              have hcxe := hHeld.2
              have g1 : ((q : Int) == (ol : Int)) = false := by simp; omega
              have d1 : ((bs y).toList == (bs x).toList) = decide (y = x) := by rw [toList_eq, toList_eq, toList_bs, toList_bs, Bool.eq_iff_iff]; simp
              have d2 : ((bs y).toList != (bs x).toList) = !decide (y = x) := by rw [bne, d1]
              by_cases hyx : y = x
              · have hist : Hid (insB x O = O) := Hthere.out (by rw [hisq, decide_eq_true hyx])
                rw [decide_eq_true hyx] at d1 d2
                have hnx : Hid ((xs.take (k + 1)).all rightB = true ∧ SortedL (ofK xs (k + 1))) := ⟨hgd.out, by rw [hsucc.out]; exact hsort2.out⟩
                have hrowN : Hid (w2.ownsRow w.heap.size 9 1 (.slice (some ⟨b4, off4, none⟩) ol c4) (ofK xs (k + 1)).length ((ofK xs (k + 1)).map strV)) := by
                  unfold Hid
                  rw [hsucc.out, hist.out, Hol.out]
                  exact Hown.out.kept (below_grows hbq2) (Classical.em _)
                have hbN := hbe
                clear hyx hisq hist
                go_wp2
                go_quiet (fail)
                go_wp2
                refine ⟨?_, by simp [intOf]; omega⟩
                first
                  | exact ⟨k + 1, by omega, by go_num, hnx.out, hrowN.out, by first | exact hbN | exact ⟨hbN.os, hbN.tape, hbN.output, hbN.size, hbN.block⟩⟩
                  | ((repeat apply Exists.intro); refine ⟨?_, rfl⟩; exact ⟨k + 1, by omega, by go_num, hnx.out, hrowN.out, by first | exact hbN | exact ⟨hbN.os, hbN.tape, hbN.output, hbN.size, hbN.block⟩⟩)
              · have hisf : isAt O x q = false := by rw [hisq, decide_eq_false hyx]
                rw [decide_eq_false hyx] at d1 d2
                clear hyx hisq
                go_wp2
                go_quiet (fail)
                go_wp2_with fail
                refine Calls.mono (HPut.out _ (by exact fun j u h => hc4e j u h)) ?_
                rintro e w4 ⟨v4, rfl, hrow4, hb4⟩
                have hbN : Below w.heap.size w w4 := ⟨hb4.os.trans hbe.os, hb4.tape.trans hbe.tape, hb4.output.trans hbe.output, Nat.le_trans hbe.size hb4.size, fun k hk => (hb4.block k (Nat.lt_of_lt_of_le hk hbe.size)).trans (hbe.block k hk)⟩
                have hie : Hid (insB x O = insL O q x) := Hnone.out hisf
                have hnx : Hid ((xs.take (k + 1)).all rightB = true ∧ SortedL (ofK xs (k + 1))) := ⟨hgd.out, by rw [hsucc.out]; exact hsort2.out⟩
                obtain ⟨A5, c5, rfl, _⟩ := ownsRow_cells hrow4
                have hrowN : Hid (w4.ownsRow w.heap.size 9 1 (.slice A5 (ol + 1) c5) (ofK xs (k + 1)).length ((ofK xs (k + 1)).map strV)) := by
                  unfold Hid
                  rw [hsucc.out, hie.out, insL_len, Hol.out]
                  exact own_le hrow4 hbe.size
                clear hrow4 hb4
                go_wp2
                refine ⟨?_, by simp [intOf]; omega⟩
                first
                  | exact ⟨k + 1, by omega, by go_num, hnx.out, hrowN.out, by first | exact hbN | exact ⟨hbN.os, hbN.tape, hbN.output, hbN.size, hbN.block⟩⟩
                  | ((repeat apply Exists.intro); refine ⟨?_, rfl⟩; exact ⟨k + 1, by omega, by go_num, hnx.out, hrowN.out, by first | exact hbN | exact ⟨hbN.os, hbN.tape, hbN.output, hbN.size, hbN.block⟩⟩)
          · have hqlo : q = lo := by omega
            subst hqlo
            have hqe : q = ol := by omega
            have hisf : isAt O x q = false := by rw [isAt, List.getElem?_eq_none (by rw [Hol.out]; omega)]; rfl
            go_wp2
            refine wp_region_held_drew (S := fun _ => True) (by kernel_rfl) trivial (fun hHeld => ?_)
            refine take_on (i := 0) (v := .int .i64 q) rfl (by kernel_rfl) (by kernel_rfl) (by kernel_rfl) (fun _ _ _ h => h) (by kernel_rfl) (fun W hSW => ?_) trivial ?_
            · first | (go_simp; done) | exact rfl | (go_simp; rfl) | (go_simp; omega)
            try simp only [Act.put, List.setIfInBounds_toArray, List.set_cons_zero, List.set_cons_succ]
            refine take_on (i := 1) (v := .slice A4 ol c4) rfl (by kernel_rfl) (by kernel_rfl) (by kernel_rfl) (fun _ _ _ h => h) (by kernel_rfl) (fun W hSW => ?_) trivial ?_
            · first | (go_simp; done) | exact rfl | (go_simp; rfl) | (go_simp; omega)
            try simp only [Act.put, List.setIfInBounds_toArray, List.set_cons_zero, List.set_cons_succ]
            refine take_on (i := 2) (v := .int .i64 ol) rfl (by kernel_rfl) (by kernel_rfl) (by kernel_rfl) (fun _ _ _ h => h) (by kernel_rfl) (fun W hSW => ?_) trivial ?_
            · first | (go_simp; done) | exact rfl | (go_simp; rfl) | (go_simp; omega)
            try simp only [Act.put, List.setIfInBounds_toArray, List.set_cons_zero, List.set_cons_succ]
            refine take_on (i := 3) (v := .bool false) rfl (by kernel_rfl) (by kernel_rfl) (by kernel_rfl) (fun _ _ _ h => h) (by kernel_rfl) (fun W hSW => ?_) trivial ?_
            · first | (go_simp; done) | exact rfl | (go_simp; rfl) | (go_simp; omega)
            try simp only [Act.put, List.setIfInBounds_toArray, List.set_cons_zero, List.set_cons_succ]
            refine take_on (i := 4) (v := .bool false) rfl (by kernel_rfl) (by kernel_rfl) (by kernel_rfl) (fun _ _ _ h => h) (by kernel_rfl) (fun W hSW => ?_) trivial ?_
            · first | (go_simp; done) | exact rfl | (go_simp; rfl) | (go_simp; omega)
            try simp only [Act.put, List.setIfInBounds_toArray, List.set_cons_zero, List.set_cons_succ]
            refine take_off (i := 5) rfl (by kernel_rfl) (by kernel_rfl) (by kernel_rfl) (fun _ _ _ h => h) (by kernel_rfl) trivial ?_
            try simp only [Act.put, List.setIfInBounds_toArray, List.set_cons_zero, List.set_cons_succ]
            refine take_off (i := 6) rfl (by kernel_rfl) (by kernel_rfl) (by kernel_rfl) (fun _ _ _ h => h) (by kernel_rfl) trivial ?_
            try simp only [Act.put, List.setIfInBounds_toArray, List.set_cons_zero, List.set_cons_succ]
            refine take_off (i := 7) rfl (by kernel_rfl) (by kernel_rfl) (by kernel_rfl) (fun _ _ _ h => h) (by kernel_rfl) trivial ?_
            try simp only [Act.put, List.setIfInBounds_toArray, List.set_cons_zero, List.set_cons_succ]
            refine take_off (i := 8) rfl (by kernel_rfl) (by kernel_rfl) (by kernel_rfl) (fun _ _ _ h => h) (by kernel_rfl) trivial ?_
            try simp only [Act.put, List.setIfInBounds_toArray, List.set_cons_zero, List.set_cons_succ]
            refine take_off (i := 9) rfl (by kernel_rfl) (by kernel_rfl) (by kernel_rfl) (fun _ _ _ h => h) (by kernel_rfl) trivial ?_
            try simp only [Act.put, List.setIfInBounds_toArray, List.set_cons_zero, List.set_cons_succ]
            refine take_off (i := 10) rfl (by kernel_rfl) (by kernel_rfl) (by kernel_rfl) (fun _ _ _ h => h) (by kernel_rfl) trivial ?_
            try simp only [Act.put, List.setIfInBounds_toArray, List.set_cons_zero, List.set_cons_succ]
            refine take_off (i := 11) rfl (by kernel_rfl) (by kernel_rfl) (by kernel_rfl) (fun _ _ _ h => h) (by kernel_rfl) trivial ?_
            try simp only [Act.put, List.setIfInBounds_toArray, List.set_cons_zero, List.set_cons_succ]
            refine take_off (i := 12) rfl (by kernel_rfl) (by kernel_rfl) (by kernel_rfl) (fun _ _ _ h => h) (by kernel_rfl) trivial ?_
            try simp only [Act.put, List.setIfInBounds_toArray, List.set_cons_zero, List.set_cons_succ]
            refine take_off (i := 13) rfl (by kernel_rfl) (by kernel_rfl) (by kernel_rfl) (fun _ _ _ h => h) (by kernel_rfl) trivial ?_
            try simp only [Act.put, List.setIfInBounds_toArray, List.set_cons_zero, List.set_cons_succ]
            refine take_off (i := 14) rfl (by kernel_rfl) (by kernel_rfl) (by kernel_rfl) (fun _ _ _ h => h) (by kernel_rfl) trivial ?_
            try simp only [Act.put, List.setIfInBounds_toArray, List.set_cons_zero, List.set_cons_succ]
            refine take_on (i := 15) (v := .bool false) rfl (by kernel_rfl) (by kernel_rfl) (by kernel_rfl) (fun _ _ _ h => h) (by kernel_rfl) (fun W hSW => ?_) trivial ?_
            · first | (go_simp; done) | exact rfl | (go_simp; rfl) | (go_simp; omega)
            try simp only [Act.put, List.setIfInBounds_toArray, List.set_cons_zero, List.set_cons_succ]
            refine wpAnyH_done (by kernel_rfl) ?_ _
            have hbq2 : Below w1.heap.size w1 wr.drew := hbq.drew
            have hbe := hb01.trans (hbq2.mono hb01.size)
            have hc4e := HC4.out.below hbq2
            have g1 : ((q : Int) == (ol : Int)) = true := by simp; omega
            clear hqe
            go_wp2
            go_quiet (fail)
            go_wp2_with fail
            refine Calls.mono (HPut.out _ (by exact fun j u h => hc4e j u h)) ?_
            rintro e w4 ⟨v4, rfl, hrow4, hb4⟩
            have hbN : Below w.heap.size w w4 := ⟨hb4.os.trans hbe.os, hb4.tape.trans hbe.tape, hb4.output.trans hbe.output, Nat.le_trans hbe.size hb4.size, fun k hk => (hb4.block k (Nat.lt_of_lt_of_le hk hbe.size)).trans (hbe.block k hk)⟩
            have hie : Hid (insB x O = insL O q x) := Hnone.out hisf
            have hnx : Hid ((xs.take (k + 1)).all rightB = true ∧ SortedL (ofK xs (k + 1))) := ⟨hgd.out, by rw [hsucc.out]; exact hsort2.out⟩
            obtain ⟨A5, c5, rfl, _⟩ := ownsRow_cells hrow4
            have hrowN : Hid (w4.ownsRow w.heap.size 9 1 (.slice A5 (ol + 1) c5) (ofK xs (k + 1)).length ((ofK xs (k + 1)).map strV)) := by
              unfold Hid
              rw [hsucc.out, hie.out, insL_len, Hol.out]
              exact own_le hrow4 hbe.size
            clear hrow4 hb4
            go_wp2
            refine ⟨?_, by simp [intOf]; omega⟩
            first
              | exact ⟨k + 1, by omega, by go_num, hnx.out, hrowN.out, by first | exact hbN | exact ⟨hbN.os, hbN.tape, hbN.output, hbN.size, hbN.block⟩⟩
              | ((repeat apply Exists.intro); refine ⟨?_, rfl⟩; exact ⟨k + 1, by omega, by go_num, hnx.out, hrowN.out, by first | exact hbN | exact ⟨hbN.os, hbN.tape, hbN.output, hbN.size, hbN.block⟩⟩)
    · have hkn : k = n := by omega
      subst hkn
      have hall : Hid (allR xs = true) := by
        have := hpre.out.1
        rwa [List.take_of_length_le (by rw [Hn.out]; omega)] at this
      have hfull : ofK xs k = ofB xs := by unfold ofK; rw [List.take_of_length_le (by rw [Hn.out]; omega)]
      rw [hfull] at hown
      clear hfull hpre
      obtain ⟨M, hM⟩ : ∃ M, ofB xs = M := ⟨_, rfl⟩
      rw [hM] at hown
      obtain ⟨q, hq⟩ : ∃ q, M.length = q := ⟨_, rfl⟩
      rw [hq] at hown
      have HM := Lib.hid hM
      have Hq := Lib.hid hq
      have Hrow := Lib.hid hown
      obtain ⟨A, cap', rfl, _⟩ := ownsRow_cells hown
      clear hown hM hq
      by_cases h256 : q ≤ 256
      · have g1 : ¬ (256 : Int) < (q : Int) := by omega
        have hres : Hid (M = L ∧ 0 = E) := by
          refine ⟨?_, ?_⟩
          · rw [← HL.out, ofL, hall.out, HM.out, Hq.out, decide_eq_true h256]; rfl
          · rw [← HE.out, ofE, hall.out, HM.out, Hq.out, if_pos h256]; rfl
        go_wp2
        go_ret2
        exact RowPost.row hres.out.1 (by rw [← Hm.out, ← hres.out.1]; exact Hq.out.symm) hres.out.2 Hrow.out hb
      · have g1 : (256 : Int) < (q : Int) := by omega
        have hres : Hid ([] = L ∧ 5 = E) := by
          refine ⟨?_, ?_⟩
          · rw [← HL.out, ofL, hall.out, HM.out, Hq.out, decide_eq_false h256]; rfl
          · rw [← HE.out, ofE, hall.out, HM.out, Hq.out, if_neg h256]; rfl
        go_wp2
        go_ret2
        exact RowPost.nil hres.out.1 Hm.out hres.out.2 hb
end Go.Proofs.Ytnanleopoedgfaa
