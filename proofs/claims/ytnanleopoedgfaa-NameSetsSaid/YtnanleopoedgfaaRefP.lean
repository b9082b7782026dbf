/-
  The reference: put, a list with a name more at an index.
-/
import Derived.Test.YtnanleopoedgfaaRefS
import Derived.Test.YtnanleopoedgfaaIns
import Derived.Test.YtnanleopoedgfaaKit
set_option linter.unusedSimpArgs false
set_option linter.unusedVariables false
namespace Go.Proofs.Ytnanleopoedgfaa
open Go.RowKit Go.Lib
attribute [local go_sem ↓] Go.wp_at_zero Go.wp_at_succ

theorem box_cells {w : World} {b : Nat} {x : Value} (h : Box w b x) : ∀ j u, [x][j]? = some u → w.cell? ((⟨b, 0, none⟩ : Addr).add j) = some u := fun j u hj => by
  match j, hj with
  | 0, hj =>
    simp only [List.getElem?_cons_zero, Option.some.injEq] at hj
    subst hj
    rw [Addr.add_lit]; exact h.cell
set_option maxRecDepth 100000 in
set_option maxHeartbeats 4000000 in
theorem put_any (a : Option Addr) (n cap i : Nat) (xs : List Bs) (s : Bs) (w : World) (hn : xs.length = n) (hm : n ≤ 100000) (hcap : n ≤ cap) (hcm : cap ≤ maxLen) (hi' : i ≤ n) (ha : a = none → n = 0) (hc : Cells w a (xs.map strV)) :
    Calls Try.prog 74 #[.slice a n cap, .int .i64 i, .string (bs s)] w fun e w' => ∃ v, e = .returned v ∧ w'.ownsRow w.heap.size 9 1 v (n + 1) ((insL xs i s).map strV) ∧ Below w.heap.size w w' := by
  obtain ⟨i0, hi, hz0, hz1, hz2⟩ := info_parts info_str
  unfold maxLen at hcm
  have q1 : (0 : Int) ≤ (i : Int) := by omega
  have q2 : (i : Int) ≤ (n : Int) := by omega
  have q3 : (i : Int) ≤ (cap : Int) := by omega
  have q4 : (n : Int) ≤ (cap : Int) := by omega
  cases a with
  | none =>
    have h0 := ha rfl
    obtain rfl : xs = [] := List.length_eq_zero_iff.1 (by rw [hn]; exact h0)
    have hcd : Cells w none ((([] : List Bs).map strV).drop 0) := fun j u hj => by simp at hj
    have hct : Cells w none ((([] : List Bs).map strV).take 0) := fun j u hj => by simp at hj
    subst h0
    obtain rfl : i = 0 := by omega
    go_enter Try.func74, Try.ntmps74
    go_wp2
    refine wp_region_held_drew (S := fun _ => True) (by kernel_rfl) trivial (fun hHeld => ?_)
    refine take_on (i := 1) (v := .slice none 0 cap) rfl (by kernel_rfl) (by kernel_rfl) (by kernel_rfl) (fun _ _ _ h => h) (by kernel_rfl) (fun W hSW => ?_) trivial ?_
    · first | (go_simp; done) | exact rfl | (go_simp; rfl) | (go_simp; omega)
    try simp only [Act.put, List.setIfInBounds_toArray, List.set_cons_zero, List.set_cons_succ]
    refine take_on (i := 2) (v := .int .i64 0) rfl (by kernel_rfl) (by kernel_rfl) (by kernel_rfl) (fun _ _ _ h => h) (by kernel_rfl) (fun W hSW => ?_) trivial ?_
    · first | (go_simp; done) | exact rfl | (go_simp; rfl) | (go_simp; omega)
    try simp only [Act.put, List.setIfInBounds_toArray, List.set_cons_zero, List.set_cons_succ]
    refine take_on (i := 3) (v := .slice none 0 cap) rfl (by kernel_rfl) (by kernel_rfl) (by kernel_rfl) (fun _ _ _ h => h) (by kernel_rfl) (fun W hSW => ?_) trivial ?_
    · first | (go_simp; done) | exact rfl | (go_simp; rfl) | (go_simp; omega)
    try simp only [Act.put, List.setIfInBounds_toArray, List.set_cons_zero, List.set_cons_succ]
    refine take_on (i := 5) (v := .string (bs s)) rfl (by kernel_rfl) (by kernel_rfl) (by kernel_rfl) (fun _ _ _ h => h) (by kernel_rfl) (fun W hSW => ?_) trivial ?_
    · first | (go_simp; done) | exact rfl | (go_simp; rfl) | (go_simp; omega)
    try simp only [Act.put, List.setIfInBounds_toArray, List.set_cons_zero, List.set_cons_succ]
    refine take_on (i := 8) (v := .slice none 0 cap) rfl (by kernel_rfl) (by kernel_rfl) (by kernel_rfl) (fun _ _ _ h => h) (by kernel_rfl) (fun W hSW => ?_) trivial ?_
    · first | (go_simp; done) | exact rfl | (go_simp; rfl) | (go_simp; omega)
    try simp only [Act.put, List.setIfInBounds_toArray, List.set_cons_zero, List.set_cons_succ]
    refine take_on (i := 9) (v := .int .i64 0) rfl (by kernel_rfl) (by kernel_rfl) (by kernel_rfl) (fun _ _ _ h => h) (by kernel_rfl) (fun W hSW => ?_) trivial ?_
    · first | (go_simp; done) | exact rfl | (go_simp; rfl) | (go_simp; omega)
    try simp only [Act.put, List.setIfInBounds_toArray, List.set_cons_zero, List.set_cons_succ]
    refine take_on (i := 10) (v := .slice none (0 - 0) cap) rfl (by kernel_rfl) (by kernel_rfl) (by kernel_rfl) (fun _ _ _ h => h) (by kernel_rfl) (fun W hSW => ?_) trivial ?_
    · first | (go_simp; done) | exact rfl | (go_simp; rfl) | (go_simp; omega)
    try simp only [Act.put, List.setIfInBounds_toArray, List.set_cons_zero, List.set_cons_succ]
    have hb0 : Below w.heap.size w w.drew := (Below.refl _ _).drew
    refine wpAnyH_ready (rs := [0, 6]) (by kernel_rfl) (by simp) (AllReadyH.cons (op_at rfl) (fun K hK => ?_) (AllReadyH.cons (op_at rfl) (fun K hK => ?_) AllReadyH.nil))
    · rw [if_pos (by kernel_rfl)]
      go_simp
      refine hK.out _ _ trivial (fun _ => ?_)
      clear hK K
      try simp only [Act.put, List.setIfInBounds_toArray, List.set_cons_zero, List.set_cons_succ]
      have hrow0 := World.ownsRow_lit (base := w.heap.size) (e := 9) (size := 1) w.drew #[] 0 (Nat.le_refl _) (by unfold maxLen; omega) rfl
      have hb1 : Below w.heap.size w (w.drew.alloc (.cells #[] 9)) := hb0.alloc (Nat.le_refl _) _
      refine wpAnyH_ready (rs := [4, 6]) (by kernel_rfl) (by simp) (AllReadyH.cons (op_at rfl) (fun K hK => ?_) (AllReadyH.cons (op_at rfl) (fun K hK => ?_) AllReadyH.nil))
      · rw [if_pos (by kernel_rfl)]
        refine wp_append_src _ _ 22 rfl w.heap.size 9 i0 (.string ⟨#[]⟩) 16 Try.underlying22 hi hz0 hz1 hz2 rfl (.slice (some ⟨w.heap.size, 0, none⟩) 0 0) 0 [] rfl hrow0 none 0 cap ((([] : List Bs).map strV).take 0) rfl (by simp) (hct.below hb1) (fun u hu => one_strV [] u (List.mem_of_mem_take hu)) (by unfold maxLen; omega) (by omega) (hb1).size ?_
        intro v1 V hown1 hgrow1
        have hbV : Below w.heap.size w V := (hb1).grown hgrow1 (hb1).size (fun j hj => by cases hj; exact Nat.le_refl _)
        refine hK.out _ _ trivial (fun _ => ?_)
        clear hK K
        try simp only [Act.put, List.setIfInBounds_toArray, List.set_cons_zero, List.set_cons_succ]
        refine take_call (i := 6) rfl (by kernel_rfl) (by kernel_rfl) (fun K hK => ?_)
        go_simp
        refine hK.out _ _ trivial (fun _ => ?_)
        clear hK K
        try simp only [Act.put, List.setIfInBounds_toArray, List.set_cons_zero, List.set_cons_succ]
        have hbL := hbV.alloc hbV.size (.cells #[.string (bs s)] 9)
        refine take_call (i := 7) rfl (by kernel_rfl) (by kernel_rfl) (fun K hK => ?_)
        refine wp_append_own _ _ _ 22 rfl w.heap.size 9 i0 (.string ⟨#[]⟩) 1 16 Try.underlying22 hi hz0 hz1 hz2 rfl (by decide) v1 (0 + 0) _ rfl (hown1.alloc _) ⟨V.heap.size, 0, none⟩ 1 1 [.string (bs s)] rfl rfl (fun j u hj => box_cells (Box.new V _ _) j u hj) (by simp [Value.oneCell']) (by unfold maxLen; omega) (by omega) (hbL).size ?_
        intro v2 V2 hown2 hgrow2 _
        have hbV2 : Below w.heap.size w V2 := (hbL).grown hgrow2 (hbL).size (fun j hj => (hown1.lt j hj).1)
        refine hK.out _ _ trivial (fun _ => ?_)
        clear hK K
        try simp only [Act.put, List.setIfInBounds_toArray, List.set_cons_zero, List.set_cons_succ]
        refine take_call (i := 11) rfl (by kernel_rfl) (by kernel_rfl) (fun K hK => ?_)
        refine wp_append_src _ _ 22 rfl w.heap.size 9 i0 (.string ⟨#[]⟩) 16 Try.underlying22 hi hz0 hz1 hz2 rfl v2 (0 + 0 + 1) _ rfl hown2 none (0 - 0) cap ((([] : List Bs).map strV).drop 0) rfl (by simp) (hcd.below hbV2) (fun u hu => one_strV [] u (List.mem_of_mem_drop hu)) (by unfold maxLen; omega) (by omega) hbV2.size ?_
        intro v3 V3 hown3 hgrow3
        have hb3 : Below w.heap.size w V3 := hbV2.grown hgrow3 hbV2.size (fun j hj => (hown2.lt j hj).1)
        refine hK.out _ _ trivial (fun _ => ?_)
        clear hK K
        try simp only [Act.put, List.setIfInBounds_toArray, List.set_cons_zero, List.set_cons_succ]
        refine take_on (i := 12) (v := v3) rfl (by kernel_rfl) (by kernel_rfl) (by kernel_rfl) (fun _ _ _ h => h) (by kernel_rfl) (fun W hSW => ?_) trivial ?_
        · first | (go_simp; done) | exact rfl | (go_simp; rfl) | (go_simp; omega)
        try simp only [Act.put, List.setIfInBounds_toArray, List.set_cons_zero, List.set_cons_succ]
        refine wpAnyH_done (by kernel_rfl) ?_ _
        have hfin : V3.ownsRow w.heap.size 9 1 v3 (0 + 1) ((insL [] 0 s).map strV) := by
          rw [insL_map, show 0 + 1 = 0 + 0 + 1 + (0 - 0) by omega, show strV s = .string (bs s) from rfl]
          simpa using hown3
        go_wp2
        go_ret
        exact ⟨_, rfl, hfin, hb3⟩
      · rw [if_pos (by kernel_rfl)]
        go_simp
        refine hK.out _ _ trivial (fun _ => ?_)
        clear hK K
        try simp only [Act.put, List.setIfInBounds_toArray, List.set_cons_zero, List.set_cons_succ]
        have hb2 : Below w.heap.size w ((w.drew.alloc (.cells #[] 9)).alloc (.cells #[.string (bs s)] 9)) := hb1.alloc hb1.size _
        have hbox : Box ((w.drew.alloc (.cells #[] 9)).alloc (.cells #[.string (bs s)] 9)) (w.heap.size + 1) (.string (bs s)) := by
          have := Box.new (w.drew.alloc (.cells #[] 9)) (.string (bs s)) 9
          simpa using this
        refine take_call (i := 4) rfl (by kernel_rfl) (by kernel_rfl) (fun K hK => ?_)
        refine wp_append_src _ _ 22 rfl w.heap.size 9 i0 (.string ⟨#[]⟩) 16 Try.underlying22 hi hz0 hz1 hz2 rfl (.slice (some ⟨w.heap.size, 0, none⟩) 0 0) 0 [] rfl (hrow0.alloc _) none 0 cap ((([] : List Bs).map strV).take 0) rfl (by simp) (hct.below hb2) (fun u hu => one_strV [] u (List.mem_of_mem_take hu)) (by unfold maxLen; omega) (by omega) (hb2).size ?_
        intro v1 V hown1 hgrow1
        have hbV : Below w.heap.size w V := (hb2).grown hgrow1 (hb2).size (fun j hj => by cases hj; exact Nat.le_refl _)
        refine hK.out _ _ trivial (fun _ => ?_)
        clear hK K
        try simp only [Act.put, List.setIfInBounds_toArray, List.set_cons_zero, List.set_cons_succ]
        have hbox1 := hbox.of_block (hgrow1.block _ hbox.lt (fun e => by have := Option.some.inj e; simp at this))
        refine take_call (i := 7) rfl (by kernel_rfl) (by kernel_rfl) (fun K hK => ?_)
        refine wp_append_own _ _ _ 22 rfl w.heap.size 9 i0 (.string ⟨#[]⟩) 1 16 Try.underlying22 hi hz0 hz1 hz2 rfl (by decide) v1 (0 + 0) _ rfl hown1 ⟨w.heap.size + 1, 0, none⟩ 1 1 [.string (bs s)] rfl rfl (fun j u hj => box_cells hbox1 j u hj) (by simp [Value.oneCell']) (by unfold maxLen; omega) (by omega) (hbV).size ?_
        intro v2 V2 hown2 hgrow2 _
        have hbV2 : Below w.heap.size w V2 := (hbV).grown hgrow2 (hbV).size (fun j hj => (hown1.lt j hj).1)
        refine hK.out _ _ trivial (fun _ => ?_)
        clear hK K
        try simp only [Act.put, List.setIfInBounds_toArray, List.set_cons_zero, List.set_cons_succ]
        refine take_call (i := 11) rfl (by kernel_rfl) (by kernel_rfl) (fun K hK => ?_)
        refine wp_append_src _ _ 22 rfl w.heap.size 9 i0 (.string ⟨#[]⟩) 16 Try.underlying22 hi hz0 hz1 hz2 rfl v2 (0 + 0 + 1) _ rfl hown2 none (0 - 0) cap ((([] : List Bs).map strV).drop 0) rfl (by simp) (hcd.below hbV2) (fun u hu => one_strV [] u (List.mem_of_mem_drop hu)) (by unfold maxLen; omega) (by omega) hbV2.size ?_
        intro v3 V3 hown3 hgrow3
        have hb3 : Below w.heap.size w V3 := hbV2.grown hgrow3 hbV2.size (fun j hj => (hown2.lt j hj).1)
        refine hK.out _ _ trivial (fun _ => ?_)
        clear hK K
        try simp only [Act.put, List.setIfInBounds_toArray, List.set_cons_zero, List.set_cons_succ]
        refine take_on (i := 12) (v := v3) rfl (by kernel_rfl) (by kernel_rfl) (by kernel_rfl) (fun _ _ _ h => h) (by kernel_rfl) (fun W hSW => ?_) trivial ?_
        · first | (go_simp; done) | exact rfl | (go_simp; rfl) | (go_simp; omega)
        try simp only [Act.put, List.setIfInBounds_toArray, List.set_cons_zero, List.set_cons_succ]
        refine wpAnyH_done (by kernel_rfl) ?_ _
        have hfin : V3.ownsRow w.heap.size 9 1 v3 (0 + 1) ((insL [] 0 s).map strV) := by
          rw [insL_map, show 0 + 1 = 0 + 0 + 1 + (0 - 0) by omega, show strV s = .string (bs s) from rfl]
          simpa using hown3
        go_wp2
        go_ret
        exact ⟨_, rfl, hfin, hb3⟩
    · rw [if_pos (by kernel_rfl)]
      go_simp
      refine hK.out _ _ trivial (fun _ => ?_)
      clear hK K
      try simp only [Act.put, List.setIfInBounds_toArray, List.set_cons_zero, List.set_cons_succ]
      have hbox := Box.new w.drew (.string (bs s)) 9
      have hb1 : Below w.heap.size w (w.drew.alloc (.cells #[.string (bs s)] 9)) := hb0.alloc (Nat.le_refl _) _
      refine take_call (i := 0) rfl (by kernel_rfl) (by kernel_rfl) (fun K hK => ?_)
      go_simp
      refine hK.out _ _ trivial (fun _ => ?_)
      clear hK K
      try simp only [Act.put, List.setIfInBounds_toArray, List.set_cons_zero, List.set_cons_succ]
      have hrow0 : ((w.drew.alloc (.cells #[.string (bs s)] 9)).alloc (.cells #[] 9)).ownsRow w.heap.size 9 1 (.slice (some ⟨w.heap.size + 1, 0, none⟩) 0 0) 0 [] := by
        have := World.ownsRow_lit (base := w.heap.size) (e := 9) (size := 1) (w.drew.alloc (.cells #[.string (bs s)] 9)) #[] 0 hb1.size (by unfold maxLen; omega) rfl
        simpa using this
      have hb2 : Below w.heap.size w ((w.drew.alloc (.cells #[.string (bs s)] 9)).alloc (.cells #[] 9)) := hb1.alloc hb1.size _
      have hbox0 := hbox.alloc (.cells #[] 9)
      refine take_call (i := 4) rfl (by kernel_rfl) (by kernel_rfl) (fun K hK => ?_)
      refine wp_append_src _ _ 22 rfl w.heap.size 9 i0 (.string ⟨#[]⟩) 16 Try.underlying22 hi hz0 hz1 hz2 rfl (.slice (some ⟨w.heap.size + 1, 0, none⟩) 0 0) 0 [] rfl hrow0 none 0 cap ((([] : List Bs).map strV).take 0) rfl (by simp) (hct.below hb2) (fun u hu => one_strV [] u (List.mem_of_mem_take hu)) (by unfold maxLen; omega) (by omega) (hb2).size ?_
      intro v1 V hown1 hgrow1
      have hbV : Below w.heap.size w V := (hb2).grown hgrow1 (hb2).size (fun j hj => by cases hj; exact Nat.le_succ _)
      refine hK.out _ _ trivial (fun _ => ?_)
      clear hK K
      try simp only [Act.put, List.setIfInBounds_toArray, List.set_cons_zero, List.set_cons_succ]
      have hbox1 := hbox0.of_block (hgrow1.block _ hbox0.lt (fun e => by have := Option.some.inj e; simp at this))
      refine take_call (i := 7) rfl (by kernel_rfl) (by kernel_rfl) (fun K hK => ?_)
      refine wp_append_own _ _ _ 22 rfl w.heap.size 9 i0 (.string ⟨#[]⟩) 1 16 Try.underlying22 hi hz0 hz1 hz2 rfl (by decide) v1 (0 + 0) _ rfl hown1 ⟨w.heap.size, 0, none⟩ 1 1 [.string (bs s)] rfl rfl (fun j u hj => box_cells hbox1 j u hj) (by simp [Value.oneCell']) (by unfold maxLen; omega) (by omega) (hbV).size ?_
      intro v2 V2 hown2 hgrow2 _
      have hbV2 : Below w.heap.size w V2 := (hbV).grown hgrow2 (hbV).size (fun j hj => (hown1.lt j hj).1)
      refine hK.out _ _ trivial (fun _ => ?_)
      clear hK K
      try simp only [Act.put, List.setIfInBounds_toArray, List.set_cons_zero, List.set_cons_succ]
      refine take_call (i := 11) rfl (by kernel_rfl) (by kernel_rfl) (fun K hK => ?_)
      refine wp_append_src _ _ 22 rfl w.heap.size 9 i0 (.string ⟨#[]⟩) 16 Try.underlying22 hi hz0 hz1 hz2 rfl v2 (0 + 0 + 1) _ rfl hown2 none (0 - 0) cap ((([] : List Bs).map strV).drop 0) rfl (by simp) (hcd.below hbV2) (fun u hu => one_strV [] u (List.mem_of_mem_drop hu)) (by unfold maxLen; omega) (by omega) hbV2.size ?_
      intro v3 V3 hown3 hgrow3
      have hb3 : Below w.heap.size w V3 := hbV2.grown hgrow3 hbV2.size (fun j hj => (hown2.lt j hj).1)
      refine hK.out _ _ trivial (fun _ => ?_)
      clear hK K
      try simp only [Act.put, List.setIfInBounds_toArray, List.set_cons_zero, List.set_cons_succ]
      refine take_on (i := 12) (v := v3) rfl (by kernel_rfl) (by kernel_rfl) (by kernel_rfl) (fun _ _ _ h => h) (by kernel_rfl) (fun W hSW => ?_) trivial ?_
      · first | (go_simp; done) | exact rfl | (go_simp; rfl) | (go_simp; omega)
      try simp only [Act.put, List.setIfInBounds_toArray, List.set_cons_zero, List.set_cons_succ]
      refine wpAnyH_done (by kernel_rfl) ?_ _
      have hfin : V3.ownsRow w.heap.size 9 1 v3 (0 + 1) ((insL [] 0 s).map strV) := by
        rw [insL_map, show 0 + 1 = 0 + 0 + 1 + (0 - 0) by omega, show strV s = .string (bs s) from rfl]
        simpa using hown3
      go_wp2
      go_ret
      exact ⟨_, rfl, hfin, hb3⟩
  | some ad =>
    obtain ⟨b, off, sp⟩ := ad
    by_cases hin : i < n
    · obtain ⟨x, hx⟩ : ∃ x, xs[0]? = some x := ⟨_, List.getElem?_eq_getElem (by omega)⟩
      obtain ⟨b', off', he, _⟩ := hc.at (k := 0) (x := strV x) (by simp [hx])
      cases he
      have g1 : ¬ (cap = i) := by omega
      have hcd : Cells w (some ⟨b, off + i, none⟩) ((xs.map strV).drop i) := fun j u hj => by
        rw [List.getElem?_drop] at hj
        obtain ⟨b', off', he, hcell⟩ := hc (i + j) u hj
        cases he
        exact ⟨_, _, rfl, by rw [Nat.add_assoc]; exact hcell⟩
      have hct : Cells w (some ⟨b, off, none⟩) ((xs.map strV).take i) := fun j u hj => by
        rw [List.getElem?_take] at hj
        split at hj
        · exact hc j u hj
        · cases hj
      go_enter Try.func74, Try.ntmps74
      go_wp2
      refine wp_region_held_drew (S := fun _ => True) (by kernel_rfl) trivial (fun hHeld => ?_)
      refine take_on (i := 1) (v := .slice (some ⟨b, off, none⟩) n cap) rfl (by kernel_rfl) (by kernel_rfl) (by kernel_rfl) (fun _ _ _ h => h) (by kernel_rfl) (fun W hSW => ?_) trivial ?_
      · first | (go_simp; done) | exact rfl | (go_simp; rfl) | (go_simp; omega)
      try simp only [Act.put, List.setIfInBounds_toArray, List.set_cons_zero, List.set_cons_succ]
      refine take_on (i := 2) (v := .int .i64 i) rfl (by kernel_rfl) (by kernel_rfl) (by kernel_rfl) (fun _ _ _ h => h) (by kernel_rfl) (fun W hSW => ?_) trivial ?_
      · first | (go_simp; done) | exact rfl | (go_simp; rfl) | (go_simp; omega)
      try simp only [Act.put, List.setIfInBounds_toArray, List.set_cons_zero, List.set_cons_succ]
      refine take_on (i := 3) (v := .slice (some ⟨b, off, none⟩) i cap) rfl (by kernel_rfl) (by kernel_rfl) (by kernel_rfl) (fun _ _ _ h => h) (by kernel_rfl) (fun W hSW => ?_) trivial ?_
      · first | (go_simp; done) | exact rfl | (go_simp; rfl) | (go_simp; omega)
      try simp only [Act.put, List.setIfInBounds_toArray, List.set_cons_zero, List.set_cons_succ]
      refine take_on (i := 5) (v := .string (bs s)) rfl (by kernel_rfl) (by kernel_rfl) (by kernel_rfl) (fun _ _ _ h => h) (by kernel_rfl) (fun W hSW => ?_) trivial ?_
      · first | (go_simp; done) | exact rfl | (go_simp; rfl) | (go_simp; omega)
      try simp only [Act.put, List.setIfInBounds_toArray, List.set_cons_zero, List.set_cons_succ]
      refine take_on (i := 8) (v := .slice (some ⟨b, off, none⟩) n cap) rfl (by kernel_rfl) (by kernel_rfl) (by kernel_rfl) (fun _ _ _ h => h) (by kernel_rfl) (fun W hSW => ?_) trivial ?_
      · first | (go_simp; done) | exact rfl | (go_simp; rfl) | (go_simp; omega)
      try simp only [Act.put, List.setIfInBounds_toArray, List.set_cons_zero, List.set_cons_succ]
      refine take_on (i := 9) (v := .int .i64 i) rfl (by kernel_rfl) (by kernel_rfl) (by kernel_rfl) (fun _ _ _ h => h) (by kernel_rfl) (fun W hSW => ?_) trivial ?_
      · first | (go_simp; done) | exact rfl | (go_simp; rfl) | (go_simp; omega)
      try simp only [Act.put, List.setIfInBounds_toArray, List.set_cons_zero, List.set_cons_succ]
      refine take_on (i := 10) (v := .slice (some ⟨b, off + i, none⟩) (n - i) (cap - i)) rfl (by kernel_rfl) (by kernel_rfl) (by kernel_rfl) (fun _ _ _ h => h) (by kernel_rfl) (fun W hSW => ?_) trivial ?_
      · first | (go_simp; done) | exact rfl | (go_simp; rfl) | (go_simp; omega)
      try simp only [Act.put, List.setIfInBounds_toArray, List.set_cons_zero, List.set_cons_succ]
      have hb0 : Below w.heap.size w w.drew := (Below.refl _ _).drew
      refine wpAnyH_ready (rs := [0, 6]) (by kernel_rfl) (by simp) (AllReadyH.cons (op_at rfl) (fun K hK => ?_) (AllReadyH.cons (op_at rfl) (fun K hK => ?_) AllReadyH.nil))
      · rw [if_pos (by kernel_rfl)]
        go_simp
        refine hK.out _ _ trivial (fun _ => ?_)
        clear hK K
        try simp only [Act.put, List.setIfInBounds_toArray, List.set_cons_zero, List.set_cons_succ]
        have hrow0 := World.ownsRow_lit (base := w.heap.size) (e := 9) (size := 1) w.drew #[] 0 (Nat.le_refl _) (by unfold maxLen; omega) rfl
        have hb1 : Below w.heap.size w (w.drew.alloc (.cells #[] 9)) := hb0.alloc (Nat.le_refl _) _
        refine wpAnyH_ready (rs := [4, 6]) (by kernel_rfl) (by simp) (AllReadyH.cons (op_at rfl) (fun K hK => ?_) (AllReadyH.cons (op_at rfl) (fun K hK => ?_) AllReadyH.nil))
        · rw [if_pos (by kernel_rfl)]
          refine wp_append_src _ _ 22 rfl w.heap.size 9 i0 (.string ⟨#[]⟩) 16 Try.underlying22 hi hz0 hz1 hz2 rfl (.slice (some ⟨w.heap.size, 0, none⟩) 0 0) 0 [] rfl hrow0 (some ⟨b, off, none⟩) i cap ((xs.map strV).take i) rfl (by rw [List.length_take, List.length_map, hn]; omega) (hct.below hb1) (fun u hu => one_strV xs u (List.mem_of_mem_take hu)) (by unfold maxLen; omega) (by omega) (hb1).size ?_
          intro v1 V hown1 hgrow1
          have hbV : Below w.heap.size w V := (hb1).grown hgrow1 (hb1).size (fun j hj => by cases hj; exact Nat.le_refl _)
          refine hK.out _ _ trivial (fun _ => ?_)
          clear hK K
          try simp only [Act.put, List.setIfInBounds_toArray, List.set_cons_zero, List.set_cons_succ]
          refine take_call (i := 6) rfl (by kernel_rfl) (by kernel_rfl) (fun K hK => ?_)
          go_simp
          refine hK.out _ _ trivial (fun _ => ?_)
          clear hK K
          try simp only [Act.put, List.setIfInBounds_toArray, List.set_cons_zero, List.set_cons_succ]
          have hbL := hbV.alloc hbV.size (.cells #[.string (bs s)] 9)
          refine take_call (i := 7) rfl (by kernel_rfl) (by kernel_rfl) (fun K hK => ?_)
          refine wp_append_own _ _ _ 22 rfl w.heap.size 9 i0 (.string ⟨#[]⟩) 1 16 Try.underlying22 hi hz0 hz1 hz2 rfl (by decide) v1 (0 + i) _ rfl (hown1.alloc _) ⟨V.heap.size, 0, none⟩ 1 1 [.string (bs s)] rfl rfl (fun j u hj => box_cells (Box.new V _ _) j u hj) (by simp [Value.oneCell']) (by unfold maxLen; omega) (by omega) (hbL).size ?_
          intro v2 V2 hown2 hgrow2 _
          have hbV2 : Below w.heap.size w V2 := (hbL).grown hgrow2 (hbL).size (fun j hj => (hown1.lt j hj).1)
          refine hK.out _ _ trivial (fun _ => ?_)
          clear hK K
          try simp only [Act.put, List.setIfInBounds_toArray, List.set_cons_zero, List.set_cons_succ]
          refine take_call (i := 11) rfl (by kernel_rfl) (by kernel_rfl) (fun K hK => ?_)
          refine wp_append_src _ _ 22 rfl w.heap.size 9 i0 (.string ⟨#[]⟩) 16 Try.underlying22 hi hz0 hz1 hz2 rfl v2 (0 + i + 1) _ rfl hown2 (some ⟨b, off + i, none⟩) (n - i) (cap - i) ((xs.map strV).drop i) rfl (by rw [List.length_drop, List.length_map, hn]) (hcd.below hbV2) (fun u hu => one_strV xs u (List.mem_of_mem_drop hu)) (by unfold maxLen; omega) (by omega) hbV2.size ?_
          intro v3 V3 hown3 hgrow3
          have hb3 : Below w.heap.size w V3 := hbV2.grown hgrow3 hbV2.size (fun j hj => (hown2.lt j hj).1)
          refine hK.out _ _ trivial (fun _ => ?_)
          clear hK K
          try simp only [Act.put, List.setIfInBounds_toArray, List.set_cons_zero, List.set_cons_succ]
          refine take_on (i := 12) (v := v3) rfl (by kernel_rfl) (by kernel_rfl) (by kernel_rfl) (fun _ _ _ h => h) (by kernel_rfl) (fun W hSW => ?_) trivial ?_
          · first | (go_simp; done) | exact rfl | (go_simp; rfl) | (go_simp; omega)
          try simp only [Act.put, List.setIfInBounds_toArray, List.set_cons_zero, List.set_cons_succ]
          refine wpAnyH_done (by kernel_rfl) ?_ _
          have hfin : V3.ownsRow w.heap.size 9 1 v3 (n + 1) ((insL xs i s).map strV) := by
            rw [insL_map, show n + 1 = 0 + i + 1 + (n - i) by omega, show strV s = .string (bs s) from rfl]
            simpa using hown3
          go_wp2
          go_ret
          exact ⟨_, rfl, hfin, hb3⟩
        · rw [if_pos (by kernel_rfl)]
          go_simp
          refine hK.out _ _ trivial (fun _ => ?_)
          clear hK K
          try simp only [Act.put, List.setIfInBounds_toArray, List.set_cons_zero, List.set_cons_succ]
          have hb2 : Below w.heap.size w ((w.drew.alloc (.cells #[] 9)).alloc (.cells #[.string (bs s)] 9)) := hb1.alloc hb1.size _
          have hbox : Box ((w.drew.alloc (.cells #[] 9)).alloc (.cells #[.string (bs s)] 9)) (w.heap.size + 1) (.string (bs s)) := by
            have := Box.new (w.drew.alloc (.cells #[] 9)) (.string (bs s)) 9
            simpa using this
          refine take_call (i := 4) rfl (by kernel_rfl) (by kernel_rfl) (fun K hK => ?_)
          refine wp_append_src _ _ 22 rfl w.heap.size 9 i0 (.string ⟨#[]⟩) 16 Try.underlying22 hi hz0 hz1 hz2 rfl (.slice (some ⟨w.heap.size, 0, none⟩) 0 0) 0 [] rfl (hrow0.alloc _) (some ⟨b, off, none⟩) i cap ((xs.map strV).take i) rfl (by rw [List.length_take, List.length_map, hn]; omega) (hct.below hb2) (fun u hu => one_strV xs u (List.mem_of_mem_take hu)) (by unfold maxLen; omega) (by omega) (hb2).size ?_
          intro v1 V hown1 hgrow1
          have hbV : Below w.heap.size w V := (hb2).grown hgrow1 (hb2).size (fun j hj => by cases hj; exact Nat.le_refl _)
          refine hK.out _ _ trivial (fun _ => ?_)
          clear hK K
          try simp only [Act.put, List.setIfInBounds_toArray, List.set_cons_zero, List.set_cons_succ]
          have hbox1 := hbox.of_block (hgrow1.block _ hbox.lt (fun e => by have := Option.some.inj e; simp at this))
          refine take_call (i := 7) rfl (by kernel_rfl) (by kernel_rfl) (fun K hK => ?_)
          refine wp_append_own _ _ _ 22 rfl w.heap.size 9 i0 (.string ⟨#[]⟩) 1 16 Try.underlying22 hi hz0 hz1 hz2 rfl (by decide) v1 (0 + i) _ rfl hown1 ⟨w.heap.size + 1, 0, none⟩ 1 1 [.string (bs s)] rfl rfl (fun j u hj => box_cells hbox1 j u hj) (by simp [Value.oneCell']) (by unfold maxLen; omega) (by omega) (hbV).size ?_
          intro v2 V2 hown2 hgrow2 _
          have hbV2 : Below w.heap.size w V2 := (hbV).grown hgrow2 (hbV).size (fun j hj => (hown1.lt j hj).1)
          refine hK.out _ _ trivial (fun _ => ?_)
          clear hK K
          try simp only [Act.put, List.setIfInBounds_toArray, List.set_cons_zero, List.set_cons_succ]
          refine take_call (i := 11) rfl (by kernel_rfl) (by kernel_rfl) (fun K hK => ?_)
          refine wp_append_src _ _ 22 rfl w.heap.size 9 i0 (.string ⟨#[]⟩) 16 Try.underlying22 hi hz0 hz1 hz2 rfl v2 (0 + i + 1) _ rfl hown2 (some ⟨b, off + i, none⟩) (n - i) (cap - i) ((xs.map strV).drop i) rfl (by rw [List.length_drop, List.length_map, hn]) (hcd.below hbV2) (fun u hu => one_strV xs u (List.mem_of_mem_drop hu)) (by unfold maxLen; omega) (by omega) hbV2.size ?_
          intro v3 V3 hown3 hgrow3
          have hb3 : Below w.heap.size w V3 := hbV2.grown hgrow3 hbV2.size (fun j hj => (hown2.lt j hj).1)
          refine hK.out _ _ trivial (fun _ => ?_)
          clear hK K
          try simp only [Act.put, List.setIfInBounds_toArray, List.set_cons_zero, List.set_cons_succ]
          refine take_on (i := 12) (v := v3) rfl (by kernel_rfl) (by kernel_rfl) (by kernel_rfl) (fun _ _ _ h => h) (by kernel_rfl) (fun W hSW => ?_) trivial ?_
          · first | (go_simp; done) | exact rfl | (go_simp; rfl) | (go_simp; omega)
          try simp only [Act.put, List.setIfInBounds_toArray, List.set_cons_zero, List.set_cons_succ]
          refine wpAnyH_done (by kernel_rfl) ?_ _
          have hfin : V3.ownsRow w.heap.size 9 1 v3 (n + 1) ((insL xs i s).map strV) := by
            rw [insL_map, show n + 1 = 0 + i + 1 + (n - i) by omega, show strV s = .string (bs s) from rfl]
            simpa using hown3
          go_wp2
          go_ret
          exact ⟨_, rfl, hfin, hb3⟩
      · rw [if_pos (by kernel_rfl)]
        go_simp
        refine hK.out _ _ trivial (fun _ => ?_)
        clear hK K
        try simp only [Act.put, List.setIfInBounds_toArray, List.set_cons_zero, List.set_cons_succ]
        have hbox := Box.new w.drew (.string (bs s)) 9
        have hb1 : Below w.heap.size w (w.drew.alloc (.cells #[.string (bs s)] 9)) := hb0.alloc (Nat.le_refl _) _
        refine take_call (i := 0) rfl (by kernel_rfl) (by kernel_rfl) (fun K hK => ?_)
        go_simp
        refine hK.out _ _ trivial (fun _ => ?_)
        clear hK K
        try simp only [Act.put, List.setIfInBounds_toArray, List.set_cons_zero, List.set_cons_succ]
        have hrow0 : ((w.drew.alloc (.cells #[.string (bs s)] 9)).alloc (.cells #[] 9)).ownsRow w.heap.size 9 1 (.slice (some ⟨w.heap.size + 1, 0, none⟩) 0 0) 0 [] := by
          have := World.ownsRow_lit (base := w.heap.size) (e := 9) (size := 1) (w.drew.alloc (.cells #[.string (bs s)] 9)) #[] 0 hb1.size (by unfold maxLen; omega) rfl
          simpa using this
        have hb2 : Below w.heap.size w ((w.drew.alloc (.cells #[.string (bs s)] 9)).alloc (.cells #[] 9)) := hb1.alloc hb1.size _
        have hbox0 := hbox.alloc (.cells #[] 9)
        refine take_call (i := 4) rfl (by kernel_rfl) (by kernel_rfl) (fun K hK => ?_)
        refine wp_append_src _ _ 22 rfl w.heap.size 9 i0 (.string ⟨#[]⟩) 16 Try.underlying22 hi hz0 hz1 hz2 rfl (.slice (some ⟨w.heap.size + 1, 0, none⟩) 0 0) 0 [] rfl hrow0 (some ⟨b, off, none⟩) i cap ((xs.map strV).take i) rfl (by rw [List.length_take, List.length_map, hn]; omega) (hct.below hb2) (fun u hu => one_strV xs u (List.mem_of_mem_take hu)) (by unfold maxLen; omega) (by omega) (hb2).size ?_
        intro v1 V hown1 hgrow1
        have hbV : Below w.heap.size w V := (hb2).grown hgrow1 (hb2).size (fun j hj => by cases hj; exact Nat.le_succ _)
        refine hK.out _ _ trivial (fun _ => ?_)
        clear hK K
        try simp only [Act.put, List.setIfInBounds_toArray, List.set_cons_zero, List.set_cons_succ]
        have hbox1 := hbox0.of_block (hgrow1.block _ hbox0.lt (fun e => by have := Option.some.inj e; simp at this))
        refine take_call (i := 7) rfl (by kernel_rfl) (by kernel_rfl) (fun K hK => ?_)
        refine wp_append_own _ _ _ 22 rfl w.heap.size 9 i0 (.string ⟨#[]⟩) 1 16 Try.underlying22 hi hz0 hz1 hz2 rfl (by decide) v1 (0 + i) _ rfl hown1 ⟨w.heap.size, 0, none⟩ 1 1 [.string (bs s)] rfl rfl (fun j u hj => box_cells hbox1 j u hj) (by simp [Value.oneCell']) (by unfold maxLen; omega) (by omega) (hbV).size ?_
        intro v2 V2 hown2 hgrow2 _
        have hbV2 : Below w.heap.size w V2 := (hbV).grown hgrow2 (hbV).size (fun j hj => (hown1.lt j hj).1)
        refine hK.out _ _ trivial (fun _ => ?_)
        clear hK K
        try simp only [Act.put, List.setIfInBounds_toArray, List.set_cons_zero, List.set_cons_succ]
        refine take_call (i := 11) rfl (by kernel_rfl) (by kernel_rfl) (fun K hK => ?_)
        refine wp_append_src _ _ 22 rfl w.heap.size 9 i0 (.string ⟨#[]⟩) 16 Try.underlying22 hi hz0 hz1 hz2 rfl v2 (0 + i + 1) _ rfl hown2 (some ⟨b, off + i, none⟩) (n - i) (cap - i) ((xs.map strV).drop i) rfl (by rw [List.length_drop, List.length_map, hn]) (hcd.below hbV2) (fun u hu => one_strV xs u (List.mem_of_mem_drop hu)) (by unfold maxLen; omega) (by omega) hbV2.size ?_
        intro v3 V3 hown3 hgrow3
        have hb3 : Below w.heap.size w V3 := hbV2.grown hgrow3 hbV2.size (fun j hj => (hown2.lt j hj).1)
        refine hK.out _ _ trivial (fun _ => ?_)
        clear hK K
        try simp only [Act.put, List.setIfInBounds_toArray, List.set_cons_zero, List.set_cons_succ]
        refine take_on (i := 12) (v := v3) rfl (by kernel_rfl) (by kernel_rfl) (by kernel_rfl) (fun _ _ _ h => h) (by kernel_rfl) (fun W hSW => ?_) trivial ?_
        · first | (go_simp; done) | exact rfl | (go_simp; rfl) | (go_simp; omega)
        try simp only [Act.put, List.setIfInBounds_toArray, List.set_cons_zero, List.set_cons_succ]
        refine wpAnyH_done (by kernel_rfl) ?_ _
        have hfin : V3.ownsRow w.heap.size 9 1 v3 (n + 1) ((insL xs i s).map strV) := by
          rw [insL_map, show n + 1 = 0 + i + 1 + (n - i) by omega, show strV s = .string (bs s) from rfl]
          simpa using hown3
        go_wp2
        go_ret
        exact ⟨_, rfl, hfin, hb3⟩
    · have hin' : i = n := by omega
      have hcd : ∀ A, Cells w A ((xs.map strV).drop i) := fun A j u hj => by rw [List.drop_of_length_le (by rw [List.length_map]; omega)] at hj; simp at hj
      have hct : Cells w (some ⟨b, off, sp⟩) ((xs.map strV).take i) := fun j u hj => by
        rw [List.getElem?_take] at hj
        split at hj
        · exact hc j u hj
        · cases hj
      have Hin := Lib.hid hin'
      by_cases hci : cap = i
      · have hcd := hcd (some ⟨b, off, sp⟩)
        have Hci := Lib.hid hci
        clear hci hin'
        go_enter Try.func74, Try.ntmps74
        go_wp2
        refine wp_region_held_drew (S := fun _ => True) (by kernel_rfl) trivial (fun hHeld => ?_)
        refine take_on (i := 1) (v := .slice (some ⟨b, off, sp⟩) n cap) rfl (by kernel_rfl) (by kernel_rfl) (by kernel_rfl) (fun _ _ _ h => h) (by kernel_rfl) (fun W hSW => ?_) trivial ?_
        · first | (go_simp; done) | exact rfl | (go_simp; rfl) | (go_simp; omega)
        try simp only [Act.put, List.setIfInBounds_toArray, List.set_cons_zero, List.set_cons_succ]
        refine take_on (i := 2) (v := .int .i64 i) rfl (by kernel_rfl) (by kernel_rfl) (by kernel_rfl) (fun _ _ _ h => h) (by kernel_rfl) (fun W hSW => ?_) trivial ?_
        · first | (go_simp; done) | exact rfl | (go_simp; rfl) | (go_simp; omega)
        try simp only [Act.put, List.setIfInBounds_toArray, List.set_cons_zero, List.set_cons_succ]
        refine take_on (i := 3) (v := .slice (some ⟨b, off, sp⟩) i cap) rfl (by kernel_rfl) (by kernel_rfl) (by kernel_rfl) (fun _ _ _ h => h) (by kernel_rfl) (fun W hSW => ?_) trivial ?_
        · first | (go_simp; done) | exact rfl | (go_simp; rfl) | (go_simp; omega)
        try simp only [Act.put, List.setIfInBounds_toArray, List.set_cons_zero, List.set_cons_succ]
        refine take_on (i := 5) (v := .string (bs s)) rfl (by kernel_rfl) (by kernel_rfl) (by kernel_rfl) (fun _ _ _ h => h) (by kernel_rfl) (fun W hSW => ?_) trivial ?_
        · first | (go_simp; done) | exact rfl | (go_simp; rfl) | (go_simp; omega)
        try simp only [Act.put, List.setIfInBounds_toArray, List.set_cons_zero, List.set_cons_succ]
        refine take_on (i := 8) (v := .slice (some ⟨b, off, sp⟩) n cap) rfl (by kernel_rfl) (by kernel_rfl) (by kernel_rfl) (fun _ _ _ h => h) (by kernel_rfl) (fun W hSW => ?_) trivial ?_
        · first | (go_simp; done) | exact rfl | (go_simp; rfl) | (go_simp; omega)
        try simp only [Act.put, List.setIfInBounds_toArray, List.set_cons_zero, List.set_cons_succ]
        refine take_on (i := 9) (v := .int .i64 i) rfl (by kernel_rfl) (by kernel_rfl) (by kernel_rfl) (fun _ _ _ h => h) (by kernel_rfl) (fun W hSW => ?_) trivial ?_
        · first | (go_simp; done) | exact rfl | (go_simp; rfl) | (go_simp; omega)
        try simp only [Act.put, List.setIfInBounds_toArray, List.set_cons_zero, List.set_cons_succ]
        refine take_on (i := 10) (v := .slice (some ⟨b, off, sp⟩) (n - i) 0) rfl (by kernel_rfl) (by kernel_rfl) (by kernel_rfl) (fun _ _ _ h => h) (by kernel_rfl) (fun W hSW => ?_) trivial ?_
        · have hci := Hci.out
          have hin' := Hin.out
          first | (go_simp; done) | exact rfl | (go_simp; rfl) | (go_simp; omega)
        try simp only [Act.put, List.setIfInBounds_toArray, List.set_cons_zero, List.set_cons_succ]
        have hb0 : Below w.heap.size w w.drew := (Below.refl _ _).drew
        refine wpAnyH_ready (rs := [0, 6]) (by kernel_rfl) (by simp) (AllReadyH.cons (op_at rfl) (fun K hK => ?_) (AllReadyH.cons (op_at rfl) (fun K hK => ?_) AllReadyH.nil))
        · rw [if_pos (by kernel_rfl)]
          go_simp
          refine hK.out _ _ trivial (fun _ => ?_)
          clear hK K
          try simp only [Act.put, List.setIfInBounds_toArray, List.set_cons_zero, List.set_cons_succ]
          have hrow0 := World.ownsRow_lit (base := w.heap.size) (e := 9) (size := 1) w.drew #[] 0 (Nat.le_refl _) (by unfold maxLen; omega) rfl
          have hb1 : Below w.heap.size w (w.drew.alloc (.cells #[] 9)) := hb0.alloc (Nat.le_refl _) _
          refine wpAnyH_ready (rs := [4, 6]) (by kernel_rfl) (by simp) (AllReadyH.cons (op_at rfl) (fun K hK => ?_) (AllReadyH.cons (op_at rfl) (fun K hK => ?_) AllReadyH.nil))
          · rw [if_pos (by kernel_rfl)]
            refine wp_append_src _ _ 22 rfl w.heap.size 9 i0 (.string ⟨#[]⟩) 16 Try.underlying22 hi hz0 hz1 hz2 rfl (.slice (some ⟨w.heap.size, 0, none⟩) 0 0) 0 [] rfl hrow0 (some ⟨b, off, sp⟩) i cap ((xs.map strV).take i) rfl (by rw [List.length_take, List.length_map, hn]; omega) (hct.below hb1) (fun u hu => one_strV xs u (List.mem_of_mem_take hu)) (by unfold maxLen; omega) (by omega) (hb1).size ?_
            intro v1 V hown1 hgrow1
            have hbV : Below w.heap.size w V := (hb1).grown hgrow1 (hb1).size (fun j hj => by cases hj; exact Nat.le_refl _)
            refine hK.out _ _ trivial (fun _ => ?_)
            clear hK K
            try simp only [Act.put, List.setIfInBounds_toArray, List.set_cons_zero, List.set_cons_succ]
            refine take_call (i := 6) rfl (by kernel_rfl) (by kernel_rfl) (fun K hK => ?_)
            go_simp
            refine hK.out _ _ trivial (fun _ => ?_)
            clear hK K
            try simp only [Act.put, List.setIfInBounds_toArray, List.set_cons_zero, List.set_cons_succ]
            have hbL := hbV.alloc hbV.size (.cells #[.string (bs s)] 9)
            refine take_call (i := 7) rfl (by kernel_rfl) (by kernel_rfl) (fun K hK => ?_)
            refine wp_append_own _ _ _ 22 rfl w.heap.size 9 i0 (.string ⟨#[]⟩) 1 16 Try.underlying22 hi hz0 hz1 hz2 rfl (by decide) v1 (0 + i) _ rfl (hown1.alloc _) ⟨V.heap.size, 0, none⟩ 1 1 [.string (bs s)] rfl rfl (fun j u hj => box_cells (Box.new V _ _) j u hj) (by simp [Value.oneCell']) (by unfold maxLen; omega) (by omega) (hbL).size ?_
            intro v2 V2 hown2 hgrow2 _
            have hbV2 : Below w.heap.size w V2 := (hbL).grown hgrow2 (hbL).size (fun j hj => (hown1.lt j hj).1)
            refine hK.out _ _ trivial (fun _ => ?_)
            clear hK K
            try simp only [Act.put, List.setIfInBounds_toArray, List.set_cons_zero, List.set_cons_succ]
            refine take_call (i := 11) rfl (by kernel_rfl) (by kernel_rfl) (fun K hK => ?_)
            refine wp_append_src _ _ 22 rfl w.heap.size 9 i0 (.string ⟨#[]⟩) 16 Try.underlying22 hi hz0 hz1 hz2 rfl v2 (0 + i + 1) _ rfl hown2 (some ⟨b, off, sp⟩) (n - i) 0 ((xs.map strV).drop i) rfl (by rw [List.length_drop, List.length_map, hn]) (hcd.below hbV2) (fun u hu => one_strV xs u (List.mem_of_mem_drop hu)) (by unfold maxLen; omega) (by omega) hbV2.size ?_
            intro v3 V3 hown3 hgrow3
            have hb3 : Below w.heap.size w V3 := hbV2.grown hgrow3 hbV2.size (fun j hj => (hown2.lt j hj).1)
            refine hK.out _ _ trivial (fun _ => ?_)
            clear hK K
            try simp only [Act.put, List.setIfInBounds_toArray, List.set_cons_zero, List.set_cons_succ]
            refine take_on (i := 12) (v := v3) rfl (by kernel_rfl) (by kernel_rfl) (by kernel_rfl) (fun _ _ _ h => h) (by kernel_rfl) (fun W hSW => ?_) trivial ?_
            · first | (go_simp; done) | exact rfl | (go_simp; rfl) | (go_simp; omega)
            try simp only [Act.put, List.setIfInBounds_toArray, List.set_cons_zero, List.set_cons_succ]
            refine wpAnyH_done (by kernel_rfl) ?_ _
            have hfin : V3.ownsRow w.heap.size 9 1 v3 (n + 1) ((insL xs i s).map strV) := by
              rw [insL_map, show n + 1 = 0 + i + 1 + (n - i) by omega, show strV s = .string (bs s) from rfl]
              simpa using hown3
            go_wp2
            go_ret
            exact ⟨_, rfl, hfin, hb3⟩
          · rw [if_pos (by kernel_rfl)]
            go_simp
            refine hK.out _ _ trivial (fun _ => ?_)
            clear hK K
            try simp only [Act.put, List.setIfInBounds_toArray, List.set_cons_zero, List.set_cons_succ]
            have hb2 : Below w.heap.size w ((w.drew.alloc (.cells #[] 9)).alloc (.cells #[.string (bs s)] 9)) := hb1.alloc hb1.size _
            have hbox : Box ((w.drew.alloc (.cells #[] 9)).alloc (.cells #[.string (bs s)] 9)) (w.heap.size + 1) (.string (bs s)) := by
              have := Box.new (w.drew.alloc (.cells #[] 9)) (.string (bs s)) 9
              simpa using this
            refine take_call (i := 4) rfl (by kernel_rfl) (by kernel_rfl) (fun K hK => ?_)
            refine wp_append_src _ _ 22 rfl w.heap.size 9 i0 (.string ⟨#[]⟩) 16 Try.underlying22 hi hz0 hz1 hz2 rfl (.slice (some ⟨w.heap.size, 0, none⟩) 0 0) 0 [] rfl (hrow0.alloc _) (some ⟨b, off, sp⟩) i cap ((xs.map strV).take i) rfl (by rw [List.length_take, List.length_map, hn]; omega) (hct.below hb2) (fun u hu => one_strV xs u (List.mem_of_mem_take hu)) (by unfold maxLen; omega) (by omega) (hb2).size ?_
            intro v1 V hown1 hgrow1
            have hbV : Below w.heap.size w V := (hb2).grown hgrow1 (hb2).size (fun j hj => by cases hj; exact Nat.le_refl _)
            refine hK.out _ _ trivial (fun _ => ?_)
            clear hK K
            try simp only [Act.put, List.setIfInBounds_toArray, List.set_cons_zero, List.set_cons_succ]
            have hbox1 := hbox.of_block (hgrow1.block _ hbox.lt (fun e => by have := Option.some.inj e; simp at this))
            refine take_call (i := 7) rfl (by kernel_rfl) (by kernel_rfl) (fun K hK => ?_)
            refine wp_append_own _ _ _ 22 rfl w.heap.size 9 i0 (.string ⟨#[]⟩) 1 16 Try.underlying22 hi hz0 hz1 hz2 rfl (by decide) v1 (0 + i) _ rfl hown1 ⟨w.heap.size + 1, 0, none⟩ 1 1 [.string (bs s)] rfl rfl (fun j u hj => box_cells hbox1 j u hj) (by simp [Value.oneCell']) (by unfold maxLen; omega) (by omega) (hbV).size ?_
            intro v2 V2 hown2 hgrow2 _
            have hbV2 : Below w.heap.size w V2 := (hbV).grown hgrow2 (hbV).size (fun j hj => (hown1.lt j hj).1)
            refine hK.out _ _ trivial (fun _ => ?_)
            clear hK K
            try simp only [Act.put, List.setIfInBounds_toArray, List.set_cons_zero, List.set_cons_succ]
            refine take_call (i := 11) rfl (by kernel_rfl) (by kernel_rfl) (fun K hK => ?_)
            refine wp_append_src _ _ 22 rfl w.heap.size 9 i0 (.string ⟨#[]⟩) 16 Try.underlying22 hi hz0 hz1 hz2 rfl v2 (0 + i + 1) _ rfl hown2 (some ⟨b, off, sp⟩) (n - i) 0 ((xs.map strV).drop i) rfl (by rw [List.length_drop, List.length_map, hn]) (hcd.below hbV2) (fun u hu => one_strV xs u (List.mem_of_mem_drop hu)) (by unfold maxLen; omega) (by omega) hbV2.size ?_
            intro v3 V3 hown3 hgrow3
            have hb3 : Below w.heap.size w V3 := hbV2.grown hgrow3 hbV2.size (fun j hj => (hown2.lt j hj).1)
            refine hK.out _ _ trivial (fun _ => ?_)
            clear hK K
            try simp only [Act.put, List.setIfInBounds_toArray, List.set_cons_zero, List.set_cons_succ]
            refine take_on (i := 12) (v := v3) rfl (by kernel_rfl) (by kernel_rfl) (by kernel_rfl) (fun _ _ _ h => h) (by kernel_rfl) (fun W hSW => ?_) trivial ?_
            · first | (go_simp; done) | exact rfl | (go_simp; rfl) | (go_simp; omega)
            try simp only [Act.put, List.setIfInBounds_toArray, List.set_cons_zero, List.set_cons_succ]
            refine wpAnyH_done (by kernel_rfl) ?_ _
            have hfin : V3.ownsRow w.heap.size 9 1 v3 (n + 1) ((insL xs i s).map strV) := by
              rw [insL_map, show n + 1 = 0 + i + 1 + (n - i) by omega, show strV s = .string (bs s) from rfl]
              simpa using hown3
            go_wp2
            go_ret
            exact ⟨_, rfl, hfin, hb3⟩
        · rw [if_pos (by kernel_rfl)]
          go_simp
          refine hK.out _ _ trivial (fun _ => ?_)
          clear hK K
          try simp only [Act.put, List.setIfInBounds_toArray, List.set_cons_zero, List.set_cons_succ]
          have hbox := Box.new w.drew (.string (bs s)) 9
          have hb1 : Below w.heap.size w (w.drew.alloc (.cells #[.string (bs s)] 9)) := hb0.alloc (Nat.le_refl _) _
          refine take_call (i := 0) rfl (by kernel_rfl) (by kernel_rfl) (fun K hK => ?_)
          go_simp
          refine hK.out _ _ trivial (fun _ => ?_)
          clear hK K
          try simp only [Act.put, List.setIfInBounds_toArray, List.set_cons_zero, List.set_cons_succ]
          have hrow0 : ((w.drew.alloc (.cells #[.string (bs s)] 9)).alloc (.cells #[] 9)).ownsRow w.heap.size 9 1 (.slice (some ⟨w.heap.size + 1, 0, none⟩) 0 0) 0 [] := by
            have := World.ownsRow_lit (base := w.heap.size) (e := 9) (size := 1) (w.drew.alloc (.cells #[.string (bs s)] 9)) #[] 0 hb1.size (by unfold maxLen; omega) rfl
            simpa using this
          have hb2 : Below w.heap.size w ((w.drew.alloc (.cells #[.string (bs s)] 9)).alloc (.cells #[] 9)) := hb1.alloc hb1.size _
          have hbox0 := hbox.alloc (.cells #[] 9)
          refine take_call (i := 4) rfl (by kernel_rfl) (by kernel_rfl) (fun K hK => ?_)
          refine wp_append_src _ _ 22 rfl w.heap.size 9 i0 (.string ⟨#[]⟩) 16 Try.underlying22 hi hz0 hz1 hz2 rfl (.slice (some ⟨w.heap.size + 1, 0, none⟩) 0 0) 0 [] rfl hrow0 (some ⟨b, off, sp⟩) i cap ((xs.map strV).take i) rfl (by rw [List.length_take, List.length_map, hn]; omega) (hct.below hb2) (fun u hu => one_strV xs u (List.mem_of_mem_take hu)) (by unfold maxLen; omega) (by omega) (hb2).size ?_
          intro v1 V hown1 hgrow1
          have hbV : Below w.heap.size w V := (hb2).grown hgrow1 (hb2).size (fun j hj => by cases hj; exact Nat.le_succ _)
          refine hK.out _ _ trivial (fun _ => ?_)
          clear hK K
          try simp only [Act.put, List.setIfInBounds_toArray, List.set_cons_zero, List.set_cons_succ]
          have hbox1 := hbox0.of_block (hgrow1.block _ hbox0.lt (fun e => by have := Option.some.inj e; simp at this))
          refine take_call (i := 7) rfl (by kernel_rfl) (by kernel_rfl) (fun K hK => ?_)
          refine wp_append_own _ _ _ 22 rfl w.heap.size 9 i0 (.string ⟨#[]⟩) 1 16 Try.underlying22 hi hz0 hz1 hz2 rfl (by decide) v1 (0 + i) _ rfl hown1 ⟨w.heap.size, 0, none⟩ 1 1 [.string (bs s)] rfl rfl (fun j u hj => box_cells hbox1 j u hj) (by simp [Value.oneCell']) (by unfold maxLen; omega) (by omega) (hbV).size ?_
          intro v2 V2 hown2 hgrow2 _
          have hbV2 : Below w.heap.size w V2 := (hbV).grown hgrow2 (hbV).size (fun j hj => (hown1.lt j hj).1)
          refine hK.out _ _ trivial (fun _ => ?_)
          clear hK K
          try simp only [Act.put, List.setIfInBounds_toArray, List.set_cons_zero, List.set_cons_succ]
          refine take_call (i := 11) rfl (by kernel_rfl) (by kernel_rfl) (fun K hK => ?_)
          refine wp_append_src _ _ 22 rfl w.heap.size 9 i0 (.string ⟨#[]⟩) 16 Try.underlying22 hi hz0 hz1 hz2 rfl v2 (0 + i + 1) _ rfl hown2 (some ⟨b, off, sp⟩) (n - i) 0 ((xs.map strV).drop i) rfl (by rw [List.length_drop, List.length_map, hn]) (hcd.below hbV2) (fun u hu => one_strV xs u (List.mem_of_mem_drop hu)) (by unfold maxLen; omega) (by omega) hbV2.size ?_
          intro v3 V3 hown3 hgrow3
          have hb3 : Below w.heap.size w V3 := hbV2.grown hgrow3 hbV2.size (fun j hj => (hown2.lt j hj).1)
          refine hK.out _ _ trivial (fun _ => ?_)
          clear hK K
          try simp only [Act.put, List.setIfInBounds_toArray, List.set_cons_zero, List.set_cons_succ]
          refine take_on (i := 12) (v := v3) rfl (by kernel_rfl) (by kernel_rfl) (by kernel_rfl) (fun _ _ _ h => h) (by kernel_rfl) (fun W hSW => ?_) trivial ?_
          · first | (go_simp; done) | exact rfl | (go_simp; rfl) | (go_simp; omega)
          try simp only [Act.put, List.setIfInBounds_toArray, List.set_cons_zero, List.set_cons_succ]
          refine wpAnyH_done (by kernel_rfl) ?_ _
          have hfin : V3.ownsRow w.heap.size 9 1 v3 (n + 1) ((insL xs i s).map strV) := by
            rw [insL_map, show n + 1 = 0 + i + 1 + (n - i) by omega, show strV s = .string (bs s) from rfl]
            simpa using hown3
          go_wp2
          go_ret
          exact ⟨_, rfl, hfin, hb3⟩
      · have hcd := hcd (some ((⟨b, off, sp⟩ : Addr).add i))
        have g1 : ¬ (cap = i) := hci
        clear hin' hci
        go_enter Try.func74, Try.ntmps74
        go_wp2
        refine wp_region_held_drew (S := fun _ => True) (by kernel_rfl) trivial (fun hHeld => ?_)
        refine take_on (i := 1) (v := .slice (some ⟨b, off, sp⟩) n cap) rfl (by kernel_rfl) (by kernel_rfl) (by kernel_rfl) (fun _ _ _ h => h) (by kernel_rfl) (fun W hSW => ?_) trivial ?_
        · first | (go_simp; done) | exact rfl | (go_simp; rfl) | (go_simp; omega)
        try simp only [Act.put, List.setIfInBounds_toArray, List.set_cons_zero, List.set_cons_succ]
        refine take_on (i := 2) (v := .int .i64 i) rfl (by kernel_rfl) (by kernel_rfl) (by kernel_rfl) (fun _ _ _ h => h) (by kernel_rfl) (fun W hSW => ?_) trivial ?_
        · first | (go_simp; done) | exact rfl | (go_simp; rfl) | (go_simp; omega)
        try simp only [Act.put, List.setIfInBounds_toArray, List.set_cons_zero, List.set_cons_succ]
        refine take_on (i := 3) (v := .slice (some ⟨b, off, sp⟩) i cap) rfl (by kernel_rfl) (by kernel_rfl) (by kernel_rfl) (fun _ _ _ h => h) (by kernel_rfl) (fun W hSW => ?_) trivial ?_
        · first | (go_simp; done) | exact rfl | (go_simp; rfl) | (go_simp; omega)
        try simp only [Act.put, List.setIfInBounds_toArray, List.set_cons_zero, List.set_cons_succ]
        refine take_on (i := 5) (v := .string (bs s)) rfl (by kernel_rfl) (by kernel_rfl) (by kernel_rfl) (fun _ _ _ h => h) (by kernel_rfl) (fun W hSW => ?_) trivial ?_
        · first | (go_simp; done) | exact rfl | (go_simp; rfl) | (go_simp; omega)
        try simp only [Act.put, List.setIfInBounds_toArray, List.set_cons_zero, List.set_cons_succ]
        refine take_on (i := 8) (v := .slice (some ⟨b, off, sp⟩) n cap) rfl (by kernel_rfl) (by kernel_rfl) (by kernel_rfl) (fun _ _ _ h => h) (by kernel_rfl) (fun W hSW => ?_) trivial ?_
        · first | (go_simp; done) | exact rfl | (go_simp; rfl) | (go_simp; omega)
        try simp only [Act.put, List.setIfInBounds_toArray, List.set_cons_zero, List.set_cons_succ]
        refine take_on (i := 9) (v := .int .i64 i) rfl (by kernel_rfl) (by kernel_rfl) (by kernel_rfl) (fun _ _ _ h => h) (by kernel_rfl) (fun W hSW => ?_) trivial ?_
        · first | (go_simp; done) | exact rfl | (go_simp; rfl) | (go_simp; omega)
        try simp only [Act.put, List.setIfInBounds_toArray, List.set_cons_zero, List.set_cons_succ]
        refine take_on (i := 10) (v := .slice (some ((⟨b, off, sp⟩ : Addr).add i)) (n - i) (cap - i)) rfl (by kernel_rfl) (by kernel_rfl) (by kernel_rfl) (fun _ _ _ h => h) (by kernel_rfl) (fun W hSW => ?_) trivial ?_
        · first | (go_simp; done) | exact rfl | (go_simp; rfl) | (go_simp; omega)
        try simp only [Act.put, List.setIfInBounds_toArray, List.set_cons_zero, List.set_cons_succ]
        have hb0 : Below w.heap.size w w.drew := (Below.refl _ _).drew
        refine wpAnyH_ready (rs := [0, 6]) (by kernel_rfl) (by simp) (AllReadyH.cons (op_at rfl) (fun K hK => ?_) (AllReadyH.cons (op_at rfl) (fun K hK => ?_) AllReadyH.nil))
        · rw [if_pos (by kernel_rfl)]
          go_simp
          refine hK.out _ _ trivial (fun _ => ?_)
          clear hK K
          try simp only [Act.put, List.setIfInBounds_toArray, List.set_cons_zero, List.set_cons_succ]
          have hrow0 := World.ownsRow_lit (base := w.heap.size) (e := 9) (size := 1) w.drew #[] 0 (Nat.le_refl _) (by unfold maxLen; omega) rfl
          have hb1 : Below w.heap.size w (w.drew.alloc (.cells #[] 9)) := hb0.alloc (Nat.le_refl _) _
          refine wpAnyH_ready (rs := [4, 6]) (by kernel_rfl) (by simp) (AllReadyH.cons (op_at rfl) (fun K hK => ?_) (AllReadyH.cons (op_at rfl) (fun K hK => ?_) AllReadyH.nil))
          · rw [if_pos (by kernel_rfl)]
            refine wp_append_src _ _ 22 rfl w.heap.size 9 i0 (.string ⟨#[]⟩) 16 Try.underlying22 hi hz0 hz1 hz2 rfl (.slice (some ⟨w.heap.size, 0, none⟩) 0 0) 0 [] rfl hrow0 (some ⟨b, off, sp⟩) i cap ((xs.map strV).take i) rfl (by rw [List.length_take, List.length_map, hn]; omega) (hct.below hb1) (fun u hu => one_strV xs u (List.mem_of_mem_take hu)) (by unfold maxLen; omega) (by omega) (hb1).size ?_
            intro v1 V hown1 hgrow1
            have hbV : Below w.heap.size w V := (hb1).grown hgrow1 (hb1).size (fun j hj => by cases hj; exact Nat.le_refl _)
            refine hK.out _ _ trivial (fun _ => ?_)
            clear hK K
            try simp only [Act.put, List.setIfInBounds_toArray, List.set_cons_zero, List.set_cons_succ]
            refine take_call (i := 6) rfl (by kernel_rfl) (by kernel_rfl) (fun K hK => ?_)
            go_simp
            refine hK.out _ _ trivial (fun _ => ?_)
            clear hK K
            try simp only [Act.put, List.setIfInBounds_toArray, List.set_cons_zero, List.set_cons_succ]
            have hbL := hbV.alloc hbV.size (.cells #[.string (bs s)] 9)
            refine take_call (i := 7) rfl (by kernel_rfl) (by kernel_rfl) (fun K hK => ?_)
            refine wp_append_own _ _ _ 22 rfl w.heap.size 9 i0 (.string ⟨#[]⟩) 1 16 Try.underlying22 hi hz0 hz1 hz2 rfl (by decide) v1 (0 + i) _ rfl (hown1.alloc _) ⟨V.heap.size, 0, none⟩ 1 1 [.string (bs s)] rfl rfl (fun j u hj => box_cells (Box.new V _ _) j u hj) (by simp [Value.oneCell']) (by unfold maxLen; omega) (by omega) (hbL).size ?_
            intro v2 V2 hown2 hgrow2 _
            have hbV2 : Below w.heap.size w V2 := (hbL).grown hgrow2 (hbL).size (fun j hj => (hown1.lt j hj).1)
            refine hK.out _ _ trivial (fun _ => ?_)
            clear hK K
            try simp only [Act.put, List.setIfInBounds_toArray, List.set_cons_zero, List.set_cons_succ]
            refine take_call (i := 11) rfl (by kernel_rfl) (by kernel_rfl) (fun K hK => ?_)
            refine wp_append_src _ _ 22 rfl w.heap.size 9 i0 (.string ⟨#[]⟩) 16 Try.underlying22 hi hz0 hz1 hz2 rfl v2 (0 + i + 1) _ rfl hown2 (some ((⟨b, off, sp⟩ : Addr).add i)) (n - i) (cap - i) ((xs.map strV).drop i) rfl (by rw [List.length_drop, List.length_map, hn]) (hcd.below hbV2) (fun u hu => one_strV xs u (List.mem_of_mem_drop hu)) (by unfold maxLen; omega) (by omega) hbV2.size ?_
            intro v3 V3 hown3 hgrow3
            have hb3 : Below w.heap.size w V3 := hbV2.grown hgrow3 hbV2.size (fun j hj => (hown2.lt j hj).1)
            refine hK.out _ _ trivial (fun _ => ?_)
            clear hK K
            try simp only [Act.put, List.setIfInBounds_toArray, List.set_cons_zero, List.set_cons_succ]
            refine take_on (i := 12) (v := v3) rfl (by kernel_rfl) (by kernel_rfl) (by kernel_rfl) (fun _ _ _ h => h) (by kernel_rfl) (fun W hSW => ?_) trivial ?_
            · first | (go_simp; done) | exact rfl | (go_simp; rfl) | (go_simp; omega)
            try simp only [Act.put, List.setIfInBounds_toArray, List.set_cons_zero, List.set_cons_succ]
            refine wpAnyH_done (by kernel_rfl) ?_ _
            have hfin : V3.ownsRow w.heap.size 9 1 v3 (n + 1) ((insL xs i s).map strV) := by
              rw [insL_map, show n + 1 = 0 + i + 1 + (n - i) by omega, show strV s = .string (bs s) from rfl]
              simpa using hown3
            go_wp2
            go_ret
            exact ⟨_, rfl, hfin, hb3⟩
          · rw [if_pos (by kernel_rfl)]
            go_simp
            refine hK.out _ _ trivial (fun _ => ?_)
            clear hK K
            try simp only [Act.put, List.setIfInBounds_toArray, List.set_cons_zero, List.set_cons_succ]
            have hb2 : Below w.heap.size w ((w.drew.alloc (.cells #[] 9)).alloc (.cells #[.string (bs s)] 9)) := hb1.alloc hb1.size _
            have hbox : Box ((w.drew.alloc (.cells #[] 9)).alloc (.cells #[.string (bs s)] 9)) (w.heap.size + 1) (.string (bs s)) := by
              have := Box.new (w.drew.alloc (.cells #[] 9)) (.string (bs s)) 9
              simpa using this
            refine take_call (i := 4) rfl (by kernel_rfl) (by kernel_rfl) (fun K hK => ?_)
            refine wp_append_src _ _ 22 rfl w.heap.size 9 i0 (.string ⟨#[]⟩) 16 Try.underlying22 hi hz0 hz1 hz2 rfl (.slice (some ⟨w.heap.size, 0, none⟩) 0 0) 0 [] rfl (hrow0.alloc _) (some ⟨b, off, sp⟩) i cap ((xs.map strV).take i) rfl (by rw [List.length_take, List.length_map, hn]; omega) (hct.below hb2) (fun u hu => one_strV xs u (List.mem_of_mem_take hu)) (by unfold maxLen; omega) (by omega) (hb2).size ?_
            intro v1 V hown1 hgrow1
            have hbV : Below w.heap.size w V := (hb2).grown hgrow1 (hb2).size (fun j hj => by cases hj; exact Nat.le_refl _)
            refine hK.out _ _ trivial (fun _ => ?_)
            clear hK K
            try simp only [Act.put, List.setIfInBounds_toArray, List.set_cons_zero, List.set_cons_succ]
            have hbox1 := hbox.of_block (hgrow1.block _ hbox.lt (fun e => by have := Option.some.inj e; simp at this))
            refine take_call (i := 7) rfl (by kernel_rfl) (by kernel_rfl) (fun K hK => ?_)
            refine wp_append_own _ _ _ 22 rfl w.heap.size 9 i0 (.string ⟨#[]⟩) 1 16 Try.underlying22 hi hz0 hz1 hz2 rfl (by decide) v1 (0 + i) _ rfl hown1 ⟨w.heap.size + 1, 0, none⟩ 1 1 [.string (bs s)] rfl rfl (fun j u hj => box_cells hbox1 j u hj) (by simp [Value.oneCell']) (by unfold maxLen; omega) (by omega) (hbV).size ?_
            intro v2 V2 hown2 hgrow2 _
            have hbV2 : Below w.heap.size w V2 := (hbV).grown hgrow2 (hbV).size (fun j hj => (hown1.lt j hj).1)
            refine hK.out _ _ trivial (fun _ => ?_)
            clear hK K
            try simp only [Act.put, List.setIfInBounds_toArray, List.set_cons_zero, List.set_cons_succ]
            refine take_call (i := 11) rfl (by kernel_rfl) (by kernel_rfl) (fun K hK => ?_)
            refine wp_append_src _ _ 22 rfl w.heap.size 9 i0 (.string ⟨#[]⟩) 16 Try.underlying22 hi hz0 hz1 hz2 rfl v2 (0 + i + 1) _ rfl hown2 (some ((⟨b, off, sp⟩ : Addr).add i)) (n - i) (cap - i) ((xs.map strV).drop i) rfl (by rw [List.length_drop, List.length_map, hn]) (hcd.below hbV2) (fun u hu => one_strV xs u (List.mem_of_mem_drop hu)) (by unfold maxLen; omega) (by omega) hbV2.size ?_
            intro v3 V3 hown3 hgrow3
            have hb3 : Below w.heap.size w V3 := hbV2.grown hgrow3 hbV2.size (fun j hj => (hown2.lt j hj).1)
            refine hK.out _ _ trivial (fun _ => ?_)
            clear hK K
            try simp only [Act.put, List.setIfInBounds_toArray, List.set_cons_zero, List.set_cons_succ]
            refine take_on (i := 12) (v := v3) rfl (by kernel_rfl) (by kernel_rfl) (by kernel_rfl) (fun _ _ _ h => h) (by kernel_rfl) (fun W hSW => ?_) trivial ?_
            · first | (go_simp; done) | exact rfl | (go_simp; rfl) | (go_simp; omega)
            try simp only [Act.put, List.setIfInBounds_toArray, List.set_cons_zero, List.set_cons_succ]
            refine wpAnyH_done (by kernel_rfl) ?_ _
            have hfin : V3.ownsRow w.heap.size 9 1 v3 (n + 1) ((insL xs i s).map strV) := by
              rw [insL_map, show n + 1 = 0 + i + 1 + (n - i) by omega, show strV s = .string (bs s) from rfl]
              simpa using hown3
            go_wp2
            go_ret
            exact ⟨_, rfl, hfin, hb3⟩
        · rw [if_pos (by kernel_rfl)]
          go_simp
          refine hK.out _ _ trivial (fun _ => ?_)
          clear hK K
          try simp only [Act.put, List.setIfInBounds_toArray, List.set_cons_zero, List.set_cons_succ]
          have hbox := Box.new w.drew (.string (bs s)) 9
          have hb1 : Below w.heap.size w (w.drew.alloc (.cells #[.string (bs s)] 9)) := hb0.alloc (Nat.le_refl _) _
          refine take_call (i := 0) rfl (by kernel_rfl) (by kernel_rfl) (fun K hK => ?_)
          go_simp
          refine hK.out _ _ trivial (fun _ => ?_)
          clear hK K
          try simp only [Act.put, List.setIfInBounds_toArray, List.set_cons_zero, List.set_cons_succ]
          have hrow0 : ((w.drew.alloc (.cells #[.string (bs s)] 9)).alloc (.cells #[] 9)).ownsRow w.heap.size 9 1 (.slice (some ⟨w.heap.size + 1, 0, none⟩) 0 0) 0 [] := by
            have := World.ownsRow_lit (base := w.heap.size) (e := 9) (size := 1) (w.drew.alloc (.cells #[.string (bs s)] 9)) #[] 0 hb1.size (by unfold maxLen; omega) rfl
            simpa using this
          have hb2 : Below w.heap.size w ((w.drew.alloc (.cells #[.string (bs s)] 9)).alloc (.cells #[] 9)) := hb1.alloc hb1.size _
          have hbox0 := hbox.alloc (.cells #[] 9)
          refine take_call (i := 4) rfl (by kernel_rfl) (by kernel_rfl) (fun K hK => ?_)
          refine wp_append_src _ _ 22 rfl w.heap.size 9 i0 (.string ⟨#[]⟩) 16 Try.underlying22 hi hz0 hz1 hz2 rfl (.slice (some ⟨w.heap.size + 1, 0, none⟩) 0 0) 0 [] rfl hrow0 (some ⟨b, off, sp⟩) i cap ((xs.map strV).take i) rfl (by rw [List.length_take, List.length_map, hn]; omega) (hct.below hb2) (fun u hu => one_strV xs u (List.mem_of_mem_take hu)) (by unfold maxLen; omega) (by omega) (hb2).size ?_
          intro v1 V hown1 hgrow1
          have hbV : Below w.heap.size w V := (hb2).grown hgrow1 (hb2).size (fun j hj => by cases hj; exact Nat.le_succ _)
          refine hK.out _ _ trivial (fun _ => ?_)
          clear hK K
          try simp only [Act.put, List.setIfInBounds_toArray, List.set_cons_zero, List.set_cons_succ]
          have hbox1 := hbox0.of_block (hgrow1.block _ hbox0.lt (fun e => by have := Option.some.inj e; simp at this))
          refine take_call (i := 7) rfl (by kernel_rfl) (by kernel_rfl) (fun K hK => ?_)
          refine wp_append_own _ _ _ 22 rfl w.heap.size 9 i0 (.string ⟨#[]⟩) 1 16 Try.underlying22 hi hz0 hz1 hz2 rfl (by decide) v1 (0 + i) _ rfl hown1 ⟨w.heap.size, 0, none⟩ 1 1 [.string (bs s)] rfl rfl (fun j u hj => box_cells hbox1 j u hj) (by simp [Value.oneCell']) (by unfold maxLen; omega) (by omega) (hbV).size ?_
          intro v2 V2 hown2 hgrow2 _
          have hbV2 : Below w.heap.size w V2 := (hbV).grown hgrow2 (hbV).size (fun j hj => (hown1.lt j hj).1)
          refine hK.out _ _ trivial (fun _ => ?_)
          clear hK K
          try simp only [Act.put, List.setIfInBounds_toArray, List.set_cons_zero, List.set_cons_succ]
          refine take_call (i := 11) rfl (by kernel_rfl) (by kernel_rfl) (fun K hK => ?_)
          refine wp_append_src _ _ 22 rfl w.heap.size 9 i0 (.string ⟨#[]⟩) 16 Try.underlying22 hi hz0 hz1 hz2 rfl v2 (0 + i + 1) _ rfl hown2 (some ((⟨b, off, sp⟩ : Addr).add i)) (n - i) (cap - i) ((xs.map strV).drop i) rfl (by rw [List.length_drop, List.length_map, hn]) (hcd.below hbV2) (fun u hu => one_strV xs u (List.mem_of_mem_drop hu)) (by unfold maxLen; omega) (by omega) hbV2.size ?_
          intro v3 V3 hown3 hgrow3
          have hb3 : Below w.heap.size w V3 := hbV2.grown hgrow3 hbV2.size (fun j hj => (hown2.lt j hj).1)
          refine hK.out _ _ trivial (fun _ => ?_)
          clear hK K
          try simp only [Act.put, List.setIfInBounds_toArray, List.set_cons_zero, List.set_cons_succ]
          refine take_on (i := 12) (v := v3) rfl (by kernel_rfl) (by kernel_rfl) (by kernel_rfl) (fun _ _ _ h => h) (by kernel_rfl) (fun W hSW => ?_) trivial ?_
          · first | (go_simp; done) | exact rfl | (go_simp; rfl) | (go_simp; omega)
          try simp only [Act.put, List.setIfInBounds_toArray, List.set_cons_zero, List.set_cons_succ]
          refine wpAnyH_done (by kernel_rfl) ?_ _
          have hfin : V3.ownsRow w.heap.size 9 1 v3 (n + 1) ((insL xs i s).map strV) := by
            rw [insL_map, show n + 1 = 0 + i + 1 + (n - i) by omega, show strV s = .string (bs s) from rfl]
            simpa using hown3
          go_wp2
          go_ret
          exact ⟨_, rfl, hfin, hb3⟩
end Go.Proofs.Ytnanleopoedgfaa
