/-
  Spaces: what each function of the package does, and what the laws make of it.
-/
import Derived.Test.YtieeloealklkgaaGreatDoorJb2
import Derived.Test.YtieeloealklkgaaGreatDoorJa2
import Derived.Shelf.SlMaps.Clone
set_option linter.unusedSimpArgs false
set_option linter.unusedVariables false

/-
  The reference's space: its rows.
-/
namespace Go.Proofs.YtieeloealklkgaaGreatDoor
open Go.RowKit Go.Maps
attribute [local go_sem ↓] Go.wp_at_zero Go.wp_at_succ
attribute [local go_sem high] run_eql_pt run_neq_pt

/-- A port, put among others in the order of their names. -/
def insT (x : Pt) : List Pt → List Pt
  | [] => [x]
  | y :: r => if ordN y.name x.name < 0 then y :: insT x r else x :: y :: r
def sortP (L : List Pt) : List Pt := L.foldl (fun out x => insT x out) []
theorem insT_len (x : Pt) : ∀ L : List Pt, (insT x L).length = L.length + 1
  | [] => rfl
  | y :: r => by unfold insT; split <;> simp [insT_len x r]
theorem insT_mem (x z : Pt) : ∀ L : List Pt, z ∈ insT x L ↔ z = x ∨ z ∈ L
  | [] => by simp [insT]
  | y :: r => by
    unfold insT; split
    · simp only [List.mem_cons, insT_mem x z r]
      constructor
      · rintro (h | h | h)
        · exact .inr (.inl h)
        · exact .inl h
        · exact .inr (.inr h)
      · rintro (h | h | h)
        · exact .inr (.inl h)
        · exact .inl h
        · exact .inr (.inr h)
    · simp
theorem insT_at (x : Pt) : ∀ (L : List Pt) (k : Nat), (∀ y ∈ L.take k, ordN y.name x.name < 0) → (∀ y, L[k]? = some y → ¬ ordN y.name x.name < 0) → k ≤ L.length → insT x L = L.take k ++ x :: L.drop k
  | [], 0, _, _, _ => rfl
  | [], k + 1, _, _, h => by simp at h
  | y :: r, 0, _, h, _ => by
    unfold insT
    rw [if_neg (h y rfl)]; rfl
  | y :: r, k + 1, h1, h2, h3 => by
    rw [List.take_succ_cons] at h1
    have := insT_at x r k (fun z hz => h1 z (List.mem_cons_of_mem _ hz)) (fun z hz => h2 z (by simpa using hz)) (by simpa using h3)
    unfold insT
    rw [if_pos (h1 y List.mem_cons_self), this]; rfl
theorem insT_names (x : Pt) : ∀ L : List Pt, x.name ∉ L.map (·.name) → (insT x L).map (·.name) = insB x.name (L.map (·.name))
  | [], _ => rfl
  | y :: r, h => by
    rw [List.map_cons, List.mem_cons] at h
    unfold insT
    rw [List.map_cons, insB]
    split
    · rw [List.map_cons, insT_names x r (fun hm => h (.inr hm))]
    · rw [if_neg (fun e => h (.inl e.symm))]; rfl
theorem insT_perm (x : Pt) : ∀ M : List Pt, (insT x M).Perm (x :: M)
  | [] => List.Perm.refl _
  | y :: t => by
    unfold insT; split
    · exact ((insT_perm x t).cons y).trans (List.Perm.swap _ _ _)
    · exact List.Perm.refl _
theorem sortP_snoc (L : List Pt) (x : Pt) : sortP (L ++ [x]) = insT x (sortP L) := by simp [sortP, List.foldl_append]
theorem sortP_mem (L : List Pt) (z : Pt) : z ∈ sortP L ↔ z ∈ L := by
  have : ∀ (L M : List Pt), z ∈ L.foldl (fun out x => insT x out) M ↔ z ∈ L ∨ z ∈ M := by
    intro L
    induction L with
    | nil => intro M; simp
    | cons x r ih =>
      intro M
      rw [List.foldl_cons, ih, insT_mem, List.mem_cons]
      constructor
      · rintro (h | h | h)
        · exact .inl (.inr h)
        · exact .inl (.inl h)
        · exact .inr h
      · rintro ((h | h) | h)
        · exact .inr (.inl h)
        · exact .inl h
        · exact .inr (.inr h)
  have := this L []
  unfold sortP; rw [this]; simp
theorem sortP_len (L : List Pt) : (sortP L).length = L.length := by
  have : ∀ (L M : List Pt), (L.foldl (fun out x => insT x out) M).length = L.length + M.length := by
    intro L
    induction L with
    | nil => intro M; simp
    | cons x r ih => intro M; rw [List.foldl_cons, ih, insT_len, List.length_cons]; omega
  have := this L []
  unfold sortP; rw [this]; rfl
theorem sortP_names (L : List Pt) (h : (L.map (·.name)).Nodup) : (sortP L).map (·.name) = ofB (L.map (·.name)) := by
  have key : ∀ (L M : List Pt), ((M ++ L).map (·.name)).Nodup → True → (L.foldl (fun out x => insT x out) M).map (·.name) = (L.map (·.name)).foldl (fun L x => insB x L) (M.map (·.name)) := by
    intro L
    induction L with
    | nil => intro M _ _; rfl
    | cons x r ih =>
      intro M hn _
      rw [List.foldl_cons, List.map_cons, List.foldl_cons]
      have hx : x.name ∉ M.map (·.name) := fun hm => by
        rw [List.map_append, List.nodup_append] at hn
        exact hn.2.2 _ hm _ (by simp) rfl
      rw [ih (insT x M) ?_ trivial, insT_names x M hx]
      have hp : (insT x M ++ r).Perm (M ++ x :: r) := by
        have h1 := insT_perm x M
        exact (h1.append_right r).trans (List.perm_middle.symm)
      exact ((hp.map (·.name)).nodup_iff).2 hn
  exact key L [] (by simpa using h) trivial
theorem names_sortP {lim nx : Int} {L : List Pt} (h : SpOK lim nx L) : (sortP L).map (·.name) = namesP L := sortP_names L h.names
theorem found_sortP {lim nx : Int} {L M : List Pt} (h : SpOK lim nx L) (hM : ∀ p ∈ M, p ∈ L) : M = (M.map (·.name)).map (findP L) := by
  rw [List.map_map]
  conv => lhs; rw [← List.map_id M]
  refine List.map_congr_left (fun p hp => ?_)
  have hn := (nameP_some h.names).2 ⟨hM p hp, rfl⟩
  simp only [Function.comp, id]
  unfold findP
  rw [if_neg (by rw [h.right p (hM p hp)]; simp), hn]; rfl
theorem under_sortP {lim nx : Int} {L : List Pt} (h : SpOK lim nx L) (s : Bs) : sortP (L.filter (fun p => underB p.name s)) = underL L s := by
  rw [under_found h]
  unfold foundL
  have hsub : (L.filter (fun p => underB p.name s)).Sublist L := List.filter_sublist
  rw [found_sortP h (M := sortP (L.filter (fun p => underB p.name s))) (fun p hp => hsub.subset ((sortP_mem _ _).1 hp))]
  congr 1
  rw [sortP_names _ (h.names.sublist (hsub.map _))]
  refine sorted_ext _ _ (ofB_sorted _) ((namesP_sorted L).filter _) (fun z => ?_)
  rw [ofB_mem, List.mem_filter, namesP_mem, List.mem_map]
  constructor
  · rintro ⟨p, hp, rfl⟩
    have := List.mem_filter.1 hp
    exact ⟨⟨p, this.1, rfl⟩, this.2⟩
  · rintro ⟨⟨p, hp, rfl⟩, hu⟩
    exact ⟨p, List.mem_filter.2 ⟨hp, hu⟩, rfl⟩

set_option maxRecDepth 100000 in
set_option maxHeartbeats 4000000 in
theorem rSorted_any (a : Option Addr) (n cap : Nat) (L : List Pt) (w : World) (hn : L.length = n) (hm : n ≤ 1000) (hl : ∀ p ∈ L, p.name.length ≤ 1000)
    (hc : PtsIn w a L) :
    Calls Tryz.prog 109 #[.slice a n cap] w fun e w' => ∃ v, e = .returned v ∧ w'.ownsRow w.heap.size 68 3 v n (flatP (sortP L)) ∧ Fr0 none' w w' := by
  obtain ⟨i0, hi, hz0, hz1, hz2⟩ := info_parts info_rp
  have Hn := Lib.hid hn
  have Hc := Lib.hid hc
  have Hl := Lib.hid hl
  clear hn hc hl
  go_enter Tryz.func109, Tryz.ntmps109
  go_wp2_with fail
  go_loopw [3, 4] (fun out i wr => ∃ k : Nat, k ≤ n ∧ i = .int .i64 k ∧ Hid (wr.ownsRow w.heap.size 68 3 out k (flatP (sortP (L.take k)))) ∧ Hid (Fr0 none' w wr)) (fun _ i _ => n - (Go.RowKit.intOf i).toNat)
  case atStart => exact ⟨0, Nat.zero_le _, rfl, World.ownsRow_nil _ _ _ _, Fr0.refl _ _⟩
  case round =>
    obtain ⟨k, hk, rfl, hrow, hfr⟩ := hrel
    by_cases hlt : k < n
    · obtain ⟨x, hx⟩ : ∃ x, L[k]? = some x := ⟨_, List.getElem?_eq_getElem (by rw [Hn.out]; exact hlt)⟩
      obtain ⟨g, o, rfl, hpc⟩ := Hc.out k x hx
      have hxl := Hl.out x (List.mem_of_getElem? hx)
      have hsn : sortP (L.take (k + 1)) = insT x (sortP (L.take k)) := by rw [List.take_add_one, hx]; exact sortP_snoc _ _
      obtain ⟨M, hM⟩ : ∃ M, sortP (L.take k) = M := ⟨_, rfl⟩
      rw [hM] at hsn hrow
      have hMl : M.length = k := by rw [← hM, sortP_len, List.length_take, Hn.out]; omega
      have hMn : ∀ p ∈ M, p.name.length ≤ 1000 := fun p hp => Hl.out p (List.mem_of_mem_take ((sortP_mem _ _).1 (hM ▸ hp)))
      obtain ⟨va, vc, rfl, hva, hvc, hvm, hvb⟩ := PtsIn.of_own hrow.out hMl
      have HVA := Lib.hid hva
      have Hpc := Lib.hid (hpc.later hfr.out)
      have Hsn := Lib.hid hsn
      have HMl := Lib.hid hMl
      have HMn := Lib.hid hMn
      have Hx := Lib.hid hxl
      have k1 : (0 : Int) ≤ (k : Int) := by omega
      have k2 : (k : Int) < (n : Int) := by omega
      clear hx hpc hxl hsn hM hMl hMn hva hvb
      obtain ⟨xa, xb, xc⟩ := x
      go_wp2_with fail
      obtain ⟨W0, hW0⟩ : ∃ W, W = wr := ⟨_, rfl⟩
      subst hW0
      go_loopw [5] (fun jv wr => ∃ j : Nat, j ≤ k ∧ jv = .int .i64 j ∧ Hid (∀ y ∈ M.take j, ordN y.name xb < 0) ∧ Hid (Fr0 none' W0 wr)) (fun jv _ => k - (Go.RowKit.intOf jv).toNat)
      case atStart => exact ⟨0, Nat.zero_le _, rfl, by unfold Hid; simp, Fr0.refl _ _⟩
      case round =>
        obtain ⟨j, hj, rfl, hpre, hfj⟩ := hrel
        by_cases hjk : j < k
        · obtain ⟨y, hy⟩ : ∃ y, M[j]? = some y := ⟨_, List.getElem?_eq_getElem (by rw [HMl.out]; exact hjk)⟩
          obtain ⟨g2, o2, rfl, hyc⟩ := HVA.out j y hy
          obtain ⟨e0, e1, e2⟩ := hyc.later hfj.out
          obtain ⟨d0, d1, d2⟩ := Hpc.out.later hfj.out
          simp only at d0 d1 d2
          have hyl := HMn.out y (List.mem_of_getElem? hy)
          have HO := Lib.hid (fun W => refOrder_any y.name xb W (by omega) (by have := Hx.out; omega))
          obtain ⟨ya, yb, yc⟩ := y
          simp only at e0 e1 e2 HO
          obtain ⟨c, hc⟩ : ∃ c, ordN yb xb = c := ⟨_, rfl⟩
          simp only [hc] at HO
          have j1 : (0 : Int) ≤ (j : Int) := by omega
          have j2 : (j : Int) < (k : Int) := by omega
          have Hy := Lib.hid hy
          have Hcc := Lib.hid hc
          clear hy hyc hyl hc
          by_cases hc0 : c < 0
          · have hnext := Lib.hid (show ∀ y ∈ M.take (j + 1), ordN y.name xb < 0 from fun z hz => by
              rw [List.take_add_one, Hy.out, List.mem_append] at hz
              rcases hz with hz | hz
              · exact hpre.out z hz
              · simp at hz; subst hz; rw [Hcc.out]; exact hc0)
            have q1 : decide (c < 0) = true := decide_eq_true hc0
            go_wp2_with fail
            have Skey := Lib.hid (show ∀ W', Fr0 none' wr W' → W'.cell? ⟨g2, o2 + j * 3 + 1, none⟩ = some (.string (bs yb)) ∧ W'.cell? ⟨g, o + k * 3 + 1, none⟩ = some (.string (bs xb)) from fun W' hf => ⟨hf.later e1, hf.later d1⟩)
            refine wp_region_held_drew (S := fun W' => W'.cell? ⟨g2, o2 + j * 3 + 1, none⟩ = some (.string (bs yb)) ∧ W'.cell? ⟨g, o + k * 3 + 1, none⟩ = some (.string (bs xb))) (by kernel_rfl) (Skey.out _ (Fr0.refl none' wr).drew) (fun hHeld => ?_)
            refine take_on (i := 0) (v := .int .i64 j) rfl (by kernel_rfl) (by kernel_rfl) (by kernel_rfl) (fun _ _ _ h => h) (by kernel_rfl) (fun W' hSW => ?_) (by assumption) ?_
            · (try dsimp only at hSW)
              first | (go_simp; done) | exact rfl | (go_simp; rfl) | (go_simp; omega)
            try simp only [Act.put, List.setIfInBounds_toArray, List.set_cons_zero, List.set_cons_succ]
            refine take_on (i := 1) (v := .slice (some ⟨g2, o2, none⟩) k vc) rfl (by kernel_rfl) (by kernel_rfl) (by kernel_rfl) (fun _ _ _ h => h) (by kernel_rfl) (fun W' hSW => ?_) (by assumption) ?_
            · (try dsimp only at hSW)
              first | (go_simp; done) | exact rfl | (go_simp; rfl) | (go_simp; omega)
            try simp only [Act.put, List.setIfInBounds_toArray, List.set_cons_zero, List.set_cons_succ]
            refine take_on (i := 2) (v := .int .i64 k) rfl (by kernel_rfl) (by kernel_rfl) (by kernel_rfl) (fun _ _ _ h => h) (by kernel_rfl) (fun W' hSW => ?_) (by assumption) ?_
            · (try dsimp only at hSW)
              first | (go_simp; done) | exact rfl | (go_simp; rfl) | (go_simp; omega)
            try simp only [Act.put, List.setIfInBounds_toArray, List.set_cons_zero, List.set_cons_succ]
            refine take_on (i := 3) (v := .bool true) rfl (by kernel_rfl) (by kernel_rfl) (by kernel_rfl) (fun _ _ _ h => h) (by kernel_rfl) (fun W' hSW => ?_) (by assumption) ?_
            · (try dsimp only at hSW)
              first | (go_simp; done) | exact rfl | (go_simp; rfl) | (go_simp; omega)
            try simp only [Act.put, List.setIfInBounds_toArray, List.set_cons_zero, List.set_cons_succ]
            refine take_on (i := 4) (v := .bool true) rfl (by kernel_rfl) (by kernel_rfl) (by kernel_rfl) (fun _ _ _ h => h) (by kernel_rfl) (fun W' hSW => ?_) (by assumption) ?_
            · (try dsimp only at hSW)
              first | (go_simp; done) | exact rfl | (go_simp; rfl) | (go_simp; omega)
            try simp only [Act.put, List.setIfInBounds_toArray, List.set_cons_zero, List.set_cons_succ]
            refine take_on (i := 5) (v := .slice (some ⟨g2, o2, none⟩) k vc) rfl (by kernel_rfl) (by kernel_rfl) (by kernel_rfl) (fun _ _ _ h => h) (by kernel_rfl) (fun W' hSW => ?_) (by assumption) ?_
            · (try dsimp only at hSW)
              first | (go_simp; done) | exact rfl | (go_simp; rfl) | (go_simp; omega)
            try simp only [Act.put, List.setIfInBounds_toArray, List.set_cons_zero, List.set_cons_succ]
            refine take_on (i := 6) (v := .int .i64 j) rfl (by kernel_rfl) (by kernel_rfl) (by kernel_rfl) (fun _ _ _ h => h) (by kernel_rfl) (fun W' hSW => ?_) (by assumption) ?_
            · (try dsimp only at hSW)
              first | (go_simp; done) | exact rfl | (go_simp; rfl) | (go_simp; omega)
            try simp only [Act.put, List.setIfInBounds_toArray, List.set_cons_zero, List.set_cons_succ]
            refine take_on (i := 7) (v := .pointer (some ⟨g2, o2 + j * 3, none⟩)) rfl (by kernel_rfl) (by kernel_rfl) (by kernel_rfl) (fun _ _ _ h => h) (by kernel_rfl) (fun W' hSW => ?_) (by assumption) ?_
            · (try dsimp only at hSW)
              first | (go_simp; done) | exact rfl | (go_simp; rfl) | (go_simp; omega)
            try simp only [Act.put, List.setIfInBounds_toArray, List.set_cons_zero, List.set_cons_succ]
            refine take_on (i := 8) (v := .pointer (some ⟨g2, o2 + j * 3 + 1, none⟩)) rfl (by kernel_rfl) (by kernel_rfl) (by kernel_rfl) (fun _ _ _ h => h) (by kernel_rfl) (fun W' hSW => ?_) (by assumption) ?_
            · (try dsimp only at hSW)
              first | (go_simp; done) | exact rfl | (go_simp; rfl) | (go_simp; omega)
            try simp only [Act.put, List.setIfInBounds_toArray, List.set_cons_zero, List.set_cons_succ]
            refine take_on (i := 9) (v := .string (bs yb)) rfl (by kernel_rfl) (by kernel_rfl) (by kernel_rfl) (fun _ _ _ h => h) (by kernel_rfl) (fun W' hSW => ?_) (by assumption) ?_
            · (try dsimp only at hSW)
              first | (go_simp; done) | exact rfl | (go_simp; rfl) | (go_simp; omega)
            try simp only [Act.put, List.setIfInBounds_toArray, List.set_cons_zero, List.set_cons_succ]
            refine take_on (i := 10) (v := .slice (some ⟨g, o, none⟩) n cap) rfl (by kernel_rfl) (by kernel_rfl) (by kernel_rfl) (fun _ _ _ h => h) (by kernel_rfl) (fun W' hSW => ?_) (by assumption) ?_
            · (try dsimp only at hSW)
              first | (go_simp; done) | exact rfl | (go_simp; rfl) | (go_simp; omega)
            try simp only [Act.put, List.setIfInBounds_toArray, List.set_cons_zero, List.set_cons_succ]
            refine take_on (i := 11) (v := .int .i64 k) rfl (by kernel_rfl) (by kernel_rfl) (by kernel_rfl) (fun _ _ _ h => h) (by kernel_rfl) (fun W' hSW => ?_) (by assumption) ?_
            · (try dsimp only at hSW)
              first | (go_simp; done) | exact rfl | (go_simp; rfl) | (go_simp; omega)
            try simp only [Act.put, List.setIfInBounds_toArray, List.set_cons_zero, List.set_cons_succ]
            refine take_on (i := 12) (v := .pointer (some ⟨g, o + k * 3, none⟩)) rfl (by kernel_rfl) (by kernel_rfl) (by kernel_rfl) (fun _ _ _ h => h) (by kernel_rfl) (fun W' hSW => ?_) (by assumption) ?_
            · (try dsimp only at hSW)
              first | (go_simp; done) | exact rfl | (go_simp; rfl) | (go_simp; omega)
            try simp only [Act.put, List.setIfInBounds_toArray, List.set_cons_zero, List.set_cons_succ]
            refine take_on (i := 13) (v := .pointer (some ⟨g, o + k * 3 + 1, none⟩)) rfl (by kernel_rfl) (by kernel_rfl) (by kernel_rfl) (fun _ _ _ h => h) (by kernel_rfl) (fun W' hSW => ?_) (by assumption) ?_
            · (try dsimp only at hSW)
              first | (go_simp; done) | exact rfl | (go_simp; rfl) | (go_simp; omega)
            try simp only [Act.put, List.setIfInBounds_toArray, List.set_cons_zero, List.set_cons_succ]
            refine take_on (i := 14) (v := .string (bs xb)) rfl (by kernel_rfl) (by kernel_rfl) (by kernel_rfl) (fun _ _ _ h => h) (by kernel_rfl) (fun W' hSW => ?_) (by assumption) ?_
            · (try dsimp only at hSW)
              first | (go_simp; done) | exact rfl | (go_simp; rfl) | (go_simp; omega)
            try simp only [Act.put, List.setIfInBounds_toArray, List.set_cons_zero, List.set_cons_succ]
            refine take_call (i := 15) rfl (by kernel_rfl) (by kernel_rfl) (fun K hK => ?_)
            go_simp
            refine (HO.out _).mono ?_
            rintro e w5 ⟨rfl, hbe⟩
            have hfw := (Fr0.refl none' wr).drew.trans (below_to0 hbe)
            go_wp2_with fail
            refine hK.out _ _ (Skey.out _ hfw) (fun _ => ?_)
            clear hK K
            try simp only [Act.put, List.setIfInBounds_toArray, List.set_cons_zero, List.set_cons_succ]
            refine take_on (i := 16) (v := .bool true) rfl (by kernel_rfl) (by kernel_rfl) (by kernel_rfl) (fun _ _ _ h => h) (by kernel_rfl) (fun W' hSW => ?_) (by assumption) ?_
            · (try dsimp only at hSW)
              first | (go_simp; done) | exact rfl | (go_simp; rfl) | (go_simp; omega)
            try simp only [Act.put, List.setIfInBounds_toArray, List.set_cons_zero, List.set_cons_succ]
            refine take_on (i := 17) (v := .bool true) rfl (by kernel_rfl) (by kernel_rfl) (by kernel_rfl) (fun _ _ _ h => h) (by kernel_rfl) (fun W' hSW => ?_) (by assumption) ?_
            · (try dsimp only at hSW)
              first | (go_simp; done) | exact rfl | (go_simp; rfl) | (go_simp; omega)
            try simp only [Act.put, List.setIfInBounds_toArray, List.set_cons_zero, List.set_cons_succ]
            refine wpAnyH_done (by kernel_rfl) ?_ _
            have hf5 := Lib.hid (hfj.out.trans hfw)
            clear hHeld HO hbe d0 d1 d2 e0 e1 e2 hfw Skey
            go_wp2
            go_roundw
            case rel => exact ⟨j + 1, by omega, by go_num, hnext, hf5⟩
            case measure => simp [Go.RowKit.intOf]; omega
          · have q1 : decide (c < 0) = false := decide_eq_false hc0
            have hend := Lib.hid (show insT ⟨xa, xb, xc⟩ M = M.take j ++ ⟨xa, xb, xc⟩ :: M.drop j from insT_at _ M j hpre.out (fun z hz => by
              rw [Hy.out] at hz; injection hz with hz; subst hz; simp only; rw [Hcc.out]; exact hc0) (by rw [HMl.out]; omega))
            go_wp2_with fail
            have Skey := Lib.hid (show ∀ W', Fr0 none' wr W' → W'.cell? ⟨g2, o2 + j * 3 + 1, none⟩ = some (.string (bs yb)) ∧ W'.cell? ⟨g, o + k * 3 + 1, none⟩ = some (.string (bs xb)) from fun W' hf => ⟨hf.later e1, hf.later d1⟩)
            refine wp_region_held_drew (S := fun W' => W'.cell? ⟨g2, o2 + j * 3 + 1, none⟩ = some (.string (bs yb)) ∧ W'.cell? ⟨g, o + k * 3 + 1, none⟩ = some (.string (bs xb))) (by kernel_rfl) (Skey.out _ (Fr0.refl none' wr).drew) (fun hHeld => ?_)
            refine take_on (i := 0) (v := .int .i64 j) rfl (by kernel_rfl) (by kernel_rfl) (by kernel_rfl) (fun _ _ _ h => h) (by kernel_rfl) (fun W' hSW => ?_) (by assumption) ?_
            · (try dsimp only at hSW)
              first | (go_simp; done) | exact rfl | (go_simp; rfl) | (go_simp; omega)
            try simp only [Act.put, List.setIfInBounds_toArray, List.set_cons_zero, List.set_cons_succ]
            refine take_on (i := 1) (v := .slice (some ⟨g2, o2, none⟩) k vc) rfl (by kernel_rfl) (by kernel_rfl) (by kernel_rfl) (fun _ _ _ h => h) (by kernel_rfl) (fun W' hSW => ?_) (by assumption) ?_
            · (try dsimp only at hSW)
              first | (go_simp; done) | exact rfl | (go_simp; rfl) | (go_simp; omega)
            try simp only [Act.put, List.setIfInBounds_toArray, List.set_cons_zero, List.set_cons_succ]
            refine take_on (i := 2) (v := .int .i64 k) rfl (by kernel_rfl) (by kernel_rfl) (by kernel_rfl) (fun _ _ _ h => h) (by kernel_rfl) (fun W' hSW => ?_) (by assumption) ?_
            · (try dsimp only at hSW)
              first | (go_simp; done) | exact rfl | (go_simp; rfl) | (go_simp; omega)
            try simp only [Act.put, List.setIfInBounds_toArray, List.set_cons_zero, List.set_cons_succ]
            refine take_on (i := 3) (v := .bool true) rfl (by kernel_rfl) (by kernel_rfl) (by kernel_rfl) (fun _ _ _ h => h) (by kernel_rfl) (fun W' hSW => ?_) (by assumption) ?_
            · (try dsimp only at hSW)
              first | (go_simp; done) | exact rfl | (go_simp; rfl) | (go_simp; omega)
            try simp only [Act.put, List.setIfInBounds_toArray, List.set_cons_zero, List.set_cons_succ]
            refine take_on (i := 4) (v := .bool true) rfl (by kernel_rfl) (by kernel_rfl) (by kernel_rfl) (fun _ _ _ h => h) (by kernel_rfl) (fun W' hSW => ?_) (by assumption) ?_
            · (try dsimp only at hSW)
              first | (go_simp; done) | exact rfl | (go_simp; rfl) | (go_simp; omega)
            try simp only [Act.put, List.setIfInBounds_toArray, List.set_cons_zero, List.set_cons_succ]
            refine take_on (i := 5) (v := .slice (some ⟨g2, o2, none⟩) k vc) rfl (by kernel_rfl) (by kernel_rfl) (by kernel_rfl) (fun _ _ _ h => h) (by kernel_rfl) (fun W' hSW => ?_) (by assumption) ?_
            · (try dsimp only at hSW)
              first | (go_simp; done) | exact rfl | (go_simp; rfl) | (go_simp; omega)
            try simp only [Act.put, List.setIfInBounds_toArray, List.set_cons_zero, List.set_cons_succ]
            refine take_on (i := 6) (v := .int .i64 j) rfl (by kernel_rfl) (by kernel_rfl) (by kernel_rfl) (fun _ _ _ h => h) (by kernel_rfl) (fun W' hSW => ?_) (by assumption) ?_
            · (try dsimp only at hSW)
              first | (go_simp; done) | exact rfl | (go_simp; rfl) | (go_simp; omega)
            try simp only [Act.put, List.setIfInBounds_toArray, List.set_cons_zero, List.set_cons_succ]
            refine take_on (i := 7) (v := .pointer (some ⟨g2, o2 + j * 3, none⟩)) rfl (by kernel_rfl) (by kernel_rfl) (by kernel_rfl) (fun _ _ _ h => h) (by kernel_rfl) (fun W' hSW => ?_) (by assumption) ?_
            · (try dsimp only at hSW)
              first | (go_simp; done) | exact rfl | (go_simp; rfl) | (go_simp; omega)
            try simp only [Act.put, List.setIfInBounds_toArray, List.set_cons_zero, List.set_cons_succ]
            refine take_on (i := 8) (v := .pointer (some ⟨g2, o2 + j * 3 + 1, none⟩)) rfl (by kernel_rfl) (by kernel_rfl) (by kernel_rfl) (fun _ _ _ h => h) (by kernel_rfl) (fun W' hSW => ?_) (by assumption) ?_
            · (try dsimp only at hSW)
              first | (go_simp; done) | exact rfl | (go_simp; rfl) | (go_simp; omega)
            try simp only [Act.put, List.setIfInBounds_toArray, List.set_cons_zero, List.set_cons_succ]
            refine take_on (i := 9) (v := .string (bs yb)) rfl (by kernel_rfl) (by kernel_rfl) (by kernel_rfl) (fun _ _ _ h => h) (by kernel_rfl) (fun W' hSW => ?_) (by assumption) ?_
            · (try dsimp only at hSW)
              first | (go_simp; done) | exact rfl | (go_simp; rfl) | (go_simp; omega)
            try simp only [Act.put, List.setIfInBounds_toArray, List.set_cons_zero, List.set_cons_succ]
            refine take_on (i := 10) (v := .slice (some ⟨g, o, none⟩) n cap) rfl (by kernel_rfl) (by kernel_rfl) (by kernel_rfl) (fun _ _ _ h => h) (by kernel_rfl) (fun W' hSW => ?_) (by assumption) ?_
            · (try dsimp only at hSW)
              first | (go_simp; done) | exact rfl | (go_simp; rfl) | (go_simp; omega)
            try simp only [Act.put, List.setIfInBounds_toArray, List.set_cons_zero, List.set_cons_succ]
            refine take_on (i := 11) (v := .int .i64 k) rfl (by kernel_rfl) (by kernel_rfl) (by kernel_rfl) (fun _ _ _ h => h) (by kernel_rfl) (fun W' hSW => ?_) (by assumption) ?_
            · (try dsimp only at hSW)
              first | (go_simp; done) | exact rfl | (go_simp; rfl) | (go_simp; omega)
            try simp only [Act.put, List.setIfInBounds_toArray, List.set_cons_zero, List.set_cons_succ]
            refine take_on (i := 12) (v := .pointer (some ⟨g, o + k * 3, none⟩)) rfl (by kernel_rfl) (by kernel_rfl) (by kernel_rfl) (fun _ _ _ h => h) (by kernel_rfl) (fun W' hSW => ?_) (by assumption) ?_
            · (try dsimp only at hSW)
              first | (go_simp; done) | exact rfl | (go_simp; rfl) | (go_simp; omega)
            try simp only [Act.put, List.setIfInBounds_toArray, List.set_cons_zero, List.set_cons_succ]
            refine take_on (i := 13) (v := .pointer (some ⟨g, o + k * 3 + 1, none⟩)) rfl (by kernel_rfl) (by kernel_rfl) (by kernel_rfl) (fun _ _ _ h => h) (by kernel_rfl) (fun W' hSW => ?_) (by assumption) ?_
            · (try dsimp only at hSW)
              first | (go_simp; done) | exact rfl | (go_simp; rfl) | (go_simp; omega)
            try simp only [Act.put, List.setIfInBounds_toArray, List.set_cons_zero, List.set_cons_succ]
            refine take_on (i := 14) (v := .string (bs xb)) rfl (by kernel_rfl) (by kernel_rfl) (by kernel_rfl) (fun _ _ _ h => h) (by kernel_rfl) (fun W' hSW => ?_) (by assumption) ?_
            · (try dsimp only at hSW)
              first | (go_simp; done) | exact rfl | (go_simp; rfl) | (go_simp; omega)
            try simp only [Act.put, List.setIfInBounds_toArray, List.set_cons_zero, List.set_cons_succ]
            refine take_call (i := 15) rfl (by kernel_rfl) (by kernel_rfl) (fun K hK => ?_)
            go_simp
            refine (HO.out _).mono ?_
            rintro e w5 ⟨rfl, hbe⟩
            have hfw := (Fr0.refl none' wr).drew.trans (below_to0 hbe)
            go_wp2_with fail
            refine hK.out _ _ (Skey.out _ hfw) (fun _ => ?_)
            clear hK K
            try simp only [Act.put, List.setIfInBounds_toArray, List.set_cons_zero, List.set_cons_succ]
            refine take_on (i := 16) (v := .bool false) rfl (by kernel_rfl) (by kernel_rfl) (by kernel_rfl) (fun _ _ _ h => h) (by kernel_rfl) (fun W' hSW => ?_) (by assumption) ?_
            · (try dsimp only at hSW)
              first | (go_simp; done) | exact rfl | (go_simp; rfl) | (go_simp; omega)
            try simp only [Act.put, List.setIfInBounds_toArray, List.set_cons_zero, List.set_cons_succ]
            refine take_on (i := 17) (v := .bool false) rfl (by kernel_rfl) (by kernel_rfl) (by kernel_rfl) (fun _ _ _ h => h) (by kernel_rfl) (fun W' hSW => ?_) (by assumption) ?_
            · (try dsimp only at hSW)
              first | (go_simp; done) | exact rfl | (go_simp; rfl) | (go_simp; omega)
            try simp only [Act.put, List.setIfInBounds_toArray, List.set_cons_zero, List.set_cons_succ]
            refine wpAnyH_done (by kernel_rfl) ?_ _
            have hf5 := Lib.hid (hfj.out.trans hfw)
            clear hHeld HO hbe d0 d1 d2 e0 e1 e2 hfw Skey
            go_wp2_with fail
            obtain ⟨A, hA, HDr0⟩ : ∃ A : Addr, (if vc = j then some (⟨g2, o2, none⟩ : Addr) else some ⟨g2, o2 + j * 3, none⟩) = some A ∧ Hid (∀ W, PtsIn W (some ⟨g2, o2, none⟩) M → PtsIn W (some A) (M.drop j)) := by
              by_cases h : vc = j
              · refine ⟨⟨g2, o2, none⟩, by simp [h], fun W _ i p hi => ?_⟩
                rw [List.drop_of_length_le (by rw [HMl.out]; omega)] at hi
                simp at hi
              · refine ⟨⟨g2, o2 + j * 3, none⟩, by simp [h], fun W hf i p hi => ?_⟩
                rw [List.getElem?_drop] at hi
                obtain ⟨g', o', e, hc⟩ := hf (j + i) p hi
                injection e with e
                injection e with e1 e2
                subst e1; subst e2
                exact ⟨g2, o2 + j * 3, rfl, by rw [show o2 + j * 3 + i * 3 = o2 + (j + i) * 3 by omega]; exact hc⟩
            have HDr := Lib.hid (fun W (hf : Fr0 none' w5 W) => HDr0.out W ((HVA.out.later hf5.out).later hf))
            clear HDr0
            have FW := Lib.hid (hfr.out.trans hf5.out)
            have HVA := Lib.hid (HVA.out.later hf5.out)
            obtain ⟨d0, d1, d2⟩ := Hpc.out.later hf5.out
            simp only at d0 d1 d2
            have HT := Lib.hid (show ∀ W, Fr0 none' w5 W → PtsIn W (some ⟨g2, o2, none⟩) (M.take j) from fun W hf i p hi => by
              rw [List.getElem?_take] at hi
              split at hi
              · exact (HVA.out.later hf) i p hi
              · cases hi)
            have Skey := Lib.hid (show ∀ W', Fr0 none' w5 W' → W'.cell? ⟨g, o + k * 3, none⟩ = some (.int .i64 xa) ∧ W'.cell? ⟨g, o + k * 3 + 1, none⟩ = some (.string (bs xb)) ∧ W'.cell? ⟨g, o + k * 3 + 2, none⟩ = some (.int .i64 xc) from fun W' hf => ⟨hf.later d0, hf.later d1, hf.later d2⟩)
            have hHeld := Skey.out _ (Fr0.refl none' w5).drew
            have F0 := Lib.hid (Fr0.refl none' w5).drew
            have i1 : (0 : Int) ≤ (j : Int) := by omega
            have i2 : (j : Int) ≤ (k : Int) := by omega
            have i3 : (j : Int) ≤ (vc : Int) := by omega
            have i4 : (k : Int) ≤ (vc : Int) := by omega
            clear d0 d1 d2
            refine wp_region_Z (z := 15) (S := fun W' => W'.cell? ⟨g, o + k * 3, none⟩ = some (.int .i64 xa) ∧ W'.cell? ⟨g, o + k * 3 + 1, none⟩ = some (.string (bs xb)) ∧ W'.cell? ⟨g, o + k * 3 + 2, none⟩ = some (.int .i64 xc)) (by kernel_rfl) ?_
            obtain ⟨WD, hWD⟩ : ∃ W, w5.drew = W := ⟨_, rfl⟩
            rw [hWD] at F0 hHeld ⊢
            clear hWD
            refine takeZ_on (i := 1) (v := .slice (some ⟨g2, o2, none⟩) k vc) rfl (by kernel_rfl) (by kernel_rfl) (by kernel_rfl) (by kernel_rfl) (fun _ _ _ h => h) (by kernel_rfl) (fun W' hSW => ?_) (by assumption) ?_
            · (try dsimp only at hSW)
              first | (go_simp; done) | exact rfl | (go_simp; rfl) | (go_simp; omega)
            try simp only [Act.put, List.setIfInBounds_toArray, List.set_cons_zero, List.set_cons_succ]
            refine takeZ_on (i := 2) (v := .int .i64 j) rfl (by kernel_rfl) (by kernel_rfl) (by kernel_rfl) (by kernel_rfl) (fun _ _ _ h => h) (by kernel_rfl) (fun W' hSW => ?_) (by assumption) ?_
            · (try dsimp only at hSW)
              first | (go_simp; done) | exact rfl | (go_simp; rfl) | (go_simp; omega)
            try simp only [Act.put, List.setIfInBounds_toArray, List.set_cons_zero, List.set_cons_succ]
            refine takeZ_on (i := 3) (v := .slice (some ⟨g2, o2, none⟩) j vc) rfl (by kernel_rfl) (by kernel_rfl) (by kernel_rfl) (by kernel_rfl) (fun _ _ _ h => h) (by kernel_rfl) (fun W' hSW => ?_) (by assumption) ?_
            · (try dsimp only at hSW)
              first | (go_simp; done) | exact rfl | (go_simp; rfl) | (go_simp; omega)
            try simp only [Act.put, List.setIfInBounds_toArray, List.set_cons_zero, List.set_cons_succ]
            refine takeZ_on (i := 5) (v := .slice (some ⟨g, o, none⟩) n cap) rfl (by kernel_rfl) (by kernel_rfl) (by kernel_rfl) (by kernel_rfl) (fun _ _ _ h => h) (by kernel_rfl) (fun W' hSW => ?_) (by assumption) ?_
            · (try dsimp only at hSW)
              first | (go_simp; done) | exact rfl | (go_simp; rfl) | (go_simp; omega)
            try simp only [Act.put, List.setIfInBounds_toArray, List.set_cons_zero, List.set_cons_succ]
            refine takeZ_on (i := 6) (v := .int .i64 k) rfl (by kernel_rfl) (by kernel_rfl) (by kernel_rfl) (by kernel_rfl) (fun _ _ _ h => h) (by kernel_rfl) (fun W' hSW => ?_) (by assumption) ?_
            · (try dsimp only at hSW)
              first | (go_simp; done) | exact rfl | (go_simp; rfl) | (go_simp; omega)
            try simp only [Act.put, List.setIfInBounds_toArray, List.set_cons_zero, List.set_cons_succ]
            refine takeZ_on (i := 7) (v := .pointer (some ⟨g, o + k * 3, none⟩)) rfl (by kernel_rfl) (by kernel_rfl) (by kernel_rfl) (by kernel_rfl) (fun _ _ _ h => h) (by kernel_rfl) (fun W' hSW => ?_) (by assumption) ?_
            · (try dsimp only at hSW)
              first | (go_simp; done) | exact rfl | (go_simp; rfl) | (go_simp; omega)
            try simp only [Act.put, List.setIfInBounds_toArray, List.set_cons_zero, List.set_cons_succ]
            refine takeZ_on (i := 8) (v := .agg #[.int .i64 xa, .string (bs xb), .int .i64 xc]) rfl (by kernel_rfl) (by kernel_rfl) (by kernel_rfl) (by kernel_rfl) (fun _ _ _ h => h) (by kernel_rfl) (fun W' hSW => ?_) (by assumption) ?_
            · (try dsimp only at hSW)
              first | (go_simp; done) | exact rfl | (go_simp; rfl) | (go_simp; omega)
            try simp only [Act.put, List.setIfInBounds_toArray, List.set_cons_zero, List.set_cons_succ]
            refine takeZ_on (i := 11) (v := .slice (some ⟨g2, o2, none⟩) k vc) rfl (by kernel_rfl) (by kernel_rfl) (by kernel_rfl) (by kernel_rfl) (fun _ _ _ h => h) (by kernel_rfl) (fun W' hSW => ?_) (by assumption) ?_
            · (try dsimp only at hSW)
              first | (go_simp; done) | exact rfl | (go_simp; rfl) | (go_simp; omega)
            try simp only [Act.put, List.setIfInBounds_toArray, List.set_cons_zero, List.set_cons_succ]
            refine takeZ_on (i := 12) (v := .int .i64 j) rfl (by kernel_rfl) (by kernel_rfl) (by kernel_rfl) (by kernel_rfl) (fun _ _ _ h => h) (by kernel_rfl) (fun W' hSW => ?_) (by assumption) ?_
            · (try dsimp only at hSW)
              first | (go_simp; done) | exact rfl | (go_simp; rfl) | (go_simp; omega)
            try simp only [Act.put, List.setIfInBounds_toArray, List.set_cons_zero, List.set_cons_succ]
            refine takeZ_on (i := 13) (v := .slice (some A) (k - j) (vc - j)) rfl (by kernel_rfl) (by kernel_rfl) (by kernel_rfl) (by kernel_rfl) (fun _ _ _ h => h) (by kernel_rfl) (fun W' hSW => ?_) (by assumption) ?_
            · (try dsimp only at hSW)
              first | (go_simp; done) | exact rfl | (go_simp; rfl) | (go_simp; omega)
            try simp only [Act.put, List.setIfInBounds_toArray, List.set_cons_zero, List.set_cons_succ]
            refine takeZ_two (i := 0) (j := 9) rfl rfl (by kernel_rfl) (by kernel_rfl) (by kernel_rfl) (fun K hK => ?_) (fun K hK => ?_)
            · skip
              go_simp
              obtain ⟨V1, hV⟩ : ∃ W, WD.alloc (.cells #[] 68) = W := ⟨_, rfl⟩
              obtain ⟨G, hG⟩ : ∃ X, WD.heap.size = X := ⟨_, rfl⟩
              have hrow := World.ownsRow_lit (base := w5.heap.size) (e := 68) (size := 3) WD #[] 0 F0.out.size (by unfold maxLen; omega) rfl
              have fV := Lib.hid (show Fr0 none' WD V1 by rw [← hV]; exact (Fr0.refl _ _).alloc _)
              have F2 := Lib.hid (F0.out.trans fV.out)
              rw [hV, hG] at hrow
              rw [hV, hG]
              have Hrow := Lib.hid hrow
              have hGV := (hrow.lt G rfl).2
              have HGl := Lib.hid (show G = WD.heap.size from hG.symm)
              clear hV hG hrow
              refine hK.out _ _ (.inr (Skey.out _ F2.out)) ?_
              clear hK K
              try simp only [Act.put, List.setIfInBounds_toArray, List.set_cons_zero, List.set_cons_succ]
              refine takeZ_two (i := 4) (j := 9) rfl rfl (by kernel_rfl) (by kernel_rfl) (by kernel_rfl) (fun K hK => ?_) (fun K hK => ?_)
              · skip
                refine wp_app_k _ _ 63 63 rfl w5.heap.size 68 i0 (.agg #[.int .i64 0, .string ⟨#[]⟩, .int .i64 0]) 3 32 Tryz.underlying63 hi hz0 hz1 hz2 rfl (by decide) (.slice (some ⟨G, 0, none⟩) 0 0) 0 [] rfl Hrow.out (.slice (some ⟨g2, o2, none⟩) j vc) j (flatP (M.take j)) rfl ((HT.out _ F2.out).src (by rw [List.length_take, HMl.out]; omega) vc Tryz.underlying63) (by unfold maxLen; omega) (by omega) F2.out.size ?_
                intro v1 V2 hown1 hgr
                have fA := Lib.hid (show Fr0 (fun k => k = G) V1 V2 from (Fr0.refl (fun k => k = G) V1).grown hgr (fun k hk _ => by simpa [Value.ownBlock] using hk.symm))
                have F3 := Lib.hid (F2.out.trans' fA.out (fun k hk e => by have := HGl.out; have := F0.out.size; omega))
                have Hown1 := Lib.hid hown1
                clear hown1 hgr
                refine hK.out _ _ (.inr (Skey.out _ F3.out)) ?_
                clear hK K
                try simp only [Act.put, List.setIfInBounds_toArray, List.set_cons_zero, List.set_cons_succ]
                refine takeZ_call (i := 9) rfl (by kernel_rfl) (by kernel_rfl) (fun K hK => ?_)
                go_simp
                obtain ⟨V3, hV⟩ : ∃ W, V2.alloc (.cells #[.int .i64 xa, .string (bs xb), .int .i64 xc] 68) = W := ⟨_, rfl⟩
                obtain ⟨LB, hG⟩ : ∃ X, V2.heap.size = X := ⟨_, rfl⟩
                have hlit : V3.heap[LB]? = some (.cells #[.int .i64 xa, .string (bs xb), .int .i64 xc] 68 (0, 0)) := by rw [← hV, ← hG]; exact World.alloc_heap_new V2 _
                have fL := Lib.hid (show Fr0 none' V2 V3 by rw [← hV]; exact (Fr0.refl _ _).alloc _)
                have F4 := Lib.hid (F3.out.trans fL.out)
                rw [hV, hG]
                have Hlit := Lib.hid (PtsIn.one hlit)
                have hLV := (Array.getElem?_eq_some_iff.1 hlit).1
                have HLl := Lib.hid (show LB = V2.heap.size from hG.symm)
                clear hV hG hlit
                refine hK.out _ _ (.inr (Skey.out _ F4.out)) ?_
                clear hK K
                try simp only [Act.put, List.setIfInBounds_toArray, List.set_cons_zero, List.set_cons_succ]
                have Hown2 := Lib.hid (ownsRow_fr0 Hown1.out fL.out (fun _ _ h => h))
                refine takeZ_call (i := 10) rfl (by kernel_rfl) (by kernel_rfl) (fun K hK => ?_)
                refine wp_app_k _ _ 63 63 rfl w5.heap.size 68 i0 (.agg #[.int .i64 0, .string ⟨#[]⟩, .int .i64 0]) 3 32 Tryz.underlying63 hi hz0 hz1 hz2 rfl (by decide) v1 (0 + j) _ rfl Hown2.out (.slice (some ⟨LB, 0, none⟩) 1 1) 1 (flatP [⟨xa, xb, xc⟩]) rfl (Hlit.out.src rfl 1 Tryz.underlying63) (by unfold maxLen; omega) (by omega) F4.out.size ?_
                intro v2 V8 hown2 hgr2
                have hg2 := Hown2.out.lt
                have F8 := Lib.hid (F4.out.grown hgr2 (fun k hk hkl => by have := (hg2 k hk).1; omega))
                have Hown2' := Lib.hid hown2
                clear hown2 hgr2 hg2
                refine hK.out _ _ (.inr (Skey.out _ F8.out)) ?_
                clear hK K
                try simp only [Act.put, List.setIfInBounds_toArray, List.set_cons_zero, List.set_cons_succ]
                refine takeZ_call (i := 14) rfl (by kernel_rfl) (by kernel_rfl) (fun K hK => ?_)
                refine wp_app_k _ _ 63 63 rfl w5.heap.size 68 i0 (.agg #[.int .i64 0, .string ⟨#[]⟩, .int .i64 0]) 3 32 Tryz.underlying63 hi hz0 hz1 hz2 rfl (by decide) v2 (0 + j + 1) _ rfl Hown2'.out (.slice (some A) (k - j) (vc - j)) (k - j) (flatP (M.drop j)) rfl ((HDr.out _ F8.out).src (by rw [List.length_drop, HMl.out]) (vc - j) Tryz.underlying63) (by unfold maxLen; omega) (by omega) F8.out.size ?_
                intro v3 V9 hown3 hgr3
                have hg3 := Hown2'.out.lt
                have F9 := Lib.hid (F8.out.grown hgr3 (fun k hk hkl => by have := (hg3 k hk).1; omega))
                have hfin : V9.ownsRow w5.heap.size 68 3 v3 (k + 1) (flatP (sortP (L.take (k + 1)))) := by
                  rw [Hsn.out, hend.out, show k + 1 = 0 + j + 1 + (k - j) by omega, flatP_append, show (⟨xa, xb, xc⟩ :: M.drop j : List Pt) = [⟨xa, xb, xc⟩] ++ M.drop j from rfl, flatP_append, ← List.append_assoc]
                  exact hown3
                have Hfin := Lib.hid (ownsRow_k_mono hfin (FW.out.size))
                clear hown3 hgr3 hg3 hfin
                refine hK.out _ _ (.inr (Skey.out _ F9.out)) ?_
                clear hK K
                try simp only [Act.put, List.setIfInBounds_toArray, List.set_cons_zero, List.set_cons_succ]
                refine takeZ_call (i := 15) rfl (by kernel_rfl) (by kernel_rfl) (fun K hK => ?_)
                go_simp
                refine hK.out _ _ (.inr (Skey.out _ F9.out)) ?_
                clear hK K
                try simp only [Act.put, List.setIfInBounds_toArray, List.set_cons_zero, List.set_cons_succ]
                refine wpAnyZ_done (by kernel_rfl) ?_ _
                clear hHeld
                have FF := Lib.hid (FW.out.trans F9.out)
                go_wp2
                go_roundw
                case rel => exact ⟨k + 1, by omega, by go_num, Hfin, FF⟩
                case measure => simp [Go.RowKit.intOf]; omega
              · skip
                go_simp
                obtain ⟨V2, hV⟩ : ∃ W, V1.alloc (.cells #[.int .i64 xa, .string (bs xb), .int .i64 xc] 68) = W := ⟨_, rfl⟩
                obtain ⟨LB, hG⟩ : ∃ X, V1.heap.size = X := ⟨_, rfl⟩
                have hlit : V2.heap[LB]? = some (.cells #[.int .i64 xa, .string (bs xb), .int .i64 xc] 68 (0, 0)) := by rw [← hV, ← hG]; exact World.alloc_heap_new V1 _
                have fL := Lib.hid (show Fr0 none' V1 V2 by rw [← hV]; exact (Fr0.refl _ _).alloc _)
                have F3 := Lib.hid (F2.out.trans fL.out)
                rw [hV, hG]
                have Hlit := Lib.hid (PtsIn.one hlit)
                have hLV := (Array.getElem?_eq_some_iff.1 hlit).1
                have HLl := Lib.hid (show LB = V1.heap.size from hG.symm)
                clear hV hG hlit
                refine hK.out _ _ (.inr (Skey.out _ F3.out)) ?_
                clear hK K
                try simp only [Act.put, List.setIfInBounds_toArray, List.set_cons_zero, List.set_cons_succ]
                have Hrow := Lib.hid (ownsRow_fr0 Hrow.out fL.out (fun _ _ h => h))
                refine takeZ_call (i := 4) rfl (by kernel_rfl) (by kernel_rfl) (fun K hK => ?_)
                refine wp_app_k _ _ 63 63 rfl w5.heap.size 68 i0 (.agg #[.int .i64 0, .string ⟨#[]⟩, .int .i64 0]) 3 32 Tryz.underlying63 hi hz0 hz1 hz2 rfl (by decide) (.slice (some ⟨G, 0, none⟩) 0 0) 0 [] rfl Hrow.out (.slice (some ⟨g2, o2, none⟩) j vc) j (flatP (M.take j)) rfl ((HT.out _ F3.out).src (by rw [List.length_take, HMl.out]; omega) vc Tryz.underlying63) (by unfold maxLen; omega) (by omega) F3.out.size ?_
                intro v1 V3 hown1 hgr
                have fA := Lib.hid (show Fr0 (fun k => k = G) V2 V3 from (Fr0.refl (fun k => k = G) V2).grown hgr (fun k hk _ => by simpa [Value.ownBlock] using hk.symm))
                have F4 := Lib.hid (F3.out.trans' fA.out (fun k hk e => by have := HGl.out; have := F0.out.size; omega))
                have Hown1 := Lib.hid hown1
                clear hown1 hgr
                refine hK.out _ _ (.inr (Skey.out _ F4.out)) ?_
                clear hK K
                try simp only [Act.put, List.setIfInBounds_toArray, List.set_cons_zero, List.set_cons_succ]
                have Hlit2 := Lib.hid (Hlit.out.fr0 fA.out (fun g o s' e h => by injection e with e; injection e with e1; subst h; subst e1; have h1 := HGl.out; have h2 := HLl.out; omega))
                refine takeZ_call (i := 10) rfl (by kernel_rfl) (by kernel_rfl) (fun K hK => ?_)
                refine wp_app_k _ _ 63 63 rfl w5.heap.size 68 i0 (.agg #[.int .i64 0, .string ⟨#[]⟩, .int .i64 0]) 3 32 Tryz.underlying63 hi hz0 hz1 hz2 rfl (by decide) v1 (0 + j) _ rfl Hown1.out (.slice (some ⟨LB, 0, none⟩) 1 1) 1 (flatP [⟨xa, xb, xc⟩]) rfl (Hlit2.out.src rfl 1 Tryz.underlying63) (by unfold maxLen; omega) (by omega) F4.out.size ?_
                intro v2 V8 hown2 hgr2
                have hg2 := Hown1.out.lt
                have F8 := Lib.hid (F4.out.grown hgr2 (fun k hk hkl => by have := (hg2 k hk).1; omega))
                have Hown2' := Lib.hid hown2
                clear hown2 hgr2 hg2
                refine hK.out _ _ (.inr (Skey.out _ F8.out)) ?_
                clear hK K
                try simp only [Act.put, List.setIfInBounds_toArray, List.set_cons_zero, List.set_cons_succ]
                refine takeZ_call (i := 14) rfl (by kernel_rfl) (by kernel_rfl) (fun K hK => ?_)
                refine wp_app_k _ _ 63 63 rfl w5.heap.size 68 i0 (.agg #[.int .i64 0, .string ⟨#[]⟩, .int .i64 0]) 3 32 Tryz.underlying63 hi hz0 hz1 hz2 rfl (by decide) v2 (0 + j + 1) _ rfl Hown2'.out (.slice (some A) (k - j) (vc - j)) (k - j) (flatP (M.drop j)) rfl ((HDr.out _ F8.out).src (by rw [List.length_drop, HMl.out]) (vc - j) Tryz.underlying63) (by unfold maxLen; omega) (by omega) F8.out.size ?_
                intro v3 V9 hown3 hgr3
                have hg3 := Hown2'.out.lt
                have F9 := Lib.hid (F8.out.grown hgr3 (fun k hk hkl => by have := (hg3 k hk).1; omega))
                have hfin : V9.ownsRow w5.heap.size 68 3 v3 (k + 1) (flatP (sortP (L.take (k + 1)))) := by
                  rw [Hsn.out, hend.out, show k + 1 = 0 + j + 1 + (k - j) by omega, flatP_append, show (⟨xa, xb, xc⟩ :: M.drop j : List Pt) = [⟨xa, xb, xc⟩] ++ M.drop j from rfl, flatP_append, ← List.append_assoc]
                  exact hown3
                have Hfin := Lib.hid (ownsRow_k_mono hfin (FW.out.size))
                clear hown3 hgr3 hg3 hfin
                refine hK.out _ _ (.inr (Skey.out _ F9.out)) ?_
                clear hK K
                try simp only [Act.put, List.setIfInBounds_toArray, List.set_cons_zero, List.set_cons_succ]
                refine takeZ_call (i := 15) rfl (by kernel_rfl) (by kernel_rfl) (fun K hK => ?_)
                go_simp
                refine hK.out _ _ (.inr (Skey.out _ F9.out)) ?_
                clear hK K
                try simp only [Act.put, List.setIfInBounds_toArray, List.set_cons_zero, List.set_cons_succ]
                refine wpAnyZ_done (by kernel_rfl) ?_ _
                clear hHeld
                have FF := Lib.hid (FW.out.trans F9.out)
                go_wp2
                go_roundw
                case rel => exact ⟨k + 1, by omega, by go_num, Hfin, FF⟩
                case measure => simp [Go.RowKit.intOf]; omega
            · skip
              go_simp
              obtain ⟨V1, hV⟩ : ∃ W, WD.alloc (.cells #[.int .i64 xa, .string (bs xb), .int .i64 xc] 68) = W := ⟨_, rfl⟩
              obtain ⟨LB, hG⟩ : ∃ X, WD.heap.size = X := ⟨_, rfl⟩
              have hlit : V1.heap[LB]? = some (.cells #[.int .i64 xa, .string (bs xb), .int .i64 xc] 68 (0, 0)) := by rw [← hV, ← hG]; exact World.alloc_heap_new WD _
              have fL := Lib.hid (show Fr0 none' WD V1 by rw [← hV]; exact (Fr0.refl _ _).alloc _)
              have F1 := Lib.hid (F0.out.trans fL.out)
              rw [hV, hG]
              have Hlit := Lib.hid (PtsIn.one hlit)
              have hLV := (Array.getElem?_eq_some_iff.1 hlit).1
              have HLl := Lib.hid (show LB = WD.heap.size from hG.symm)
              clear hV hG hlit
              refine hK.out _ _ (.inr (Skey.out _ F1.out)) ?_
              clear hK K
              try simp only [Act.put, List.setIfInBounds_toArray, List.set_cons_zero, List.set_cons_succ]
              refine takeZ_call (i := 0) rfl (by kernel_rfl) (by kernel_rfl) (fun K hK => ?_)
              go_simp
              obtain ⟨V2, hV⟩ : ∃ W, V1.alloc (.cells #[] 68) = W := ⟨_, rfl⟩
              obtain ⟨G, hG⟩ : ∃ X, V1.heap.size = X := ⟨_, rfl⟩
              have hrow := World.ownsRow_lit (base := w5.heap.size) (e := 68) (size := 3) V1 #[] 0 F1.out.size (by unfold maxLen; omega) rfl
              have fV := Lib.hid (show Fr0 none' V1 V2 by rw [← hV]; exact (Fr0.refl _ _).alloc _)
              have F2 := Lib.hid (F1.out.trans fV.out)
              rw [hV, hG] at hrow
              rw [hV, hG]
              have Hrow := Lib.hid hrow
              have hGV := (hrow.lt G rfl).2
              have HGl := Lib.hid (show G = V1.heap.size from hG.symm)
              clear hV hG hrow
              refine hK.out _ _ (.inr (Skey.out _ F2.out)) ?_
              clear hK K
              try simp only [Act.put, List.setIfInBounds_toArray, List.set_cons_zero, List.set_cons_succ]
              refine takeZ_call (i := 4) rfl (by kernel_rfl) (by kernel_rfl) (fun K hK => ?_)
              refine wp_app_k _ _ 63 63 rfl w5.heap.size 68 i0 (.agg #[.int .i64 0, .string ⟨#[]⟩, .int .i64 0]) 3 32 Tryz.underlying63 hi hz0 hz1 hz2 rfl (by decide) (.slice (some ⟨G, 0, none⟩) 0 0) 0 [] rfl Hrow.out (.slice (some ⟨g2, o2, none⟩) j vc) j (flatP (M.take j)) rfl ((HT.out _ F2.out).src (by rw [List.length_take, HMl.out]; omega) vc Tryz.underlying63) (by unfold maxLen; omega) (by omega) F2.out.size ?_
              intro v1 V3 hown1 hgr
              have fA := Lib.hid (show Fr0 (fun k => k = G) V2 V3 from (Fr0.refl (fun k => k = G) V2).grown hgr (fun k hk _ => by simpa [Value.ownBlock] using hk.symm))
              have F3 := Lib.hid (F2.out.trans' fA.out (fun k hk e => by have := HGl.out; have := F1.out.size; omega))
              have Hown1 := Lib.hid hown1
              clear hown1 hgr
              refine hK.out _ _ (.inr (Skey.out _ F3.out)) ?_
              clear hK K
              try simp only [Act.put, List.setIfInBounds_toArray, List.set_cons_zero, List.set_cons_succ]
              have Hlit2 := Lib.hid ((Hlit.out.later fV.out).fr0 fA.out (fun g o s' e h => by injection e with e; injection e with e1; subst h; subst e1; have h1 := HGl.out; have h2 := HLl.out; omega))
              refine takeZ_call (i := 10) rfl (by kernel_rfl) (by kernel_rfl) (fun K hK => ?_)
              refine wp_app_k _ _ 63 63 rfl w5.heap.size 68 i0 (.agg #[.int .i64 0, .string ⟨#[]⟩, .int .i64 0]) 3 32 Tryz.underlying63 hi hz0 hz1 hz2 rfl (by decide) v1 (0 + j) _ rfl Hown1.out (.slice (some ⟨LB, 0, none⟩) 1 1) 1 (flatP [⟨xa, xb, xc⟩]) rfl (Hlit2.out.src rfl 1 Tryz.underlying63) (by unfold maxLen; omega) (by omega) F3.out.size ?_
              intro v2 V8 hown2 hgr2
              have hg2 := Hown1.out.lt
              have F8 := Lib.hid (F3.out.grown hgr2 (fun k hk hkl => by have := (hg2 k hk).1; omega))
              have Hown2' := Lib.hid hown2
              clear hown2 hgr2 hg2
              refine hK.out _ _ (.inr (Skey.out _ F8.out)) ?_
              clear hK K
              try simp only [Act.put, List.setIfInBounds_toArray, List.set_cons_zero, List.set_cons_succ]
              refine takeZ_call (i := 14) rfl (by kernel_rfl) (by kernel_rfl) (fun K hK => ?_)
              refine wp_app_k _ _ 63 63 rfl w5.heap.size 68 i0 (.agg #[.int .i64 0, .string ⟨#[]⟩, .int .i64 0]) 3 32 Tryz.underlying63 hi hz0 hz1 hz2 rfl (by decide) v2 (0 + j + 1) _ rfl Hown2'.out (.slice (some A) (k - j) (vc - j)) (k - j) (flatP (M.drop j)) rfl ((HDr.out _ F8.out).src (by rw [List.length_drop, HMl.out]) (vc - j) Tryz.underlying63) (by unfold maxLen; omega) (by omega) F8.out.size ?_
              intro v3 V9 hown3 hgr3
              have hg3 := Hown2'.out.lt
              have F9 := Lib.hid (F8.out.grown hgr3 (fun k hk hkl => by have := (hg3 k hk).1; omega))
              have hfin : V9.ownsRow w5.heap.size 68 3 v3 (k + 1) (flatP (sortP (L.take (k + 1)))) := by
                rw [Hsn.out, hend.out, show k + 1 = 0 + j + 1 + (k - j) by omega, flatP_append, show (⟨xa, xb, xc⟩ :: M.drop j : List Pt) = [⟨xa, xb, xc⟩] ++ M.drop j from rfl, flatP_append, ← List.append_assoc]
                exact hown3
              have Hfin := Lib.hid (ownsRow_k_mono hfin (FW.out.size))
              clear hown3 hgr3 hg3 hfin
              refine hK.out _ _ (.inr (Skey.out _ F9.out)) ?_
              clear hK K
              try simp only [Act.put, List.setIfInBounds_toArray, List.set_cons_zero, List.set_cons_succ]
              refine takeZ_call (i := 15) rfl (by kernel_rfl) (by kernel_rfl) (fun K hK => ?_)
              go_simp
              refine hK.out _ _ (.inr (Skey.out _ F9.out)) ?_
              clear hK K
              try simp only [Act.put, List.setIfInBounds_toArray, List.set_cons_zero, List.set_cons_succ]
              refine wpAnyZ_done (by kernel_rfl) ?_ _
              clear hHeld
              have FF := Lib.hid (FW.out.trans F9.out)
              go_wp2
              go_roundw
              case rel => exact ⟨k + 1, by omega, by go_num, Hfin, FF⟩
              case measure => simp [Go.RowKit.intOf]; omega
        · have HJK := Lib.hid (show j = k from by omega)
          have hend := Lib.hid (show insT ⟨xa, xb, xc⟩ M = M.take j ++ ⟨xa, xb, xc⟩ :: M.drop j from insT_at _ M j hpre.out (fun z hz => by
            rw [List.getElem?_eq_none (by rw [HMl.out, HJK.out]; exact Nat.le_refl _)] at hz; cases hz) (by rw [HMl.out]; omega))
          go_wp2_with fail
          refine wp_region_held_drew (S := fun _ => True) (by kernel_rfl) trivial (fun hHeld => ?_)
          have hT : True := trivial
          have j3 : ¬ ((j : Int) < (k : Int)) := by omega
          refine take_on (i := 0) (v := .int .i64 j) rfl (by kernel_rfl) (by kernel_rfl) (by kernel_rfl) (fun _ _ _ h => h) (by kernel_rfl) (fun W' hSW => ?_) (by assumption) ?_
          · (try dsimp only at hSW)
            first | (go_simp; done) | exact rfl | (go_simp; rfl) | (go_simp; omega)
          try simp only [Act.put, List.setIfInBounds_toArray, List.set_cons_zero, List.set_cons_succ]
          refine take_on (i := 1) (v := .slice va k vc) rfl (by kernel_rfl) (by kernel_rfl) (by kernel_rfl) (fun _ _ _ h => h) (by kernel_rfl) (fun W' hSW => ?_) (by assumption) ?_
          · (try dsimp only at hSW)
            first | (go_simp; done) | exact rfl | (go_simp; rfl) | (go_simp; omega)
          try simp only [Act.put, List.setIfInBounds_toArray, List.set_cons_zero, List.set_cons_succ]
          refine take_on (i := 2) (v := .int .i64 k) rfl (by kernel_rfl) (by kernel_rfl) (by kernel_rfl) (fun _ _ _ h => h) (by kernel_rfl) (fun W' hSW => ?_) (by assumption) ?_
          · (try dsimp only at hSW)
            first | (go_simp; done) | exact rfl | (go_simp; rfl) | (go_simp; omega)
          try simp only [Act.put, List.setIfInBounds_toArray, List.set_cons_zero, List.set_cons_succ]
          refine take_on (i := 3) (v := .bool false) rfl (by kernel_rfl) (by kernel_rfl) (by kernel_rfl) (fun _ _ _ h => h) (by kernel_rfl) (fun W' hSW => ?_) (by assumption) ?_
          · (try dsimp only at hSW)
            first | (go_simp; done) | exact rfl | (go_simp; rfl) | (go_simp; omega)
          try simp only [Act.put, List.setIfInBounds_toArray, List.set_cons_zero, List.set_cons_succ]
          refine take_on (i := 4) (v := .bool false) rfl (by kernel_rfl) (by kernel_rfl) (by kernel_rfl) (fun _ _ _ h => h) (by kernel_rfl) (fun W' hSW => ?_) (by assumption) ?_
          · (try dsimp only at hSW)
            first | (go_simp; done) | exact rfl | (go_simp; rfl) | (go_simp; omega)
          try simp only [Act.put, List.setIfInBounds_toArray, List.set_cons_zero, List.set_cons_succ]
          refine take_off (i := 5) rfl (by kernel_rfl) (by kernel_rfl) (by kernel_rfl) (fun _ _ _ h => h) (by kernel_rfl) (by assumption) ?_
          try simp only [Act.put, List.setIfInBounds_toArray, List.set_cons_zero, List.set_cons_succ]
          refine take_off (i := 6) rfl (by kernel_rfl) (by kernel_rfl) (by kernel_rfl) (fun _ _ _ h => h) (by kernel_rfl) (by assumption) ?_
          try simp only [Act.put, List.setIfInBounds_toArray, List.set_cons_zero, List.set_cons_succ]
          refine take_off (i := 7) rfl (by kernel_rfl) (by kernel_rfl) (by kernel_rfl) (fun _ _ _ h => h) (by kernel_rfl) (by assumption) ?_
          try simp only [Act.put, List.setIfInBounds_toArray, List.set_cons_zero, List.set_cons_succ]
          refine take_off (i := 8) rfl (by kernel_rfl) (by kernel_rfl) (by kernel_rfl) (fun _ _ _ h => h) (by kernel_rfl) (by assumption) ?_
          try simp only [Act.put, List.setIfInBounds_toArray, List.set_cons_zero, List.set_cons_succ]
          refine take_off (i := 9) rfl (by kernel_rfl) (by kernel_rfl) (by kernel_rfl) (fun _ _ _ h => h) (by kernel_rfl) (by assumption) ?_
          try simp only [Act.put, List.setIfInBounds_toArray, List.set_cons_zero, List.set_cons_succ]
          refine take_off (i := 10) rfl (by kernel_rfl) (by kernel_rfl) (by kernel_rfl) (fun _ _ _ h => h) (by kernel_rfl) (by assumption) ?_
          try simp only [Act.put, List.setIfInBounds_toArray, List.set_cons_zero, List.set_cons_succ]
          refine take_off (i := 11) rfl (by kernel_rfl) (by kernel_rfl) (by kernel_rfl) (fun _ _ _ h => h) (by kernel_rfl) (by assumption) ?_
          try simp only [Act.put, List.setIfInBounds_toArray, List.set_cons_zero, List.set_cons_succ]
          refine take_off (i := 12) rfl (by kernel_rfl) (by kernel_rfl) (by kernel_rfl) (fun _ _ _ h => h) (by kernel_rfl) (by assumption) ?_
          try simp only [Act.put, List.setIfInBounds_toArray, List.set_cons_zero, List.set_cons_succ]
          refine take_off (i := 13) rfl (by kernel_rfl) (by kernel_rfl) (by kernel_rfl) (fun _ _ _ h => h) (by kernel_rfl) (by assumption) ?_
          try simp only [Act.put, List.setIfInBounds_toArray, List.set_cons_zero, List.set_cons_succ]
          refine take_off (i := 14) rfl (by kernel_rfl) (by kernel_rfl) (by kernel_rfl) (fun _ _ _ h => h) (by kernel_rfl) (by assumption) ?_
          try simp only [Act.put, List.setIfInBounds_toArray, List.set_cons_zero, List.set_cons_succ]
          refine take_off (i := 15) rfl (by kernel_rfl) (by kernel_rfl) (by kernel_rfl) (fun _ _ _ h => h) (by kernel_rfl) (by assumption) ?_
          try simp only [Act.put, List.setIfInBounds_toArray, List.set_cons_zero, List.set_cons_succ]
          refine take_off (i := 16) rfl (by kernel_rfl) (by kernel_rfl) (by kernel_rfl) (fun _ _ _ h => h) (by kernel_rfl) (by assumption) ?_
          try simp only [Act.put, List.setIfInBounds_toArray, List.set_cons_zero, List.set_cons_succ]
          refine take_on (i := 17) (v := .bool false) rfl (by kernel_rfl) (by kernel_rfl) (by kernel_rfl) (fun _ _ _ h => h) (by kernel_rfl) (fun W' hSW => ?_) (by assumption) ?_
          · (try dsimp only at hSW)
            first | (go_simp; done) | exact rfl | (go_simp; rfl) | (go_simp; omega)
          try simp only [Act.put, List.setIfInBounds_toArray, List.set_cons_zero, List.set_cons_succ]
          refine wpAnyH_done (by kernel_rfl) ?_ _
          have hf5 := Lib.hid (hfj.out.trans (Fr0.refl none' wr).drew)
          clear hHeld j3
          obtain ⟨w5, hw5⟩ : ∃ W, wr.drew = W := ⟨_, rfl⟩
          rw [hw5] at hf5
          have HW5 := Lib.hid hw5
          clear hw5
          rcases hrow.out.2 with ⟨h1, h2⟩ | ⟨g2, cap', cur, h1, _⟩
          · injection h1 with h1 h3 h4
            subst h1
            have hM0 : M = [] := List.eq_nil_of_length_eq_zero (by rw [HMl.out]; exact h3)
            have HDr := Lib.hid (fun W (hf : Fr0 none' w5 W) => (show PtsIn W none (M.drop j) from by rw [hM0]; simpa using PtsIn.nil W none))
            clear h2 h3 h4 hM0
            go_wp2_with fail
            rw [HW5.out]
            have FW := Lib.hid (hfr.out.trans hf5.out)
            have HVA := Lib.hid (HVA.out.later hf5.out)
            obtain ⟨d0, d1, d2⟩ := Hpc.out.later hf5.out
            simp only at d0 d1 d2
            have HT := Lib.hid (show ∀ W, Fr0 none' w5 W → PtsIn W none (M.take j) from fun W hf i p hi => by
              rw [List.getElem?_take] at hi
              split at hi
              · exact (HVA.out.later hf) i p hi
              · cases hi)
            have Skey := Lib.hid (show ∀ W', Fr0 none' w5 W' → W'.cell? ⟨g, o + k * 3, none⟩ = some (.int .i64 xa) ∧ W'.cell? ⟨g, o + k * 3 + 1, none⟩ = some (.string (bs xb)) ∧ W'.cell? ⟨g, o + k * 3 + 2, none⟩ = some (.int .i64 xc) from fun W' hf => ⟨hf.later d0, hf.later d1, hf.later d2⟩)
            have hHeld := Skey.out _ (Fr0.refl none' w5).drew
            have F0 := Lib.hid (Fr0.refl none' w5).drew
            have i1 : (0 : Int) ≤ (j : Int) := by omega
            have i2 : (j : Int) ≤ (k : Int) := by omega
            have i3 : (j : Int) ≤ (vc : Int) := by omega
            have i4 : (k : Int) ≤ (vc : Int) := by omega
            clear d0 d1 d2
            refine wp_region_Z (z := 15) (S := fun W' => W'.cell? ⟨g, o + k * 3, none⟩ = some (.int .i64 xa) ∧ W'.cell? ⟨g, o + k * 3 + 1, none⟩ = some (.string (bs xb)) ∧ W'.cell? ⟨g, o + k * 3 + 2, none⟩ = some (.int .i64 xc)) (by kernel_rfl) ?_
            obtain ⟨WD, hWD⟩ : ∃ W, w5.drew = W := ⟨_, rfl⟩
            rw [hWD] at F0 hHeld ⊢
            clear hWD
            refine takeZ_on (i := 1) (v := .slice none k vc) rfl (by kernel_rfl) (by kernel_rfl) (by kernel_rfl) (by kernel_rfl) (fun _ _ _ h => h) (by kernel_rfl) (fun W' hSW => ?_) (by assumption) ?_
            · (try dsimp only at hSW)
              first | (go_simp; done) | exact rfl | (go_simp; rfl) | (go_simp; omega)
            try simp only [Act.put, List.setIfInBounds_toArray, List.set_cons_zero, List.set_cons_succ]
            refine takeZ_on (i := 2) (v := .int .i64 j) rfl (by kernel_rfl) (by kernel_rfl) (by kernel_rfl) (by kernel_rfl) (fun _ _ _ h => h) (by kernel_rfl) (fun W' hSW => ?_) (by assumption) ?_
            · (try dsimp only at hSW)
              first | (go_simp; done) | exact rfl | (go_simp; rfl) | (go_simp; omega)
            try simp only [Act.put, List.setIfInBounds_toArray, List.set_cons_zero, List.set_cons_succ]
            refine takeZ_on (i := 3) (v := .slice none j vc) rfl (by kernel_rfl) (by kernel_rfl) (by kernel_rfl) (by kernel_rfl) (fun _ _ _ h => h) (by kernel_rfl) (fun W' hSW => ?_) (by assumption) ?_
            · (try dsimp only at hSW)
              first | (go_simp; done) | exact rfl | (go_simp; rfl) | (go_simp; omega)
            try simp only [Act.put, List.setIfInBounds_toArray, List.set_cons_zero, List.set_cons_succ]
            refine takeZ_on (i := 5) (v := .slice (some ⟨g, o, none⟩) n cap) rfl (by kernel_rfl) (by kernel_rfl) (by kernel_rfl) (by kernel_rfl) (fun _ _ _ h => h) (by kernel_rfl) (fun W' hSW => ?_) (by assumption) ?_
            · (try dsimp only at hSW)
              first | (go_simp; done) | exact rfl | (go_simp; rfl) | (go_simp; omega)
            try simp only [Act.put, List.setIfInBounds_toArray, List.set_cons_zero, List.set_cons_succ]
            refine takeZ_on (i := 6) (v := .int .i64 k) rfl (by kernel_rfl) (by kernel_rfl) (by kernel_rfl) (by kernel_rfl) (fun _ _ _ h => h) (by kernel_rfl) (fun W' hSW => ?_) (by assumption) ?_
            · (try dsimp only at hSW)
              first | (go_simp; done) | exact rfl | (go_simp; rfl) | (go_simp; omega)
            try simp only [Act.put, List.setIfInBounds_toArray, List.set_cons_zero, List.set_cons_succ]
            refine takeZ_on (i := 7) (v := .pointer (some ⟨g, o + k * 3, none⟩)) rfl (by kernel_rfl) (by kernel_rfl) (by kernel_rfl) (by kernel_rfl) (fun _ _ _ h => h) (by kernel_rfl) (fun W' hSW => ?_) (by assumption) ?_
            · (try dsimp only at hSW)
              first | (go_simp; done) | exact rfl | (go_simp; rfl) | (go_simp; omega)
            try simp only [Act.put, List.setIfInBounds_toArray, List.set_cons_zero, List.set_cons_succ]
            refine takeZ_on (i := 8) (v := .agg #[.int .i64 xa, .string (bs xb), .int .i64 xc]) rfl (by kernel_rfl) (by kernel_rfl) (by kernel_rfl) (by kernel_rfl) (fun _ _ _ h => h) (by kernel_rfl) (fun W' hSW => ?_) (by assumption) ?_
            · (try dsimp only at hSW)
              first | (go_simp; done) | exact rfl | (go_simp; rfl) | (go_simp; omega)
            try simp only [Act.put, List.setIfInBounds_toArray, List.set_cons_zero, List.set_cons_succ]
            refine takeZ_on (i := 11) (v := .slice none k vc) rfl (by kernel_rfl) (by kernel_rfl) (by kernel_rfl) (by kernel_rfl) (fun _ _ _ h => h) (by kernel_rfl) (fun W' hSW => ?_) (by assumption) ?_
            · (try dsimp only at hSW)
              first | (go_simp; done) | exact rfl | (go_simp; rfl) | (go_simp; omega)
            try simp only [Act.put, List.setIfInBounds_toArray, List.set_cons_zero, List.set_cons_succ]
            refine takeZ_on (i := 12) (v := .int .i64 j) rfl (by kernel_rfl) (by kernel_rfl) (by kernel_rfl) (by kernel_rfl) (fun _ _ _ h => h) (by kernel_rfl) (fun W' hSW => ?_) (by assumption) ?_
            · (try dsimp only at hSW)
              first | (go_simp; done) | exact rfl | (go_simp; rfl) | (go_simp; omega)
            try simp only [Act.put, List.setIfInBounds_toArray, List.set_cons_zero, List.set_cons_succ]
            refine takeZ_on (i := 13) (v := .slice none (k - j) (vc - j)) rfl (by kernel_rfl) (by kernel_rfl) (by kernel_rfl) (by kernel_rfl) (fun _ _ _ h => h) (by kernel_rfl) (fun W' hSW => ?_) (by assumption) ?_
            · (try dsimp only at hSW)
              first | (go_simp; done) | exact rfl | (go_simp; rfl) | (go_simp; omega)
            try simp only [Act.put, List.setIfInBounds_toArray, List.set_cons_zero, List.set_cons_succ]
            refine takeZ_two (i := 0) (j := 9) rfl rfl (by kernel_rfl) (by kernel_rfl) (by kernel_rfl) (fun K hK => ?_) (fun K hK => ?_)
            · skip
              go_simp
              obtain ⟨V1, hV⟩ : ∃ W, WD.alloc (.cells #[] 68) = W := ⟨_, rfl⟩
              obtain ⟨G, hG⟩ : ∃ X, WD.heap.size = X := ⟨_, rfl⟩
              have hrow := World.ownsRow_lit (base := w5.heap.size) (e := 68) (size := 3) WD #[] 0 F0.out.size (by unfold maxLen; omega) rfl
              have fV := Lib.hid (show Fr0 none' WD V1 by rw [← hV]; exact (Fr0.refl _ _).alloc _)
              have F2 := Lib.hid (F0.out.trans fV.out)
              rw [hV, hG] at hrow
              rw [hV, hG]
              have Hrow := Lib.hid hrow
              have hGV := (hrow.lt G rfl).2
              have HGl := Lib.hid (show G = WD.heap.size from hG.symm)
              clear hV hG hrow
              refine hK.out _ _ (.inr (Skey.out _ F2.out)) ?_
              clear hK K
              try simp only [Act.put, List.setIfInBounds_toArray, List.set_cons_zero, List.set_cons_succ]
              refine takeZ_two (i := 4) (j := 9) rfl rfl (by kernel_rfl) (by kernel_rfl) (by kernel_rfl) (fun K hK => ?_) (fun K hK => ?_)
              · skip
                refine wp_app_k _ _ 63 63 rfl w5.heap.size 68 i0 (.agg #[.int .i64 0, .string ⟨#[]⟩, .int .i64 0]) 3 32 Tryz.underlying63 hi hz0 hz1 hz2 rfl (by decide) (.slice (some ⟨G, 0, none⟩) 0 0) 0 [] rfl Hrow.out (.slice none j vc) j (flatP (M.take j)) rfl ((HT.out _ F2.out).src (by rw [List.length_take, HMl.out]; omega) vc Tryz.underlying63) (by unfold maxLen; omega) (by omega) F2.out.size ?_
                intro v1 V2 hown1 hgr
                have fA := Lib.hid (show Fr0 (fun k => k = G) V1 V2 from (Fr0.refl (fun k => k = G) V1).grown hgr (fun k hk _ => by simpa [Value.ownBlock] using hk.symm))
                have F3 := Lib.hid (F2.out.trans' fA.out (fun k hk e => by have := HGl.out; have := F0.out.size; omega))
                have Hown1 := Lib.hid hown1
                clear hown1 hgr
                refine hK.out _ _ (.inr (Skey.out _ F3.out)) ?_
                clear hK K
                try simp only [Act.put, List.setIfInBounds_toArray, List.set_cons_zero, List.set_cons_succ]
                refine takeZ_call (i := 9) rfl (by kernel_rfl) (by kernel_rfl) (fun K hK => ?_)
                go_simp
                obtain ⟨V3, hV⟩ : ∃ W, V2.alloc (.cells #[.int .i64 xa, .string (bs xb), .int .i64 xc] 68) = W := ⟨_, rfl⟩
                obtain ⟨LB, hG⟩ : ∃ X, V2.heap.size = X := ⟨_, rfl⟩
                have hlit : V3.heap[LB]? = some (.cells #[.int .i64 xa, .string (bs xb), .int .i64 xc] 68 (0, 0)) := by rw [← hV, ← hG]; exact World.alloc_heap_new V2 _
                have fL := Lib.hid (show Fr0 none' V2 V3 by rw [← hV]; exact (Fr0.refl _ _).alloc _)
                have F4 := Lib.hid (F3.out.trans fL.out)
                rw [hV, hG]
                have Hlit := Lib.hid (PtsIn.one hlit)
                have hLV := (Array.getElem?_eq_some_iff.1 hlit).1
                have HLl := Lib.hid (show LB = V2.heap.size from hG.symm)
                clear hV hG hlit
                refine hK.out _ _ (.inr (Skey.out _ F4.out)) ?_
                clear hK K
                try simp only [Act.put, List.setIfInBounds_toArray, List.set_cons_zero, List.set_cons_succ]
                have Hown2 := Lib.hid (ownsRow_fr0 Hown1.out fL.out (fun _ _ h => h))
                refine takeZ_call (i := 10) rfl (by kernel_rfl) (by kernel_rfl) (fun K hK => ?_)
                refine wp_app_k _ _ 63 63 rfl w5.heap.size 68 i0 (.agg #[.int .i64 0, .string ⟨#[]⟩, .int .i64 0]) 3 32 Tryz.underlying63 hi hz0 hz1 hz2 rfl (by decide) v1 (0 + j) _ rfl Hown2.out (.slice (some ⟨LB, 0, none⟩) 1 1) 1 (flatP [⟨xa, xb, xc⟩]) rfl (Hlit.out.src rfl 1 Tryz.underlying63) (by unfold maxLen; omega) (by omega) F4.out.size ?_
                intro v2 V8 hown2 hgr2
                have hg2 := Hown2.out.lt
                have F8 := Lib.hid (F4.out.grown hgr2 (fun k hk hkl => by have := (hg2 k hk).1; omega))
                have Hown2' := Lib.hid hown2
                clear hown2 hgr2 hg2
                refine hK.out _ _ (.inr (Skey.out _ F8.out)) ?_
                clear hK K
                try simp only [Act.put, List.setIfInBounds_toArray, List.set_cons_zero, List.set_cons_succ]
                refine takeZ_call (i := 14) rfl (by kernel_rfl) (by kernel_rfl) (fun K hK => ?_)
                refine wp_app_k _ _ 63 63 rfl w5.heap.size 68 i0 (.agg #[.int .i64 0, .string ⟨#[]⟩, .int .i64 0]) 3 32 Tryz.underlying63 hi hz0 hz1 hz2 rfl (by decide) v2 (0 + j + 1) _ rfl Hown2'.out (.slice none (k - j) (vc - j)) (k - j) (flatP (M.drop j)) rfl ((HDr.out _ F8.out).src (by rw [List.length_drop, HMl.out]) (vc - j) Tryz.underlying63) (by unfold maxLen; omega) (by omega) F8.out.size ?_
                intro v3 V9 hown3 hgr3
                have hg3 := Hown2'.out.lt
                have F9 := Lib.hid (F8.out.grown hgr3 (fun k hk hkl => by have := (hg3 k hk).1; omega))
                have hfin : V9.ownsRow w5.heap.size 68 3 v3 (k + 1) (flatP (sortP (L.take (k + 1)))) := by
                  rw [Hsn.out, hend.out, show k + 1 = 0 + j + 1 + (k - j) by omega, flatP_append, show (⟨xa, xb, xc⟩ :: M.drop j : List Pt) = [⟨xa, xb, xc⟩] ++ M.drop j from rfl, flatP_append, ← List.append_assoc]
                  exact hown3
                have Hfin := Lib.hid (ownsRow_k_mono hfin (FW.out.size))
                clear hown3 hgr3 hg3 hfin
                refine hK.out _ _ (.inr (Skey.out _ F9.out)) ?_
                clear hK K
                try simp only [Act.put, List.setIfInBounds_toArray, List.set_cons_zero, List.set_cons_succ]
                refine takeZ_call (i := 15) rfl (by kernel_rfl) (by kernel_rfl) (fun K hK => ?_)
                go_simp
                refine hK.out _ _ (.inr (Skey.out _ F9.out)) ?_
                clear hK K
                try simp only [Act.put, List.setIfInBounds_toArray, List.set_cons_zero, List.set_cons_succ]
                refine wpAnyZ_done (by kernel_rfl) ?_ _
                clear hHeld
                have FF := Lib.hid (FW.out.trans F9.out)
                go_wp2
                go_roundw
                case rel => exact ⟨k + 1, by omega, by go_num, Hfin, FF⟩
                case measure => simp [Go.RowKit.intOf]; omega
              · skip
                go_simp
                obtain ⟨V2, hV⟩ : ∃ W, V1.alloc (.cells #[.int .i64 xa, .string (bs xb), .int .i64 xc] 68) = W := ⟨_, rfl⟩
                obtain ⟨LB, hG⟩ : ∃ X, V1.heap.size = X := ⟨_, rfl⟩
                have hlit : V2.heap[LB]? = some (.cells #[.int .i64 xa, .string (bs xb), .int .i64 xc] 68 (0, 0)) := by rw [← hV, ← hG]; exact World.alloc_heap_new V1 _
                have fL := Lib.hid (show Fr0 none' V1 V2 by rw [← hV]; exact (Fr0.refl _ _).alloc _)
                have F3 := Lib.hid (F2.out.trans fL.out)
                rw [hV, hG]
                have Hlit := Lib.hid (PtsIn.one hlit)
                have hLV := (Array.getElem?_eq_some_iff.1 hlit).1
                have HLl := Lib.hid (show LB = V1.heap.size from hG.symm)
                clear hV hG hlit
                refine hK.out _ _ (.inr (Skey.out _ F3.out)) ?_
                clear hK K
                try simp only [Act.put, List.setIfInBounds_toArray, List.set_cons_zero, List.set_cons_succ]
                have Hrow := Lib.hid (ownsRow_fr0 Hrow.out fL.out (fun _ _ h => h))
                refine takeZ_call (i := 4) rfl (by kernel_rfl) (by kernel_rfl) (fun K hK => ?_)
                refine wp_app_k _ _ 63 63 rfl w5.heap.size 68 i0 (.agg #[.int .i64 0, .string ⟨#[]⟩, .int .i64 0]) 3 32 Tryz.underlying63 hi hz0 hz1 hz2 rfl (by decide) (.slice (some ⟨G, 0, none⟩) 0 0) 0 [] rfl Hrow.out (.slice none j vc) j (flatP (M.take j)) rfl ((HT.out _ F3.out).src (by rw [List.length_take, HMl.out]; omega) vc Tryz.underlying63) (by unfold maxLen; omega) (by omega) F3.out.size ?_
                intro v1 V3 hown1 hgr
                have fA := Lib.hid (show Fr0 (fun k => k = G) V2 V3 from (Fr0.refl (fun k => k = G) V2).grown hgr (fun k hk _ => by simpa [Value.ownBlock] using hk.symm))
                have F4 := Lib.hid (F3.out.trans' fA.out (fun k hk e => by have := HGl.out; have := F0.out.size; omega))
                have Hown1 := Lib.hid hown1
                clear hown1 hgr
                refine hK.out _ _ (.inr (Skey.out _ F4.out)) ?_
                clear hK K
                try simp only [Act.put, List.setIfInBounds_toArray, List.set_cons_zero, List.set_cons_succ]
                have Hlit2 := Lib.hid (Hlit.out.fr0 fA.out (fun g o s' e h => by injection e with e; injection e with e1; subst h; subst e1; have h1 := HGl.out; have h2 := HLl.out; omega))
                refine takeZ_call (i := 10) rfl (by kernel_rfl) (by kernel_rfl) (fun K hK => ?_)
                refine wp_app_k _ _ 63 63 rfl w5.heap.size 68 i0 (.agg #[.int .i64 0, .string ⟨#[]⟩, .int .i64 0]) 3 32 Tryz.underlying63 hi hz0 hz1 hz2 rfl (by decide) v1 (0 + j) _ rfl Hown1.out (.slice (some ⟨LB, 0, none⟩) 1 1) 1 (flatP [⟨xa, xb, xc⟩]) rfl (Hlit2.out.src rfl 1 Tryz.underlying63) (by unfold maxLen; omega) (by omega) F4.out.size ?_
                intro v2 V8 hown2 hgr2
                have hg2 := Hown1.out.lt
                have F8 := Lib.hid (F4.out.grown hgr2 (fun k hk hkl => by have := (hg2 k hk).1; omega))
                have Hown2' := Lib.hid hown2
                clear hown2 hgr2 hg2
                refine hK.out _ _ (.inr (Skey.out _ F8.out)) ?_
                clear hK K
                try simp only [Act.put, List.setIfInBounds_toArray, List.set_cons_zero, List.set_cons_succ]
                refine takeZ_call (i := 14) rfl (by kernel_rfl) (by kernel_rfl) (fun K hK => ?_)
                refine wp_app_k _ _ 63 63 rfl w5.heap.size 68 i0 (.agg #[.int .i64 0, .string ⟨#[]⟩, .int .i64 0]) 3 32 Tryz.underlying63 hi hz0 hz1 hz2 rfl (by decide) v2 (0 + j + 1) _ rfl Hown2'.out (.slice none (k - j) (vc - j)) (k - j) (flatP (M.drop j)) rfl ((HDr.out _ F8.out).src (by rw [List.length_drop, HMl.out]) (vc - j) Tryz.underlying63) (by unfold maxLen; omega) (by omega) F8.out.size ?_
                intro v3 V9 hown3 hgr3
                have hg3 := Hown2'.out.lt
                have F9 := Lib.hid (F8.out.grown hgr3 (fun k hk hkl => by have := (hg3 k hk).1; omega))
                have hfin : V9.ownsRow w5.heap.size 68 3 v3 (k + 1) (flatP (sortP (L.take (k + 1)))) := by
                  rw [Hsn.out, hend.out, show k + 1 = 0 + j + 1 + (k - j) by omega, flatP_append, show (⟨xa, xb, xc⟩ :: M.drop j : List Pt) = [⟨xa, xb, xc⟩] ++ M.drop j from rfl, flatP_append, ← List.append_assoc]
                  exact hown3
                have Hfin := Lib.hid (ownsRow_k_mono hfin (FW.out.size))
                clear hown3 hgr3 hg3 hfin
                refine hK.out _ _ (.inr (Skey.out _ F9.out)) ?_
                clear hK K
                try simp only [Act.put, List.setIfInBounds_toArray, List.set_cons_zero, List.set_cons_succ]
                refine takeZ_call (i := 15) rfl (by kernel_rfl) (by kernel_rfl) (fun K hK => ?_)
                go_simp
                refine hK.out _ _ (.inr (Skey.out _ F9.out)) ?_
                clear hK K
                try simp only [Act.put, List.setIfInBounds_toArray, List.set_cons_zero, List.set_cons_succ]
                refine wpAnyZ_done (by kernel_rfl) ?_ _
                clear hHeld
                have FF := Lib.hid (FW.out.trans F9.out)
                go_wp2
                go_roundw
                case rel => exact ⟨k + 1, by omega, by go_num, Hfin, FF⟩
                case measure => simp [Go.RowKit.intOf]; omega
            · skip
              go_simp
              obtain ⟨V1, hV⟩ : ∃ W, WD.alloc (.cells #[.int .i64 xa, .string (bs xb), .int .i64 xc] 68) = W := ⟨_, rfl⟩
              obtain ⟨LB, hG⟩ : ∃ X, WD.heap.size = X := ⟨_, rfl⟩
              have hlit : V1.heap[LB]? = some (.cells #[.int .i64 xa, .string (bs xb), .int .i64 xc] 68 (0, 0)) := by rw [← hV, ← hG]; exact World.alloc_heap_new WD _
              have fL := Lib.hid (show Fr0 none' WD V1 by rw [← hV]; exact (Fr0.refl _ _).alloc _)
              have F1 := Lib.hid (F0.out.trans fL.out)
              rw [hV, hG]
              have Hlit := Lib.hid (PtsIn.one hlit)
              have hLV := (Array.getElem?_eq_some_iff.1 hlit).1
              have HLl := Lib.hid (show LB = WD.heap.size from hG.symm)
              clear hV hG hlit
              refine hK.out _ _ (.inr (Skey.out _ F1.out)) ?_
              clear hK K
              try simp only [Act.put, List.setIfInBounds_toArray, List.set_cons_zero, List.set_cons_succ]
              refine takeZ_call (i := 0) rfl (by kernel_rfl) (by kernel_rfl) (fun K hK => ?_)
              go_simp
              obtain ⟨V2, hV⟩ : ∃ W, V1.alloc (.cells #[] 68) = W := ⟨_, rfl⟩
              obtain ⟨G, hG⟩ : ∃ X, V1.heap.size = X := ⟨_, rfl⟩
              have hrow := World.ownsRow_lit (base := w5.heap.size) (e := 68) (size := 3) V1 #[] 0 F1.out.size (by unfold maxLen; omega) rfl
              have fV := Lib.hid (show Fr0 none' V1 V2 by rw [← hV]; exact (Fr0.refl _ _).alloc _)
              have F2 := Lib.hid (F1.out.trans fV.out)
              rw [hV, hG] at hrow
              rw [hV, hG]
              have Hrow := Lib.hid hrow
              have hGV := (hrow.lt G rfl).2
              have HGl := Lib.hid (show G = V1.heap.size from hG.symm)
              clear hV hG hrow
              refine hK.out _ _ (.inr (Skey.out _ F2.out)) ?_
              clear hK K
              try simp only [Act.put, List.setIfInBounds_toArray, List.set_cons_zero, List.set_cons_succ]
              refine takeZ_call (i := 4) rfl (by kernel_rfl) (by kernel_rfl) (fun K hK => ?_)
              refine wp_app_k _ _ 63 63 rfl w5.heap.size 68 i0 (.agg #[.int .i64 0, .string ⟨#[]⟩, .int .i64 0]) 3 32 Tryz.underlying63 hi hz0 hz1 hz2 rfl (by decide) (.slice (some ⟨G, 0, none⟩) 0 0) 0 [] rfl Hrow.out (.slice none j vc) j (flatP (M.take j)) rfl ((HT.out _ F2.out).src (by rw [List.length_take, HMl.out]; omega) vc Tryz.underlying63) (by unfold maxLen; omega) (by omega) F2.out.size ?_
              intro v1 V3 hown1 hgr
              have fA := Lib.hid (show Fr0 (fun k => k = G) V2 V3 from (Fr0.refl (fun k => k = G) V2).grown hgr (fun k hk _ => by simpa [Value.ownBlock] using hk.symm))
              have F3 := Lib.hid (F2.out.trans' fA.out (fun k hk e => by have := HGl.out; have := F1.out.size; omega))
              have Hown1 := Lib.hid hown1
              clear hown1 hgr
              refine hK.out _ _ (.inr (Skey.out _ F3.out)) ?_
              clear hK K
              try simp only [Act.put, List.setIfInBounds_toArray, List.set_cons_zero, List.set_cons_succ]
              have Hlit2 := Lib.hid ((Hlit.out.later fV.out).fr0 fA.out (fun g o s' e h => by injection e with e; injection e with e1; subst h; subst e1; have h1 := HGl.out; have h2 := HLl.out; omega))
              refine takeZ_call (i := 10) rfl (by kernel_rfl) (by kernel_rfl) (fun K hK => ?_)
              refine wp_app_k _ _ 63 63 rfl w5.heap.size 68 i0 (.agg #[.int .i64 0, .string ⟨#[]⟩, .int .i64 0]) 3 32 Tryz.underlying63 hi hz0 hz1 hz2 rfl (by decide) v1 (0 + j) _ rfl Hown1.out (.slice (some ⟨LB, 0, none⟩) 1 1) 1 (flatP [⟨xa, xb, xc⟩]) rfl (Hlit2.out.src rfl 1 Tryz.underlying63) (by unfold maxLen; omega) (by omega) F3.out.size ?_
              intro v2 V8 hown2 hgr2
              have hg2 := Hown1.out.lt
              have F8 := Lib.hid (F3.out.grown hgr2 (fun k hk hkl => by have := (hg2 k hk).1; omega))
              have Hown2' := Lib.hid hown2
              clear hown2 hgr2 hg2
              refine hK.out _ _ (.inr (Skey.out _ F8.out)) ?_
              clear hK K
              try simp only [Act.put, List.setIfInBounds_toArray, List.set_cons_zero, List.set_cons_succ]
              refine takeZ_call (i := 14) rfl (by kernel_rfl) (by kernel_rfl) (fun K hK => ?_)
              refine wp_app_k _ _ 63 63 rfl w5.heap.size 68 i0 (.agg #[.int .i64 0, .string ⟨#[]⟩, .int .i64 0]) 3 32 Tryz.underlying63 hi hz0 hz1 hz2 rfl (by decide) v2 (0 + j + 1) _ rfl Hown2'.out (.slice none (k - j) (vc - j)) (k - j) (flatP (M.drop j)) rfl ((HDr.out _ F8.out).src (by rw [List.length_drop, HMl.out]) (vc - j) Tryz.underlying63) (by unfold maxLen; omega) (by omega) F8.out.size ?_
              intro v3 V9 hown3 hgr3
              have hg3 := Hown2'.out.lt
              have F9 := Lib.hid (F8.out.grown hgr3 (fun k hk hkl => by have := (hg3 k hk).1; omega))
              have hfin : V9.ownsRow w5.heap.size 68 3 v3 (k + 1) (flatP (sortP (L.take (k + 1)))) := by
                rw [Hsn.out, hend.out, show k + 1 = 0 + j + 1 + (k - j) by omega, flatP_append, show (⟨xa, xb, xc⟩ :: M.drop j : List Pt) = [⟨xa, xb, xc⟩] ++ M.drop j from rfl, flatP_append, ← List.append_assoc]
                exact hown3
              have Hfin := Lib.hid (ownsRow_k_mono hfin (FW.out.size))
              clear hown3 hgr3 hg3 hfin
              refine hK.out _ _ (.inr (Skey.out _ F9.out)) ?_
              clear hK K
              try simp only [Act.put, List.setIfInBounds_toArray, List.set_cons_zero, List.set_cons_succ]
              refine takeZ_call (i := 15) rfl (by kernel_rfl) (by kernel_rfl) (fun K hK => ?_)
              go_simp
              refine hK.out _ _ (.inr (Skey.out _ F9.out)) ?_
              clear hK K
              try simp only [Act.put, List.setIfInBounds_toArray, List.set_cons_zero, List.set_cons_succ]
              refine wpAnyZ_done (by kernel_rfl) ?_ _
              clear hHeld
              have FF := Lib.hid (FW.out.trans F9.out)
              go_wp2
              go_roundw
              case rel => exact ⟨k + 1, by omega, by go_num, Hfin, FF⟩
              case measure => simp [Go.RowKit.intOf]; omega
          · injection h1 with h1 h3 h4
            subst h1
            subst h4
            clear h3
            go_wp2_with fail
            rw [HW5.out]
            obtain ⟨A, hA, HDr0⟩ : ∃ A : Addr, (if vc = j then some (⟨g2, 0, none⟩ : Addr) else some ⟨g2, j * 3, none⟩) = some A ∧ Hid (∀ W, PtsIn W (some ⟨g2, 0, none⟩) M → PtsIn W (some A) (M.drop j)) := by
              by_cases h : vc = j
              · refine ⟨⟨g2, 0, none⟩, by simp [h], fun W _ i p hi => ?_⟩
                rw [List.drop_of_length_le (by rw [HMl.out]; omega)] at hi
                simp at hi
              · refine ⟨⟨g2, j * 3, none⟩, by simp [h], fun W hf i p hi => ?_⟩
                rw [List.getElem?_drop] at hi
                obtain ⟨g', o', e, hc⟩ := hf (j + i) p hi
                injection e with e
                injection e with e1 e2
                subst e1; subst e2
                exact ⟨g2, j * 3, rfl, by rw [show j * 3 + i * 3 = 0 + (j + i) * 3 by omega]; exact hc⟩
            have HDr := Lib.hid (fun W (hf : Fr0 none' w5 W) => HDr0.out W ((HVA.out.later hf5.out).later hf))
            clear HDr0
            have FW := Lib.hid (hfr.out.trans hf5.out)
            have HVA := Lib.hid (HVA.out.later hf5.out)
            obtain ⟨d0, d1, d2⟩ := Hpc.out.later hf5.out
            simp only at d0 d1 d2
            have HT := Lib.hid (show ∀ W, Fr0 none' w5 W → PtsIn W (some ⟨g2, 0, none⟩) (M.take j) from fun W hf i p hi => by
              rw [List.getElem?_take] at hi
              split at hi
              · exact (HVA.out.later hf) i p hi
              · cases hi)
            have Skey := Lib.hid (show ∀ W', Fr0 none' w5 W' → W'.cell? ⟨g, o + k * 3, none⟩ = some (.int .i64 xa) ∧ W'.cell? ⟨g, o + k * 3 + 1, none⟩ = some (.string (bs xb)) ∧ W'.cell? ⟨g, o + k * 3 + 2, none⟩ = some (.int .i64 xc) from fun W' hf => ⟨hf.later d0, hf.later d1, hf.later d2⟩)
            have hHeld := Skey.out _ (Fr0.refl none' w5).drew
            have F0 := Lib.hid (Fr0.refl none' w5).drew
            have i1 : (0 : Int) ≤ (j : Int) := by omega
            have i2 : (j : Int) ≤ (k : Int) := by omega
            have i3 : (j : Int) ≤ (vc : Int) := by omega
            have i4 : (k : Int) ≤ (vc : Int) := by omega
            clear d0 d1 d2
            refine wp_region_Z (z := 15) (S := fun W' => W'.cell? ⟨g, o + k * 3, none⟩ = some (.int .i64 xa) ∧ W'.cell? ⟨g, o + k * 3 + 1, none⟩ = some (.string (bs xb)) ∧ W'.cell? ⟨g, o + k * 3 + 2, none⟩ = some (.int .i64 xc)) (by kernel_rfl) ?_
            obtain ⟨WD, hWD⟩ : ∃ W, w5.drew = W := ⟨_, rfl⟩
            rw [hWD] at F0 hHeld ⊢
            clear hWD
            refine takeZ_on (i := 1) (v := .slice (some ⟨g2, 0, none⟩) k vc) rfl (by kernel_rfl) (by kernel_rfl) (by kernel_rfl) (by kernel_rfl) (fun _ _ _ h => h) (by kernel_rfl) (fun W' hSW => ?_) (by assumption) ?_
            · (try dsimp only at hSW)
              first | (go_simp; done) | exact rfl | (go_simp; rfl) | (go_simp; omega)
            try simp only [Act.put, List.setIfInBounds_toArray, List.set_cons_zero, List.set_cons_succ]
            refine takeZ_on (i := 2) (v := .int .i64 j) rfl (by kernel_rfl) (by kernel_rfl) (by kernel_rfl) (by kernel_rfl) (fun _ _ _ h => h) (by kernel_rfl) (fun W' hSW => ?_) (by assumption) ?_
            · (try dsimp only at hSW)
              first | (go_simp; done) | exact rfl | (go_simp; rfl) | (go_simp; omega)
            try simp only [Act.put, List.setIfInBounds_toArray, List.set_cons_zero, List.set_cons_succ]
            refine takeZ_on (i := 3) (v := .slice (some ⟨g2, 0, none⟩) j vc) rfl (by kernel_rfl) (by kernel_rfl) (by kernel_rfl) (by kernel_rfl) (fun _ _ _ h => h) (by kernel_rfl) (fun W' hSW => ?_) (by assumption) ?_
            · (try dsimp only at hSW)
              first | (go_simp; done) | exact rfl | (go_simp; rfl) | (go_simp; omega)
            try simp only [Act.put, List.setIfInBounds_toArray, List.set_cons_zero, List.set_cons_succ]
            refine takeZ_on (i := 5) (v := .slice (some ⟨g, o, none⟩) n cap) rfl (by kernel_rfl) (by kernel_rfl) (by kernel_rfl) (by kernel_rfl) (fun _ _ _ h => h) (by kernel_rfl) (fun W' hSW => ?_) (by assumption) ?_
            · (try dsimp only at hSW)
              first | (go_simp; done) | exact rfl | (go_simp; rfl) | (go_simp; omega)
            try simp only [Act.put, List.setIfInBounds_toArray, List.set_cons_zero, List.set_cons_succ]
            refine takeZ_on (i := 6) (v := .int .i64 k) rfl (by kernel_rfl) (by kernel_rfl) (by kernel_rfl) (by kernel_rfl) (fun _ _ _ h => h) (by kernel_rfl) (fun W' hSW => ?_) (by assumption) ?_
            · (try dsimp only at hSW)
              first | (go_simp; done) | exact rfl | (go_simp; rfl) | (go_simp; omega)
            try simp only [Act.put, List.setIfInBounds_toArray, List.set_cons_zero, List.set_cons_succ]
            refine takeZ_on (i := 7) (v := .pointer (some ⟨g, o + k * 3, none⟩)) rfl (by kernel_rfl) (by kernel_rfl) (by kernel_rfl) (by kernel_rfl) (fun _ _ _ h => h) (by kernel_rfl) (fun W' hSW => ?_) (by assumption) ?_
            · (try dsimp only at hSW)
              first | (go_simp; done) | exact rfl | (go_simp; rfl) | (go_simp; omega)
            try simp only [Act.put, List.setIfInBounds_toArray, List.set_cons_zero, List.set_cons_succ]
            refine takeZ_on (i := 8) (v := .agg #[.int .i64 xa, .string (bs xb), .int .i64 xc]) rfl (by kernel_rfl) (by kernel_rfl) (by kernel_rfl) (by kernel_rfl) (fun _ _ _ h => h) (by kernel_rfl) (fun W' hSW => ?_) (by assumption) ?_
            · (try dsimp only at hSW)
              first | (go_simp; done) | exact rfl | (go_simp; rfl) | (go_simp; omega)
            try simp only [Act.put, List.setIfInBounds_toArray, List.set_cons_zero, List.set_cons_succ]
            refine takeZ_on (i := 11) (v := .slice (some ⟨g2, 0, none⟩) k vc) rfl (by kernel_rfl) (by kernel_rfl) (by kernel_rfl) (by kernel_rfl) (fun _ _ _ h => h) (by kernel_rfl) (fun W' hSW => ?_) (by assumption) ?_
            · (try dsimp only at hSW)
              first | (go_simp; done) | exact rfl | (go_simp; rfl) | (go_simp; omega)
            try simp only [Act.put, List.setIfInBounds_toArray, List.set_cons_zero, List.set_cons_succ]
            refine takeZ_on (i := 12) (v := .int .i64 j) rfl (by kernel_rfl) (by kernel_rfl) (by kernel_rfl) (by kernel_rfl) (fun _ _ _ h => h) (by kernel_rfl) (fun W' hSW => ?_) (by assumption) ?_
            · (try dsimp only at hSW)
              first | (go_simp; done) | exact rfl | (go_simp; rfl) | (go_simp; omega)
            try simp only [Act.put, List.setIfInBounds_toArray, List.set_cons_zero, List.set_cons_succ]
            refine takeZ_on (i := 13) (v := .slice (some A) (k - j) (vc - j)) rfl (by kernel_rfl) (by kernel_rfl) (by kernel_rfl) (by kernel_rfl) (fun _ _ _ h => h) (by kernel_rfl) (fun W' hSW => ?_) (by assumption) ?_
            · (try dsimp only at hSW)
              first | (go_simp; done) | exact rfl | (go_simp; rfl) | (go_simp; omega)
            try simp only [Act.put, List.setIfInBounds_toArray, List.set_cons_zero, List.set_cons_succ]
            refine takeZ_two (i := 0) (j := 9) rfl rfl (by kernel_rfl) (by kernel_rfl) (by kernel_rfl) (fun K hK => ?_) (fun K hK => ?_)
            · skip
              go_simp
              obtain ⟨V1, hV⟩ : ∃ W, WD.alloc (.cells #[] 68) = W := ⟨_, rfl⟩
              obtain ⟨G, hG⟩ : ∃ X, WD.heap.size = X := ⟨_, rfl⟩
              have hrow := World.ownsRow_lit (base := w5.heap.size) (e := 68) (size := 3) WD #[] 0 F0.out.size (by unfold maxLen; omega) rfl
              have fV := Lib.hid (show Fr0 none' WD V1 by rw [← hV]; exact (Fr0.refl _ _).alloc _)
              have F2 := Lib.hid (F0.out.trans fV.out)
              rw [hV, hG] at hrow
              rw [hV, hG]
              have Hrow := Lib.hid hrow
              have hGV := (hrow.lt G rfl).2
              have HGl := Lib.hid (show G = WD.heap.size from hG.symm)
              clear hV hG hrow
              refine hK.out _ _ (.inr (Skey.out _ F2.out)) ?_
              clear hK K
              try simp only [Act.put, List.setIfInBounds_toArray, List.set_cons_zero, List.set_cons_succ]
              refine takeZ_two (i := 4) (j := 9) rfl rfl (by kernel_rfl) (by kernel_rfl) (by kernel_rfl) (fun K hK => ?_) (fun K hK => ?_)
              · skip
                refine wp_app_k _ _ 63 63 rfl w5.heap.size 68 i0 (.agg #[.int .i64 0, .string ⟨#[]⟩, .int .i64 0]) 3 32 Tryz.underlying63 hi hz0 hz1 hz2 rfl (by decide) (.slice (some ⟨G, 0, none⟩) 0 0) 0 [] rfl Hrow.out (.slice (some ⟨g2, 0, none⟩) j vc) j (flatP (M.take j)) rfl ((HT.out _ F2.out).src (by rw [List.length_take, HMl.out]; omega) vc Tryz.underlying63) (by unfold maxLen; omega) (by omega) F2.out.size ?_
                intro v1 V2 hown1 hgr
                have fA := Lib.hid (show Fr0 (fun k => k = G) V1 V2 from (Fr0.refl (fun k => k = G) V1).grown hgr (fun k hk _ => by simpa [Value.ownBlock] using hk.symm))
                have F3 := Lib.hid (F2.out.trans' fA.out (fun k hk e => by have := HGl.out; have := F0.out.size; omega))
                have Hown1 := Lib.hid hown1
                clear hown1 hgr
                refine hK.out _ _ (.inr (Skey.out _ F3.out)) ?_
                clear hK K
                try simp only [Act.put, List.setIfInBounds_toArray, List.set_cons_zero, List.set_cons_succ]
                refine takeZ_call (i := 9) rfl (by kernel_rfl) (by kernel_rfl) (fun K hK => ?_)
                go_simp
                obtain ⟨V3, hV⟩ : ∃ W, V2.alloc (.cells #[.int .i64 xa, .string (bs xb), .int .i64 xc] 68) = W := ⟨_, rfl⟩
                obtain ⟨LB, hG⟩ : ∃ X, V2.heap.size = X := ⟨_, rfl⟩
                have hlit : V3.heap[LB]? = some (.cells #[.int .i64 xa, .string (bs xb), .int .i64 xc] 68 (0, 0)) := by rw [← hV, ← hG]; exact World.alloc_heap_new V2 _
                have fL := Lib.hid (show Fr0 none' V2 V3 by rw [← hV]; exact (Fr0.refl _ _).alloc _)
                have F4 := Lib.hid (F3.out.trans fL.out)
                rw [hV, hG]
                have Hlit := Lib.hid (PtsIn.one hlit)
                have hLV := (Array.getElem?_eq_some_iff.1 hlit).1
                have HLl := Lib.hid (show LB = V2.heap.size from hG.symm)
                clear hV hG hlit
                refine hK.out _ _ (.inr (Skey.out _ F4.out)) ?_
                clear hK K
                try simp only [Act.put, List.setIfInBounds_toArray, List.set_cons_zero, List.set_cons_succ]
                have Hown2 := Lib.hid (ownsRow_fr0 Hown1.out fL.out (fun _ _ h => h))
                refine takeZ_call (i := 10) rfl (by kernel_rfl) (by kernel_rfl) (fun K hK => ?_)
                refine wp_app_k _ _ 63 63 rfl w5.heap.size 68 i0 (.agg #[.int .i64 0, .string ⟨#[]⟩, .int .i64 0]) 3 32 Tryz.underlying63 hi hz0 hz1 hz2 rfl (by decide) v1 (0 + j) _ rfl Hown2.out (.slice (some ⟨LB, 0, none⟩) 1 1) 1 (flatP [⟨xa, xb, xc⟩]) rfl (Hlit.out.src rfl 1 Tryz.underlying63) (by unfold maxLen; omega) (by omega) F4.out.size ?_
                intro v2 V8 hown2 hgr2
                have hg2 := Hown2.out.lt
                have F8 := Lib.hid (F4.out.grown hgr2 (fun k hk hkl => by have := (hg2 k hk).1; omega))
                have Hown2' := Lib.hid hown2
                clear hown2 hgr2 hg2
                refine hK.out _ _ (.inr (Skey.out _ F8.out)) ?_
                clear hK K
                try simp only [Act.put, List.setIfInBounds_toArray, List.set_cons_zero, List.set_cons_succ]
                refine takeZ_call (i := 14) rfl (by kernel_rfl) (by kernel_rfl) (fun K hK => ?_)
                refine wp_app_k _ _ 63 63 rfl w5.heap.size 68 i0 (.agg #[.int .i64 0, .string ⟨#[]⟩, .int .i64 0]) 3 32 Tryz.underlying63 hi hz0 hz1 hz2 rfl (by decide) v2 (0 + j + 1) _ rfl Hown2'.out (.slice (some A) (k - j) (vc - j)) (k - j) (flatP (M.drop j)) rfl ((HDr.out _ F8.out).src (by rw [List.length_drop, HMl.out]) (vc - j) Tryz.underlying63) (by unfold maxLen; omega) (by omega) F8.out.size ?_
                intro v3 V9 hown3 hgr3
                have hg3 := Hown2'.out.lt
                have F9 := Lib.hid (F8.out.grown hgr3 (fun k hk hkl => by have := (hg3 k hk).1; omega))
                have hfin : V9.ownsRow w5.heap.size 68 3 v3 (k + 1) (flatP (sortP (L.take (k + 1)))) := by
                  rw [Hsn.out, hend.out, show k + 1 = 0 + j + 1 + (k - j) by omega, flatP_append, show (⟨xa, xb, xc⟩ :: M.drop j : List Pt) = [⟨xa, xb, xc⟩] ++ M.drop j from rfl, flatP_append, ← List.append_assoc]
                  exact hown3
                have Hfin := Lib.hid (ownsRow_k_mono hfin (FW.out.size))
                clear hown3 hgr3 hg3 hfin
                refine hK.out _ _ (.inr (Skey.out _ F9.out)) ?_
                clear hK K
                try simp only [Act.put, List.setIfInBounds_toArray, List.set_cons_zero, List.set_cons_succ]
                refine takeZ_call (i := 15) rfl (by kernel_rfl) (by kernel_rfl) (fun K hK => ?_)
                go_simp
                refine hK.out _ _ (.inr (Skey.out _ F9.out)) ?_
                clear hK K
                try simp only [Act.put, List.setIfInBounds_toArray, List.set_cons_zero, List.set_cons_succ]
                refine wpAnyZ_done (by kernel_rfl) ?_ _
                clear hHeld
                have FF := Lib.hid (FW.out.trans F9.out)
                go_wp2
                go_roundw
                case rel => exact ⟨k + 1, by omega, by go_num, Hfin, FF⟩
                case measure => simp [Go.RowKit.intOf]; omega
              · skip
                go_simp
                obtain ⟨V2, hV⟩ : ∃ W, V1.alloc (.cells #[.int .i64 xa, .string (bs xb), .int .i64 xc] 68) = W := ⟨_, rfl⟩
                obtain ⟨LB, hG⟩ : ∃ X, V1.heap.size = X := ⟨_, rfl⟩
                have hlit : V2.heap[LB]? = some (.cells #[.int .i64 xa, .string (bs xb), .int .i64 xc] 68 (0, 0)) := by rw [← hV, ← hG]; exact World.alloc_heap_new V1 _
                have fL := Lib.hid (show Fr0 none' V1 V2 by rw [← hV]; exact (Fr0.refl _ _).alloc _)
                have F3 := Lib.hid (F2.out.trans fL.out)
                rw [hV, hG]
                have Hlit := Lib.hid (PtsIn.one hlit)
                have hLV := (Array.getElem?_eq_some_iff.1 hlit).1
                have HLl := Lib.hid (show LB = V1.heap.size from hG.symm)
                clear hV hG hlit
                refine hK.out _ _ (.inr (Skey.out _ F3.out)) ?_
                clear hK K
                try simp only [Act.put, List.setIfInBounds_toArray, List.set_cons_zero, List.set_cons_succ]
                have Hrow := Lib.hid (ownsRow_fr0 Hrow.out fL.out (fun _ _ h => h))
                refine takeZ_call (i := 4) rfl (by kernel_rfl) (by kernel_rfl) (fun K hK => ?_)
                refine wp_app_k _ _ 63 63 rfl w5.heap.size 68 i0 (.agg #[.int .i64 0, .string ⟨#[]⟩, .int .i64 0]) 3 32 Tryz.underlying63 hi hz0 hz1 hz2 rfl (by decide) (.slice (some ⟨G, 0, none⟩) 0 0) 0 [] rfl Hrow.out (.slice (some ⟨g2, 0, none⟩) j vc) j (flatP (M.take j)) rfl ((HT.out _ F3.out).src (by rw [List.length_take, HMl.out]; omega) vc Tryz.underlying63) (by unfold maxLen; omega) (by omega) F3.out.size ?_
                intro v1 V3 hown1 hgr
                have fA := Lib.hid (show Fr0 (fun k => k = G) V2 V3 from (Fr0.refl (fun k => k = G) V2).grown hgr (fun k hk _ => by simpa [Value.ownBlock] using hk.symm))
                have F4 := Lib.hid (F3.out.trans' fA.out (fun k hk e => by have := HGl.out; have := F0.out.size; omega))
                have Hown1 := Lib.hid hown1
                clear hown1 hgr
                refine hK.out _ _ (.inr (Skey.out _ F4.out)) ?_
                clear hK K
                try simp only [Act.put, List.setIfInBounds_toArray, List.set_cons_zero, List.set_cons_succ]
                have Hlit2 := Lib.hid (Hlit.out.fr0 fA.out (fun g o s' e h => by injection e with e; injection e with e1; subst h; subst e1; have h1 := HGl.out; have h2 := HLl.out; omega))
                refine takeZ_call (i := 10) rfl (by kernel_rfl) (by kernel_rfl) (fun K hK => ?_)
                refine wp_app_k _ _ 63 63 rfl w5.heap.size 68 i0 (.agg #[.int .i64 0, .string ⟨#[]⟩, .int .i64 0]) 3 32 Tryz.underlying63 hi hz0 hz1 hz2 rfl (by decide) v1 (0 + j) _ rfl Hown1.out (.slice (some ⟨LB, 0, none⟩) 1 1) 1 (flatP [⟨xa, xb, xc⟩]) rfl (Hlit2.out.src rfl 1 Tryz.underlying63) (by unfold maxLen; omega) (by omega) F4.out.size ?_
                intro v2 V8 hown2 hgr2
                have hg2 := Hown1.out.lt
                have F8 := Lib.hid (F4.out.grown hgr2 (fun k hk hkl => by have := (hg2 k hk).1; omega))
                have Hown2' := Lib.hid hown2
                clear hown2 hgr2 hg2
                refine hK.out _ _ (.inr (Skey.out _ F8.out)) ?_
                clear hK K
                try simp only [Act.put, List.setIfInBounds_toArray, List.set_cons_zero, List.set_cons_succ]
                refine takeZ_call (i := 14) rfl (by kernel_rfl) (by kernel_rfl) (fun K hK => ?_)
                refine wp_app_k _ _ 63 63 rfl w5.heap.size 68 i0 (.agg #[.int .i64 0, .string ⟨#[]⟩, .int .i64 0]) 3 32 Tryz.underlying63 hi hz0 hz1 hz2 rfl (by decide) v2 (0 + j + 1) _ rfl Hown2'.out (.slice (some A) (k - j) (vc - j)) (k - j) (flatP (M.drop j)) rfl ((HDr.out _ F8.out).src (by rw [List.length_drop, HMl.out]) (vc - j) Tryz.underlying63) (by unfold maxLen; omega) (by omega) F8.out.size ?_
                intro v3 V9 hown3 hgr3
                have hg3 := Hown2'.out.lt
                have F9 := Lib.hid (F8.out.grown hgr3 (fun k hk hkl => by have := (hg3 k hk).1; omega))
                have hfin : V9.ownsRow w5.heap.size 68 3 v3 (k + 1) (flatP (sortP (L.take (k + 1)))) := by
                  rw [Hsn.out, hend.out, show k + 1 = 0 + j + 1 + (k - j) by omega, flatP_append, show (⟨xa, xb, xc⟩ :: M.drop j : List Pt) = [⟨xa, xb, xc⟩] ++ M.drop j from rfl, flatP_append, ← List.append_assoc]
                  exact hown3
                have Hfin := Lib.hid (ownsRow_k_mono hfin (FW.out.size))
                clear hown3 hgr3 hg3 hfin
                refine hK.out _ _ (.inr (Skey.out _ F9.out)) ?_
                clear hK K
                try simp only [Act.put, List.setIfInBounds_toArray, List.set_cons_zero, List.set_cons_succ]
                refine takeZ_call (i := 15) rfl (by kernel_rfl) (by kernel_rfl) (fun K hK => ?_)
                go_simp
                refine hK.out _ _ (.inr (Skey.out _ F9.out)) ?_
                clear hK K
                try simp only [Act.put, List.setIfInBounds_toArray, List.set_cons_zero, List.set_cons_succ]
                refine wpAnyZ_done (by kernel_rfl) ?_ _
                clear hHeld
                have FF := Lib.hid (FW.out.trans F9.out)
                go_wp2
                go_roundw
                case rel => exact ⟨k + 1, by omega, by go_num, Hfin, FF⟩
                case measure => simp [Go.RowKit.intOf]; omega
            · skip
              go_simp
              obtain ⟨V1, hV⟩ : ∃ W, WD.alloc (.cells #[.int .i64 xa, .string (bs xb), .int .i64 xc] 68) = W := ⟨_, rfl⟩
              obtain ⟨LB, hG⟩ : ∃ X, WD.heap.size = X := ⟨_, rfl⟩
              have hlit : V1.heap[LB]? = some (.cells #[.int .i64 xa, .string (bs xb), .int .i64 xc] 68 (0, 0)) := by rw [← hV, ← hG]; exact World.alloc_heap_new WD _
              have fL := Lib.hid (show Fr0 none' WD V1 by rw [← hV]; exact (Fr0.refl _ _).alloc _)
              have F1 := Lib.hid (F0.out.trans fL.out)
              rw [hV, hG]
              have Hlit := Lib.hid (PtsIn.one hlit)
              have hLV := (Array.getElem?_eq_some_iff.1 hlit).1
              have HLl := Lib.hid (show LB = WD.heap.size from hG.symm)
              clear hV hG hlit
              refine hK.out _ _ (.inr (Skey.out _ F1.out)) ?_
              clear hK K
              try simp only [Act.put, List.setIfInBounds_toArray, List.set_cons_zero, List.set_cons_succ]
              refine takeZ_call (i := 0) rfl (by kernel_rfl) (by kernel_rfl) (fun K hK => ?_)
              go_simp
              obtain ⟨V2, hV⟩ : ∃ W, V1.alloc (.cells #[] 68) = W := ⟨_, rfl⟩
              obtain ⟨G, hG⟩ : ∃ X, V1.heap.size = X := ⟨_, rfl⟩
              have hrow := World.ownsRow_lit (base := w5.heap.size) (e := 68) (size := 3) V1 #[] 0 F1.out.size (by unfold maxLen; omega) rfl
              have fV := Lib.hid (show Fr0 none' V1 V2 by rw [← hV]; exact (Fr0.refl _ _).alloc _)
              have F2 := Lib.hid (F1.out.trans fV.out)
              rw [hV, hG] at hrow
              rw [hV, hG]
              have Hrow := Lib.hid hrow
              have hGV := (hrow.lt G rfl).2
              have HGl := Lib.hid (show G = V1.heap.size from hG.symm)
              clear hV hG hrow
              refine hK.out _ _ (.inr (Skey.out _ F2.out)) ?_
              clear hK K
              try simp only [Act.put, List.setIfInBounds_toArray, List.set_cons_zero, List.set_cons_succ]
              refine takeZ_call (i := 4) rfl (by kernel_rfl) (by kernel_rfl) (fun K hK => ?_)
              refine wp_app_k _ _ 63 63 rfl w5.heap.size 68 i0 (.agg #[.int .i64 0, .string ⟨#[]⟩, .int .i64 0]) 3 32 Tryz.underlying63 hi hz0 hz1 hz2 rfl (by decide) (.slice (some ⟨G, 0, none⟩) 0 0) 0 [] rfl Hrow.out (.slice (some ⟨g2, 0, none⟩) j vc) j (flatP (M.take j)) rfl ((HT.out _ F2.out).src (by rw [List.length_take, HMl.out]; omega) vc Tryz.underlying63) (by unfold maxLen; omega) (by omega) F2.out.size ?_
              intro v1 V3 hown1 hgr
              have fA := Lib.hid (show Fr0 (fun k => k = G) V2 V3 from (Fr0.refl (fun k => k = G) V2).grown hgr (fun k hk _ => by simpa [Value.ownBlock] using hk.symm))
              have F3 := Lib.hid (F2.out.trans' fA.out (fun k hk e => by have := HGl.out; have := F1.out.size; omega))
              have Hown1 := Lib.hid hown1
              clear hown1 hgr
              refine hK.out _ _ (.inr (Skey.out _ F3.out)) ?_
              clear hK K
              try simp only [Act.put, List.setIfInBounds_toArray, List.set_cons_zero, List.set_cons_succ]
              have Hlit2 := Lib.hid ((Hlit.out.later fV.out).fr0 fA.out (fun g o s' e h => by injection e with e; injection e with e1; subst h; subst e1; have h1 := HGl.out; have h2 := HLl.out; omega))
              refine takeZ_call (i := 10) rfl (by kernel_rfl) (by kernel_rfl) (fun K hK => ?_)
              refine wp_app_k _ _ 63 63 rfl w5.heap.size 68 i0 (.agg #[.int .i64 0, .string ⟨#[]⟩, .int .i64 0]) 3 32 Tryz.underlying63 hi hz0 hz1 hz2 rfl (by decide) v1 (0 + j) _ rfl Hown1.out (.slice (some ⟨LB, 0, none⟩) 1 1) 1 (flatP [⟨xa, xb, xc⟩]) rfl (Hlit2.out.src rfl 1 Tryz.underlying63) (by unfold maxLen; omega) (by omega) F3.out.size ?_
              intro v2 V8 hown2 hgr2
              have hg2 := Hown1.out.lt
              have F8 := Lib.hid (F3.out.grown hgr2 (fun k hk hkl => by have := (hg2 k hk).1; omega))
              have Hown2' := Lib.hid hown2
              clear hown2 hgr2 hg2
              refine hK.out _ _ (.inr (Skey.out _ F8.out)) ?_
              clear hK K
              try simp only [Act.put, List.setIfInBounds_toArray, List.set_cons_zero, List.set_cons_succ]
              refine takeZ_call (i := 14) rfl (by kernel_rfl) (by kernel_rfl) (fun K hK => ?_)
              refine wp_app_k _ _ 63 63 rfl w5.heap.size 68 i0 (.agg #[.int .i64 0, .string ⟨#[]⟩, .int .i64 0]) 3 32 Tryz.underlying63 hi hz0 hz1 hz2 rfl (by decide) v2 (0 + j + 1) _ rfl Hown2'.out (.slice (some A) (k - j) (vc - j)) (k - j) (flatP (M.drop j)) rfl ((HDr.out _ F8.out).src (by rw [List.length_drop, HMl.out]) (vc - j) Tryz.underlying63) (by unfold maxLen; omega) (by omega) F8.out.size ?_
              intro v3 V9 hown3 hgr3
              have hg3 := Hown2'.out.lt
              have F9 := Lib.hid (F8.out.grown hgr3 (fun k hk hkl => by have := (hg3 k hk).1; omega))
              have hfin : V9.ownsRow w5.heap.size 68 3 v3 (k + 1) (flatP (sortP (L.take (k + 1)))) := by
                rw [Hsn.out, hend.out, show k + 1 = 0 + j + 1 + (k - j) by omega, flatP_append, show (⟨xa, xb, xc⟩ :: M.drop j : List Pt) = [⟨xa, xb, xc⟩] ++ M.drop j from rfl, flatP_append, ← List.append_assoc]
                exact hown3
              have Hfin := Lib.hid (ownsRow_k_mono hfin (FW.out.size))
              clear hown3 hgr3 hg3 hfin
              refine hK.out _ _ (.inr (Skey.out _ F9.out)) ?_
              clear hK K
              try simp only [Act.put, List.setIfInBounds_toArray, List.set_cons_zero, List.set_cons_succ]
              refine takeZ_call (i := 15) rfl (by kernel_rfl) (by kernel_rfl) (fun K hK => ?_)
              go_simp
              refine hK.out _ _ (.inr (Skey.out _ F9.out)) ?_
              clear hK K
              try simp only [Act.put, List.setIfInBounds_toArray, List.set_cons_zero, List.set_cons_succ]
              refine wpAnyZ_done (by kernel_rfl) ?_ _
              clear hHeld
              have FF := Lib.hid (FW.out.trans F9.out)
              go_wp2
              go_roundw
              case rel => exact ⟨k + 1, by omega, by go_num, Hfin, FF⟩
              case measure => simp [Go.RowKit.intOf]; omega
    · have hkn : k = n := by omega
      subst hkn
      rw [List.take_of_length_le (by rw [Hn.out]; exact Nat.le_refl _)] at hrow
      go_wp2
      go_ret
      exact ⟨_, rfl, hrow.out, hfr.out⟩
end Go.Proofs.YtieeloealklkgaaGreatDoor

/-
  The reference's space: Of, Under, Names.
-/
namespace Go.Proofs.YtieeloealklkgaaGreatDoor
open Go.RowKit Go.Maps
attribute [local go_sem ↓] Go.wp_at_zero Go.wp_at_succ

theorem filter_snoc (f : Pt → Bool) (L : List Pt) (k : Nat) (x : Pt) (h : L[k]? = some x) : (L.take (k + 1)).filter f = (L.take k).filter f ++ (if f x = true then [x] else []) := by
  rw [List.take_add_one, h]
  simp only [Option.toList_some, List.filter_append]
  congr 1
  by_cases hf : f x = true
  · rw [if_pos hf]; simp [hf]
  · rw [if_neg hf]; simp [hf]

set_option maxRecDepth 100000 in
set_option maxHeartbeats 4000000 in
theorem rOf_any (lim nx : Int) (a : Option Addr) (n cap : Nat) (L : List Pt) (m : Int) (w : World) (hn : L.length = n) (hm : n ≤ 1000)
    (hc : PtsIn w a L) :
    Calls Tryz.prog 81 #[.agg #[.int .i64 lim, .int .i64 nx, .slice a n cap], .int .i64 m] w fun e w' => ∃ v, e = .returned v ∧ w'.ownsRow w.heap.size 68 3 v (L.filter (fun p => p.process == m)).length (flatP (L.filter (fun p => p.process == m))) ∧ Fr0 none' w w' := by
  obtain ⟨i0, hi, hz0, hz1, hz2⟩ := info_parts info_rp
  have Hn := Lib.hid hn
  have Hc := Lib.hid hc
  clear hn hc
  obtain ⟨W1, hW1⟩ : ∃ W, w.alloc (.cells #[.int .i64 lim, .int .i64 nx, .slice a n cap] 65) = W := ⟨_, rfl⟩
  obtain ⟨B, hB⟩ : ∃ X, w.heap.size = X := ⟨_, rfl⟩
  have f1 := Lib.hid (show Fr0 none' w W1 by rw [← hW1]; exact (Fr0.refl _ _).alloc _)
  have hbb : W1.heap[B]? = some (.cells #[.int .i64 lim, .int .i64 nx, .slice a n cap] 65 (0, 0)) := by rw [← hW1, ← hB]; exact World.alloc_heap_new w _
  have b2 := cells_in hbb 2
  simp at b2
  clear hbb
  go_enter Tryz.func81, Tryz.ntmps81
  go_wp2_with fail
  clear hW1 hB
  go_loopw [5, 6] (fun out i wr => ∃ k : Nat, k ≤ n ∧ i = .int .i64 k ∧ Hid (wr.ownsRow W1.heap.size 68 3 out ((L.take k).filter (fun p => p.process == m)).length (flatP ((L.take k).filter (fun p => p.process == m)))) ∧ Hid (Fr0 none' W1 wr)) (fun _ i _ => n - (Go.RowKit.intOf i).toNat)
  case atStart => exact ⟨0, Nat.zero_le _, rfl, World.ownsRow_nil _ _ _ _, Fr0.refl _ _⟩
  case round =>
    obtain ⟨k, hk, rfl, hrow, hfr⟩ := hrel
    have b2 := hfr.out.later b2
    by_cases hlt : k < n
    · obtain ⟨x, hx⟩ : ∃ x, L[k]? = some x := ⟨_, List.getElem?_eq_getElem (by rw [Hn.out]; exact hlt)⟩
      obtain ⟨g, o, rfl, hpc⟩ := Hc.out k x hx
      have FW := Lib.hid (f1.out.trans hfr.out)
      obtain ⟨d0, d1, d2⟩ := hpc.later FW.out
      have hsn := filter_snoc (fun p => p.process == m) L k x hx
      obtain ⟨M, hM⟩ : ∃ M, (L.take k).filter (fun p => p.process == m) = M := ⟨_, rfl⟩
      rw [hM] at hsn hrow
      have hMl : M.length ≤ 1000 := by rw [← hM]; have h1 := List.length_filter_le (fun p : Pt => p.process == m) (L.take k); rw [List.length_take] at h1; omega
      obtain ⟨xa, xb, xc⟩ := x
      simp only at d0 d1 d2 hsn
      have k1 : (0 : Int) ≤ (k : Int) := by omega
      have k2 : (k : Int) < (n : Int) := by omega
      have hown0 := hrow.out
      clear hx hpc hM hrow
      by_cases hc : xc = m
      · have q1 : (xc == m) = true := by simpa using hc
        rw [if_pos q1] at hsn
        have Hsn := Lib.hid hsn
        clear hsn hc
        have Skip := True.intro
        obtain ⟨m0, hm0⟩ : ∃ m0, M.length = m0 := ⟨_, rfl⟩
        rw [hm0] at hown0
        have Hm0 := Lib.hid hm0
        have hm0l : m0 ≤ 1000 := by omega
        clear hm0 hMl
        have hsz := hfr.out.size
        have hsrc := Src.newRow (P := Tryz.prog) (size := 3) (tx := 63) (ty := 68) wr Tryz.underlying63 1 1 [.int .i64 xa, .string (bs xb), .int .i64 xc] rfl (by simp [Value.oneCell'])
        go_wp2_with (at_builtin; refine wpList_append_k rfl _ _ 63 63 rfl W1.heap.size 68 i0 (.agg #[.int .i64 0, .string ⟨#[]⟩, .int .i64 0]) 3 32 Tryz.underlying63 hi hz0 hz1 hz2 rfl (by decide) _ m0 _ rfl (hown0.alloc _) (.slice (some ⟨wr.heap.size, 0, none⟩) 1 1) 1 _ rfl hsrc (by unfold maxLen; omega) (by omega) (by simp; omega) ?_; intro v' w9 hown' hgrow hdr hob)
        have hown9 := Lib.hid (show w9.ownsRow W1.heap.size 68 3 v' (M ++ [(⟨xa, xb, xc⟩ : Pt)]).length (flatP (M ++ [(⟨xa, xb, xc⟩ : Pt)])) from by
          rw [List.length_append, Hm0.out, flatP_snoc]
          exact hown')
        have hf9 := Lib.hid (show Fr0 none' W1 w9 from (hfr.out.alloc _).grown hgrow (fun k hk hkl => by have := (hown0.lt k hk).1; omega))
        go_roundw
        case rel =>
          refine ⟨k + 1, by omega, by go_num, ?_, hf9⟩
          rw [Hsn.out]
          exact hown9
        case measure => simp [Go.RowKit.intOf]; omega
      · have q1 : (xc == m) = false := by simpa using hc
        rw [if_neg (by rw [q1]; simp), List.append_nil] at hsn
        have Hsn := Lib.hid hsn
        have Hown := Lib.hid hown0
        clear hsn hc hown0 hMl
        go_wp2
        go_roundw
        case rel => exact ⟨k + 1, by omega, by go_num, by rw [Hsn.out]; exact Hown, hfr⟩
        case measure => simp [Go.RowKit.intOf]; omega
    · have hkn : k = n := by omega
      subst hkn
      rw [List.take_of_length_le (by rw [Hn.out]; exact Nat.le_refl _)] at hrow
      go_wp2
      go_ret
      exact ⟨_, rfl, ownsRow_k_mono hrow.out f1.out.size, f1.out.trans hfr.out⟩

set_option maxRecDepth 100000 in
set_option maxHeartbeats 4000000 in
theorem rUnder_any (lim nx : Int) (a : Option Addr) (n cap : Nat) (L : List Pt) (s : Bs) (w : World) (hn : L.length = n) (hm : n ≤ 1000) (hs : s.length ≤ 1000) (hok : SpOK lim nx L)
    (hc : PtsIn w a L) :
    Calls Tryz.prog 80 #[.agg #[.int .i64 lim, .int .i64 nx, .slice a n cap], .string (bs s)] w fun e w' => ∃ v, e = .returned (.tuple #[v, .int .i64 (underE s)]) ∧ w'.ownsRow w.heap.size 68 3 v (underR L s).length (flatP (underR L s)) ∧ Fr0 none' w w' := by
  obtain ⟨i0, hi, hz0, hz1, hz2⟩ := info_parts info_rp
  have Hn := Lib.hid hn
  have Hc := Lib.hid hc
  have Hok := Lib.hid hok
  obtain ⟨r, hr⟩ : ∃ r, rightB s = r := ⟨_, rfl⟩
  have HR := Lib.hid (fun W => refRight_r s (by omega) hr W)
  unfold underE underR
  rw [hr]
  have Hr := Lib.hid hr
  clear hn hc hok hr
  obtain ⟨W1, hW1⟩ : ∃ W, w.alloc (.cells #[.int .i64 lim, .int .i64 nx, .slice a n cap] 65) = W := ⟨_, rfl⟩
  obtain ⟨B, hB⟩ : ∃ X, w.heap.size = X := ⟨_, rfl⟩
  have f1 := Lib.hid (show Fr0 none' w W1 by rw [← hW1]; exact (Fr0.refl _ _).alloc _)
  have hbb : W1.heap[B]? = some (.cells #[.int .i64 lim, .int .i64 nx, .slice a n cap] 65 (0, 0)) := by rw [← hW1, ← hB]; exact World.alloc_heap_new w _
  have b2 := cells_in hbb 2
  simp at b2
  clear hbb
  cases r
  · go_enter Tryz.func80, Tryz.ntmps80
    go_wp2_with fail
    refine (HR.out _).mono ?_
    rintro e w3 ⟨rfl, hbe⟩
    have hf := below_to0 hbe
    clear hbe hW1 hB
    go_wp2
    go_ret2
    exact ⟨_, rfl, World.ownsRow_nil _ _ _ _, f1.out.trans hf⟩
  · go_enter Tryz.func80, Tryz.ntmps80
    go_wp2_with fail
    refine (HR.out _).mono ?_
    rintro e w3 ⟨rfl, hbe⟩
    have f1 := Lib.hid (f1.out.trans (below_to0 hbe))
    have b2 := (below_to0 hbe).later b2
    clear hbe hW1 hB
    go_wp2_with fail
    go_loopw [6, 7] (fun out i wr => ∃ k : Nat, k ≤ n ∧ i = .int .i64 k ∧ Hid (wr.ownsRow w3.heap.size 68 3 out ((L.take k).filter (fun p => underB p.name s)).length (flatP ((L.take k).filter (fun p => underB p.name s)))) ∧ Hid (Fr0 none' w3 wr)) (fun _ i _ => n - (Go.RowKit.intOf i).toNat)
    case atStart => exact ⟨0, Nat.zero_le _, rfl, World.ownsRow_nil _ _ _ _, Fr0.refl _ _⟩
    case round =>
      obtain ⟨k, hk, rfl, hrow, hfr⟩ := hrel
      have b2 := hfr.out.later b2
      by_cases hlt : k < n
      · obtain ⟨x, hx⟩ : ∃ x, L[k]? = some x := ⟨_, List.getElem?_eq_getElem (by rw [Hn.out]; exact hlt)⟩
        obtain ⟨g, o, rfl, hpc⟩ := Hc.out k x hx
        have FW := Lib.hid (f1.out.trans hfr.out)
        have hpw := Lib.hid (hpc.later FW.out)
        obtain ⟨d0, d1, d2⟩ := hpw.out
        have hxr := rightB_len (Hok.out.right x (List.mem_of_getElem? hx))
        have hsn := filter_snoc (fun p => underB p.name s) L k x hx
        obtain ⟨M, hM⟩ : ∃ M, (L.take k).filter (fun p => underB p.name s) = M := ⟨_, rfl⟩
        rw [hM] at hsn hrow
        have hMl : M.length ≤ 1000 := by rw [← hM]; have h1 := List.length_filter_le (fun p : Pt => underB p.name s) (L.take k); rw [List.length_take] at h1; omega
        have HU := refUnder_any x.name s wr (by omega) (by omega)
        obtain ⟨xa, xb, xc⟩ := x
        simp only at d0 d1 d2 hsn HU
        obtain ⟨c, hc⟩ : ∃ c, underB xb s = c := ⟨_, rfl⟩
        rw [hc] at hsn HU
        have k1 : (0 : Int) ≤ (k : Int) := by omega
        have k2 : (k : Int) < (n : Int) := by omega
        clear hx hpc hM hc hxr
        go_wp2_with fail
        refine HU.mono ?_
        rintro e w5 ⟨rfl, hbe⟩
        have hf5 := below_to0 hbe
        have FW := Lib.hid (FW.out.trans hf5)
        have hfr := Lib.hid (hfr.out.trans hf5)
        have hown0 := ownsRow_fr0 hrow.out hf5 (fun _ _ h => h)
        obtain ⟨d0, d1, d2⟩ := hpw.out.later hf5
        simp only at d0 d1 d2
        have b2 := hf5.later b2
        clear HU hbe hf5 hrow
        cases c
        · rw [if_neg (by simp), List.append_nil] at hsn
          have Hsn := Lib.hid hsn
          have Hown := Lib.hid hown0
          clear hsn hown0 hMl
          go_wp2
          go_roundw
          case rel => exact ⟨k + 1, by omega, by go_num, by rw [Hsn.out]; exact Hown, hfr⟩
          case measure => simp [Go.RowKit.intOf]; omega
        · rw [if_pos rfl] at hsn
          have Hsn := Lib.hid hsn
          clear hsn
          have Skip := True.intro
          obtain ⟨m0, hm0⟩ : ∃ m0, M.length = m0 := ⟨_, rfl⟩
          rw [hm0] at hown0
          have Hm0 := Lib.hid hm0
          have hm0l : m0 ≤ 1000 := by omega
          clear hm0 hMl
          have hsz := hfr.out.size
          have hsrc := Src.newRow (P := Tryz.prog) (size := 3) (tx := 63) (ty := 68) w5 Tryz.underlying63 1 1 [.int .i64 xa, .string (bs xb), .int .i64 xc] rfl (by simp [Value.oneCell'])
          go_wp2_with (at_builtin; refine wpList_append_k rfl _ _ 63 63 rfl w3.heap.size 68 i0 (.agg #[.int .i64 0, .string ⟨#[]⟩, .int .i64 0]) 3 32 Tryz.underlying63 hi hz0 hz1 hz2 rfl (by decide) _ m0 _ rfl (hown0.alloc _) (.slice (some ⟨w5.heap.size, 0, none⟩) 1 1) 1 _ rfl hsrc (by unfold maxLen; omega) (by omega) (by simp; omega) ?_; intro v' w9 hown' hgrow hdr hob)
          have hown9 := Lib.hid (show w9.ownsRow w3.heap.size 68 3 v' (M ++ [(⟨xa, xb, xc⟩ : Pt)]).length (flatP (M ++ [(⟨xa, xb, xc⟩ : Pt)])) from by
            rw [List.length_append, Hm0.out, flatP_snoc]
            exact hown')
          have hf9 := Lib.hid (show Fr0 none' w3 w9 from (hfr.out.alloc _).grown hgrow (fun k hk hkl => by have := (hown0.lt k hk).1; omega))
          go_roundw
          case rel =>
            refine ⟨k + 1, by omega, by go_num, ?_, hf9⟩
            rw [Hsn.out]
            exact hown9
          case measure => simp [Go.RowKit.intOf]; omega
      · have hkn : k = n := by omega
        subst hkn
        rw [List.take_of_length_le (by rw [Hn.out]; exact Nat.le_refl _)] at hrow
        obtain ⟨M, hM⟩ : ∃ M, L.filter (fun p => underB p.name s) = M := ⟨_, rfl⟩
        have hsub : M.Sublist L := hM ▸ List.filter_sublist
        rw [hM] at hrow
        obtain ⟨va, vc, rfl, hva, hvc, hvm, hvb⟩ := PtsIn.of_own hrow.out rfl
        have FW := Lib.hid (f1.out.trans hfr.out)
        have HS := rSorted_any va M.length vc M wr rfl (by have := hsub.length_le; rw [Hn.out] at this; omega) (fun p hp => by have := rightB_len (Hok.out.right p (hsub.subset hp)); omega) hva
        have hR := under_sortP Hok.out s
        rw [hM] at hR
        rw [hR] at HS
        have hRl : M.length = (underL L s).length := by rw [← hR, sortP_len]
        obtain ⟨m0, hm0⟩ : ∃ m0, M.length = m0 := ⟨_, rfl⟩
        rw [hm0] at HS hRl ⊢
        have HRl := Lib.hid hRl
        clear hrow hva hvb hR hRl hm0 hM hsub
        go_wp2_with fail
        refine HS.mono ?_
        rintro e w6 ⟨v, rfl, hrow6, hf6⟩
        have Hfin := Lib.hid (show w6.ownsRow w.heap.size 68 3 v (underL L s).length (flatP (underL L s)) ∧ Fr0 none' w w6 from ⟨HRl.out ▸ ownsRow_k_mono hrow6 FW.out.size, FW.out.trans hf6⟩)
        clear HS hrow6 hf6
        go_wp2
        go_ret2
        exact ⟨_, rfl, Hfin.out.1, Hfin.out.2⟩

set_option maxRecDepth 100000 in
set_option maxHeartbeats 4000000 in
theorem rNames_any (lim nx : Int) (a : Option Addr) (n cap : Nat) (L : List Pt) (w : World) (hn : L.length = n) (hm : n ≤ 1000) (hok : SpOK lim nx L)
    (hc : PtsIn w a L) :
    Calls Tryz.prog 82 #[.agg #[.int .i64 lim, .int .i64 nx, .slice a n cap]] w fun e w' => ∃ v, e = .returned v ∧ w'.ownsRow w.heap.size 9 1 v n ((namesP L).map strV) ∧ Fr0 none' w w' := by
  obtain ⟨i0, hi, hz0, hz1, hz2⟩ := info_parts info_str
  have Hn := Lib.hid hn
  have Hc := Lib.hid hc
  have Hok := Lib.hid hok
  clear hn hc hok
  obtain ⟨W1, hW1⟩ : ∃ W, w.alloc (.cells #[.int .i64 lim, .int .i64 nx, .slice a n cap] 65) = W := ⟨_, rfl⟩
  obtain ⟨B, hB⟩ : ∃ X, w.heap.size = X := ⟨_, rfl⟩
  have f1 := Lib.hid (show Fr0 none' w W1 by rw [← hW1]; exact (Fr0.refl _ _).alloc _)
  have hbb : W1.heap[B]? = some (.cells #[.int .i64 lim, .int .i64 nx, .slice a n cap] 65 (0, 0)) := by rw [← hW1, ← hB]; exact World.alloc_heap_new w _
  have b2 := cells_in hbb 2
  simp at b2
  clear hbb
  have HS := rSorted_any a n cap L W1 Hn.out hm (fun p hp => by have := rightB_len (Hok.out.right p hp); omega) (Hc.out.later f1.out)
  go_enter Tryz.func82, Tryz.ntmps82
  go_wp2_with fail
  clear hW1 hB
  refine HS.mono ?_
  rintro e w3 ⟨sv, rfl, hrow3, hf3⟩
  obtain ⟨M, hM⟩ : ∃ M, sortP L = M := ⟨_, rfl⟩
  rw [hM] at hrow3
  have hMl : M.length = n := by rw [← hM, sortP_len, Hn.out]
  have hMn : M.map (·.name) = namesP L := by rw [← hM]; exact names_sortP Hok.out
  obtain ⟨va, vc, rfl, hva, -, -, -⟩ := PtsIn.of_own hrow3 hMl
  have HVA := Lib.hid hva
  have HMl := Lib.hid hMl
  have HMn := Lib.hid hMn
  have F3 := Lib.hid (f1.out.trans hf3)
  clear HS hrow3 hf3 hM hMl hMn hva b2
  go_wp2_with fail
  go_loopw [3, 5] (fun out i wr => ∃ k : Nat, k ≤ n ∧ i = .int .i64 k ∧ Hid (wr.ownsRow w3.heap.size 9 1 out k (((M.take k).map (·.name)).map strV)) ∧ Hid (Fr0 none' w3 wr)) (fun _ i _ => n - (Go.RowKit.intOf i).toNat)
  case atStart => exact ⟨0, Nat.zero_le _, rfl, World.ownsRow_nil _ _ _ _, Fr0.refl _ _⟩
  case round =>
    obtain ⟨k, hk, rfl, hrow, hfr⟩ := hrel
    by_cases hlt : k < n
    · obtain ⟨x, hx⟩ : ∃ x, M[k]? = some x := ⟨_, List.getElem?_eq_getElem (by rw [HMl.out]; exact hlt)⟩
      obtain ⟨g, o, rfl, hpc⟩ := HVA.out k x hx
      obtain ⟨d0, d1, d2⟩ := hpc.later hfr.out
      have Hsn := Lib.hid (show ((M.take (k + 1)).map (·.name)).map strV = ((M.take k).map (·.name)).map strV ++ [.string (bs x.name)] from by rw [List.take_add_one, hx]; simp [strV])
      obtain ⟨xa, xb, xc⟩ := x
      simp only at d0 d1 d2
      have k1 : (0 : Int) ≤ (k : Int) := by omega
      have k2 : (k : Int) < (n : Int) := by omega
      have hown0 := hrow.out
      have hsz := hfr.out.size
      have hsrc := Src.newRow (P := Tryz.prog) (size := 1) (tx := 36) (ty := 9) wr Tryz.underlying36 1 1 [.string (bs xb)] rfl (by simp [Value.oneCell'])
      clear hx hpc hrow
      go_wp2_with (at_builtin; refine wpList_append_k rfl _ _ 36 36 rfl w3.heap.size 9 i0 (.string ⟨#[]⟩) 1 16 Tryz.underlying36 hi hz0 hz1 hz2 rfl (by decide) _ k _ rfl (hown0.alloc _) (.slice (some ⟨wr.heap.size, 0, none⟩) 1 1) 1 _ rfl hsrc (by unfold maxLen; omega) (by omega) (by simp; omega) ?_; intro v' w9 hown' hgrow hdr hob)
      have hown9 := Lib.hid (show w9.ownsRow w3.heap.size 9 1 v' (k + 1) (((M.take (k + 1)).map (·.name)).map strV) from by rw [Hsn.out]; exact hown')
      have hf9 := Lib.hid (show Fr0 none' w3 w9 from (hfr.out.alloc _).grown hgrow (fun k hk hkl => by have := (hown0.lt k hk).1; omega))
      go_roundw
      case rel => exact ⟨k + 1, by omega, by go_num, hown9, hf9⟩
      case measure => simp [Go.RowKit.intOf]; omega
    · have hkn : k = n := by omega
      subst hkn
      rw [List.take_of_length_le (by rw [HMl.out]; exact Nat.le_refl _), HMn.out] at hrow
      go_wp2
      go_ret
      exact ⟨_, rfl, ownsRow_k_mono hrow.out F3.out.size, F3.out.trans hfr.out⟩
end Go.Proofs.YtieeloealklkgaaGreatDoor

/-
  What a space tells, and the reference of it: Tells.
-/
namespace Go.Proofs.YtieeloealklkgaaGreatDoor
open Go.RowKit Go.Maps
attribute [local go_sem ↓] Go.wp_at_zero Go.wp_at_succ
attribute [local go_sem high] run_eql_pt run_neq_pt run_neq_rpt

/-- A row of ports of the call's own: it may be written. -/
def Live (B0 : Nat) (w : World) (v : Value) (n : Nat) : Prop := (v = .slice none 0 0 ∧ n = 0) ∨ ∃ g cap cur, v = .slice (some ⟨g, 0, none⟩) n cap ∧ B0 ≤ g ∧ w.heap[g]? = some (.cells cur 43 (0, 0)) ∧ n * 3 ≤ cur.size
theorem Live.of {w0 w : World} {v : Value} {L : List Pt} (h : PortsAt w v L) (hb : ∀ g, v.ownBlock = some g → w0.heap.size ≤ g) : Live w0.heap.size w v L.length := by
  rcases h.2 with ⟨rfl, h0⟩ | ⟨g, cap, cur, rfl, _, hg, hn, _, hs, _⟩
  · exact .inl ⟨rfl, h0⟩
  · exact .inr ⟨g, cap, cur, rfl, hb g rfl, hg, by rw [hs]; omega⟩
theorem Live.later {B0 : Nat} {w w' : World} {v : Value} {n : Nat} (h : Live B0 w v n) (hf : Fr0 none' w w') : Live B0 w' v n := by
  rcases h with h | ⟨g, cap, cur, rfl, hb, hg, hs⟩
  · exact .inl h
  · exact .inr ⟨g, cap, cur, rfl, hb, (hf.block g (Array.getElem?_eq_some_iff.1 hg).1 id).trans hg, hs⟩
theorem Live.mono {B0 B1 : Nat} {w : World} {v : Value} {n : Nat} (h : Live B0 w v n) (hb : B1 ≤ B0) : Live B1 w v n := by
  rcases h with h | ⟨g, cap, cur, rfl, hb', hg, hs⟩
  · exact .inl h
  · exact .inr ⟨g, cap, cur, rfl, by omega, hg, hs⟩
theorem set_block {w : World} {g j b : Nat} {u : Value} {cs : Array Value} {t : TypeId} (h : w.heap[b]? = some (.cells cs t (0, 0))) : ∃ cs', (w.setCell ⟨g, j, none⟩ u).heap[b]? = some (.cells cs' t (0, 0)) ∧ cs'.size = cs.size := by
  by_cases hb : g = b
  · subst hb
    exact ⟨cs.setIfInBounds j u, by simp [World.setCell, Array.getElem?_modify, h], by simp⟩
  · exact ⟨cs, by simp [World.setCell, Array.getElem?_modify, h, hb], rfl⟩
theorem Live.set {B0 : Nat} {w : World} {v : Value} {n : Nat} (h : Live B0 w v n) (g j : Nat) (u : Value) : Live B0 (w.setCell ⟨g, j, none⟩ u) v n := by
  rcases h with h | ⟨g', cap, cur, rfl, hb, hg, hs⟩
  · exact .inl h
  · obtain ⟨cs', h1, h2⟩ := set_block (g := g) (j := j) (u := u) hg
    exact .inr ⟨g', cap, cs', rfl, hb, h1, by rw [h2]; exact hs⟩
/-- Three rows of the call's own, the row of them, and the names. -/
structure Rows3 (w wr : World) (v1 : Value) (n1 : Nat) (v2 : Value) (n2 : Nat) (v3 : Value) (n3 : Nat) (lb : Nat) (o : Obj) (bl : Nat) (q : Obj) (nv : Value) (n : Nat) (xs : List Value) : Prop where
  fr : Fr0 none' w wr
  l1 : Live w.heap.size wr v1 n1
  l2 : Live w.heap.size wr v2 n2
  l3 : Live w.heap.size wr v3 n3
  ob : wr.heap[lb]? = some o
  oc : ∃ cs, o = .cells cs 34 (0, 0)
  bb : wr.heap[bl]? = some q
  bc : ∃ cs, q = .cells cs 65 (0, 0)
  nm : wr.ownsRow w.heap.size 9 1 nv n xs
theorem Rows3.set {w wr : World} {v1 v2 v3 nv : Value} {n1 n2 n3 n lb bl : Nat} {o q : Obj} {xs : List Value} (h : Rows3 w wr v1 n1 v2 n2 v3 n3 lb o bl q nv n xs) {g : Nat} {cur : Array Value} (hg : wr.heap[g]? = some (.cells cur 43 (0, 0))) (hb : w.heap.size ≤ g) (j : Nat) (u : Value) : Rows3 w (wr.setCell ⟨g, j, none⟩ u) v1 n1 v2 n2 v3 n3 lb o bl q nv n xs := by
  have hf : Fr0 (fun k => k = g) wr (wr.setCell ⟨g, j, none⟩ u) := (Fr0.refl (fun k => k = g) wr).setCell (fun _ => rfl) u
  refine ⟨h.fr.trans' hf (fun k hk e => by omega), h.l1.set _ _ _, h.l2.set _ _ _, h.l3.set _ _ _, ?_, h.oc, ?_, h.bc, ownsRow_fr0 h.nm hf (fun k hk e => ?_)⟩
  · obtain ⟨cs, rfl⟩ := h.oc
    refine (hf.block lb (Array.getElem?_eq_some_iff.1 h.ob).1 (fun e => ?_)).trans h.ob
    subst e
    rw [h.ob] at hg
    injection hg with hg
    injection hg with _ hg
    revert hg; decide
  · obtain ⟨cs, rfl⟩ := h.bc
    refine (hf.block bl (Array.getElem?_eq_some_iff.1 h.bb).1 (fun e => ?_)).trans h.bb
    subst e
    rw [h.bb] at hg
    injection hg with hg
    injection hg with _ hg
    revert hg; decide
  · subst e
    rcases h.nm.2 with ⟨h1, _⟩ | ⟨g', cap, cur', h1, _, hg', _⟩
    · rw [h1] at hk; cases hk
    · rw [h1] at hk
      simp only [Value.ownBlock, Option.some.injEq] at hk
      subst hk
      rw [hg'] at hg
      injection hg with hg
      injection hg with _ hg
      revert hg; decide
theorem Rows3.set3 {w wr : World} {v1 v2 v3 nv : Value} {n1 n2 n3 n lb bl : Nat} {o q : Obj} {xs : List Value} (h : Rows3 w wr v1 n1 v2 n2 v3 n3 lb o bl q nv n xs) {g : Nat} {cur : Array Value} (hg : wr.heap[g]? = some (.cells cur 43 (0, 0))) (hb : w.heap.size ≤ g) (j1 j2 j3 : Nat) (u1 u2 u3 : Value) : Rows3 w (((wr.setCell ⟨g, j1, none⟩ u1).setCell ⟨g, j2, none⟩ u2).setCell ⟨g, j3, none⟩ u3) v1 n1 v2 n2 v3 n3 lb o bl q nv n xs := by
  have h1 := h.set hg hb j1 u1
  obtain ⟨c1, hg1, _⟩ := set_block (g := g) (j := j1) (u := u1) hg
  have h2 := h1.set hg1 hb j2 u2
  obtain ⟨c2, hg2, _⟩ := set_block (g := g) (j := j2) (u := u2) hg1
  exact h2.set hg2 hb j3 u3
/-- A space that is there, seen as a law's own: from a world without blocks. -/
def World.bare (w : World) : World := { w with heap := #[] }
theorem SpSt.bare {w : World} {sb mb : Nat} {nv : Value} {lim nx : Int} {L : List Pt} (h : SpaceIs w sb mb nv lim nx L) : SpSt (World.bare w) w sb mb nv lim nx L [] :=
  ⟨h, ⟨rfl, rfl, rfl, Nat.zero_le _, fun k hk => by simp [World.bare] at hk⟩, fun k _ => Nat.zero_le _, fun x hx => by cases hx⟩

theorem under_post {w : World} {sb mb : Nat} {nv : Value} {lim nx : Int} {L : List Pt} (h : SpaceIs w sb mb nv lim nx L) (s : Bs) (hsl : s.length ≤ 1000) : Calls Tryz.prog 15 #[.pointer (some ⟨sb, 0, none⟩), .string (bs s)] w (UnderPost (underR L s) (underE s) w) := by
  unfold underE underR
  cases hs : rightB s
  · exact Under_no h s hs hsl
  · exact Under_ok h s hs
theorem underR_len {lim nx : Int} {L : List Pt} (h : SpOK lim nx L) (s : Bs) : (underR L s).length ≤ L.length := by
  unfold underR
  split
  · rw [← under_sortP h s, sortP_len]; exact List.length_filter_le _ _
  · simp
set_option maxRecDepth 100000 in
set_option maxHeartbeats 16000000 in
theorem Tells_any {w : World} {sb mb : Nat} {nv : Value} {lim nx : Int} {L : List Pt} (hS : SpaceIs w sb mb nv lim nx L) (a : Option Addr) (n cap : Nat) (hn : L.length = n) (hcap : n ≤ cap) (hcm : cap ≤ maxLen) (hP : PtsIn w a L) (s : Bs) (hs : s.length ≤ 60) (m p : Int)
    (hm : -9223372036854775808 ≤ m ∧ m ≤ 9223372036854775807) :
    Calls Tryz.prog 31 #[.pointer (some ⟨sb, 0, none⟩), .agg #[.int .i64 lim, .int .i64 nx, .slice a n cap], .string (bs s), .int .i64 m, .int .i64 p] w fun e w' => e = .returned (.bool true) ∧ Fr0 none' w w' := by
  have hn64 : n ≤ 64 := by rw [← hn]; exact hS.ok.small
  have S := Lib.hid (SpSt.bare hS)
  have Hn := Lib.hid hn
  have HP := Lib.hid hP
  clear hS hn hP
  go_enter Tryz.func31, Tryz.ntmps31
  go_wp2_with fail
  obtain ⟨W1, hW1⟩ : ∃ W, w.alloc (.cells #[.int .i64 lim, .int .i64 nx, .slice a n cap] 65) = W := ⟨_, rfl⟩
  obtain ⟨B, hB⟩ : ∃ X, w.heap.size = X := ⟨_, rfl⟩
  have hbb : W1.heap[B]? = some (.cells #[.int .i64 lim, .int .i64 nx, .slice a n cap] 65 (0, 0)) := by rw [← hW1, ← hB]; exact World.alloc_heap_new w _
  have b0 := cells_in hbb 0
  have b1 := cells_in hbb 1
  have b2 := cells_in hbb 2
  simp at b0 b1 b2
  have HB := Lib.hid (show W1.cell? ⟨B, 0, none⟩ = some (.int .i64 lim) ∧ W1.cell? ⟨B, 1, none⟩ = some (.int .i64 nx) ∧ W1.cell? ⟨B, 2, none⟩ = some (.slice a n cap) from ⟨b0, b1, b2⟩)
  have HH := Lib.hid hbb
  have S0 := S
  have HP0 := HP
  have F := Lib.hid (show Fr0 none' w W1 by rw [← hW1]; exact (Fr0.refl _ _).alloc _)
  have S := Lib.hid (S.out.later F.out)
  have HP := Lib.hid (HP.out.later F.out)
  rw [hW1, hB]
  clear hW1 hB hbb b0 b1 b2
  refine (All_is keysDoes sortedDoes S.out.is).mono ?_
  rintro e w2 ⟨v, rfl, hv, hf, hvb⟩
  have V1 := Lib.hid ((Live.of hv hvb).mono F.out.size)
  obtain ⟨a1, c1, rfl, hu, -, -, -⟩ := PtsIn.of_own hv rfl
  have HH := Lib.hid ((hf.block B (Array.getElem?_eq_some_iff.1 HH.out).1 id).trans HH.out)
  have S := Lib.hid (S.out.later hf)
  have HP := Lib.hid (HP.out.later hf)
  have HB := Lib.hid (show _ ∧ _ ∧ _ from ⟨hf.later HB.out.1, hf.later HB.out.2.1, hf.later HB.out.2.2⟩)
  have F := Lib.hid (F.out.trans hf)
  try (have U1 := Lib.hid (U1.out.later hf))
  try (have V1 := Lib.hid (V1.out.later hf))
  try (have U2 := Lib.hid (U2.out.later hf))
  try (have V2 := Lib.hid (V2.out.later hf))
  try (have U3 := Lib.hid (U3.out.later hf))
  try (have V3 := Lib.hid (V3.out.later hf))
  try (have NM := Lib.hid (ownsRow_fr0 NM.out hf (fun _ _ h => h)))
  try (have U4 := Lib.hid (U4.out.later hf))
  try (have CP := Lib.hid (show _ ∧ _ ∧ _ from ⟨hf.later CP.out.1, hf.later CP.out.2.1, hf.later CP.out.2.2⟩))
  try (have CQ := Lib.hid (show _ ∧ _ ∧ _ from ⟨hf.later CQ.out.1, hf.later CQ.out.2.1, hf.later CQ.out.2.2⟩))
  try (have CU := Lib.hid (show _ ∧ _ ∧ _ from ⟨hf.later CU.out.1, hf.later CU.out.2.1, hf.later CU.out.2.2⟩))
  try (have CV := Lib.hid (show _ ∧ _ ∧ _ from ⟨hf.later CV.out.1, hf.later CV.out.2.1, hf.later CV.out.2.2⟩))
  have U1 := Lib.hid hu
  rw [Hn.out] at V1 ⊢
  clear hv hf hvb hu
  go_wp2_with fail
  refine (Of_is keysDoes sortedDoes S.out.is p).mono ?_
  rintro e w3 ⟨v, rfl, hv, hf, hvb⟩
  have V2 := Lib.hid ((Live.of hv hvb).mono F.out.size)
  obtain ⟨M2, hM2⟩ : ∃ M, L.filter (fun q => q.process == p) = M := ⟨_, rfl⟩
  have HM2 := Lib.hid hM2
  have hl2 : M2.length ≤ n := by rw [← hM2, ← Hn.out]; exact List.length_filter_le _ _
  rw [hM2] at V2 hv
  obtain ⟨a2, c2, rfl, hu, -, -, -⟩ := PtsIn.of_own hv rfl
  have HH := Lib.hid ((hf.block B (Array.getElem?_eq_some_iff.1 HH.out).1 id).trans HH.out)
  have S := Lib.hid (S.out.later hf)
  have HP := Lib.hid (HP.out.later hf)
  have HB := Lib.hid (show _ ∧ _ ∧ _ from ⟨hf.later HB.out.1, hf.later HB.out.2.1, hf.later HB.out.2.2⟩)
  have F := Lib.hid (F.out.trans hf)
  try (have U1 := Lib.hid (U1.out.later hf))
  try (have V1 := Lib.hid (V1.out.later hf))
  try (have U2 := Lib.hid (U2.out.later hf))
  try (have V2 := Lib.hid (V2.out.later hf))
  try (have U3 := Lib.hid (U3.out.later hf))
  try (have V3 := Lib.hid (V3.out.later hf))
  try (have NM := Lib.hid (ownsRow_fr0 NM.out hf (fun _ _ h => h)))
  try (have U4 := Lib.hid (U4.out.later hf))
  try (have CP := Lib.hid (show _ ∧ _ ∧ _ from ⟨hf.later CP.out.1, hf.later CP.out.2.1, hf.later CP.out.2.2⟩))
  try (have CQ := Lib.hid (show _ ∧ _ ∧ _ from ⟨hf.later CQ.out.1, hf.later CQ.out.2.1, hf.later CQ.out.2.2⟩))
  try (have CU := Lib.hid (show _ ∧ _ ∧ _ from ⟨hf.later CU.out.1, hf.later CU.out.2.1, hf.later CU.out.2.2⟩))
  try (have CV := Lib.hid (show _ ∧ _ ∧ _ from ⟨hf.later CV.out.1, hf.later CV.out.2.1, hf.later CV.out.2.2⟩))
  have U2 := Lib.hid hu
  obtain ⟨n2, hn2⟩ : ∃ n2, M2.length = n2 := ⟨_, rfl⟩
  rw [hn2] at V2 hl2 ⊢
  have Hn2 := Lib.hid hn2
  clear hv hf hvb hu hM2 hn2
  go_wp2_with fail
  refine (Names_is S.out.is).mono ?_
  rintro e w4 ⟨v, rfl, hrow, hf⟩
  have hnl := S.out.is.ok.names_length
  obtain ⟨na, nc, rfl, _, _, _, _, _, _⟩ := ownsRow_cells hrow
  have hnsz := F.out.size
  have NM0 := ownsRow_k_mono hrow hnsz
  have HH := Lib.hid ((hf.block B (Array.getElem?_eq_some_iff.1 HH.out).1 id).trans HH.out)
  have S := Lib.hid (S.out.later hf)
  have HP := Lib.hid (HP.out.later hf)
  have HB := Lib.hid (show _ ∧ _ ∧ _ from ⟨hf.later HB.out.1, hf.later HB.out.2.1, hf.later HB.out.2.2⟩)
  have F := Lib.hid (F.out.trans hf)
  try (have U1 := Lib.hid (U1.out.later hf))
  try (have V1 := Lib.hid (V1.out.later hf))
  try (have U2 := Lib.hid (U2.out.later hf))
  try (have V2 := Lib.hid (V2.out.later hf))
  try (have U3 := Lib.hid (U3.out.later hf))
  try (have V3 := Lib.hid (V3.out.later hf))
  try (have NM := Lib.hid (ownsRow_fr0 NM.out hf (fun _ _ h => h)))
  try (have U4 := Lib.hid (U4.out.later hf))
  try (have CP := Lib.hid (show _ ∧ _ ∧ _ from ⟨hf.later CP.out.1, hf.later CP.out.2.1, hf.later CP.out.2.2⟩))
  try (have CQ := Lib.hid (show _ ∧ _ ∧ _ from ⟨hf.later CQ.out.1, hf.later CQ.out.2.1, hf.later CQ.out.2.2⟩))
  try (have CU := Lib.hid (show _ ∧ _ ∧ _ from ⟨hf.later CU.out.1, hf.later CU.out.2.1, hf.later CU.out.2.2⟩))
  try (have CV := Lib.hid (show _ ∧ _ ∧ _ from ⟨hf.later CV.out.1, hf.later CV.out.2.1, hf.later CV.out.2.2⟩))
  rw [hnl, Hn.out] at NM0 ⊢
  have NM := Lib.hid NM0
  have HNl := Lib.hid (hnl.trans Hn.out)
  clear hrow hf hnl NM0 hnsz
  go_wp2_with fail
  have HC := get_st S.out m hm
  obtain ⟨⟨pa, pb, pc⟩, hz⟩ : ∃ q, getP L m = q := ⟨_, rfl⟩
  obtain ⟨E1, hE1⟩ : ∃ E, getE L m = E := ⟨_, rfl⟩
  rw [hz, hE1] at HC
  refine HC.mono ?_
  rintro e w5 ⟨rfl, hf⟩
  simp only [ptV]
  obtain ⟨W6, hW⟩ : ∃ W, w5.alloc (.cells #[.int .i64 pa, .string (bs pb), .int .i64 pc] 43) = W := ⟨_, rfl⟩
  obtain ⟨PB, hX⟩ : ∃ X, w5.heap.size = X := ⟨_, rfl⟩
  have hxx : W6.heap[PB]? = some (.cells #[.int .i64 pa, .string (bs pb), .int .i64 pc] 43 (0, 0)) := by rw [← hW, ← hX]; exact World.alloc_heap_new w5 _
  have h0 := cells_in hxx 0
  have h1 := cells_in hxx 1
  have h2 := cells_in hxx 2
  simp at h0 h1 h2
  have hf := hf.trans (show Fr0 none' w5 W6 by rw [← hW]; exact (Fr0.refl _ _).alloc _)
  have HH := Lib.hid ((hf.block B (Array.getElem?_eq_some_iff.1 HH.out).1 id).trans HH.out)
  have S := Lib.hid (S.out.later hf)
  have HP := Lib.hid (HP.out.later hf)
  have HB := Lib.hid (show _ ∧ _ ∧ _ from ⟨hf.later HB.out.1, hf.later HB.out.2.1, hf.later HB.out.2.2⟩)
  have F := Lib.hid (F.out.trans hf)
  try (have U1 := Lib.hid (U1.out.later hf))
  try (have V1 := Lib.hid (V1.out.later hf))
  try (have U2 := Lib.hid (U2.out.later hf))
  try (have V2 := Lib.hid (V2.out.later hf))
  try (have U3 := Lib.hid (U3.out.later hf))
  try (have V3 := Lib.hid (V3.out.later hf))
  try (have NM := Lib.hid (ownsRow_fr0 NM.out hf (fun _ _ h => h)))
  try (have U4 := Lib.hid (U4.out.later hf))
  try (have CP := Lib.hid (show _ ∧ _ ∧ _ from ⟨hf.later CP.out.1, hf.later CP.out.2.1, hf.later CP.out.2.2⟩))
  try (have CQ := Lib.hid (show _ ∧ _ ∧ _ from ⟨hf.later CQ.out.1, hf.later CQ.out.2.1, hf.later CQ.out.2.2⟩))
  try (have CU := Lib.hid (show _ ∧ _ ∧ _ from ⟨hf.later CU.out.1, hf.later CU.out.2.1, hf.later CU.out.2.2⟩))
  try (have CV := Lib.hid (show _ ∧ _ ∧ _ from ⟨hf.later CV.out.1, hf.later CV.out.2.1, hf.later CV.out.2.2⟩))
  have CP := Lib.hid (show W6.cell? ⟨PB, 0, none⟩ = some (.int .i64 pa) ∧ W6.cell? ⟨PB, 1, none⟩ = some (.string (bs pb)) ∧ W6.cell? ⟨PB, 2, none⟩ = some (.int .i64 pc) from ⟨h0, h1, h2⟩)
  clear hf hxx h0 h1 h2
  clear HC
  obtain ⟨b0, b1, b2⟩ := HB.out
  go_wp2_with fail
  clear hW hX
  have HC := rGet_any lim nx a n cap L m W6 Hn.out (by omega) (fun q hq => (S.out.is.ok.lo q hq).1) HP.out
  rw [hz, hE1] at HC
  refine HC.mono ?_
  rintro e w7 ⟨rfl, hf⟩
  simp only [ptV]
  obtain ⟨W8, hW⟩ : ∃ W, w7.alloc (.cells #[.int .i64 pa, .string (bs pb), .int .i64 pc] 68) = W := ⟨_, rfl⟩
  obtain ⟨QB, hX⟩ : ∃ X, w7.heap.size = X := ⟨_, rfl⟩
  have hxx : W8.heap[QB]? = some (.cells #[.int .i64 pa, .string (bs pb), .int .i64 pc] 68 (0, 0)) := by rw [← hW, ← hX]; exact World.alloc_heap_new w7 _
  have h0 := cells_in hxx 0
  have h1 := cells_in hxx 1
  have h2 := cells_in hxx 2
  simp at h0 h1 h2
  have hf := hf.trans (show Fr0 none' w7 W8 by rw [← hW]; exact (Fr0.refl _ _).alloc _)
  have HH := Lib.hid ((hf.block B (Array.getElem?_eq_some_iff.1 HH.out).1 id).trans HH.out)
  have S := Lib.hid (S.out.later hf)
  have HP := Lib.hid (HP.out.later hf)
  have HB := Lib.hid (show _ ∧ _ ∧ _ from ⟨hf.later HB.out.1, hf.later HB.out.2.1, hf.later HB.out.2.2⟩)
  have F := Lib.hid (F.out.trans hf)
  try (have U1 := Lib.hid (U1.out.later hf))
  try (have V1 := Lib.hid (V1.out.later hf))
  try (have U2 := Lib.hid (U2.out.later hf))
  try (have V2 := Lib.hid (V2.out.later hf))
  try (have U3 := Lib.hid (U3.out.later hf))
  try (have V3 := Lib.hid (V3.out.later hf))
  try (have NM := Lib.hid (ownsRow_fr0 NM.out hf (fun _ _ h => h)))
  try (have U4 := Lib.hid (U4.out.later hf))
  try (have CP := Lib.hid (show _ ∧ _ ∧ _ from ⟨hf.later CP.out.1, hf.later CP.out.2.1, hf.later CP.out.2.2⟩))
  try (have CQ := Lib.hid (show _ ∧ _ ∧ _ from ⟨hf.later CQ.out.1, hf.later CQ.out.2.1, hf.later CQ.out.2.2⟩))
  try (have CU := Lib.hid (show _ ∧ _ ∧ _ from ⟨hf.later CU.out.1, hf.later CU.out.2.1, hf.later CU.out.2.2⟩))
  try (have CV := Lib.hid (show _ ∧ _ ∧ _ from ⟨hf.later CV.out.1, hf.later CV.out.2.1, hf.later CV.out.2.2⟩))
  have CQ := Lib.hid (show W8.cell? ⟨QB, 0, none⟩ = some (.int .i64 pa) ∧ W8.cell? ⟨QB, 1, none⟩ = some (.string (bs pb)) ∧ W8.cell? ⟨QB, 2, none⟩ = some (.int .i64 pc) from ⟨h0, h1, h2⟩)
  clear hf hxx h0 h1 h2
  clear HC b0 b1 b2 hz hE1
  obtain ⟨b0, b1, b2⟩ := HB.out
  go_wp2_with fail
  clear hW hX
  have HC := find_st S.out s (by omega)
  obtain ⟨⟨ua, ub, uc⟩, hz⟩ : ∃ q, findP L s = q := ⟨_, rfl⟩
  obtain ⟨E2, hE2⟩ : ∃ E, findE L s = E := ⟨_, rfl⟩
  rw [hz, hE2] at HC
  refine HC.mono ?_
  rintro e w9 ⟨rfl, hf⟩
  simp only [ptV]
  obtain ⟨W10, hW⟩ : ∃ W, w9.alloc (.cells #[.int .i64 ua, .string (bs ub), .int .i64 uc] 43) = W := ⟨_, rfl⟩
  obtain ⟨UB, hX⟩ : ∃ X, w9.heap.size = X := ⟨_, rfl⟩
  have hxx : W10.heap[UB]? = some (.cells #[.int .i64 ua, .string (bs ub), .int .i64 uc] 43 (0, 0)) := by rw [← hW, ← hX]; exact World.alloc_heap_new w9 _
  have h0 := cells_in hxx 0
  have h1 := cells_in hxx 1
  have h2 := cells_in hxx 2
  simp at h0 h1 h2
  have hf := hf.trans (show Fr0 none' w9 W10 by rw [← hW]; exact (Fr0.refl _ _).alloc _)
  have HH := Lib.hid ((hf.block B (Array.getElem?_eq_some_iff.1 HH.out).1 id).trans HH.out)
  have S := Lib.hid (S.out.later hf)
  have HP := Lib.hid (HP.out.later hf)
  have HB := Lib.hid (show _ ∧ _ ∧ _ from ⟨hf.later HB.out.1, hf.later HB.out.2.1, hf.later HB.out.2.2⟩)
  have F := Lib.hid (F.out.trans hf)
  try (have U1 := Lib.hid (U1.out.later hf))
  try (have V1 := Lib.hid (V1.out.later hf))
  try (have U2 := Lib.hid (U2.out.later hf))
  try (have V2 := Lib.hid (V2.out.later hf))
  try (have U3 := Lib.hid (U3.out.later hf))
  try (have V3 := Lib.hid (V3.out.later hf))
  try (have NM := Lib.hid (ownsRow_fr0 NM.out hf (fun _ _ h => h)))
  try (have U4 := Lib.hid (U4.out.later hf))
  try (have CP := Lib.hid (show _ ∧ _ ∧ _ from ⟨hf.later CP.out.1, hf.later CP.out.2.1, hf.later CP.out.2.2⟩))
  try (have CQ := Lib.hid (show _ ∧ _ ∧ _ from ⟨hf.later CQ.out.1, hf.later CQ.out.2.1, hf.later CQ.out.2.2⟩))
  try (have CU := Lib.hid (show _ ∧ _ ∧ _ from ⟨hf.later CU.out.1, hf.later CU.out.2.1, hf.later CU.out.2.2⟩))
  try (have CV := Lib.hid (show _ ∧ _ ∧ _ from ⟨hf.later CV.out.1, hf.later CV.out.2.1, hf.later CV.out.2.2⟩))
  have CU := Lib.hid (show W10.cell? ⟨UB, 0, none⟩ = some (.int .i64 ua) ∧ W10.cell? ⟨UB, 1, none⟩ = some (.string (bs ub)) ∧ W10.cell? ⟨UB, 2, none⟩ = some (.int .i64 uc) from ⟨h0, h1, h2⟩)
  clear hf hxx h0 h1 h2
  clear HC b0 b1 b2
  obtain ⟨b0, b1, b2⟩ := HB.out
  go_wp2_with fail
  clear hW hX
  have HC := rFind_any lim nx a n cap L s W10 Hn.out (by omega) S.out.is.ok (by omega) HP.out
  rw [hz, hE2] at HC
  refine HC.mono ?_
  rintro e w11 ⟨rfl, hf⟩
  simp only [ptV]
  obtain ⟨W12, hW⟩ : ∃ W, w11.alloc (.cells #[.int .i64 ua, .string (bs ub), .int .i64 uc] 68) = W := ⟨_, rfl⟩
  obtain ⟨VB, hX⟩ : ∃ X, w11.heap.size = X := ⟨_, rfl⟩
  have hxx : W12.heap[VB]? = some (.cells #[.int .i64 ua, .string (bs ub), .int .i64 uc] 68 (0, 0)) := by rw [← hW, ← hX]; exact World.alloc_heap_new w11 _
  have h0 := cells_in hxx 0
  have h1 := cells_in hxx 1
  have h2 := cells_in hxx 2
  simp at h0 h1 h2
  have hf := hf.trans (show Fr0 none' w11 W12 by rw [← hW]; exact (Fr0.refl _ _).alloc _)
  have HH := Lib.hid ((hf.block B (Array.getElem?_eq_some_iff.1 HH.out).1 id).trans HH.out)
  have S := Lib.hid (S.out.later hf)
  have HP := Lib.hid (HP.out.later hf)
  have HB := Lib.hid (show _ ∧ _ ∧ _ from ⟨hf.later HB.out.1, hf.later HB.out.2.1, hf.later HB.out.2.2⟩)
  have F := Lib.hid (F.out.trans hf)
  try (have U1 := Lib.hid (U1.out.later hf))
  try (have V1 := Lib.hid (V1.out.later hf))
  try (have U2 := Lib.hid (U2.out.later hf))
  try (have V2 := Lib.hid (V2.out.later hf))
  try (have U3 := Lib.hid (U3.out.later hf))
  try (have V3 := Lib.hid (V3.out.later hf))
  try (have NM := Lib.hid (ownsRow_fr0 NM.out hf (fun _ _ h => h)))
  try (have U4 := Lib.hid (U4.out.later hf))
  try (have CP := Lib.hid (show _ ∧ _ ∧ _ from ⟨hf.later CP.out.1, hf.later CP.out.2.1, hf.later CP.out.2.2⟩))
  try (have CQ := Lib.hid (show _ ∧ _ ∧ _ from ⟨hf.later CQ.out.1, hf.later CQ.out.2.1, hf.later CQ.out.2.2⟩))
  try (have CU := Lib.hid (show _ ∧ _ ∧ _ from ⟨hf.later CU.out.1, hf.later CU.out.2.1, hf.later CU.out.2.2⟩))
  try (have CV := Lib.hid (show _ ∧ _ ∧ _ from ⟨hf.later CV.out.1, hf.later CV.out.2.1, hf.later CV.out.2.2⟩))
  have CV := Lib.hid (show W12.cell? ⟨VB, 0, none⟩ = some (.int .i64 ua) ∧ W12.cell? ⟨VB, 1, none⟩ = some (.string (bs ub)) ∧ W12.cell? ⟨VB, 2, none⟩ = some (.int .i64 uc) from ⟨h0, h1, h2⟩)
  clear hf hxx h0 h1 h2
  clear HC b0 b1 b2 hz hE2
  go_wp2_with fail
  clear hW hX
  have HC := under_post S.out.is s (by omega)
  obtain ⟨E3, hE3⟩ : ∃ E, underE s = E := ⟨_, rfl⟩
  obtain ⟨M3, hM3⟩ : ∃ M, underR L s = M := ⟨_, rfl⟩
  obtain ⟨n3, hn3⟩ : ∃ n3, M3.length = n3 := ⟨_, rfl⟩
  rw [hE3, hM3] at HC
  refine HC.mono ?_
  rintro e w13 ⟨v, rfl, hv, hf, hvb⟩
  have V3 := Lib.hid ((Live.of hv hvb).mono F.out.size)
  obtain ⟨a3, c3, rfl, hu, -, -, -⟩ := PtsIn.of_own hv rfl
  have HH := Lib.hid ((hf.block B (Array.getElem?_eq_some_iff.1 HH.out).1 id).trans HH.out)
  have S := Lib.hid (S.out.later hf)
  have HP := Lib.hid (HP.out.later hf)
  have HB := Lib.hid (show _ ∧ _ ∧ _ from ⟨hf.later HB.out.1, hf.later HB.out.2.1, hf.later HB.out.2.2⟩)
  have F := Lib.hid (F.out.trans hf)
  try (have U1 := Lib.hid (U1.out.later hf))
  try (have V1 := Lib.hid (V1.out.later hf))
  try (have U2 := Lib.hid (U2.out.later hf))
  try (have V2 := Lib.hid (V2.out.later hf))
  try (have U3 := Lib.hid (U3.out.later hf))
  try (have V3 := Lib.hid (V3.out.later hf))
  try (have NM := Lib.hid (ownsRow_fr0 NM.out hf (fun _ _ h => h)))
  try (have U4 := Lib.hid (U4.out.later hf))
  try (have CP := Lib.hid (show _ ∧ _ ∧ _ from ⟨hf.later CP.out.1, hf.later CP.out.2.1, hf.later CP.out.2.2⟩))
  try (have CQ := Lib.hid (show _ ∧ _ ∧ _ from ⟨hf.later CQ.out.1, hf.later CQ.out.2.1, hf.later CQ.out.2.2⟩))
  try (have CU := Lib.hid (show _ ∧ _ ∧ _ from ⟨hf.later CU.out.1, hf.later CU.out.2.1, hf.later CU.out.2.2⟩))
  try (have CV := Lib.hid (show _ ∧ _ ∧ _ from ⟨hf.later CV.out.1, hf.later CV.out.2.1, hf.later CV.out.2.2⟩))
  have U3 := Lib.hid hu
  rw [hn3] at V3 ⊢
  have Hn3 := Lib.hid hn3
  have hn3l : n3 ≤ n := by rw [← hn3, ← hM3, ← Hn.out]; exact underR_len S.out.is.ok s
  clear HC hv hf hvb hu
  obtain ⟨b0, b1, b2⟩ := HB.out
  go_wp2_with fail
  have HC := rUnder_any lim nx a n cap L s w13 Hn.out (by omega) (by omega) S.out.is.ok HP.out
  rw [hE3, hM3, hn3] at HC
  refine HC.mono ?_
  rintro e w14 ⟨v, rfl, hv, hf⟩
  obtain ⟨a4, c4, rfl, hu, -, -, -⟩ := PtsIn.of_own hv hn3
  have HH := Lib.hid ((hf.block B (Array.getElem?_eq_some_iff.1 HH.out).1 id).trans HH.out)
  have S := Lib.hid (S.out.later hf)
  have HP := Lib.hid (HP.out.later hf)
  have HB := Lib.hid (show _ ∧ _ ∧ _ from ⟨hf.later HB.out.1, hf.later HB.out.2.1, hf.later HB.out.2.2⟩)
  have F := Lib.hid (F.out.trans hf)
  try (have U1 := Lib.hid (U1.out.later hf))
  try (have V1 := Lib.hid (V1.out.later hf))
  try (have U2 := Lib.hid (U2.out.later hf))
  try (have V2 := Lib.hid (V2.out.later hf))
  try (have U3 := Lib.hid (U3.out.later hf))
  try (have V3 := Lib.hid (V3.out.later hf))
  try (have NM := Lib.hid (ownsRow_fr0 NM.out hf (fun _ _ h => h)))
  try (have U4 := Lib.hid (U4.out.later hf))
  try (have CP := Lib.hid (show _ ∧ _ ∧ _ from ⟨hf.later CP.out.1, hf.later CP.out.2.1, hf.later CP.out.2.2⟩))
  try (have CQ := Lib.hid (show _ ∧ _ ∧ _ from ⟨hf.later CQ.out.1, hf.later CQ.out.2.1, hf.later CQ.out.2.2⟩))
  try (have CU := Lib.hid (show _ ∧ _ ∧ _ from ⟨hf.later CU.out.1, hf.later CU.out.2.1, hf.later CU.out.2.2⟩))
  try (have CV := Lib.hid (show _ ∧ _ ∧ _ from ⟨hf.later CV.out.1, hf.later CV.out.2.1, hf.later CV.out.2.2⟩))
  have U4 := Lib.hid hu
  clear HC hv hf hu b0 b1 b2 hE3 hM3 hn3
  obtain ⟨b0, b1, b2⟩ := HB.out
  obtain ⟨p0, p1, p2⟩ := CP.out
  obtain ⟨q0, q1, q2⟩ := CQ.out
  obtain ⟨u0, u1, u2⟩ := CU.out
  obtain ⟨v0, v1, v2⟩ := CV.out
  go_wp2_with fail
  have HC := ports_any a1 a n n c1 cap L L w14 Hn.out Hn.out (by omega) (by omega) U1.out HP.out
  rw [decide_eq_true (rfl : L = L)] at HC
  refine HC.mono ?_
  rintro e wz ⟨rfl, hf⟩
  clear b0 b1 b2 p0 p1 p2 q0 q1 q2 u0 u1 u2 v0 v1 v2
  have HH := Lib.hid ((hf.block B (Array.getElem?_eq_some_iff.1 HH.out).1 id).trans HH.out)
  have S := Lib.hid (S.out.later hf)
  have HP := Lib.hid (HP.out.later hf)
  have HB := Lib.hid (show _ ∧ _ ∧ _ from ⟨hf.later HB.out.1, hf.later HB.out.2.1, hf.later HB.out.2.2⟩)
  have F := Lib.hid (F.out.trans hf)
  try (have U1 := Lib.hid (U1.out.later hf))
  try (have V1 := Lib.hid (V1.out.later hf))
  try (have U2 := Lib.hid (U2.out.later hf))
  try (have V2 := Lib.hid (V2.out.later hf))
  try (have U3 := Lib.hid (U3.out.later hf))
  try (have V3 := Lib.hid (V3.out.later hf))
  try (have NM := Lib.hid (ownsRow_fr0 NM.out hf (fun _ _ h => h)))
  try (have U4 := Lib.hid (U4.out.later hf))
  try (have CP := Lib.hid (show _ ∧ _ ∧ _ from ⟨hf.later CP.out.1, hf.later CP.out.2.1, hf.later CP.out.2.2⟩))
  try (have CQ := Lib.hid (show _ ∧ _ ∧ _ from ⟨hf.later CQ.out.1, hf.later CQ.out.2.1, hf.later CQ.out.2.2⟩))
  try (have CU := Lib.hid (show _ ∧ _ ∧ _ from ⟨hf.later CU.out.1, hf.later CU.out.2.1, hf.later CU.out.2.2⟩))
  try (have CV := Lib.hid (show _ ∧ _ ∧ _ from ⟨hf.later CV.out.1, hf.later CV.out.2.1, hf.later CV.out.2.2⟩))
  clear HC hf
  obtain ⟨b0, b1, b2⟩ := HB.out
  obtain ⟨p0, p1, p2⟩ := CP.out
  obtain ⟨q0, q1, q2⟩ := CQ.out
  obtain ⟨u0, u1, u2⟩ := CU.out
  obtain ⟨v0, v1, v2⟩ := CV.out
  go_wp2_with fail
  refine (rOf_any lim nx a n cap L p wz Hn.out (by omega) HP.out).mono ?_
  rintro e w15 ⟨v, rfl, hv, hf⟩
  rw [HM2.out] at hv
  obtain ⟨a5, c5, rfl, hu, -, -, -⟩ := PtsIn.of_own hv rfl
  rw [Hn2.out]
  clear b0 b1 b2 p0 p1 p2 q0 q1 q2 u0 u1 u2 v0 v1 v2
  have HH := Lib.hid ((hf.block B (Array.getElem?_eq_some_iff.1 HH.out).1 id).trans HH.out)
  have S := Lib.hid (S.out.later hf)
  have HP := Lib.hid (HP.out.later hf)
  have HB := Lib.hid (show _ ∧ _ ∧ _ from ⟨hf.later HB.out.1, hf.later HB.out.2.1, hf.later HB.out.2.2⟩)
  have F := Lib.hid (F.out.trans hf)
  try (have U1 := Lib.hid (U1.out.later hf))
  try (have V1 := Lib.hid (V1.out.later hf))
  try (have U2 := Lib.hid (U2.out.later hf))
  try (have V2 := Lib.hid (V2.out.later hf))
  try (have U3 := Lib.hid (U3.out.later hf))
  try (have V3 := Lib.hid (V3.out.later hf))
  try (have NM := Lib.hid (ownsRow_fr0 NM.out hf (fun _ _ h => h)))
  try (have U4 := Lib.hid (U4.out.later hf))
  try (have CP := Lib.hid (show _ ∧ _ ∧ _ from ⟨hf.later CP.out.1, hf.later CP.out.2.1, hf.later CP.out.2.2⟩))
  try (have CQ := Lib.hid (show _ ∧ _ ∧ _ from ⟨hf.later CQ.out.1, hf.later CQ.out.2.1, hf.later CQ.out.2.2⟩))
  try (have CU := Lib.hid (show _ ∧ _ ∧ _ from ⟨hf.later CU.out.1, hf.later CU.out.2.1, hf.later CU.out.2.2⟩))
  try (have CV := Lib.hid (show _ ∧ _ ∧ _ from ⟨hf.later CV.out.1, hf.later CV.out.2.1, hf.later CV.out.2.2⟩))
  have U5 := Lib.hid hu
  clear hv hf hu
  obtain ⟨b0, b1, b2⟩ := HB.out
  obtain ⟨p0, p1, p2⟩ := CP.out
  obtain ⟨q0, q1, q2⟩ := CQ.out
  obtain ⟨u0, u1, u2⟩ := CU.out
  obtain ⟨v0, v1, v2⟩ := CV.out
  go_wp2_with fail
  have HC := ports_any a2 a5 n2 n2 c2 c5 M2 M2 w15 Hn2.out Hn2.out (by omega) (by omega) U2.out U5.out
  rw [decide_eq_true (rfl : M2 = M2)] at HC
  refine HC.mono ?_
  rintro e wz ⟨rfl, hf⟩
  clear b0 b1 b2 p0 p1 p2 q0 q1 q2 u0 u1 u2 v0 v1 v2
  have HH := Lib.hid ((hf.block B (Array.getElem?_eq_some_iff.1 HH.out).1 id).trans HH.out)
  have S := Lib.hid (S.out.later hf)
  have HP := Lib.hid (HP.out.later hf)
  have HB := Lib.hid (show _ ∧ _ ∧ _ from ⟨hf.later HB.out.1, hf.later HB.out.2.1, hf.later HB.out.2.2⟩)
  have F := Lib.hid (F.out.trans hf)
  try (have U1 := Lib.hid (U1.out.later hf))
  try (have V1 := Lib.hid (V1.out.later hf))
  try (have U2 := Lib.hid (U2.out.later hf))
  try (have V2 := Lib.hid (V2.out.later hf))
  try (have U3 := Lib.hid (U3.out.later hf))
  try (have V3 := Lib.hid (V3.out.later hf))
  try (have NM := Lib.hid (ownsRow_fr0 NM.out hf (fun _ _ h => h)))
  try (have U4 := Lib.hid (U4.out.later hf))
  try (have CP := Lib.hid (show _ ∧ _ ∧ _ from ⟨hf.later CP.out.1, hf.later CP.out.2.1, hf.later CP.out.2.2⟩))
  try (have CQ := Lib.hid (show _ ∧ _ ∧ _ from ⟨hf.later CQ.out.1, hf.later CQ.out.2.1, hf.later CQ.out.2.2⟩))
  try (have CU := Lib.hid (show _ ∧ _ ∧ _ from ⟨hf.later CU.out.1, hf.later CU.out.2.1, hf.later CU.out.2.2⟩))
  try (have CV := Lib.hid (show _ ∧ _ ∧ _ from ⟨hf.later CV.out.1, hf.later CV.out.2.1, hf.later CV.out.2.2⟩))
  clear HC hf
  obtain ⟨b0, b1, b2⟩ := HB.out
  obtain ⟨p0, p1, p2⟩ := CP.out
  obtain ⟨q0, q1, q2⟩ := CQ.out
  obtain ⟨u0, u1, u2⟩ := CU.out
  obtain ⟨v0, v1, v2⟩ := CV.out
  go_wp2_with fail
  refine (rNames_any lim nx a n cap L wz Hn.out (by omega) S.out.is.ok HP.out).mono ?_
  rintro e w16 ⟨v, rfl, hrow, hf⟩
  obtain ⟨na5, nc5, rfl, _, _, _, hcc, _, _⟩ := ownsRow_cells hrow
  clear b0 b1 b2 p0 p1 p2 q0 q1 q2 u0 u1 u2 v0 v1 v2
  have HH := Lib.hid ((hf.block B (Array.getElem?_eq_some_iff.1 HH.out).1 id).trans HH.out)
  have S := Lib.hid (S.out.later hf)
  have HP := Lib.hid (HP.out.later hf)
  have HB := Lib.hid (show _ ∧ _ ∧ _ from ⟨hf.later HB.out.1, hf.later HB.out.2.1, hf.later HB.out.2.2⟩)
  have F := Lib.hid (F.out.trans hf)
  try (have U1 := Lib.hid (U1.out.later hf))
  try (have V1 := Lib.hid (V1.out.later hf))
  try (have U2 := Lib.hid (U2.out.later hf))
  try (have V2 := Lib.hid (V2.out.later hf))
  try (have U3 := Lib.hid (U3.out.later hf))
  try (have V3 := Lib.hid (V3.out.later hf))
  try (have NM := Lib.hid (ownsRow_fr0 NM.out hf (fun _ _ h => h)))
  try (have U4 := Lib.hid (U4.out.later hf))
  try (have CP := Lib.hid (show _ ∧ _ ∧ _ from ⟨hf.later CP.out.1, hf.later CP.out.2.1, hf.later CP.out.2.2⟩))
  try (have CQ := Lib.hid (show _ ∧ _ ∧ _ from ⟨hf.later CQ.out.1, hf.later CQ.out.2.1, hf.later CQ.out.2.2⟩))
  try (have CU := Lib.hid (show _ ∧ _ ∧ _ from ⟨hf.later CU.out.1, hf.later CU.out.2.1, hf.later CU.out.2.2⟩))
  try (have CV := Lib.hid (show _ ∧ _ ∧ _ from ⟨hf.later CV.out.1, hf.later CV.out.2.1, hf.later CV.out.2.2⟩))
  have hnm := (ownsRow_cells NM.out)
  obtain ⟨na', nc', e1, _, _, _, hcn, _, _⟩ := hnm
  injection e1 with e1 _ e3
  subst e1; subst e3
  have HC := SameTexts_any na na5 n n nc nc5 (namesP L) (namesP L) w16 HNl.out HNl.out (by omega) (by omega) hcn hcc
  rw [decide_eq_true (rfl : namesP L = namesP L)] at HC
  clear hrow hf hcc hcn
  obtain ⟨b0, b1, b2⟩ := HB.out
  obtain ⟨p0, p1, p2⟩ := CP.out
  obtain ⟨q0, q1, q2⟩ := CQ.out
  obtain ⟨u0, u1, u2⟩ := CU.out
  obtain ⟨v0, v1, v2⟩ := CV.out
  go_wp2_with fail
  refine HC.mono ?_
  rintro e wz ⟨rfl, hbe⟩
  have hf := below_to0 hbe
  clear b0 b1 b2 p0 p1 p2 q0 q1 q2 u0 u1 u2 v0 v1 v2
  have HH := Lib.hid ((hf.block B (Array.getElem?_eq_some_iff.1 HH.out).1 id).trans HH.out)
  have S := Lib.hid (S.out.later hf)
  have HP := Lib.hid (HP.out.later hf)
  have HB := Lib.hid (show _ ∧ _ ∧ _ from ⟨hf.later HB.out.1, hf.later HB.out.2.1, hf.later HB.out.2.2⟩)
  have F := Lib.hid (F.out.trans hf)
  try (have U1 := Lib.hid (U1.out.later hf))
  try (have V1 := Lib.hid (V1.out.later hf))
  try (have U2 := Lib.hid (U2.out.later hf))
  try (have V2 := Lib.hid (V2.out.later hf))
  try (have U3 := Lib.hid (U3.out.later hf))
  try (have V3 := Lib.hid (V3.out.later hf))
  try (have NM := Lib.hid (ownsRow_fr0 NM.out hf (fun _ _ h => h)))
  try (have U4 := Lib.hid (U4.out.later hf))
  try (have CP := Lib.hid (show _ ∧ _ ∧ _ from ⟨hf.later CP.out.1, hf.later CP.out.2.1, hf.later CP.out.2.2⟩))
  try (have CQ := Lib.hid (show _ ∧ _ ∧ _ from ⟨hf.later CQ.out.1, hf.later CQ.out.2.1, hf.later CQ.out.2.2⟩))
  try (have CU := Lib.hid (show _ ∧ _ ∧ _ from ⟨hf.later CU.out.1, hf.later CU.out.2.1, hf.later CU.out.2.2⟩))
  try (have CV := Lib.hid (show _ ∧ _ ∧ _ from ⟨hf.later CV.out.1, hf.later CV.out.2.1, hf.later CV.out.2.2⟩))
  clear HC hf hbe
  obtain ⟨b0, b1, b2⟩ := HB.out
  obtain ⟨p0, p1, p2⟩ := CP.out
  obtain ⟨q0, q1, q2⟩ := CQ.out
  obtain ⟨u0, u1, u2⟩ := CU.out
  obtain ⟨v0, v1, v2⟩ := CV.out
  have hsp : samePt ⟨pa, pb, pc⟩ ⟨pa, pb, pc⟩ = true := samePt_self _
  have hsu : samePt ⟨ua, ub, uc⟩ ⟨ua, ub, uc⟩ = true := samePt_self _
  go_wp2_with fail
  have HC := ports_any a3 a4 n3 n3 c3 c4 M3 M3 wz Hn3.out Hn3.out (by omega) (by omega) U3.out U4.out
  rw [decide_eq_true (rfl : M3 = M3)] at HC
  refine HC.mono ?_
  rintro e wz ⟨rfl, hf⟩
  clear b0 b1 b2 p0 p1 p2 q0 q1 q2 u0 u1 u2 v0 v1 v2
  have HH := Lib.hid ((hf.block B (Array.getElem?_eq_some_iff.1 HH.out).1 id).trans HH.out)
  have S := Lib.hid (S.out.later hf)
  have HP := Lib.hid (HP.out.later hf)
  have HB := Lib.hid (show _ ∧ _ ∧ _ from ⟨hf.later HB.out.1, hf.later HB.out.2.1, hf.later HB.out.2.2⟩)
  have F := Lib.hid (F.out.trans hf)
  try (have U1 := Lib.hid (U1.out.later hf))
  try (have V1 := Lib.hid (V1.out.later hf))
  try (have U2 := Lib.hid (U2.out.later hf))
  try (have V2 := Lib.hid (V2.out.later hf))
  try (have U3 := Lib.hid (U3.out.later hf))
  try (have V3 := Lib.hid (V3.out.later hf))
  try (have NM := Lib.hid (ownsRow_fr0 NM.out hf (fun _ _ h => h)))
  try (have U4 := Lib.hid (U4.out.later hf))
  try (have CP := Lib.hid (show _ ∧ _ ∧ _ from ⟨hf.later CP.out.1, hf.later CP.out.2.1, hf.later CP.out.2.2⟩))
  try (have CQ := Lib.hid (show _ ∧ _ ∧ _ from ⟨hf.later CQ.out.1, hf.later CQ.out.2.1, hf.later CQ.out.2.2⟩))
  try (have CU := Lib.hid (show _ ∧ _ ∧ _ from ⟨hf.later CU.out.1, hf.later CU.out.2.1, hf.later CU.out.2.2⟩))
  try (have CV := Lib.hid (show _ ∧ _ ∧ _ from ⟨hf.later CV.out.1, hf.later CV.out.2.1, hf.later CV.out.2.2⟩))
  clear HC hf
  obtain ⟨b0, b1, b2⟩ := HB.out
  obtain ⟨p0, p1, p2⟩ := CP.out
  obtain ⟨q0, q1, q2⟩ := CQ.out
  obtain ⟨u0, u1, u2⟩ := CU.out
  obtain ⟨v0, v1, v2⟩ := CV.out
  go_wp2_with fail
  obtain ⟨W2, hW2⟩ : ∃ W, wz.alloc (.cells #[.slice a1 n c1, .slice a2 n2 c2, .slice a3 n3 c3] 34) = W := ⟨_, rfl⟩
  obtain ⟨LB, hLB⟩ : ∃ X, wz.heap.size = X := ⟨_, rfl⟩
  have hlb : W2.heap[LB]? = some (.cells #[.slice a1 n c1, .slice a2 n2 c2, .slice a3 n3 c3] 34 (0, 0)) := by rw [← hW2, ← hLB]; exact World.alloc_heap_new wz _
  have hf := (show Fr0 none' wz W2 by rw [← hW2]; exact (Fr0.refl _ _).alloc _)
  clear b0 b1 b2 p0 p1 p2 q0 q1 q2 u0 u1 u2 v0 v1 v2
  have HH := Lib.hid ((hf.block B (Array.getElem?_eq_some_iff.1 HH.out).1 id).trans HH.out)
  have S := Lib.hid (S.out.later hf)
  have HP := Lib.hid (HP.out.later hf)
  have HB := Lib.hid (show _ ∧ _ ∧ _ from ⟨hf.later HB.out.1, hf.later HB.out.2.1, hf.later HB.out.2.2⟩)
  have F := Lib.hid (F.out.trans hf)
  try (have U1 := Lib.hid (U1.out.later hf))
  try (have V1 := Lib.hid (V1.out.later hf))
  try (have U2 := Lib.hid (U2.out.later hf))
  try (have V2 := Lib.hid (V2.out.later hf))
  try (have U3 := Lib.hid (U3.out.later hf))
  try (have V3 := Lib.hid (V3.out.later hf))
  try (have NM := Lib.hid (ownsRow_fr0 NM.out hf (fun _ _ h => h)))
  try (have U4 := Lib.hid (U4.out.later hf))
  try (have CP := Lib.hid (show _ ∧ _ ∧ _ from ⟨hf.later CP.out.1, hf.later CP.out.2.1, hf.later CP.out.2.2⟩))
  try (have CQ := Lib.hid (show _ ∧ _ ∧ _ from ⟨hf.later CQ.out.1, hf.later CQ.out.2.1, hf.later CQ.out.2.2⟩))
  try (have CU := Lib.hid (show _ ∧ _ ∧ _ from ⟨hf.later CU.out.1, hf.later CU.out.2.1, hf.later CU.out.2.2⟩))
  try (have CV := Lib.hid (show _ ∧ _ ∧ _ from ⟨hf.later CV.out.1, hf.later CV.out.2.1, hf.later CV.out.2.2⟩))
  have R := Lib.hid (show Rows3 w W2 (.slice a1 n c1) n (.slice a2 n2 c2) n2 (.slice a3 n3 c3) n3 LB (.cells #[.slice a1 n c1, .slice a2 n2 c2, .slice a3 n3 c3] 34 (0, 0)) B (.cells #[.int .i64 lim, .int .i64 nx, .slice a n cap] 65 (0, 0)) (.slice na n nc) n ((namesP L).map strV) from ⟨F.out, V1.out, V2.out, V3.out, hlb, ⟨_, rfl⟩, HH.out, ⟨_, rfl⟩, NM.out⟩)
  rw [hW2, hLB]
  clear hW2 hLB hlb hf U1 V1 U2 V2 U3 V3 U4 U5 CP CQ CU CV hsp hsu
  go_loopw [27, 28, 128] (fun lv iv jv wr => ∃ j : Nat, j ≤ 3 ∧ jv = .int .i64 j ∧ Hid (Rows3 w wr (.slice a1 n c1) n (.slice a2 n2 c2) n2 (.slice a3 n3 c3) n3 LB (.cells #[.slice a1 n c1, .slice a2 n2 c2, .slice a3 n3 c3] 34 (0, 0)) B (.cells #[.int .i64 lim, .int .i64 nx, .slice a n cap] 65 (0, 0)) (.slice na n nc) n ((namesP L).map strV))) (fun _ _ jv _ => 3 - (Go.RowKit.intOf jv).toNat)
  case atStart => exact ⟨0, Nat.zero_le _, rfl, R⟩
  case round =>
    clear R
    obtain ⟨j, hj, rfl, R⟩ := hrel
    have r0 := fun i => cells_in R.out.ob i
    have r0' := r0 0
    have r1' := r0 1
    have r2' := r0 2
    simp at r0' r1' r2'
    clear r0
    by_cases j0 : j = 0
    · subst j0
      have r0 := r0'
      clear r0' r1' r2'
      go_wp2_with fail
      go_loopw [28, 134] (fun iv kv wq => ∃ k : Nat, k ≤ n ∧ kv = .int .i64 k ∧ Hid (Rows3 w wq (.slice a1 n c1) n (.slice a2 n2 c2) n2 (.slice a3 n3 c3) n3 LB (.cells #[.slice a1 n c1, .slice a2 n2 c2, .slice a3 n3 c3] 34 (0, 0)) B (.cells #[.int .i64 lim, .int .i64 nx, .slice a n cap] 65 (0, 0)) (.slice na n nc) n ((namesP L).map strV))) (fun _ kv _ => n - (Go.RowKit.intOf kv).toNat)
      case atStart => exact ⟨0, Nat.zero_le _, rfl, R⟩
      case round =>
        clear R r0
        obtain ⟨k, hk, rfl, R⟩ := hrel
        by_cases hlt : k < n
        · have hl := R.out.l1
          rcases hl with ⟨h1, h2⟩ | ⟨g, cg, cur, h1, hb, hg, hcs⟩
          · omega
          · injection h1 with h1 h3 h4
            subst h1
            subst h4
            clear h3
            have k1 : (0 : Int) ≤ (k : Int) := by omega
            have k2 : (k : Int) < (n : Int) := by omega
            obtain ⟨e0, x0⟩ : ∃ e, wr.cell? ⟨g, k * 3, none⟩ = some e := ⟨_, by rw [cells_in hg]; exact Array.getElem?_eq_getElem (by omega)⟩
            obtain ⟨e1, x1⟩ : ∃ e, wr.cell? ⟨g, k * 3 + 1, none⟩ = some e := ⟨_, by rw [cells_in hg]; exact Array.getElem?_eq_getElem (by omega)⟩
            obtain ⟨e2, x2⟩ : ∃ e, wr.cell? ⟨g, k * 3 + 2, none⟩ = some e := ⟨_, by rw [cells_in hg]; exact Array.getElem?_eq_getElem (by omega)⟩
            have y0 := thaw_in hg (k * 3)
            have y1 := thaw_in hg (k * 3 + 1)
            have y2 := thaw_in hg (k * 3 + 2)
            have R3 := Lib.hid (R.out.set3 hg hb (k * 3) (k * 3 + 1) (k * 3 + 2) (.int .i64 (-7)) (.string ⟨#[]⟩) (.int .i64 0))
            clear hg hcs R
            go_wp2
            go_roundw
            case rel => exact ⟨k + 1, by omega, by go_num, R3⟩
            case measure => simp [Go.RowKit.intOf]; omega
        · have hkn : k = n := by omega
          clear hk hlt
          go_wp2
          go_roundw
          case rel => exact ⟨1, by omega, by go_num, R⟩
          case measure => simp [Go.RowKit.intOf]
    · by_cases j1 : j = 1
      · subst j1
        have r0 := r1'
        clear r0' r1' r2'
        go_wp2_with fail
        go_loopw [28, 134] (fun iv kv wq => ∃ k : Nat, k ≤ n2 ∧ kv = .int .i64 k ∧ Hid (Rows3 w wq (.slice a1 n c1) n (.slice a2 n2 c2) n2 (.slice a3 n3 c3) n3 LB (.cells #[.slice a1 n c1, .slice a2 n2 c2, .slice a3 n3 c3] 34 (0, 0)) B (.cells #[.int .i64 lim, .int .i64 nx, .slice a n cap] 65 (0, 0)) (.slice na n nc) n ((namesP L).map strV))) (fun _ kv _ => n2 - (Go.RowKit.intOf kv).toNat)
        case atStart => exact ⟨0, Nat.zero_le _, rfl, R⟩
        case round =>
          clear R r0
          obtain ⟨k, hk, rfl, R⟩ := hrel
          by_cases hlt : k < n2
          · have hl := R.out.l2
            rcases hl with ⟨h1, h2⟩ | ⟨g, cg, cur, h1, hb, hg, hcs⟩
            · omega
            · injection h1 with h1 h3 h4
              subst h1
              subst h4
              clear h3
              have k1 : (0 : Int) ≤ (k : Int) := by omega
              have k2 : (k : Int) < (n2 : Int) := by omega
              obtain ⟨e0, x0⟩ : ∃ e, wr.cell? ⟨g, k * 3, none⟩ = some e := ⟨_, by rw [cells_in hg]; exact Array.getElem?_eq_getElem (by omega)⟩
              obtain ⟨e1, x1⟩ : ∃ e, wr.cell? ⟨g, k * 3 + 1, none⟩ = some e := ⟨_, by rw [cells_in hg]; exact Array.getElem?_eq_getElem (by omega)⟩
              obtain ⟨e2, x2⟩ : ∃ e, wr.cell? ⟨g, k * 3 + 2, none⟩ = some e := ⟨_, by rw [cells_in hg]; exact Array.getElem?_eq_getElem (by omega)⟩
              have y0 := thaw_in hg (k * 3)
              have y1 := thaw_in hg (k * 3 + 1)
              have y2 := thaw_in hg (k * 3 + 2)
              have R3 := Lib.hid (R.out.set3 hg hb (k * 3) (k * 3 + 1) (k * 3 + 2) (.int .i64 (-7)) (.string ⟨#[]⟩) (.int .i64 0))
              clear hg hcs R
              go_wp2
              go_roundw
              case rel => exact ⟨k + 1, by omega, by go_num, R3⟩
              case measure => simp [Go.RowKit.intOf]; omega
          · have hkn : k = n2 := by omega
            clear hk hlt
            go_wp2
            go_roundw
            case rel => exact ⟨2, by omega, by go_num, R⟩
            case measure => simp [Go.RowKit.intOf]
      · by_cases j2 : j = 2
        · subst j2
          have r0 := r2'
          clear r0' r1' r2'
          go_wp2_with fail
          go_loopw [28, 134] (fun iv kv wq => ∃ k : Nat, k ≤ n3 ∧ kv = .int .i64 k ∧ Hid (Rows3 w wq (.slice a1 n c1) n (.slice a2 n2 c2) n2 (.slice a3 n3 c3) n3 LB (.cells #[.slice a1 n c1, .slice a2 n2 c2, .slice a3 n3 c3] 34 (0, 0)) B (.cells #[.int .i64 lim, .int .i64 nx, .slice a n cap] 65 (0, 0)) (.slice na n nc) n ((namesP L).map strV))) (fun _ kv _ => n3 - (Go.RowKit.intOf kv).toNat)
          case atStart => exact ⟨0, Nat.zero_le _, rfl, R⟩
          case round =>
            clear R r0
            obtain ⟨k, hk, rfl, R⟩ := hrel
            by_cases hlt : k < n3
            · have hl := R.out.l3
              rcases hl with ⟨h1, h2⟩ | ⟨g, cg, cur, h1, hb, hg, hcs⟩
              · omega
              · injection h1 with h1 h3 h4
                subst h1
                subst h4
                clear h3
                have k1 : (0 : Int) ≤ (k : Int) := by omega
                have k2 : (k : Int) < (n3 : Int) := by omega
                obtain ⟨e0, x0⟩ : ∃ e, wr.cell? ⟨g, k * 3, none⟩ = some e := ⟨_, by rw [cells_in hg]; exact Array.getElem?_eq_getElem (by omega)⟩
                obtain ⟨e1, x1⟩ : ∃ e, wr.cell? ⟨g, k * 3 + 1, none⟩ = some e := ⟨_, by rw [cells_in hg]; exact Array.getElem?_eq_getElem (by omega)⟩
                obtain ⟨e2, x2⟩ : ∃ e, wr.cell? ⟨g, k * 3 + 2, none⟩ = some e := ⟨_, by rw [cells_in hg]; exact Array.getElem?_eq_getElem (by omega)⟩
                have y0 := thaw_in hg (k * 3)
                have y1 := thaw_in hg (k * 3 + 1)
                have y2 := thaw_in hg (k * 3 + 2)
                have R3 := Lib.hid (R.out.set3 hg hb (k * 3) (k * 3 + 1) (k * 3 + 2) (.int .i64 (-7)) (.string ⟨#[]⟩) (.int .i64 0))
                clear hg hcs R
                go_wp2
                go_roundw
                case rel => exact ⟨k + 1, by omega, by go_num, R3⟩
                case measure => simp [Go.RowKit.intOf]; omega
            · have hkn : k = n3 := by omega
              clear hk hlt
              go_wp2
              go_roundw
              case rel => exact ⟨3, by omega, by go_num, R⟩
              case measure => simp [Go.RowKit.intOf]
        · obtain rfl : j = 3 := by omega
          clear r0' r1' r2' j0 j1 j2
          have hOv := Over_any (.slice na n nc) n w.heap.size ((namesP L).map strV) wr (by omega) R.out.nm R.out.fr.size
          go_wp2_with fail
          refine hOv.mono ?_
          rintro e w20 ⟨rfl, hgr⟩
          have hnl := R.out.nm.lt
          have F := Lib.hid (R.out.fr.grown hgr (fun k hk hkl => by have := (hnl k hk).1; omega))
          have S := Lib.hid (S0.out.later F.out)
          have HP := Lib.hid (HP0.out.later F.out)
          have hbB : w20.heap[B]? = some (.cells #[.int .i64 lim, .int .i64 nx, .slice a n cap] 65 (0, 0)) := by
            refine (hgr.block B (Array.getElem?_eq_some_iff.1 R.out.bb).1 (fun e => ?_)).trans R.out.bb
            rcases R.out.nm.2 with ⟨h1, _⟩ | ⟨g', cap', cur', h1, _, hg', _⟩
            · rw [h1] at e; cases e
            · rw [h1] at e
              simp only [Value.ownBlock, Option.some.injEq] at e
              subst e
              rw [R.out.bb] at hg'
              injection hg' with hg'
              injection hg' with _ hg'
              revert hg'; decide
          have HH := Lib.hid hbB
          have b0 := cells_in hbB 0
          have b1 := cells_in hbB 1
          have b2 := cells_in hbB 2
          simp at b0 b1 b2
          have HB := Lib.hid (show w20.cell? ⟨B, 0, none⟩ = some (.int .i64 lim) ∧ w20.cell? ⟨B, 1, none⟩ = some (.int .i64 nx) ∧ w20.cell? ⟨B, 2, none⟩ = some (.slice a n cap) from ⟨b0, b1, b2⟩)
          clear hOv hgr hnl hbB R NM
          go_wp2_with fail
          have Skey := Lib.hid (show ∀ W', Fr0 none' w20 W' → W'.cell? ⟨B, 0, none⟩ = some (.int .i64 lim) ∧ W'.cell? ⟨B, 1, none⟩ = some (.int .i64 nx) ∧ W'.cell? ⟨B, 2, none⟩ = some (.slice a n cap) from fun W' hf => ⟨hf.later b0, hf.later b1, hf.later b2⟩)
          have X := Lib.hid (Fr0.refl none' w20).drew
          clear b0 b1 b2
          refine wp_region_held_drew (S := fun W' => W'.cell? ⟨B, 0, none⟩ = some (.int .i64 lim) ∧ W'.cell? ⟨B, 1, none⟩ = some (.int .i64 nx) ∧ W'.cell? ⟨B, 2, none⟩ = some (.slice a n cap)) (by kernel_rfl) (Skey.out _ X.out) (fun hHeld => ?_)
          refine take_on (i := 0) (v := .pointer (some ⟨sb, 0, none⟩)) rfl (by kernel_rfl) (by kernel_rfl) (by kernel_rfl) (fun _ _ _ h => h) (by kernel_rfl) (fun W' hSW => ?_) (by assumption) ?_
          · (try dsimp only at hSW)
            first | (go_simp; done) | exact rfl | (go_simp; rfl) | (go_simp; omega)
          try simp only [Act.put, List.setIfInBounds_toArray, List.set_cons_zero, List.set_cons_succ]
          refine take_on (i := 2) (v := .pointer (some ⟨B, 2, none⟩)) rfl (by kernel_rfl) (by kernel_rfl) (by kernel_rfl) (fun _ _ _ h => h) (by kernel_rfl) (fun W' hSW => ?_) (by assumption) ?_
          · (try dsimp only at hSW)
            first | (go_simp; done) | exact rfl | (go_simp; rfl) | (go_simp; omega)
          try simp only [Act.put, List.setIfInBounds_toArray, List.set_cons_zero, List.set_cons_succ]
          refine take_on (i := 3) (v := .slice a n cap) rfl (by kernel_rfl) (by kernel_rfl) (by kernel_rfl) (fun _ _ _ h => h) (by kernel_rfl) (fun W' hSW => ?_) (by assumption) ?_
          · (try dsimp only at hSW)
            first | (go_simp; done) | exact rfl | (go_simp; rfl) | (go_simp; omega)
          try simp only [Act.put, List.setIfInBounds_toArray, List.set_cons_zero, List.set_cons_succ]
          refine take_call (i := 1) rfl (by kernel_rfl) (by kernel_rfl) (fun K hK => ?_)
          go_simp
          refine (All_is keysDoes sortedDoes (S.out.later X.out).is).mono ?_
          rintro e w21 ⟨v, rfl, hv, hf, -⟩
          obtain ⟨a6, c6, rfl, hu, -, -, -⟩ := PtsIn.of_own hv rfl
          rw [Hn.out]
          have X := Lib.hid (X.out.trans hf)
          have U6 := Lib.hid hu
          clear hv hf hu
          go_wp2_with fail
          refine hK.out _ _ (Skey.out _ X.out) (fun _ => ?_)
          clear hK K
          try simp only [Act.put, List.setIfInBounds_toArray, List.set_cons_zero, List.set_cons_succ]
          refine take_call (i := 4) rfl (by kernel_rfl) (by kernel_rfl) (fun K hK => ?_)
          go_simp
          have HC := ports_any a6 a n n c6 cap L L w21 Hn.out Hn.out (by omega) (by omega) U6.out (HP.out.later X.out)
          rw [decide_eq_true (rfl : L = L)] at HC
          refine HC.mono ?_
          rintro e w22 ⟨rfl, hf⟩
          have X := Lib.hid (X.out.trans hf)
          clear HC hf U6
          go_wp2_with fail
          refine hK.out _ _ (Skey.out _ X.out) (fun _ => ?_)
          clear hK K
          try simp only [Act.put, List.setIfInBounds_toArray, List.set_cons_zero, List.set_cons_succ]
          refine take_on (i := 5) (v := .bool true) rfl (by kernel_rfl) (by kernel_rfl) (by kernel_rfl) (fun _ _ _ h => h) (by kernel_rfl) (fun W' hSW => ?_) (by assumption) ?_
          · (try dsimp only at hSW)
            first | (go_simp; done) | exact rfl | (go_simp; rfl) | (go_simp; omega)
          try simp only [Act.put, List.setIfInBounds_toArray, List.set_cons_zero, List.set_cons_succ]
          refine take_on (i := 6) (v := .pointer (some ⟨sb, 0, none⟩)) rfl (by kernel_rfl) (by kernel_rfl) (by kernel_rfl) (fun _ _ _ h => h) (by kernel_rfl) (fun W' hSW => ?_) (by assumption) ?_
          · (try dsimp only at hSW)
            first | (go_simp; done) | exact rfl | (go_simp; rfl) | (go_simp; omega)
          try simp only [Act.put, List.setIfInBounds_toArray, List.set_cons_zero, List.set_cons_succ]
          refine take_on (i := 8) (v := .agg #[.int .i64 lim, .int .i64 nx, .slice a n cap]) rfl (by kernel_rfl) (by kernel_rfl) (by kernel_rfl) (fun _ _ _ h => h) (by kernel_rfl) (fun W' hSW => ?_) (by assumption) ?_
          · (try dsimp only at hSW)
            first | (go_simp; done) | exact rfl | (go_simp; rfl) | (go_simp; omega)
          try simp only [Act.put, List.setIfInBounds_toArray, List.set_cons_zero, List.set_cons_succ]
          refine take_call (i := 7) rfl (by kernel_rfl) (by kernel_rfl) (fun K hK => ?_)
          go_simp
          refine (Names_is (S.out.later X.out).is).mono ?_
          rintro e w23 ⟨v, rfl, hrow, hf⟩
          obtain ⟨nb, nbc, rfl, _, _, _, hcn, _, _⟩ := ownsRow_cells hrow
          rw [HNl.out]
          have X := Lib.hid (X.out.trans hf)
          have C1 := Lib.hid hcn
          clear hrow hf hcn
          go_wp2_with fail
          refine hK.out _ _ (Skey.out _ X.out) (fun _ => ?_)
          clear hK K
          try simp only [Act.put, List.setIfInBounds_toArray, List.set_cons_zero, List.set_cons_succ]
          refine take_call (i := 9) rfl (by kernel_rfl) (by kernel_rfl) (fun K hK => ?_)
          go_simp
          refine (rNames_any lim nx a n cap L w23 Hn.out (by omega) S.out.is.ok (HP.out.later X.out)).mono ?_
          rintro e w24 ⟨v, rfl, hrow, hf⟩
          obtain ⟨nd, ndc, rfl, _, _, _, hcn, _, _⟩ := ownsRow_cells hrow
          have X := Lib.hid (X.out.trans hf)
          have C1 := Lib.hid (C1.out.later hf)
          have C2 := Lib.hid hcn
          clear hrow hf hcn
          go_wp2_with fail
          refine hK.out _ _ (Skey.out _ X.out) (fun _ => ?_)
          clear hK K
          try simp only [Act.put, List.setIfInBounds_toArray, List.set_cons_zero, List.set_cons_succ]
          refine take_call (i := 10) rfl (by kernel_rfl) (by kernel_rfl) (fun K hK => ?_)
          go_simp
          have HC := SameTexts_any nb nd n n nbc ndc (namesP L) (namesP L) w24 HNl.out HNl.out (by omega) (by omega) C1.out C2.out
          rw [decide_eq_true (rfl : namesP L = namesP L)] at HC
          refine HC.mono ?_
          rintro e w25 ⟨rfl, hbe⟩
          have X := Lib.hid (X.out.trans (below_to0 hbe))
          clear HC hbe C1 C2
          go_wp2_with fail
          refine hK.out _ _ (Skey.out _ X.out) (fun _ => ?_)
          clear hK K
          try simp only [Act.put, List.setIfInBounds_toArray, List.set_cons_zero, List.set_cons_succ]
          refine take_on (i := 11) (v := .bool true) rfl (by kernel_rfl) (by kernel_rfl) (by kernel_rfl) (fun _ _ _ h => h) (by kernel_rfl) (fun W' hSW => ?_) (by assumption) ?_
          · (try dsimp only at hSW)
            first | (go_simp; done) | exact rfl | (go_simp; rfl) | (go_simp; omega)
          try simp only [Act.put, List.setIfInBounds_toArray, List.set_cons_zero, List.set_cons_succ]
          refine take_on (i := 12) (v := .bool true) rfl (by kernel_rfl) (by kernel_rfl) (by kernel_rfl) (fun _ _ _ h => h) (by kernel_rfl) (fun W' hSW => ?_) (by assumption) ?_
          · (try dsimp only at hSW)
            first | (go_simp; done) | exact rfl | (go_simp; rfl) | (go_simp; omega)
          try simp only [Act.put, List.setIfInBounds_toArray, List.set_cons_zero, List.set_cons_succ]
          refine take_on (i := 13) (v := .pointer (some ⟨sb, 0, none⟩)) rfl (by kernel_rfl) (by kernel_rfl) (by kernel_rfl) (fun _ _ _ h => h) (by kernel_rfl) (fun W' hSW => ?_) (by assumption) ?_
          · (try dsimp only at hSW)
            first | (go_simp; done) | exact rfl | (go_simp; rfl) | (go_simp; omega)
          try simp only [Act.put, List.setIfInBounds_toArray, List.set_cons_zero, List.set_cons_succ]
          refine take_on (i := 15) (v := .pointer (some ⟨B, 2, none⟩)) rfl (by kernel_rfl) (by kernel_rfl) (by kernel_rfl) (fun _ _ _ h => h) (by kernel_rfl) (fun W' hSW => ?_) (by assumption) ?_
          · (try dsimp only at hSW)
            first | (go_simp; done) | exact rfl | (go_simp; rfl) | (go_simp; omega)
          try simp only [Act.put, List.setIfInBounds_toArray, List.set_cons_zero, List.set_cons_succ]
          refine take_on (i := 16) (v := .slice a n cap) rfl (by kernel_rfl) (by kernel_rfl) (by kernel_rfl) (fun _ _ _ h => h) (by kernel_rfl) (fun W' hSW => ?_) (by assumption) ?_
          · (try dsimp only at hSW)
            first | (go_simp; done) | exact rfl | (go_simp; rfl) | (go_simp; omega)
          try simp only [Act.put, List.setIfInBounds_toArray, List.set_cons_zero, List.set_cons_succ]
          refine take_on (i := 17) (v := .int .i64 n) rfl (by kernel_rfl) (by kernel_rfl) (by kernel_rfl) (fun _ _ _ h => h) (by kernel_rfl) (fun W' hSW => ?_) (by assumption) ?_
          · (try dsimp only at hSW)
            first | (go_simp; done) | exact rfl | (go_simp; rfl) | (go_simp; omega)
          try simp only [Act.put, List.setIfInBounds_toArray, List.set_cons_zero, List.set_cons_succ]
          refine take_call (i := 14) rfl (by kernel_rfl) (by kernel_rfl) (fun K hK => ?_)
          go_simp
          have HC := SLen_is (S.out.later X.out).is
          rw [Hn.out] at HC
          refine HC.mono ?_
          rintro e w26 ⟨rfl, rfl⟩
          clear HC
          go_wp2_with fail
          refine hK.out _ _ (Skey.out _ X.out) (fun _ => ?_)
          clear hK K
          try simp only [Act.put, List.setIfInBounds_toArray, List.set_cons_zero, List.set_cons_succ]
          refine take_on (i := 18) (v := .bool true) rfl (by kernel_rfl) (by kernel_rfl) (by kernel_rfl) (fun _ _ _ h => h) (by kernel_rfl) (fun W' hSW => ?_) (by assumption) ?_
          · (try dsimp only at hSW)
            first | (go_simp; done) | exact rfl | (go_simp; rfl) | (go_simp; omega)
          try simp only [Act.put, List.setIfInBounds_toArray, List.set_cons_zero, List.set_cons_succ]
          refine take_on (i := 19) (v := .bool true) rfl (by kernel_rfl) (by kernel_rfl) (by kernel_rfl) (fun _ _ _ h => h) (by kernel_rfl) (fun W' hSW => ?_) (by assumption) ?_
          · (try dsimp only at hSW)
            first | (go_simp; done) | exact rfl | (go_simp; rfl) | (go_simp; omega)
          try simp only [Act.put, List.setIfInBounds_toArray, List.set_cons_zero, List.set_cons_succ]
          refine take_on (i := 20) (v := .bool true) rfl (by kernel_rfl) (by kernel_rfl) (by kernel_rfl) (fun _ _ _ h => h) (by kernel_rfl) (fun W' hSW => ?_) (by assumption) ?_
          · (try dsimp only at hSW)
            first | (go_simp; done) | exact rfl | (go_simp; rfl) | (go_simp; omega)
          try simp only [Act.put, List.setIfInBounds_toArray, List.set_cons_zero, List.set_cons_succ]
          refine take_on (i := 21) (v := .pointer (some ⟨sb, 0, none⟩)) rfl (by kernel_rfl) (by kernel_rfl) (by kernel_rfl) (fun _ _ _ h => h) (by kernel_rfl) (fun W' hSW => ?_) (by assumption) ?_
          · (try dsimp only at hSW)
            first | (go_simp; done) | exact rfl | (go_simp; rfl) | (go_simp; omega)
          try simp only [Act.put, List.setIfInBounds_toArray, List.set_cons_zero, List.set_cons_succ]
          refine take_on (i := 23) (v := .pointer (some ⟨B, 0, none⟩)) rfl (by kernel_rfl) (by kernel_rfl) (by kernel_rfl) (fun _ _ _ h => h) (by kernel_rfl) (fun W' hSW => ?_) (by assumption) ?_
          · (try dsimp only at hSW)
            first | (go_simp; done) | exact rfl | (go_simp; rfl) | (go_simp; omega)
          try simp only [Act.put, List.setIfInBounds_toArray, List.set_cons_zero, List.set_cons_succ]
          refine take_on (i := 24) (v := .int .i64 lim) rfl (by kernel_rfl) (by kernel_rfl) (by kernel_rfl) (fun _ _ _ h => h) (by kernel_rfl) (fun W' hSW => ?_) (by assumption) ?_
          · (try dsimp only at hSW)
            first | (go_simp; done) | exact rfl | (go_simp; rfl) | (go_simp; omega)
          try simp only [Act.put, List.setIfInBounds_toArray, List.set_cons_zero, List.set_cons_succ]
          refine take_call (i := 22) rfl (by kernel_rfl) (by kernel_rfl) (fun K hK => ?_)
          go_simp
          refine (SLimit_is (S.out.later X.out).is).mono ?_
          rintro e w27 ⟨rfl, rfl⟩
          go_wp2_with fail
          refine hK.out _ _ (Skey.out _ X.out) (fun _ => ?_)
          clear hK K
          try simp only [Act.put, List.setIfInBounds_toArray, List.set_cons_zero, List.set_cons_succ]
          refine take_on (i := 25) (v := .bool true) rfl (by kernel_rfl) (by kernel_rfl) (by kernel_rfl) (fun _ _ _ h => h) (by kernel_rfl) (fun W' hSW => ?_) (by assumption) ?_
          · (try dsimp only at hSW)
            first | (go_simp; done) | exact rfl | (go_simp; rfl) | (go_simp; omega)
          try simp only [Act.put, List.setIfInBounds_toArray, List.set_cons_zero, List.set_cons_succ]
          refine take_on (i := 26) (v := .bool true) rfl (by kernel_rfl) (by kernel_rfl) (by kernel_rfl) (fun _ _ _ h => h) (by kernel_rfl) (fun W' hSW => ?_) (by assumption) ?_
          · (try dsimp only at hSW)
            first | (go_simp; done) | exact rfl | (go_simp; rfl) | (go_simp; omega)
          try simp only [Act.put, List.setIfInBounds_toArray, List.set_cons_zero, List.set_cons_succ]
          refine take_on (i := 27) (v := .bool true) rfl (by kernel_rfl) (by kernel_rfl) (by kernel_rfl) (fun _ _ _ h => h) (by kernel_rfl) (fun W' hSW => ?_) (by assumption) ?_
          · (try dsimp only at hSW)
            first | (go_simp; done) | exact rfl | (go_simp; rfl) | (go_simp; omega)
          try simp only [Act.put, List.setIfInBounds_toArray, List.set_cons_zero, List.set_cons_succ]
          refine take_on (i := 28) (v := .pointer (some ⟨sb, 0, none⟩)) rfl (by kernel_rfl) (by kernel_rfl) (by kernel_rfl) (fun _ _ _ h => h) (by kernel_rfl) (fun W' hSW => ?_) (by assumption) ?_
          · (try dsimp only at hSW)
            first | (go_simp; done) | exact rfl | (go_simp; rfl) | (go_simp; omega)
          try simp only [Act.put, List.setIfInBounds_toArray, List.set_cons_zero, List.set_cons_succ]
          refine take_on (i := 30) (v := .pointer (some ⟨B, 1, none⟩)) rfl (by kernel_rfl) (by kernel_rfl) (by kernel_rfl) (fun _ _ _ h => h) (by kernel_rfl) (fun W' hSW => ?_) (by assumption) ?_
          · (try dsimp only at hSW)
            first | (go_simp; done) | exact rfl | (go_simp; rfl) | (go_simp; omega)
          try simp only [Act.put, List.setIfInBounds_toArray, List.set_cons_zero, List.set_cons_succ]
          refine take_on (i := 31) (v := .int .i64 nx) rfl (by kernel_rfl) (by kernel_rfl) (by kernel_rfl) (fun _ _ _ h => h) (by kernel_rfl) (fun W' hSW => ?_) (by assumption) ?_
          · (try dsimp only at hSW)
            first | (go_simp; done) | exact rfl | (go_simp; rfl) | (go_simp; omega)
          try simp only [Act.put, List.setIfInBounds_toArray, List.set_cons_zero, List.set_cons_succ]
          refine take_call (i := 29) rfl (by kernel_rfl) (by kernel_rfl) (fun K hK => ?_)
          go_simp
          refine (SNext_is (S.out.later X.out).is).mono ?_
          rintro e w28 ⟨rfl, rfl⟩
          go_wp2_with fail
          refine hK.out _ _ (Skey.out _ X.out) (fun _ => ?_)
          clear hK K
          try simp only [Act.put, List.setIfInBounds_toArray, List.set_cons_zero, List.set_cons_succ]
          refine take_on (i := 32) (v := .bool true) rfl (by kernel_rfl) (by kernel_rfl) (by kernel_rfl) (fun _ _ _ h => h) (by kernel_rfl) (fun W' hSW => ?_) (by assumption) ?_
          · (try dsimp only at hSW)
            first | (go_simp; done) | exact rfl | (go_simp; rfl) | (go_simp; omega)
          try simp only [Act.put, List.setIfInBounds_toArray, List.set_cons_zero, List.set_cons_succ]
          refine take_on (i := 33) (v := .bool true) rfl (by kernel_rfl) (by kernel_rfl) (by kernel_rfl) (fun _ _ _ h => h) (by kernel_rfl) (fun W' hSW => ?_) (by assumption) ?_
          · (try dsimp only at hSW)
            first | (go_simp; done) | exact rfl | (go_simp; rfl) | (go_simp; omega)
          try simp only [Act.put, List.setIfInBounds_toArray, List.set_cons_zero, List.set_cons_succ]
          refine take_on (i := 34) (v := .bool true) rfl (by kernel_rfl) (by kernel_rfl) (by kernel_rfl) (fun _ _ _ h => h) (by kernel_rfl) (fun W' hSW => ?_) (by assumption) ?_
          · (try dsimp only at hSW)
            first | (go_simp; done) | exact rfl | (go_simp; rfl) | (go_simp; omega)
          try simp only [Act.put, List.setIfInBounds_toArray, List.set_cons_zero, List.set_cons_succ]
          refine wpAnyH_done (by kernel_rfl) ?_ _
          clear hHeld
          go_wp2
          go_ret
          exact ⟨rfl, F.out.trans X.out⟩
end Go.Proofs.YtieeloealklkgaaGreatDoor

/-
  Copy.
-/
namespace Go.Proofs.YtieeloealklkgaaGreatDoor
open Go.RowKit Go.Maps
attribute [local go_sem ↓] Go.wp_at_zero Go.wp_at_succ
variable {w w' : World} {sb mb : Nat} {nv : Value} {lim nx : Int} {L : List Pt}

/-- What Copy returns. -/
def CopyPost (lim nx : Int) (L : List Pt) (w : World) (e : Ending) (w' : World) : Prop :=
  ∃ cb mb' nv', e = .returned (.pointer (some ⟨cb, 0, none⟩)) ∧ SpaceIs w' cb mb' nv' lim nx L ∧ Fr0 none' w w' ∧ ∀ k, sfoot cb mb' nv' k → w.heap.size ≤ k
set_option maxRecDepth 100000 in
set_option maxHeartbeats 4000000 in
theorem Copy_is (h : SpaceIs w sb mb nv lim nx L) : Calls Tryz.prog 20 #[.pointer (some ⟨sb, 0, none⟩)] w (CopyPost lim nx L w) := by
  have hsm := h.ok.small
  obtain ⟨a, cap, rfl, _, _, _, hc, _, _⟩ := ownsRow_cells h.nm
  have HCl := Lib.hid (show ∀ V, Fr0 none' w V → _ from fun V (hV : Fr0 none' w V) => Clone_any a L.length cap (namesP L) V h.ok.names_length (by omega) (hc.of_blocks (S := none') hV.block (fun _ _ _ _ => id)))
  have H := Lib.hid h
  have c0 := cells_in h.hd 0
  have c1 := cells_in h.hd 1
  have c2 := cells_in h.hd 2
  have c3 := cells_in h.hd 3
  have c4 := cells_in h.hd 4
  simp at c0 c1 c2 c3 c4
  obtain ⟨m, hm⟩ : ∃ m, L.length = m := ⟨_, rfl⟩
  have Hm := Lib.hid hm
  rw [hm] at c4 HCl
  have Skey := Lib.hid (show ∀ W', Fr0 none' w W' → W'.cell? ⟨sb, 3, none⟩ = some (.map (some mb)) ∧ W'.cell? ⟨sb, 4, none⟩ = some (.slice a m cap) from fun W' hf => ⟨hf.later c3, hf.later c4⟩)
  clear h hc hm
  go_enter Tryz.func20, Tryz.ntmps20
  go_wp2_with fail
  refine H.out.is.mono ?_
  rintro e w1 ⟨rfl, rfl⟩
  obtain ⟨W, hW⟩ : ∃ W, w.alloc (.cells #[.bool true, .int .i64 lim, .int .i64 nx, .map (some mb), .slice a m cap] 40) = W := ⟨_, rfl⟩
  obtain ⟨C, hC⟩ : ∃ C, w.heap.size = C := ⟨_, rfl⟩
  have fW : Fr0 none' w W := by rw [← hW]; exact (Fr0.refl _ _).alloc _
  have hx := World.alloc_heap_new w (.cells #[.bool true, .int .i64 lim, .int .i64 nx, .map (some mb), .slice a m cap] 40)
  rw [hW, hC] at hx
  have F := Lib.hid fW
  have HX := Lib.hid hx
  have HCn := Lib.hid hC
  clear fW hx
  go_wp2_with fail
  clear hW hC
  refine wp_region_held_drew (S := fun W' => W'.cell? ⟨sb, 3, none⟩ = some (.map (some mb)) ∧ W'.cell? ⟨sb, 4, none⟩ = some (.slice a m cap)) (by kernel_rfl) (Skey.out _ F.out.drew) (fun hHeld => ?_)
  refine take_on (i := 0) (v := .pointer (some ⟨sb, 0, none⟩)) rfl (by kernel_rfl) (by kernel_rfl) (by kernel_rfl) (fun _ _ _ h => h) (by kernel_rfl) (fun W' hSW => ?_) (by assumption) ?_
  · (try dsimp only at hSW)
    first | (go_simp; done) | exact rfl | (go_simp; rfl) | (go_simp; omega)
  try simp only [Act.put, List.setIfInBounds_toArray, List.set_cons_zero, List.set_cons_succ]
  refine take_on (i := 1) (v := .pointer (some ⟨sb, 0, none⟩)) rfl (by kernel_rfl) (by kernel_rfl) (by kernel_rfl) (fun _ _ _ h => h) (by kernel_rfl) (fun W' hSW => ?_) (by assumption) ?_
  · (try dsimp only at hSW)
    first | (go_simp; done) | exact rfl | (go_simp; rfl) | (go_simp; omega)
  try simp only [Act.put, List.setIfInBounds_toArray, List.set_cons_zero, List.set_cons_succ]
  refine take_on (i := 2) (v := .pointer (some ⟨sb, 3, none⟩)) rfl (by kernel_rfl) (by kernel_rfl) (by kernel_rfl) (fun _ _ _ h => h) (by kernel_rfl) (fun W' hSW => ?_) (by assumption) ?_
  · (try dsimp only at hSW)
    first | (go_simp; done) | exact rfl | (go_simp; rfl) | (go_simp; omega)
  try simp only [Act.put, List.setIfInBounds_toArray, List.set_cons_zero, List.set_cons_succ]
  refine take_on (i := 3) (v := .map (some mb)) rfl (by kernel_rfl) (by kernel_rfl) (by kernel_rfl) (fun _ _ _ h => h) (by kernel_rfl) (fun W' hSW => ?_) (by assumption) ?_
  · (try dsimp only at hSW)
    first | (go_simp; done) | exact rfl | (go_simp; rfl) | (go_simp; omega)
  try simp only [Act.put, List.setIfInBounds_toArray, List.set_cons_zero, List.set_cons_succ]
  refine take_on (i := 5) (v := .pointer (some ⟨sb, 0, none⟩)) rfl (by kernel_rfl) (by kernel_rfl) (by kernel_rfl) (fun _ _ _ h => h) (by kernel_rfl) (fun W' hSW => ?_) (by assumption) ?_
  · (try dsimp only at hSW)
    first | (go_simp; done) | exact rfl | (go_simp; rfl) | (go_simp; omega)
  try simp only [Act.put, List.setIfInBounds_toArray, List.set_cons_zero, List.set_cons_succ]
  refine take_on (i := 6) (v := .pointer (some ⟨sb, 0, none⟩)) rfl (by kernel_rfl) (by kernel_rfl) (by kernel_rfl) (fun _ _ _ h => h) (by kernel_rfl) (fun W' hSW => ?_) (by assumption) ?_
  · (try dsimp only at hSW)
    first | (go_simp; done) | exact rfl | (go_simp; rfl) | (go_simp; omega)
  try simp only [Act.put, List.setIfInBounds_toArray, List.set_cons_zero, List.set_cons_succ]
  refine take_on (i := 7) (v := .pointer (some ⟨sb, 4, none⟩)) rfl (by kernel_rfl) (by kernel_rfl) (by kernel_rfl) (fun _ _ _ h => h) (by kernel_rfl) (fun W' hSW => ?_) (by assumption) ?_
  · (try dsimp only at hSW)
    first | (go_simp; done) | exact rfl | (go_simp; rfl) | (go_simp; omega)
  try simp only [Act.put, List.setIfInBounds_toArray, List.set_cons_zero, List.set_cons_succ]
  refine take_on (i := 8) (v := .slice a m cap) rfl (by kernel_rfl) (by kernel_rfl) (by kernel_rfl) (fun _ _ _ h => h) (by kernel_rfl) (fun W' hSW => ?_) (by assumption) ?_
  · (try dsimp only at hSW)
    first | (go_simp; done) | exact rfl | (go_simp; rfl) | (go_simp; omega)
  try simp only [Act.put, List.setIfInBounds_toArray, List.set_cons_zero, List.set_cons_succ]
  clear c0 c1 c2 c3 c4
  refine take_call (i := 4) rfl (by kernel_rfl) (by kernel_rfl) (fun K hK => ?_)
  go_simp
  refine (AnyW.maps_Clone_owns Tryz.mapClone_f44 3 ptR mb L.length (datP L) W.drew (H.out.later F.out.drew).mp).mono ?_
  rintro e w2 ⟨rfl, hmp, _, hbe⟩
  have hz := hmp.lt
  have f2 := Lib.hid (F.out.drew.trans (below_to0 hbe))
  have HM := Lib.hid hmp
  have HX2 := Lib.hid ((hbe.block C (Array.getElem?_eq_some_iff.1 HX.out).1).trans HX.out)
  have hzC : C < W.drew.heap.size := (Array.getElem?_eq_some_iff.1 HX.out).1
  obtain ⟨M2, hM2⟩ : ∃ x, W.drew.heap.size = x := ⟨_, rfl⟩
  rw [hM2] at HM hz hzC ⊢
  clear hmp hbe hM2
  go_wp2_with fail
  refine hK.out _ _ (Skey.out _ f2.out) (fun _ => ?_)
  clear hK K
  try simp only [Act.put, List.setIfInBounds_toArray, List.set_cons_zero, List.set_cons_succ]
  refine take_call (i := 9) rfl (by kernel_rfl) (by kernel_rfl) (fun K hK => ?_)
  go_simp
  refine (HCl.out _ f2.out).mono ?_
  rintro e w3 ⟨v, rfl, hrow, _, hbe⟩
  have f3 := Lib.hid (f2.out.trans (below_to0 hbe))
  have HM3 := Lib.hid (ownsMap_fr0 HM.out (below_to0 hbe) id)
  have HX3 := Lib.hid (((below_to0 hbe).block C (Array.getElem?_eq_some_iff.1 HX2.out).1 id).trans HX2.out)
  have HR := Lib.hid (show w3.ownsRow 0 9 1 v m ((namesP L).map strV) ∧ ∀ g, v.ownBlock = some g → w2.heap.size ≤ g ∧ g < w3.heap.size from ⟨own_le hrow (Nat.zero_le _), fun g hg => hrow.lt g hg⟩)
  obtain ⟨va, vq, vc, rfl⟩ : ∃ va vq vc, v = .slice va vq vc := by
    obtain ⟨A, c, rfl, _⟩ := ownsRow_cells hrow
    exact ⟨A, _, c, rfl⟩
  clear hrow hbe
  go_wp2_with fail
  refine hK.out _ _ (Skey.out _ f3.out) (fun _ => ?_)
  clear hK K
  try simp only [Act.put, List.setIfInBounds_toArray, List.set_cons_zero, List.set_cons_succ]
  refine take_on (i := 10) (v := .pointer (some ⟨C, 3, none⟩)) rfl (by kernel_rfl) (by kernel_rfl) (by kernel_rfl) (fun _ _ _ h => h) (by kernel_rfl) (fun W' hSW => ?_) (by assumption) ?_
  · (try dsimp only at hSW)
    first | (go_simp; done) | exact rfl | (go_simp; rfl) | (go_simp; omega)
  try simp only [Act.put, List.setIfInBounds_toArray, List.set_cons_zero, List.set_cons_succ]
  have y3 := thaw_in HX3.out 3
  have y4 := thaw_in HX3.out 4
  have x3 := cells_in HX3.out 3
  have x4 := cells_in HX3.out 4
  simp at x3 x4
  refine take_call (i := 11) rfl (by kernel_rfl) (by kernel_rfl) (fun K hK => ?_)
  go_simp
  refine hK.out _ _ (Skey.out _ (f3.out.setCell (fun h => by have := HCn.out; omega) _)) (fun _ => ?_)
  clear hK K
  try simp only [Act.put, List.setIfInBounds_toArray, List.set_cons_zero, List.set_cons_succ]
  refine take_on (i := 12) (v := .pointer (some ⟨C, 4, none⟩)) rfl (by kernel_rfl) (by kernel_rfl) (by kernel_rfl) (fun _ _ _ h => h) (by kernel_rfl) (fun W' hSW => ?_) (by assumption) ?_
  · (try dsimp only at hSW)
    first | (go_simp; done) | exact rfl | (go_simp; rfl) | (go_simp; omega)
  try simp only [Act.put, List.setIfInBounds_toArray, List.set_cons_zero, List.set_cons_succ]
  refine take_call (i := 13) rfl (by kernel_rfl) (by kernel_rfl) (fun K hK => ?_)
  go_simp
  refine hK.out _ _ (Skey.out _ ((f3.out.setCell (fun h => by have := HCn.out; omega) _).setCell (fun h => by have := HCn.out; omega) _)) (fun _ => ?_)
  clear hK K
  try simp only [Act.put, List.setIfInBounds_toArray, List.set_cons_zero, List.set_cons_succ]
  refine wpAnyH_done (by kernel_rfl) ?_ _
  have hd1 : (w3.setCell ⟨C, 3, none⟩ (.map (some M2))).heap[C]? = some (.cells #[.bool true, .int .i64 lim, .int .i64 nx, .map (some M2), .slice a m cap] 40 (0, 0)) := by
    simp [World.setCell, Array.getElem?_modify, HX3.out]
  have hd2 : ((w3.setCell ⟨C, 3, none⟩ (.map (some M2))).setCell ⟨C, 4, none⟩ (.slice va vq vc)).heap[C]? = some (.cells #[.bool true, .int .i64 lim, .int .i64 nx, .map (some M2), .slice va vq vc] 40 (0, 0)) := (hd_turn hd1 (.int .i64 0) _).2
  obtain ⟨W5, hW5⟩ : ∃ x, (w3.setCell ⟨C, 3, none⟩ (.map (some M2))).setCell ⟨C, 4, none⟩ (.slice va vq vc) = x := ⟨_, rfl⟩
  have f5 : Fr0 (fun k => k = C) w3 W5 := by rw [← hW5]; exact ((Fr0.refl (fun k => k = C) w3).setCell (b := C) (o := 3) (fun _ => rfl) _).setCell (b := C) (o := 4) (fun _ => rfl) _
  have g5 : Fr0 none' w W5 := by rw [← hW5]; exact (f3.out.setCell (fun h => by have := HCn.out; omega) _).setCell (fun h => by have := HCn.out; omega) _
  rw [hW5] at hd2 ⊢
  have Hfin := Lib.hid (show CopyPost lim nx L w (.returned (.pointer (some ⟨C, 0, none⟩))) W5 from by
    have k1 := HCn.out
    refine ⟨C, M2, .slice va vq vc, rfl, ⟨hd2, ownsMap_fr0 HM3.out f5 (by omega), ?_, H.out.ok, by omega, fun g hg => ?_⟩, g5, fun k hk => ?_⟩
    · rw [Hm.out]; exact ownsRow_fr0 HR.out.1 f5 (fun g hg e => by have := HR.out.2 g hg; omega)
    · have := HR.out.2 g hg; omega
    · rcases hk with rfl | rfl | hk
      · omega
      · omega
      · have := HR.out.2 k hk; omega)
  clear hd1 hd2 f5 g5 hW5 x3 x4 y3 y4
  go_wp2
  go_ret
  exact Hfin.out
end Go.Proofs.YtieeloealklkgaaGreatDoor

/-
  A row of acts.
-/
namespace Go.Proofs.YtieeloealklkgaaGreatDoor
open Go.RowKit Go.Maps

/-- An act. -/
structure Act4 where
  kind : Int
  name : ByteArray
  num : Int
  proc : Int
structure Act4.ok (x : Act4) : Prop where
  kind : 0 ≤ x.kind ∧ x.kind < 256
  num : -9223372036854775808 ≤ x.num ∧ x.num ≤ 9223372036854775807
  proc : -9223372036854775808 ≤ x.proc ∧ x.proc ≤ 9223372036854775807
def ActsAt (w : World) (v : Value) (xs : List Act4) : Prop := ∃ A cap, v = .slice A xs.length cap ∧ ∀ i x, xs[i]? = some x → x.ok ∧ ∃ g o, A = some ⟨g, o, none⟩ ∧ w.cell? ⟨g, o + i * 4, none⟩ = some (.int .u8 x.kind) ∧ w.cell? ⟨g, o + i * 4 + 1, none⟩ = some (.string x.name) ∧ w.cell? ⟨g, o + i * 4 + 2, none⟩ = some (.int .i64 x.num) ∧ w.cell? ⟨g, o + i * 4 + 3, none⟩ = some (.int .i64 x.proc)
theorem ActsAt.later {w w' : World} {v : Value} {xs : List Act4} (h : ActsAt w v xs) (hf : Fr0 none' w w') : ActsAt w' v xs := by
  obtain ⟨A, cap, rfl, hc⟩ := h
  refine ⟨A, cap, rfl, fun i x hx => ?_⟩
  obtain ⟨h1, g, o, h2, h3, h4, h5, h6⟩ := hc i x hx
  exact ⟨h1, g, o, h2, hf.later h3, hf.later h4, hf.later h5, hf.later h6⟩

end Go.Proofs.YtieeloealklkgaaGreatDoor
