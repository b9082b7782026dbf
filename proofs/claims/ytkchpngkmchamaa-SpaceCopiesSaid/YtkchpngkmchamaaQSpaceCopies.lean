/- SpaceCopies: the statement: for any slice of small numbers and any numbers the law returns true, and the arguments read as before; no condition. -/
import Derived.Test.YtkchpngkmchamaaJb2
import Derived.Shelf.SlMaps.Clone
set_option linter.unusedSimpArgs false
set_option linter.unusedVariables false

/-
  Copy.
-/
namespace Go.Proofs.Ytkchpngkmchamaa
open Go.RowKit Go.Maps
attribute [local go_sem ↓] Go.wp_at_zero Go.wp_at_succ
variable {w w' : World} {sb mb : Nat} {nv : Value} {lim nx : Int} {L : List Pt}

/-- What Copy returns. -/
def CopyPost (lim nx : Int) (L : List Pt) (w : World) (e : Ending) (w' : World) : Prop :=
  ∃ cb mb' nv', e = .returned (.pointer (some ⟨cb, 0, none⟩)) ∧ SpaceIs w' cb mb' nv' lim nx L ∧ Fr0 none' w w' ∧ ∀ k, sfoot cb mb' nv' k → w.heap.size ≤ k
set_option maxRecDepth 100000 in
set_option maxHeartbeats 4000000 in
theorem Copy_is (h : SpaceIs w sb mb nv lim nx L) : Calls Try.prog 27 #[.pointer (some ⟨sb, 0, none⟩)] w (CopyPost lim nx L w) := by
  have hsm := h.ok.small
  obtain ⟨a, cap, rfl, _, _, _, hc, _, _⟩ := ownsRow_cells h.nm
  have HCl := Lib.hid (show ∀ V, Fr0 none' w V → _ from fun V (hV : Fr0 none' w V) => Clone_any a L.length cap (namesP L) V h.ok.names_length (by omega) (hc.of_blocks (S := none') hV.block (fun _ _ _ _ => id)))
  have H := Lib.hid h
  have c0 := cells_in h.hd 0
  have c1 := cells_in h.hd 1
  have c2 := cells_in h.hd 2
  have c3 := cells_in h.hd 3
  have c4 := cells_in h.hd 4
  simp at c0 c1 c2 c3 c4
  obtain ⟨m, hm⟩ : ∃ m, L.length = m := ⟨_, rfl⟩
  have Hm := Lib.hid hm
  rw [hm] at c4 HCl
  have Skey := Lib.hid (show ∀ W', Fr0 none' w W' → W'.cell? ⟨sb, 3, none⟩ = some (.map (some mb)) ∧ W'.cell? ⟨sb, 4, none⟩ = some (.slice a m cap) from fun W' hf => ⟨hf.later c3, hf.later c4⟩)
  clear h hc hm
  go_enter Try.func27, Try.ntmps27
  go_wp2_with fail
  refine H.out.is.mono ?_
  rintro e w1 ⟨rfl, rfl⟩
  obtain ⟨W, hW⟩ : ∃ W, w.alloc (.cells #[.bool true, .int .i64 lim, .int .i64 nx, .map (some mb), .slice a m cap] 73) = W := ⟨_, rfl⟩
  obtain ⟨C, hC⟩ : ∃ C, w.heap.size = C := ⟨_, rfl⟩
  have fW : Fr0 none' w W := by rw [← hW]; exact (Fr0.refl _ _).alloc _
  have hx := World.alloc_heap_new w (.cells #[.bool true, .int .i64 lim, .int .i64 nx, .map (some mb), .slice a m cap] 73)
  rw [hW, hC] at hx
  have F := Lib.hid fW
  have HX := Lib.hid hx
  have HCn := Lib.hid hC
  clear fW hx
  go_wp2_with fail
  clear hW hC
  refine wp_region_held_drew (S := fun W' => W'.cell? ⟨sb, 3, none⟩ = some (.map (some mb)) ∧ W'.cell? ⟨sb, 4, none⟩ = some (.slice a m cap)) (by kernel_rfl) (Skey.out _ F.out.drew) (fun hHeld => ?_)
  refine take_on (i := 0) (v := .pointer (some ⟨sb, 0, none⟩)) rfl (by kernel_rfl) (by kernel_rfl) (by kernel_rfl) (fun _ _ _ h => h) (by kernel_rfl) (fun W' hSW => ?_) (by assumption) ?_
  · (try dsimp only at hSW)
    first | (go_simp; done) | exact rfl | (go_simp; rfl) | (go_simp; omega)
  try simp only [Act.put, List.setIfInBounds_toArray, List.set_cons_zero, List.set_cons_succ]
  refine take_on (i := 1) (v := .pointer (some ⟨sb, 0, none⟩)) rfl (by kernel_rfl) (by kernel_rfl) (by kernel_rfl) (fun _ _ _ h => h) (by kernel_rfl) (fun W' hSW => ?_) (by assumption) ?_
  · (try dsimp only at hSW)
    first | (go_simp; done) | exact rfl | (go_simp; rfl) | (go_simp; omega)
  try simp only [Act.put, List.setIfInBounds_toArray, List.set_cons_zero, List.set_cons_succ]
  refine take_on (i := 2) (v := .pointer (some ⟨sb, 3, none⟩)) rfl (by kernel_rfl) (by kernel_rfl) (by kernel_rfl) (fun _ _ _ h => h) (by kernel_rfl) (fun W' hSW => ?_) (by assumption) ?_
  · (try dsimp only at hSW)
    first | (go_simp; done) | exact rfl | (go_simp; rfl) | (go_simp; omega)
  try simp only [Act.put, List.setIfInBounds_toArray, List.set_cons_zero, List.set_cons_succ]
  refine take_on (i := 3) (v := .map (some mb)) rfl (by kernel_rfl) (by kernel_rfl) (by kernel_rfl) (fun _ _ _ h => h) (by kernel_rfl) (fun W' hSW => ?_) (by assumption) ?_
  · (try dsimp only at hSW)
    first | (go_simp; done) | exact rfl | (go_simp; rfl) | (go_simp; omega)
  try simp only [Act.put, List.setIfInBounds_toArray, List.set_cons_zero, List.set_cons_succ]
  refine take_on (i := 5) (v := .pointer (some ⟨sb, 0, none⟩)) rfl (by kernel_rfl) (by kernel_rfl) (by kernel_rfl) (fun _ _ _ h => h) (by kernel_rfl) (fun W' hSW => ?_) (by assumption) ?_
  · (try dsimp only at hSW)
    first | (go_simp; done) | exact rfl | (go_simp; rfl) | (go_simp; omega)
  try simp only [Act.put, List.setIfInBounds_toArray, List.set_cons_zero, List.set_cons_succ]
  refine take_on (i := 6) (v := .pointer (some ⟨sb, 0, none⟩)) rfl (by kernel_rfl) (by kernel_rfl) (by kernel_rfl) (fun _ _ _ h => h) (by kernel_rfl) (fun W' hSW => ?_) (by assumption) ?_
  · (try dsimp only at hSW)
    first | (go_simp; done) | exact rfl | (go_simp; rfl) | (go_simp; omega)
  try simp only [Act.put, List.setIfInBounds_toArray, List.set_cons_zero, List.set_cons_succ]
  refine take_on (i := 7) (v := .pointer (some ⟨sb, 4, none⟩)) rfl (by kernel_rfl) (by kernel_rfl) (by kernel_rfl) (fun _ _ _ h => h) (by kernel_rfl) (fun W' hSW => ?_) (by assumption) ?_
  · (try dsimp only at hSW)
    first | (go_simp; done) | exact rfl | (go_simp; rfl) | (go_simp; omega)
  try simp only [Act.put, List.setIfInBounds_toArray, List.set_cons_zero, List.set_cons_succ]
  refine take_on (i := 8) (v := .slice a m cap) rfl (by kernel_rfl) (by kernel_rfl) (by kernel_rfl) (fun _ _ _ h => h) (by kernel_rfl) (fun W' hSW => ?_) (by assumption) ?_
  · (try dsimp only at hSW)
    first | (go_simp; done) | exact rfl | (go_simp; rfl) | (go_simp; omega)
  try simp only [Act.put, List.setIfInBounds_toArray, List.set_cons_zero, List.set_cons_succ]
  clear c0 c1 c2 c3 c4
  refine take_call (i := 4) rfl (by kernel_rfl) (by kernel_rfl) (fun K hK => ?_)
  go_simp
  refine (AnyW.maps_Clone_owns Try.mapClone_f48 3 ptR mb L.length (datP L) W.drew (H.out.later F.out.drew).mp).mono ?_
  rintro e w2 ⟨rfl, hmp, _, hbe⟩
  have hz := hmp.lt
  have f2 := Lib.hid (F.out.drew.trans (below_to0 hbe))
  have HM := Lib.hid hmp
  have HX2 := Lib.hid ((hbe.block C (Array.getElem?_eq_some_iff.1 HX.out).1).trans HX.out)
  have hzC : C < W.drew.heap.size := (Array.getElem?_eq_some_iff.1 HX.out).1
  obtain ⟨M2, hM2⟩ : ∃ x, W.drew.heap.size = x := ⟨_, rfl⟩
  rw [hM2] at HM hz hzC ⊢
  clear hmp hbe hM2
  go_wp2_with fail
  refine hK.out _ _ (Skey.out _ f2.out) (fun _ => ?_)
  clear hK K
  try simp only [Act.put, List.setIfInBounds_toArray, List.set_cons_zero, List.set_cons_succ]
  refine take_call (i := 9) rfl (by kernel_rfl) (by kernel_rfl) (fun K hK => ?_)
  go_simp
  refine (HCl.out _ f2.out).mono ?_
  rintro e w3 ⟨v, rfl, hrow, _, hbe⟩
  have f3 := Lib.hid (f2.out.trans (below_to0 hbe))
  have HM3 := Lib.hid (ownsMap_fr0 HM.out (below_to0 hbe) id)
  have HX3 := Lib.hid (((below_to0 hbe).block C (Array.getElem?_eq_some_iff.1 HX2.out).1 id).trans HX2.out)
  have HR := Lib.hid (show w3.ownsRow 0 9 1 v m ((namesP L).map strV) ∧ ∀ g, v.ownBlock = some g → w2.heap.size ≤ g ∧ g < w3.heap.size from ⟨own_le hrow (Nat.zero_le _), fun g hg => hrow.lt g hg⟩)
  obtain ⟨va, vq, vc, rfl⟩ : ∃ va vq vc, v = .slice va vq vc := by
    obtain ⟨A, c, rfl, _⟩ := ownsRow_cells hrow
    exact ⟨A, _, c, rfl⟩
  clear hrow hbe
  go_wp2_with fail
  refine hK.out _ _ (Skey.out _ f3.out) (fun _ => ?_)
  clear hK K
  try simp only [Act.put, List.setIfInBounds_toArray, List.set_cons_zero, List.set_cons_succ]
  refine take_on (i := 10) (v := .pointer (some ⟨C, 3, none⟩)) rfl (by kernel_rfl) (by kernel_rfl) (by kernel_rfl) (fun _ _ _ h => h) (by kernel_rfl) (fun W' hSW => ?_) (by assumption) ?_
  · (try dsimp only at hSW)
    first | (go_simp; done) | exact rfl | (go_simp; rfl) | (go_simp; omega)
  try simp only [Act.put, List.setIfInBounds_toArray, List.set_cons_zero, List.set_cons_succ]
  have y3 := thaw_in HX3.out 3
  have y4 := thaw_in HX3.out 4
  have x3 := cells_in HX3.out 3
  have x4 := cells_in HX3.out 4
  simp at x3 x4
  refine take_call (i := 11) rfl (by kernel_rfl) (by kernel_rfl) (fun K hK => ?_)
  go_simp
  refine hK.out _ _ (Skey.out _ (f3.out.setCell (fun h => by have := HCn.out; omega) _)) (fun _ => ?_)
  clear hK K
  try simp only [Act.put, List.setIfInBounds_toArray, List.set_cons_zero, List.set_cons_succ]
  refine take_on (i := 12) (v := .pointer (some ⟨C, 4, none⟩)) rfl (by kernel_rfl) (by kernel_rfl) (by kernel_rfl) (fun _ _ _ h => h) (by kernel_rfl) (fun W' hSW => ?_) (by assumption) ?_
  · (try dsimp only at hSW)
    first | (go_simp; done) | exact rfl | (go_simp; rfl) | (go_simp; omega)
  try simp only [Act.put, List.setIfInBounds_toArray, List.set_cons_zero, List.set_cons_succ]
  refine take_call (i := 13) rfl (by kernel_rfl) (by kernel_rfl) (fun K hK => ?_)
  go_simp
  refine hK.out _ _ (Skey.out _ ((f3.out.setCell (fun h => by have := HCn.out; omega) _).setCell (fun h => by have := HCn.out; omega) _)) (fun _ => ?_)
  clear hK K
  try simp only [Act.put, List.setIfInBounds_toArray, List.set_cons_zero, List.set_cons_succ]
  refine wpAnyH_done (by kernel_rfl) ?_ _
  have hd1 : (w3.setCell ⟨C, 3, none⟩ (.map (some M2))).heap[C]? = some (.cells #[.bool true, .int .i64 lim, .int .i64 nx, .map (some M2), .slice a m cap] 73 (0, 0)) := by
    simp [World.setCell, Array.getElem?_modify, HX3.out]
  have hd2 : ((w3.setCell ⟨C, 3, none⟩ (.map (some M2))).setCell ⟨C, 4, none⟩ (.slice va vq vc)).heap[C]? = some (.cells #[.bool true, .int .i64 lim, .int .i64 nx, .map (some M2), .slice va vq vc] 73 (0, 0)) := (hd_turn hd1 (.int .i64 0) _).2
  obtain ⟨W5, hW5⟩ : ∃ x, (w3.setCell ⟨C, 3, none⟩ (.map (some M2))).setCell ⟨C, 4, none⟩ (.slice va vq vc) = x := ⟨_, rfl⟩
  have f5 : Fr0 (fun k => k = C) w3 W5 := by rw [← hW5]; exact ((Fr0.refl (fun k => k = C) w3).setCell (b := C) (o := 3) (fun _ => rfl) _).setCell (b := C) (o := 4) (fun _ => rfl) _
  have g5 : Fr0 none' w W5 := by rw [← hW5]; exact (f3.out.setCell (fun h => by have := HCn.out; omega) _).setCell (fun h => by have := HCn.out; omega) _
  rw [hW5] at hd2 ⊢
  have Hfin := Lib.hid (show CopyPost lim nx L w (.returned (.pointer (some ⟨C, 0, none⟩))) W5 from by
    have k1 := HCn.out
    refine ⟨C, M2, .slice va vq vc, rfl, ⟨hd2, ownsMap_fr0 HM3.out f5 (by omega), ?_, H.out.ok, by omega, fun g hg => ?_⟩, g5, fun k hk => ?_⟩
    · rw [Hm.out]; exact ownsRow_fr0 HR.out.1 f5 (fun g hg e => by have := HR.out.2 g hg; omega)
    · have := HR.out.2 g hg; omega
    · rcases hk with rfl | rfl | hk
      · omega
      · omega
      · have := HR.out.2 k hk; omega)
  clear hd1 hd2 f5 g5 hW5 x3 x4 y3 y4
  go_wp2
  go_ret
  exact Hfin.out
end Go.Proofs.Ytkchpngkmchamaa

/-
  Two spaces: one of them goes its own way. Plain lemmas for SpaceCopies.
-/
namespace Go.Proofs.Ytkchpngkmchamaa
open Go.RowKit Go.Maps

theorem isSome_any (L : List Pt) (n : Int) : (atP L n).isSome = L.any (fun p => p.number == n) := by
  rw [Bool.eq_iff_iff]; unfold atP; rw [List.find?_isSome, List.any_eq_true]
theorem atP_del {L : List Pt} {n m : Int} (h : m ≠ n) : (atP (delP L n) m).isSome = (atP L m).isSome := by
  rw [isSome_any, isSome_any, Bool.eq_iff_iff, List.any_eq_true, List.any_eq_true]
  constructor
  · rintro ⟨p, hp, hm⟩
    exact ⟨p, (delP_mem.1 hp).1, hm⟩
  · rintro ⟨p, hp, hm⟩
    exact ⟨p, delP_mem.2 ⟨hp, fun e => h ((eq_of_beq hm).symm.trans e)⟩, hm⟩
theorem atP_ren (L : List Pt) (n m : Int) (s : Bs) : (atP (renL L n s) m).isSome = (atP L m).isSome := by
  unfold renL
  split
  · rw [isSome_any, isSome_any]
    have h1 : ∀ M : List Pt, M.any (fun p => p.number == m) = (M.map (·.number)).any (fun x => x == m) := fun M => by rw [List.any_map]; rfl
    rw [h1, h1, renP_number]
  · rfl
theorem renL_len (L : List Pt) (n : Int) (s : Bs) : (renL L n s).length = L.length := by
  unfold renL; split
  · exact renP_length _ _ _
  · rfl
theorem delP_len (L : List Pt) (n : Int) : (delP L n).length ≤ L.length := List.length_filter_le _ _
theorem renL_names {L : List Pt} {n : Int} {s t : Bs} (hs : s ≠ t) (h : ∀ p ∈ L, p.name ≠ t) : ∀ p ∈ renL L n s, p.name ≠ t := by
  unfold renL
  split
  · intro q hq
    rcases renP_mem.1 hq with hq | ⟨x, hx, _, rfl⟩
    · exact h q hq.1
    · exact hs
  · exact h
theorem delP_names {L : List Pt} {n : Int} {t : Bs} (h : ∀ p ∈ L, p.name ≠ t) : ∀ p ∈ delP L n, p.name ≠ t := fun p hp => h p (delP_mem.1 hp).1
theorem madeB_mod (n : Nat) : madeB n = madeB (n % 2048) := by
  unfold madeB
  have e1 : n % 2048 % 8 = n % 8 := by omega
  have e2 : n % 2048 / 8 % 4 = n / 8 % 4 := by omega
  have e3 : n % 2048 / 32 % 8 = n / 32 % 8 := by omega
  have e4 : n % 2048 / 256 % 8 = n / 256 % 8 := by omega
  rw [e1, e2, e3, e4]
theorem madeB_zzz (n : Nat) : madeB n ≠ [122, 122, 122] := by
  rw [madeB_mod]
  have : ∀ m, m < 2048 → madeB m ≠ [122, 122, 122] := by decide +kernel
  exact this _ (Nat.mod_lt _ (by decide))
/-- The new name of a port. -/
def zzB (r : Int) : Bs := [122, 122, 46, 110, UInt8.ofNat (97 + r.toNat)]
theorem zzB_right : ∀ r : Nat, r < 26 → rightB (zzB (r : Int)) = true ∧ zzB (r : Int) ≠ [122, 122, 122] := by decide +kernel
theorem enc26 : ∀ r : Nat, r < 26 → Utf8.encode (97 + (r : Int)) = bs [UInt8.ofNat (97 + r)] := by decide +kernel
theorem zzB_cat (r : Nat) : ({ data := #[122, 122, 46, 110] } : ByteArray) ++ bs [UInt8.ofNat (97 + r)] = bs (zzB (r : Int)) := by
  have := bs_append [122, 122, 46, 110] [UInt8.ofNat (97 + r)]
  exact this
/-- What a port's acts on the copy may turn of the other's. -/
theorem SpaceIs.beside {w w' : World} {sb mb cb cm : Nat} {nv : Value} {lim nx : Int} {L : List Pt} (h : SpaceIs w sb mb nv lim nx L) (hf : Fr0 (fun k => k = cb ∨ k = cm) w w') (hc : ¬ sfoot sb mb nv cb ∧ ¬ sfoot sb mb nv cm) : SpaceIs w' sb mb nv lim nx L :=
  h.fr0 hf (fun k hk e => e.elim (fun e => hc.1 (e ▸ hk)) (fun e => hc.2 (e ▸ hk)))
end Go.Proofs.Ytkchpngkmchamaa

/-
  SpaceCopies.
-/
namespace Go.Proofs.Ytkchpngkmchamaa
open Go.RowKit Go.Maps
attribute [local go_sem ↓] Go.wp_at_zero Go.wp_at_succ
attribute [local go_sem high] run_eql_pt run_neq_pt

/-- What holds of the copy after k ports. -/
structure CInv (L : List Pt) (k : Nat) (cL : List Pt) : Prop where
  there : ∀ j p, k ≤ j → L[j]? = some p → (atP cL p.number).isSome = true
  len : cL.length ≤ L.length
  nm : ∀ p ∈ cL, p.name ≠ [122, 122, 122]
theorem CInv.close {L cL : List Pt} {k : Nat} {p : Pt} (h : CInv L k cL) (ho : OrdP L) (hp : L[k]? = some p) : CInv L (k + 1) (delP cL p.number) :=
  ⟨fun j q hj hq => by
    have hlt : p.number < q.number := by
      obtain ⟨h1, h1'⟩ := List.getElem?_eq_some_iff.1 hp
      obtain ⟨h2, h2'⟩ := List.getElem?_eq_some_iff.1 hq
      have := List.pairwise_iff_getElem.1 ho k j h1 h2 (by omega)
      rwa [h1', h2'] at this
    rw [atP_del (by omega)]; exact h.there j q (by omega) hq, Nat.le_trans (delP_len _ _) h.len, delP_names h.nm⟩
theorem CInv.rename {L cL : List Pt} {k : Nat} {n : Int} {s : Bs} (h : CInv L k cL) (hs : s ≠ [122, 122, 122]) : CInv L (k + 1) (renL cL n s) :=
  ⟨fun j q hj hq => by rw [atP_ren]; exact h.there j q (by omega) hq, by rw [renL_len]; exact h.len, renL_names hs h.nm⟩
theorem cells_fr0 {S : Nat → Prop} {w w' : World} {a : Option Addr} {xs : List Value} (h : Cells w a xs) (hf : Fr0 S w w') (hS : ∀ g o s, a = some ⟨g, o, s⟩ → ¬ S g) : Cells w' a xs := fun j x hj => by
  obtain ⟨b, off, h1, h2⟩ := h j x hj
  exact ⟨b, off, h1, (hf.cell (World.block_lt_of_cell? _ _ h2) (hS b off none h1)).trans h2⟩
set_option maxRecDepth 100000 in
set_option maxHeartbeats 8000000 in
theorem SpaceCopies_any {w : World} {u : Value} {xs : List Sm3} (hu : SmallsAt w u xs) (y : Int) (hy : 0 ≤ y ∧ y < 256) :
    Calls Try.prog 7 #[u, .int .u8 y] w fun e w' => e = .returned (.bool true) ∧ Fr0 none' w w' := by
  obtain ⟨hy1, hy2⟩ := hy
  go_enter Try.func7, Try.ntmps7
  go_wp2_with fail
  refine (sawake_any _).mono ?_
  rintro e w1 ⟨rfl, hf1⟩
  have F1 := Lib.hid hf1
  clear hf1
  go_wp2_with fail
  refine (smade_any (hu.later F1.out)).mono ?_
  rintro e w2 ⟨sb, mb, nv, nx, L, rfl, hS, hG⟩
  have S := Lib.hid (hS.base F1.out)
  have G := Lib.hid hG
  clear hS hG F1
  go_wp2_with fail
  refine (Copy_is S.out.is).mono ?_
  rintro e w3 ⟨cb, cm, cnv, rfl, hc, hf, hnew⟩
  have SC := Lib.hid (show SpSt w w3 cb cm cnv 10 nx L [] from ⟨hc, S.out.fr.trans hf, fun k hk => Nat.le_trans S.out.fr.size (hnew k hk), fun x hx => by cases hx⟩)
  have hap := Lib.hid (show ¬ sfoot sb mb nv cb ∧ ¬ sfoot sb mb nv cm from ⟨fun h => by have := S.out.is.lt _ h; have := hnew cb (.inl rfl); omega, fun h => by have := S.out.is.lt _ h; have := hnew cm (.inr (.inl rfl)); omega⟩)
  have S := Lib.hid (S.out.later hf)
  obtain ⟨l, hl⟩ : ∃ l, L.length = l := ⟨_, rfl⟩
  have Hl := Lib.hid hl
  have hl10 : (l : Int) ≤ 10 := by rw [← hl]; exact S.out.is.ok.len
  have HNl := Lib.hid (show (namesP L).length = l from by rw [S.out.is.ok.names_length]; exact hl)
  clear hu hc hf hnew hl
  go_wp2_with fail
  refine (all_st SC.out).mono ?_
  rintro e w4 ⟨u1, rfl, hu1, hf⟩
  obtain ⟨a1, c1, rfl, h1⟩ := hu1.row
  have A1 := Lib.hid h1
  have S := Lib.hid (S.out.later hf)
  have SC := Lib.hid (SC.out.later hf)
  rw [Hl.out]
  clear hu1 hf h1
  go_wp2_with fail
  refine (all_st S.out).mono ?_
  rintro e w5 ⟨u2, rfl, hu2, hf⟩
  obtain ⟨a2, c2, rfl, h2⟩ := hu2.row
  have A2 := Lib.hid h2
  have A1 := Lib.hid (A1.out.later hf)
  have S := Lib.hid (S.out.later hf)
  have SC := Lib.hid (SC.out.later hf)
  rw [Hl.out]
  have HC := sameP_any a1 a2 l l c1 c2 L L w5 Hl.out Hl.out (by omega) (by omega) A1.out A2.out
  rw [decide_eq_true (rfl : L = L)] at HC
  clear hu2 hf h2 A1 A2
  go_wp2_with fail
  refine HC.mono ?_
  rintro e w6 ⟨rfl, hf⟩
  have S := Lib.hid (S.out.later hf)
  have SC := Lib.hid (SC.out.later hf)
  clear hf HC
  go_wp2_with fail
  refine (Names_is SC.out.is).mono ?_
  rintro e w7 ⟨v1, rfl, hrow, hf⟩
  obtain ⟨n1, d1, rfl, _, _, _, hc1, _, _⟩ := ownsRow_cells hrow
  have N1 := Lib.hid hc1
  have S := Lib.hid (S.out.later hf)
  have SC := Lib.hid (SC.out.later hf)
  rw [HNl.out]
  clear hrow hf hc1
  go_wp2_with fail
  refine (Names_is S.out.is).mono ?_
  rintro e w8 ⟨v2, rfl, hrow, hf⟩
  obtain ⟨n2, d2, rfl, _, _, _, hc2, _, _⟩ := ownsRow_cells hrow
  have N2 := Lib.hid hc2
  have N1 := Lib.hid (N1.out.later hf)
  have S := Lib.hid (S.out.later hf)
  have SC := Lib.hid (SC.out.later hf)
  rw [HNl.out]
  have HC := sameS_any n1 n2 l l d1 d2 (namesP L) (namesP L) w8 HNl.out HNl.out (by omega) (by omega) N1.out N2.out
  rw [decide_eq_true (rfl : namesP L = namesP L)] at HC
  clear hrow hf hc2 N1 N2
  go_wp2_with fail
  refine HC.mono ?_
  rintro e w9 ⟨rfl, hf⟩
  have S := Lib.hid (S.out.later hf)
  have SC := Lib.hid (SC.out.later hf)
  clear hf HC
  go_wp2_with fail
  refine (SNext_is SC.out.is).mono ?_
  rintro e w10 ⟨rfl, rfl⟩
  go_wp2_with fail
  refine (SNext_is S.out.is).mono ?_
  rintro e w11 ⟨rfl, rfl⟩
  go_wp2_with fail
  refine (SLimit_is SC.out.is).mono ?_
  rintro e w12 ⟨rfl, rfl⟩
  go_wp2_with fail
  refine (SLimit_is S.out.is).mono ?_
  rintro e w13 ⟨rfl, rfl⟩
  go_wp2_with fail
  refine (SC.out.told (All_is keysDoes sortedDoes S.out.is)).mono ?_
  rintro e w14 ⟨u3, rfl, hu3, hf⟩
  have hrw := hu3.row
  obtain ⟨a3, c3, rfl, h3⟩ := hrw
  have UA := Lib.hid (show PtsIn w14 a3 L ∧ ∀ g o s, a3 = some ⟨g, o, s⟩ → g ≠ cb ∧ g ≠ cm from ⟨h3, fun g o s e => by
    subst e
    have := (hu3.out g rfl).1
    exact ⟨fun e => this (.inl e), fun e => this (.inr (.inl e))⟩⟩)
  have S := Lib.hid (S.out.later hf)
  have SC := Lib.hid (SC.out.later hf)
  rw [Hl.out]
  clear hu3 hf h3
  go_wp2_with fail
  refine (Names_is S.out.is).mono ?_
  rintro e w15 ⟨v4, rfl, hrow, hf⟩
  obtain ⟨n4, d4, rfl, _, _, _, hc4, _, hn4⟩ := ownsRow_cells hrow
  have NA := Lib.hid (show Cells w15 n4 ((namesP L).map strV) ∧ ∀ g o s, n4 = some ⟨g, o, s⟩ → g ≠ cb ∧ g ≠ cm from ⟨hc4, fun g o s e => by
    have h1 := (hn4 g o s e).1
    have h2 := SC.out.is.lt cb (.inl rfl)
    have h3 := SC.out.is.lt cm (.inr (.inl rfl))
    omega⟩)
  have UA := Lib.hid (show PtsIn w15 a3 L ∧ ∀ g o s, a3 = some ⟨g, o, s⟩ → g ≠ cb ∧ g ≠ cm from ⟨UA.out.1.later hf, UA.out.2⟩)
  have S := Lib.hid (S.out.later hf)
  have SC := Lib.hid (SC.out.later hf)
  rw [HNl.out]
  clear hrow hf hc4 hn4
  go_wp2_with fail
  refine (SNext_is S.out.is).mono ?_
  rintro e w16 ⟨rfl, rfl⟩
  have hI : CInv L 0 L := ⟨fun j p _ hp => by rw [isSome_any, List.any_eq_true]; exact ⟨p, List.mem_of_getElem? hp, by simp⟩, Nat.le_refl _, fun p hp => by
    obtain ⟨x, hx⟩ := G.out.nm p hp
    rw [hx]; exact madeB_zzz x⟩
  go_wp2_with fail
  go_loopw [70] (fun i wr => ∃ (k : Nat) (cnv : Value) (cL : List Pt), k ≤ l ∧ i = .int .i64 k ∧ Hid (SpSt w wr cb cm cnv 10 nx cL []) ∧ Hid (Fr0 (fun k => k = cb ∨ k = cm) w15 wr) ∧ Hid (CInv L k cL)) (fun i _ => l - (Go.RowKit.intOf i).toNat)
  case atStart => exact ⟨0, _, _, Nat.zero_le _, rfl, SC, Fr0.refl _ _, hI⟩
  case round =>
    clear SC hI
    obtain ⟨k, cnv, cL, hk, rfl, SC, F, I⟩ := hrel
    by_cases hlt : k < l
    · obtain ⟨p, hp⟩ : ∃ p, L[k]? = some p := ⟨_, List.getElem?_eq_getElem (by rw [Hl.out]; exact hlt)⟩
      obtain ⟨g, o, rfl, e0, e1, e2⟩ := (UA.out.1.fr0 F.out (fun g o s e h => h.elim (UA.out.2 g o s e).1 (UA.out.2 g o s e).2)) k p hp
      have hpn := S.out.is.ok.lo p (List.mem_of_getElem? hp)
      have hnx := S.out.is.ok.nxt
      have Hth := Lib.hid (I.out.there k p (Nat.le_refl _) hp)
      have Hp := Lib.hid hp
      obtain ⟨pa, pb, pc⟩ := p
      simp only at e0 e1 e2 hpn
      obtain ⟨W1, hW⟩ : ∃ W, wr.alloc (.cells #[.int .i64 pa, .string (bs pb), .int .i64 pc] 35) = W := ⟨_, rfl⟩
      obtain ⟨PB, hPB⟩ : ∃ X, wr.heap.size = X := ⟨_, rfl⟩
      have hpp : W1.heap[PB]? = some (.cells #[.int .i64 pa, .string (bs pb), .int .i64 pc] 35 (0, 0)) := by rw [← hW, ← hPB]; exact World.alloc_heap_new wr _
      have f1 : Fr0 none' wr W1 := by rw [← hW]; exact (Fr0.refl _ _).alloc _
      have p0 := cells_in hpp 0
      simp at p0
      have SC := Lib.hid (SC.out.later f1)
      have F := Lib.hid (F.out.trans' (S' := none') f1 (fun _ _ h => h.elim))
      have q1 : (0 : Int) ≤ (k : Int) := by omega
      have q2 : (k : Int) < (l : Int) := by omega
      obtain ⟨r, hr⟩ : ∃ r, pa % 2 = r := ⟨_, rfl⟩
      obtain ⟨t, ht⟩ : ∃ t, y % 2 = t := ⟨_, rfl⟩
      have hr0 : 0 ≤ r ∧ r < 2 := by omega
      have ht0 : 0 ≤ t ∧ t < 2 := by omega
      obtain ⟨ht1, ht2⟩ := ht0
      obtain ⟨r26, hr26⟩ : ∃ r : Nat, pa % 26 = r := ⟨(pa % 26).toNat, by omega⟩
      have hr260 : (0 : Int) ≤ (r26 : Int) := by omega
      have hr261 : (r26 : Int) < 26 := by omega
      clear hp hpp f1
      by_cases hrt : r = t
      · subst hrt
        have hge : getE cL pa = 0 := by
          obtain ⟨x, hx⟩ := Option.isSome_iff_exists.1 Hth.out
          unfold getE; rw [hx]; rfl
        have HC := close_st SC.out pa (by have := S.out.is.ok.nxt; omega)
        rw [hge] at HC
        obtain ⟨⟨z1, z2, z3⟩, hz⟩ : ∃ p, getP cL pa = p := ⟨_, rfl⟩
        rw [hz] at HC
        have hdone := Lib.hid (I.out.close S.out.is.ok.ord Hp.out)
        clear hz hge
        go_wp2_with fail
        refine HC.mono ?_
        rintro e w20 ⟨rfl, nv20, hS, hst⟩
        simp only [ptV]
        have f20 := Lib.hid ((F.out.trans hst.fr).alloc (.cells #[.int .i64 z1, .string (bs z2), .int .i64 z3] 35))
        have S20 := Lib.hid (hS.later ((Fr0.refl none' w20).alloc (.cells #[.int .i64 z1, .string (bs z2), .int .i64 z3] 35)))
        clear HC hS hst SC F p0
        go_wp2
        go_roundw
        case rel => exact ⟨k + 1, _, _, by omega, by go_num, S20, f20, hdone⟩
        case measure => simp [Go.RowKit.intOf]; omega
      · have hrt' : (r == t) = false := by simpa using hrt
        have henc := enc26 r26 (by omega)
        have hcat := zzB_cat r26
        have hconv : ∀ w : World, (convert 21 9 (.int .i32 (97 + (r26 : Int)))).run Try.prog w = .ok (.string (bs [UInt8.ofNat (97 + r26)])) w := fun w => by
          rw [run_convert_int_string w _ _ _ _ (by kernel_rfl) (by kernel_rfl), henc]
        clear henc
        obtain ⟨cc, hcc⟩ : ∃ c : UInt8, UInt8.ofNat (97 + r26) = c := ⟨_, rfl⟩
        rw [hcc] at hcat hconv
        clear hcc
        have hw32 : IntKind.i32.wrap (97 + (r26 : Int)) = 97 + (r26 : Int) := by
          have : ∀ z : Nat, z < 26 → IntKind.i32.wrap (97 + (z : Int)) = 97 + (z : Int) := by decide +kernel
          exact this r26 (by omega)
        obtain ⟨hzr, hzn⟩ := zzB_right r26 (by omega)
        obtain ⟨zb, hzb⟩ : ∃ s, zzB (r26 : Int) = s := ⟨_, rfl⟩
        rw [hzb] at hcat hzr hzn
        have Hz := Lib.hid (show rightB zb = true ∧ zb ≠ [122, 122, 122] from ⟨hzr, hzn⟩)
        clear hzb hzr hzn
        go_upto_region 17 with (fail)
        go_wp2_with fail
        obtain ⟨E, hE⟩ : ∃ E, renE cL pa zb = E := ⟨_, rfl⟩
        have hE2 : E = 0 ∨ E = 240 := by
          obtain ⟨x, hx⟩ := Option.isSome_iff_exists.1 Hth.out
          rw [← hE]; unfold renE; rw [hx]; simp only
          rw [if_neg (by rw [Hz.out.1]; simp)]
          split
          · exact .inr rfl
          · exact .inl rfl
        have HC := rename_st SC.out pa (by have := S.out.is.ok.nxt; omega) zb (by have := rightB_len Hz.out.1; omega)
        rw [hE] at HC
        obtain ⟨T, hT⟩ : ∃ T, renT cL pa zb = T := ⟨_, rfl⟩
        rw [hT] at HC
        have hdone := Lib.hid (I.out.rename (n := pa) Hz.out.2)
        clear hE hT
        refine HC.mono ?_
        rintro e w20 ⟨rfl, nv20, hS, hst⟩
        have f20 := Lib.hid (F.out.trans hst.fr)
        have S20 := Lib.hid hS
        clear HC hS hst SC F p0
        rcases hE2 with rfl | rfl
        all_goals
          go_wp2
          go_roundw
          case rel => exact ⟨k + 1, _, _, by omega, by go_num, S20, f20, hdone⟩
          case measure => simp [Go.RowKit.intOf]; omega
    · have hkl : k = l := by omega
      subst hkl
      have hnx := G.out.hi
      have SC := SC
      have S := Lib.hid (show SpSt w wr sb mb nv 10 nx L [] from ⟨S.out.is.beside F.out hap.out, S.out.fr.trans' F.out (fun c hc h => by have := SC.out.new c (h.elim (fun h => .inl h) (fun h => .inr (.inl h))); omega), S.out.new, fun x hx => by cases hx⟩)
      have UB := Lib.hid UA.out.2
      have NB := Lib.hid NA.out.2
      have UA := Lib.hid (UA.out.1.fr0 F.out (fun g o s e h => h.elim (UA.out.2 g o s e).1 (UA.out.2 g o s e).2))
      have NA := Lib.hid (cells_fr0 NA.out.1 F.out (fun g o s e h => h.elim (NA.out.2 g o s e).1 (NA.out.2 g o s e).2))
      clear F
      by_cases hl10' : k < 10
      · have hE : openE 10 nx cL [122, 122, 122] 1 = 0 := by
          unfold openE
          rw [if_neg (by decide), if_neg (by omega), if_neg (by rw [nameP_none.2 I.out.nm]; simp), if_neg (by have := I.out.len; rw [Hl.out] at this; omega), if_neg (by omega)]
        have c10 : ((k : Nat) : Int) < 10 := by omega
        go_wp2_with fail
        have HC := open_st SC.out [122, 122, 122] (by decide) 1
        rw [hE] at HC
        obtain ⟨N, hN⟩ : ∃ N, openN 10 nx cL [122, 122, 122] 1 = N := ⟨_, rfl⟩
        rw [hN] at HC
        clear hE hN
        refine HC.mono ?_
        rintro e w30 ⟨rfl, nv30, -, hst⟩
        have f30 := hst.fr
        have S := Lib.hid (show SpSt w w30 sb mb nv 10 nx L [] from ⟨S.out.is.beside f30 hap.out, S.out.fr.trans' f30 (fun c hc h => by have := SC.out.new c (h.elim (fun h => .inl h) (fun h => .inr (.inl h))); omega), S.out.new, fun x hx => by cases hx⟩)
        have UA := Lib.hid (UA.out.fr0 f30 (fun g o s e h => h.elim (UB.out g o s e).1 (UB.out g o s e).2))
        have NA := Lib.hid (cells_fr0 NA.out f30 (fun g o s e h => h.elim (NB.out g o s e).1 (NB.out g o s e).2))
        clear HC hst f30 SC
        go_wp2_with fail
        refine (all_st S.out).mono ?_
        rintro e w31 ⟨u5, rfl, hu5, hf⟩
        obtain ⟨a5, c5, rfl, h5⟩ := hu5.row
        have UA := Lib.hid (UA.out.later hf)
        have NA := Lib.hid (NA.out.later hf)
        have S := Lib.hid (S.out.later hf)
        rw [Hl.out]
        have HC := sameP_any a5 a3 k k c5 c3 L L w31 Hl.out Hl.out (by omega) (by omega) h5 UA.out
        rw [decide_eq_true (rfl : L = L)] at HC
        clear hu5 hf
        go_wp2_with fail
        refine HC.mono ?_
        rintro e w32 ⟨rfl, hf⟩
        have NA := Lib.hid (NA.out.later hf)
        have S := Lib.hid (S.out.later hf)
        clear HC hf h5
        go_wp2_with fail
        refine (Names_is S.out.is).mono ?_
        rintro e w33 ⟨v6, rfl, hrow, hf⟩
        obtain ⟨n6, d6, rfl, _, _, _, hc6, _, _⟩ := ownsRow_cells hrow
        have NA := Lib.hid (NA.out.later hf)
        have S := Lib.hid (S.out.later hf)
        rw [HNl.out]
        have HC := sameS_any n6 n4 k k d6 d4 (namesP L) (namesP L) w33 HNl.out HNl.out (by omega) (by omega) hc6 NA.out
        rw [decide_eq_true (rfl : namesP L = namesP L)] at HC
        clear hrow hf
        go_wp2_with fail
        refine HC.mono ?_
        rintro e w34 ⟨rfl, hf⟩
        have S := Lib.hid (S.out.later hf)
        clear HC hf hc6
        go_wp2_with fail
        refine (SNext_is S.out.is).mono ?_
        rintro e w35 ⟨rfl, rfl⟩
        go_wp2
        go_ret
        exact ⟨rfl, S.out.fr⟩
      · have c10 : ¬ ((k : Nat) : Int) < 10 := by omega
        have HC := open_st SC.out [122, 122, 122] (by decide) 1
        obtain ⟨N, hN⟩ : ∃ N, openN 10 nx cL [122, 122, 122] 1 = N := ⟨_, rfl⟩
        obtain ⟨E, hE⟩ : ∃ N, openE 10 nx cL [122, 122, 122] 1 = N := ⟨_, rfl⟩
        rw [hN, hE] at HC
        clear hE hN
        have c11 : decide (((k : Nat) : Int) < 10) = false := decide_eq_false c10
        by_cases hE0 : E = 0
        · subst hE0
          go_wp2_with fail
          refine HC.mono ?_
          rintro e w30 ⟨rfl, nv30, -, hst⟩
          have f30 := hst.fr
          have S := Lib.hid (show SpSt w w30 sb mb nv 10 nx L [] from ⟨S.out.is.beside f30 hap.out, S.out.fr.trans' f30 (fun c hc h => by have := SC.out.new c (h.elim (fun h => .inl h) (fun h => .inr (.inl h))); omega), S.out.new, fun x hx => by cases hx⟩)
          have UA := Lib.hid (UA.out.fr0 f30 (fun g o s e h => h.elim (UB.out g o s e).1 (UB.out g o s e).2))
          have NA := Lib.hid (cells_fr0 NA.out f30 (fun g o s e h => h.elim (NB.out g o s e).1 (NB.out g o s e).2))
          clear HC hst f30 SC
          go_wp2_with fail
          refine (all_st S.out).mono ?_
          rintro e w31 ⟨u5, rfl, hu5, hf⟩
          obtain ⟨a5, c5, rfl, h5⟩ := hu5.row
          have UA := Lib.hid (UA.out.later hf)
          have NA := Lib.hid (NA.out.later hf)
          have S := Lib.hid (S.out.later hf)
          rw [Hl.out]
          have HC := sameP_any a5 a3 k k c5 c3 L L w31 Hl.out Hl.out (by omega) (by omega) h5 UA.out
          rw [decide_eq_true (rfl : L = L)] at HC
          clear hu5 hf
          go_wp2_with fail
          refine HC.mono ?_
          rintro e w32 ⟨rfl, hf⟩
          have NA := Lib.hid (NA.out.later hf)
          have S := Lib.hid (S.out.later hf)
          clear HC hf h5
          go_wp2_with fail
          refine (Names_is S.out.is).mono ?_
          rintro e w33 ⟨v6, rfl, hrow, hf⟩
          obtain ⟨n6, d6, rfl, _, _, _, hc6, _, _⟩ := ownsRow_cells hrow
          have NA := Lib.hid (NA.out.later hf)
          have S := Lib.hid (S.out.later hf)
          rw [HNl.out]
          have HC := sameS_any n6 n4 k k d6 d4 (namesP L) (namesP L) w33 HNl.out HNl.out (by omega) (by omega) hc6 NA.out
          rw [decide_eq_true (rfl : namesP L = namesP L)] at HC
          clear hrow hf
          go_wp2_with fail
          refine HC.mono ?_
          rintro e w34 ⟨rfl, hf⟩
          have S := Lib.hid (S.out.later hf)
          clear HC hf hc6
          go_wp2_with fail
          refine (SNext_is S.out.is).mono ?_
          rintro e w35 ⟨rfl, rfl⟩
          go_wp2
          go_ret
          exact ⟨rfl, S.out.fr⟩
        · have hne : (E != 0) = true := by simpa using hE0
          go_wp2_with fail
          refine HC.mono ?_
          rintro e w30 ⟨rfl, nv30, -, hst⟩
          have f30 := hst.fr
          have S := Lib.hid (show SpSt w w30 sb mb nv 10 nx L [] from ⟨S.out.is.beside f30 hap.out, S.out.fr.trans' f30 (fun c hc h => by have := SC.out.new c (h.elim (fun h => .inl h) (fun h => .inr (.inl h))); omega), S.out.new, fun x hx => by cases hx⟩)
          have UA := Lib.hid (UA.out.fr0 f30 (fun g o s e h => h.elim (UB.out g o s e).1 (UB.out g o s e).2))
          have NA := Lib.hid (cells_fr0 NA.out f30 (fun g o s e h => h.elim (NB.out g o s e).1 (NB.out g o s e).2))
          clear HC hst f30 SC
          go_wp2_with fail
          refine (all_st S.out).mono ?_
          rintro e w31 ⟨u5, rfl, hu5, hf⟩
          obtain ⟨a5, c5, rfl, h5⟩ := hu5.row
          have UA := Lib.hid (UA.out.later hf)
          have NA := Lib.hid (NA.out.later hf)
          have S := Lib.hid (S.out.later hf)
          rw [Hl.out]
          have HC := sameP_any a5 a3 k k c5 c3 L L w31 Hl.out Hl.out (by omega) (by omega) h5 UA.out
          rw [decide_eq_true (rfl : L = L)] at HC
          clear hu5 hf
          go_wp2_with fail
          refine HC.mono ?_
          rintro e w32 ⟨rfl, hf⟩
          have NA := Lib.hid (NA.out.later hf)
          have S := Lib.hid (S.out.later hf)
          clear HC hf h5
          go_wp2_with fail
          refine (Names_is S.out.is).mono ?_
          rintro e w33 ⟨v6, rfl, hrow, hf⟩
          obtain ⟨n6, d6, rfl, _, _, _, hc6, _, _⟩ := ownsRow_cells hrow
          have NA := Lib.hid (NA.out.later hf)
          have S := Lib.hid (S.out.later hf)
          rw [HNl.out]
          have HC := sameS_any n6 n4 k k d6 d4 (namesP L) (namesP L) w33 HNl.out HNl.out (by omega) (by omega) hc6 NA.out
          rw [decide_eq_true (rfl : namesP L = namesP L)] at HC
          clear hrow hf
          go_wp2_with fail
          refine HC.mono ?_
          rintro e w34 ⟨rfl, hf⟩
          have S := Lib.hid (S.out.later hf)
          clear HC hf hc6
          go_wp2_with fail
          refine (SNext_is S.out.is).mono ?_
          rintro e w35 ⟨rfl, rfl⟩
          go_wp2
          go_ret
          exact ⟨rfl, S.out.fr⟩
end Go.Proofs.Ytkchpngkmchamaa

namespace Go.Proofs.Ytkchpngkmchamaa.spaceCopies
open Go.ChangeShapes Go.WideShapes Go.ChangeAt Go.RowKit Go.Proofs.Ytkchpngkmchamaa

set_option maxRecDepth 100000 in
theorem lifted (os : Os) (started : os.Started) (H : Type) (enc : TypeId × Value → H) :
    ReturnsInHanded {} Try.checked os 7 .any (Rows.spaceCopiesSpec.pre6 enc Try.prog Try.f7 Rows.spaceCopiesRow.domain false) (Rows.spaceCopiesSpec.post enc Try.prog Try.f7 false true false false) := by
  refine returnsInHanded_of_change (C := Try.checked) own_knob started (by kernel_rfl) Try.func7
    (ChangeSpec.witness6 (enc := enc) (C := Try.checked) false ⟨#[], #[.slice none 0 0, .int .u8 0], []⟩ 8 (by kernel_rfl) (by kernel_rfl) (by kernel_rfl) (by kernel_rfl)) ?_
  intro W base args ds gs before hval0 hW hcnd _
  have hval : ∀ (j : Nat) t v, Try.f7.params[j]? = some t → args[j]? = some v → Value.okWide Try.prog W .any base t v := hval0
  have hW' := hW
  obtain ⟨p, q, hA0, hV, rfl, hfz, hnd⟩ := hW
  have hA : DataW.TrodAll enc Try.prog W 0 (fun _ => true) true Try.f7.params.toList args.toList ds p := hA0
  rw [Try.params7] at hA hval
  obtain ⟨v0, vs0, d0, ds0, p0, q0, hargs, rfl, rfl, h0, r0⟩ := trodAll_cons hA
  obtain ⟨v1, vs1, d1, ds1, p1, q1, rfl, rfl, rfl, h1, r1⟩ := trodAll_cons r0
  obtain ⟨rfl, rfl, rfl⟩ := trodAll_nil r1
  obtain rfl : args = #[v0, v1] := by cases args; simp_all
  obtain ⟨rfl, rfl⟩ := trodVars_none hV
  clear hA0 hval0
  simp only [List.append_nil] at hW'
  have l0 : ∀ x ∈ p0, x.block < W.heap.size := fun x hx => hW'.lt x (by simp [hx])
  have t0 := fun W' (hb : Below W.heap.size W W') => Below.trod laid_own (by kernel_rfl) (of_decide_eq_true (by kernel_rfl)) h0 hb l0
  have l1 : ∀ x ∈ p1, x.block < W.heap.size := fun x hx => hW'.lt x (by simp [hx])
  have t1 := fun W' (hb : Below W.heap.size W W') => Below.trod laid_own (by kernel_rfl) (of_decide_eq_true (by kernel_rfl)) h1 hb l1
  obtain ⟨xs, hxs⟩ := smalls_arg (hval 0 22 v0 rfl rfl) h0
  obtain ⟨a1, rfl, _, _, w1⟩ := open_int Try.underlying5 (hval 1 5 v1 rfl rfl) h1
  refine (SpaceCopies_any hxs a1 (by have := bounds_u8 w1; omega)).mono fun e W' ⟨he, hg0⟩ => ?_
  have hg := hg0.below (Nat.le_refl _) (fun _ _ h => h)
  subst he
  exact ⟨_, rfl, post_below2 (pa := (p0 ++ (p1 ++ []))) (pv := []) hW' (fun _ _ _ => (trodAll_cons_mk (shut_bool Try.underlying4 _) trodAll_mk0)) (trodAll_cons_mk (t0 _ hg) (trodAll_cons_mk (t1 _ hg) trodAll_mk0)) (fun _ _ => rfl) hg⟩

theorem over : Rows.spaceCopiesRow.holds Try.pinned (OpenSpec.ofChange Rows.spaceCopiesSpec) :=
  OpenClaim.holds_of_wide 7 Try.f7 rfl rfl rfl rfl rfl rfl rfl ⟨rfl, rfl, rfl, rfl, rfl⟩ rfl rfl rfl rfl rfl (by kernel_rfl) Try.func7 (by kernel_rfl)
    (of_decide_eq_true (by kernel_rfl)) (by unfold Func.isWrapper; first | (rw [if_pos (by decide +kernel)]; kernel_rfl) | (rw [if_neg (by decide +kernel)]; exact ⟨rfl, rfl⟩))
    (fun os started H enc _ => lifted os started H enc)

theorem proved : Rows.SpaceCopiesSaid := over
#print axioms proved
end Go.Proofs.Ytkchpngkmchamaa.spaceCopies
