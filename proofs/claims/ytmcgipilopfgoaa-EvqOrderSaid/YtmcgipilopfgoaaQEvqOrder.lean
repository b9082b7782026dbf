/- EvqOrder: the statement: for any input the law returns true, and the arguments read as before; no condition. -/
import Derived.Test.YtmcgipilopfgoaaJb3
import Derived.Test.YtmcgipilopfgoaaJb2
set_option linter.unusedSimpArgs false
set_option linter.unusedVariables false

/-
  EvqOrder.
-/
namespace Go.Proofs.Ytmcgipilopfgoaa
open Go Go.RowKit Go.ChangeMaps
attribute [local go_sem ↓] Go.wp_at_zero Go.wp_at_succ
attribute [local go_sem] Oper.semAt_some wide_fn wide_depth wide_fnR wide_depthR

theorem KeptB.right {W W' : World} {b : Nat} {xs : List Value} {t : TypeId} {ft gt gt' : Nat → Prop} (h : KeptB W b xs t (fun k => ft k ∨ gt k)) (hs : ∀ k, gt' k → gt k ∨ W.heap.size ≤ k) (hf : Fr0 gt W W') : KeptB W' b xs t (fun k => ft k ∨ gt' k) :=
  h.step2 (fun k hk => hk.elim (fun h => .inl (.inl h)) (fun h => (hs k h).elim (fun g => .inl (.inr g)) .inr)) (hf.mono (fun _ _ h => .inr h))
theorem KeptB.left {W W' : World} {b : Nat} {xs : List Value} {t : TypeId} {ft ft' gt : Nat → Prop} (h : KeptB W b xs t (fun k => ft k ∨ gt k)) (hs : ∀ k, ft' k → ft k ∨ W.heap.size ≤ k) (hf : Fr0 ft W W') : KeptB W' b xs t (fun k => ft' k ∨ gt k) :=
  h.step2 (fun k hk => hk.elim (fun h => (hs k h).elim (fun g => .inl (.inl g)) .inr) (fun h => .inl (.inr h))) (hf.mono (fun _ _ h => .inl h))
/-- Where a slice's rest starts. -/
def dA (cap n : Nat) (a : Option Addr) : Option Addr := if cap = n then a else a.map (fun x => x.add (n * 5))
theorem EsIn.rest {W : World} {a : Option Addr} {S : List Ev} (h : EsIn W a S) {cap : Nat} (hc : S.length ≤ cap) (n : Nat) : EsIn W (dA cap n a) (S.drop n) := by
  unfold dA
  split
  · next e =>
    rw [List.drop_of_length_le (by omega)]
    exact esIn_nil W a
  · cases a with
    | none =>
      intro i x hx
      rw [List.getElem?_drop] at hx
      obtain ⟨g, o, e, _⟩ := h _ x hx
      cases e
    | some A =>
      intro i x hx
      have hx' := hx
      rw [List.getElem?_drop] at hx'
      obtain ⟨g, o, e, _⟩ := h _ x hx'
      injection e with e
      subst e
      have h1 := h.drop n i x hx
      rw [Option.map_some, Addr.add_mid]
      exact h1
theorem dA_block {cap n : Nat} {a : Option Addr} {g o : Nat} {s : Option Nat} (h : dA cap n a = some ⟨g, o, s⟩) : ∃ o' s', a = some ⟨g, o', s'⟩ := by
  unfold dA at h
  split at h
  · exact ⟨o, s, h⟩
  · cases a with
    | none => cases h
    | some A =>
      rw [Option.map_some] at h
      injection h with h
      have hb : (A.add (n * 5)).block = A.block := by unfold Addr.add; split <;> rfl
      rw [h] at hb
      obtain ⟨g', o', s'⟩ := A
      exact ⟨o', s', by rw [show g = g' from hb]⟩
set_option maxRecDepth 100000 in
set_option maxHeartbeats 4000000 in
theorem EvqOrder_any {w : World} {u : Value} {xs : List Sme} {t : Int} (hu : SmesAt w u xs) (ht : 0 ≤ t ∧ t < 256) :
    Calls Try.prog 8 #[u, .int .u8 t] w fun e w' => e = .returned (.bool true) ∧ Fr0 none' w w' := by
  have HU := Lib.hid (fun (W : World) (hf : Fr0 none' w W) => events_any xs 60 (by omega) W (hu.later hf))
  obtain ⟨S, hS⟩ : ∃ S, evsE xs 60 = S := ⟨_, rfl⟩
  have R0 := Lib.hid (evsE_right (xs := xs) (most := 60))
  have O0 := Lib.hid (evsE_once xs 60)
  have L0 := Lib.hid (evsE_le xs 60)
  rw [hS] at HU R0 O0 L0
  clear hu hS
  go_enter Try.func8, Try.ntmps8
  go_wp2_with fail
  refine (awake_any w).mono ?_
  rintro e w1 ⟨rfl, f1⟩
  have F1 := Lib.hid f1
  clear f1
  go_wp2_with fail
  refine (HU.out w1 F1.out).mono ?_
  rintro e w2 ⟨r, rfl, hr, f2⟩
  have hr0 := hr
  obtain ⟨va, vc, rfl, _, hva⟩ := EsIn.of_own hr
  have hcap : S.length ≤ vc := by
    rcases hr0.2 with ⟨h0, h1⟩ | ⟨g, cap, cur, hv, _, _, hn, _⟩
    · omega
    · injection hv with _ _ h; omega
  have hvb : ∀ g o s, va = some ⟨g, o, s⟩ → g < w2.heap.size := fun g o s e => by
    subst e
    rcases hr0.2 with ⟨h0, h1⟩ | ⟨g', cap, cur, hv, _, hg, hn, _⟩
    · cases h0
    · injection hv with hv
      injection hv with hv
      injection hv with hv
      subst hv
      exact (Array.getElem?_eq_some_iff.1 hg).1
  have HVb := Lib.hid hvb
  clear hvb
  have F2 := Lib.hid (F1.out.trans f2)
  have Hva := Lib.hid hva
  clear f2 hr hr0 hva HU
  obtain ⟨L, hL⟩ : ∃ n, S.length = n := ⟨_, rfl⟩
  rw [hL] at L0 hcap ⊢
  have N0 := Lib.hid hL
  clear hL
  have hL60 : L ≤ 60 := L0.out
  obtain ⟨n, hn, hnL⟩ : ∃ n : Nat, (t % ((L : Int) + 1)) = n ∧ n ≤ L := by
    have h1 := Int.emod_nonneg t (show ((L : Int) + 1) ≠ 0 by omega)
    have h2 := Int.emod_lt_of_pos t (show (0 : Int) < (L : Int) + 1 by omega)
    exact ⟨(t % ((L : Int) + 1)).toNat, by omega, by omega⟩
  have w1' : IntKind.i64.wrap ((L : Int) + 1) = (L : Int) + 1 := IntWalk.i64_in _ (by omega)
  have w2' : Int.tmod t ((L : Int) + 1) = (n : Int) := by rw [Int.tmod_eq_emod_of_nonneg ht.1]; exact hn
  have w3' : IntKind.i64.wrap t = t := IntWalk.i64_in _ (by omega)
  have w4' : IntKind.i64.wrap (n : Int) = (n : Int) := IntWalk.i64_in _ (by omega)
  have b1 : ((L : Int) + 1 == 0) = false := by simp; omega
  go_wp2_with fail
  refine (filled_any (c := 60) (cap := vc) S Hva.out N0.out hL60 (by omega) R0.out O0.out).mono ?_
  rintro e w3 ⟨qb, ft, r, rfl, hq, hr, hge, hno, hf⟩
  obtain ⟨Z, hZ⟩ : ∃ Z, putsE S [] = Z := ⟨_, rfl⟩
  rw [hZ] at hq hr
  have HZ := Lib.hid hZ
  have HQ := Lib.hid (show St w w3 qb 60 L Z ft from ⟨hq, F2.out.trans hf, fun k hk => Nat.le_trans F2.out.size (hge k hk)⟩)
  have HR := Lib.hid (show KeptR w3 w2.heap.size r Z ft from ⟨hr, hno⟩)
  have Hva := Lib.hid (Hva.out.later hf)
  have F23 := Lib.hid hf
  clear hq hr hge hno hf hZ
  have n1 : (0 : Int) ≤ (n : Int) := by omega
  have n2 : (n : Int) ≤ (L : Int) := by omega
  have n3 : (n : Int) ≤ (vc : Int) := by omega
  have n4 : (L : Int) ≤ (vc : Int) := by omega
  go_wp2_with fail
  refine wp_region_held_drew (S := fun W' => Fr0 none' w3 W') (by kernel_rfl) ((Fr0.refl none' w3).drew) (fun hHeld => ?_)
  refine take_on (i := 0) (v := .slice va L vc) rfl (by kernel_rfl) (by kernel_rfl) (by kernel_rfl) (fun _ _ _ h => h) (by kernel_rfl) (fun W' hSW => ?_) (by assumption) ?_
  · first | (go_simp; done) | exact rfl | (go_simp; rfl) | (go_simp; omega)
  try simp only [Act.put, List.setIfInBounds_toArray, List.set_cons_zero, List.set_cons_succ]
  refine take_on (i := 1) (v := .int .i64 n) rfl (by kernel_rfl) (by kernel_rfl) (by kernel_rfl) (fun _ _ _ h => h) (by kernel_rfl) (fun W' hSW => ?_) (by assumption) ?_
  · first | (go_simp; done) | exact rfl | (go_simp; rfl) | (go_simp; omega)
  try simp only [Act.put, List.setIfInBounds_toArray, List.set_cons_zero, List.set_cons_succ]
  refine take_on (i := 2) (v := .slice (dA vc n va) (L - n) (vc - n)) rfl (by kernel_rfl) (by kernel_rfl) (by kernel_rfl) (fun _ _ _ h => h) (by kernel_rfl) (fun W' hSW => ?_) (by assumption) ?_
  · go_simp
    unfold dA
    first | done | rfl | simp
  try simp only [Act.put, List.setIfInBounds_toArray, List.set_cons_zero, List.set_cons_succ]
  refine take_on (i := 3) (v := .slice va L vc) rfl (by kernel_rfl) (by kernel_rfl) (by kernel_rfl) (fun _ _ _ h => h) (by kernel_rfl) (fun W' hSW => ?_) (by assumption) ?_
  · first | (go_simp; done) | exact rfl | (go_simp; rfl) | (go_simp; omega)
  try simp only [Act.put, List.setIfInBounds_toArray, List.set_cons_zero, List.set_cons_succ]
  refine take_on (i := 4) (v := .int .i64 n) rfl (by kernel_rfl) (by kernel_rfl) (by kernel_rfl) (fun _ _ _ h => h) (by kernel_rfl) (fun W' hSW => ?_) (by assumption) ?_
  · first | (go_simp; done) | exact rfl | (go_simp; rfl) | (go_simp; omega)
  try simp only [Act.put, List.setIfInBounds_toArray, List.set_cons_zero, List.set_cons_succ]
  refine take_on (i := 5) (v := .slice va n vc) rfl (by kernel_rfl) (by kernel_rfl) (by kernel_rfl) (fun _ _ _ h => h) (by kernel_rfl) (fun W' hSW => ?_) (by assumption) ?_
  · first | (go_simp; done) | exact rfl | (go_simp; rfl) | (go_simp; omega)
  try simp only [Act.put, List.setIfInBounds_toArray, List.set_cons_zero, List.set_cons_succ]
  refine take_call (i := 6) rfl (by kernel_rfl) (by kernel_rfl) (fun K hK => ?_)
  go_simp
  obtain ⟨lb, hlb⟩ : ∃ lb, w3.heap.size = lb := ⟨_, rfl⟩
  obtain ⟨W4, hW4⟩ : ∃ W, (w3.alloc (.cells #[.slice (dA vc n va) (L - n) (vc - n), .slice va n vc] 28)).drew = W := ⟨_, rfl⟩
  have hf : Fr0 none' w3 W4 := by rw [← hW4]; exact ((Fr0.refl none' w3).alloc _).drew
  have HT := Lib.hid (show TwoRowsE W4 lb (dA vc n va) va (L - n) n (vc - n) vc (S.drop n) (S.take n) from ⟨by rw [← hW4, ← hlb]; exact World.alloc_heap_new w3 _, (Hva.out.rest (by rw [N0.out]; exact hcap) n).later hf, (Hva.out.take n).later hf, by rw [List.length_drop, N0.out], by rw [List.length_take, N0.out]; omega, by omega, by omega⟩)
  rw [hW4]
  try rw [hlb]
  have F34 := Lib.hid hf
  clear hW4 hlb hf
  refine hK.out _ _ F34.out (fun hHeld => ?_)
  clear hK K
  try simp only [Act.put, List.setIfInBounds_toArray, List.set_cons_zero, List.set_cons_succ]
  refine take_call (i := 7) rfl (by kernel_rfl) (by kernel_rfl) (fun K hK => ?_)
  go_simp
  refine (Concat2E lb _ _ _ _ _ _ _ _ W4 HT.out).mono ?_
  rintro e w5 ⟨v5, rfl, hr5, hf5⟩
  obtain ⟨ca, cc, rfl, hcl, hca⟩ := EsIn.of_own hr5
  have F35 := Lib.hid (F34.out.trans hf5)
  have Hca := Lib.hid hca
  have Hcl := Lib.hid hcl
  clear hr5 hf5 hca hcl HT
  go_wp2_with fail
  refine hK.out _ _ F35.out (fun hHeld => ?_)
  clear hK K
  try simp only [Act.put, List.setIfInBounds_toArray, List.set_cons_zero, List.set_cons_succ]
  refine take_call (i := 8) rfl (by kernel_rfl) (by kernel_rfl) (fun K hK => ?_)
  go_simp
  refine (filled_any (c := 60) (cap := cc) (n := L) (S.drop n ++ S.take n) Hca.out (by rw [List.length_append, List.length_drop, List.length_take, N0.out]; omega) (by omega) (by omega) (fun x hx => R0.out x (by
    rcases List.mem_append.1 hx with h | h
    · exact List.mem_of_mem_drop h
    · exact List.mem_of_mem_take h)) (OnceE.perm O0.out (by
      have := List.perm_append_comm (l₁ := S.take n) (l₂ := S.drop n)
      rwa [List.take_append_drop] at this))).mono ?_
  rintro e w6 ⟨pb, gt, r6, rfl, hq, hr, hge, hno, hf⟩
  clear hr hno
  have hzp : putsE (S.drop n ++ S.take n) [] = Z := by
    rw [← HZ.out]
    refine (putsE_ext ?_ O0.out).symm
    have := List.perm_append_comm (l₁ := S.take n) (l₂ := S.drop n)
    rwa [List.take_append_drop] at this
  rw [hzp] at hq
  have F36 := Lib.hid (F35.out.trans hf)
  have HP := Lib.hid (show St w w6 pb 60 L Z gt from ⟨hq, (HQ.out.2.1.trans F35.out).trans hf, fun k hk => Nat.le_trans (HQ.out.2.1.trans F35.out).size (hge k hk)⟩)
  have HD := Lib.hid (show ∀ k, ft k → ¬ gt k from fun k hk hg => by have := HQ.out.1.lt k hk; have := hge k hg; have := F35.out.size; omega)
  have HR := Lib.hid (show KeptR w6 w2.heap.size r Z (fun k => ft k ∨ gt k) from ⟨(HR.out.later F36.out).1, fun g hg hk => hk.elim (HR.out.2 g hg) (fun h => by have := hge g h; have := (HR.out.1.lt g hg).2; have := F35.out.size; omega)⟩)
  have HQ := Lib.hid (HQ.out.later F36.out)
  have Hva := Lib.hid (Hva.out.later F36.out)
  clear hq hge hf hzp Hca Hcl
  go_wp2_with fail
  refine hK.out _ _ F36.out (fun hHeld => ?_)
  clear hK K
  try simp only [Act.put, List.setIfInBounds_toArray, List.set_cons_zero, List.set_cons_succ]
  refine take_on (i := 9) (v := .tuple #[.pointer (some ⟨pb, 0, none⟩), r6]) rfl (by kernel_rfl) (by kernel_rfl) (by kernel_rfl) (fun _ _ _ h => h) (by kernel_rfl) (fun W' hSW => ?_) (by assumption) ?_
  · first | (go_simp; done) | exact rfl | (go_simp; rfl) | (go_simp; omega)
  try simp only [Act.put, List.setIfInBounds_toArray, List.set_cons_zero, List.set_cons_succ]
  refine take_on (i := 10) (v := .pointer (some ⟨pb, 0, none⟩)) rfl (by kernel_rfl) (by kernel_rfl) (by kernel_rfl) (fun _ _ _ h => h) (by kernel_rfl) (fun W' hSW => ?_) (by assumption) ?_
  · first | (go_simp; done) | exact rfl | (go_simp; rfl) | (go_simp; omega)
  try simp only [Act.put, List.setIfInBounds_toArray, List.set_cons_zero, List.set_cons_succ]
  refine take_on (i := 11) (v := r6) rfl (by kernel_rfl) (by kernel_rfl) (by kernel_rfl) (fun _ _ _ h => h) (by kernel_rfl) (fun W' hSW => ?_) (by assumption) ?_
  · first | (go_simp; done) | exact rfl | (go_simp; rfl) | (go_simp; omega)
  try simp only [Act.put, List.setIfInBounds_toArray, List.set_cons_zero, List.set_cons_succ]
  refine take_on (i := 12) (v := .pointer (some ⟨pb, 0, none⟩)) rfl (by kernel_rfl) (by kernel_rfl) (by kernel_rfl) (fun _ _ _ h => h) (by kernel_rfl) (fun W' hSW => ?_) (by assumption) ?_
  · first | (go_simp; done) | exact rfl | (go_simp; rfl) | (go_simp; omega)
  try simp only [Act.put, List.setIfInBounds_toArray, List.set_cons_zero, List.set_cons_succ]
  refine take_on (i := 13) (v := r6) rfl (by kernel_rfl) (by kernel_rfl) (by kernel_rfl) (fun _ _ _ h => h) (by kernel_rfl) (fun W' hSW => ?_) (by assumption) ?_
  · first | (go_simp; done) | exact rfl | (go_simp; rfl) | (go_simp; omega)
  try simp only [Act.put, List.setIfInBounds_toArray, List.set_cons_zero, List.set_cons_succ]
  refine wpAnyH_done (by kernel_rfl) ?_ _
  clear hHeld F34 F35
  go_wp2_with fail
  refine (filled_any (c := 60) (cap := vc) (n := n) (S.take n) (Hva.out.take n) (by rw [List.length_take, N0.out]; omega) (by omega) (by omega) (fun x hx => R0.out x (List.mem_of_mem_take hx)) (once_sub O0.out (List.take_sublist _ _))).mono ?_
  rintro e w7 ⟨sb, st, r7, rfl, hq, hr, hge, hno, hf⟩
  clear hr hno
  have HS := Lib.hid (show St w w7 sb 60 n (putsE (S.take n) []) st from ⟨hq, HP.out.2.1.trans hf, fun k hk => Nat.le_trans HP.out.2.1.size (hge k hk)⟩)
  have HG := Lib.hid hge
  have HSd := Lib.hid (show ∀ k, (ft k ∨ gt k) → ¬ st k from fun k hk hs => by
    have := hge k hs
    rcases hk with hk | hk
    · have := HQ.out.1.lt k hk; omega
    · have := HP.out.1.lt k hk; omega)
  have HG0 := Lib.hid (show Fr0 none' w2 w6 from F23.out.trans F36.out)
  have hdA : (if vc = n then va else Option.map (fun x => x.add (n * 5)) va) = dA vc n va := rfl
  have hva7 : ∀ g o s, dA vc n va = some ⟨g, o, s⟩ → ¬ st g := fun g o s e hk => by
    obtain ⟨o', s', e2⟩ := dA_block e
    have h1 := hge g hk
    have h2 := HVb.out g o' s' e2
    have h3 := (F2.out.trans (Fr0.refl none' w2)).size
    have h4 := HG0.out.size
    omega
  have Hva7 := Lib.hid hva7
  have HQ := Lib.hid (HQ.out.later hf)
  have HP := Lib.hid (HP.out.later hf)
  have HR := Lib.hid (show KeptR w7 w2.heap.size r Z (fun k => (ft k ∨ gt k) ∨ st k) from ⟨(HR.out.later hf).1, fun g hg hk => hk.elim (HR.out.2 g hg) (fun h => by have := hge g h; have := (HR.out.1.lt g hg).2; omega)⟩)
  have Hva := Lib.hid (Hva.out.later hf)
  clear hq hge hf hva7
  go_wp2_with fail
  have hpz : OnceE (S.drop n ++ putsE (S.take n) []) := OnceE.perm O0.out (by
    have h1 := List.perm_append_comm (l₁ := S.take n) (l₂ := S.drop n)
    rw [List.take_append_drop] at h1
    have h2 := putsE_perm (S.take n) []
    rw [List.append_nil] at h2
    exact h1.trans (List.Perm.append_left _ h2.symm))
  obtain ⟨e1, e2⟩ := all_ok (n := 60) (E := putsE (S.take n) []) (l := S.drop n) (fun x hx => R0.out x (List.mem_of_mem_drop hx)) hpz (by rw [putsE_length, List.length_take, List.length_drop, List.length_nil, N0.out]; omega)
  rw [← putsE_append, List.take_append_drop, HZ.out] at e2
  have HA := HS.out.1.putAll (m := L - n) (cap := vc - n) (S.drop n) (Hva.out.rest (by rw [N0.out]; exact hcap) n) (by rw [List.length_drop, N0.out]) (by omega) (by omega) Hva7.out
  rw [e1, e2] at HA
  clear hpz e1 e2
  refine HA.mono ?_
  rintro e w8 ⟨rfl, hq, hf⟩
  clear HA
  have hs := @qgrow_or st w7 w8
  have HR := Lib.hid (HR.out.right hs hf)
  have HR := Lib.hid (show KeptR w8 w2.heap.size r Z (fun k => ft k ∨ gt k) from ⟨HR.out.1, fun g hg hk => HR.out.2 g hg (.inl hk)⟩)
  have HQ := Lib.hid (HQ.out.other HS.out.2.2 (fun k hk => HSd.out k (.inl hk)) hf)
  have HP := Lib.hid (HP.out.other HS.out.2.2 (fun k hk => HSd.out k (.inr hk)) hf)
  have HS := Lib.hid (HS.out.step2 hq hs hf)
  clear hq hs hf hdA
  have HZl := Lib.hid (show Z.length ≤ 60 from HQ.out.1.le.1)
  obtain ⟨ra, rc, hra, -⟩ := HR.out.slice
  subst hra
  go_wp2_with fail
  refine HQ.out.1.all.mono ?_
  rintro e wA ⟨vA, rfl, hr1, hf⟩
  have HQ := Lib.hid (HQ.out.later hf)
  have HP := Lib.hid (HP.out.later hf)
  have HS := Lib.hid (HS.out.later hf)
  have HR := Lib.hid (HR.out.later hf)
  clear hf
  obtain ⟨_, _, hRe, hrz⟩ := HR.out.slice
  injection hRe with hE1 hE2 hE3
  subst hE1
  obtain ⟨sa, sc, rfl, _, hsa⟩ := EsIn.of_own hr1
  have HE := Lib.hid (sameEs_any sa ra _ _ sc rc Z Z wA rfl rfl (by have := HZl.out; omega) (by have := HZl.out; omega) hsa hrz)
  clear hr1 hsa hrz hE2 hE3
  rw [decide_eq_true rfl] at HE
  go_wp2_with fail
  refine HE.out.mono ?_
  rintro e wB ⟨rfl, hf⟩
  clear HE
  have HQ := Lib.hid (HQ.out.later hf)
  have HP := Lib.hid (HP.out.later hf)
  have HS := Lib.hid (HS.out.later hf)
  have HR := Lib.hid (HR.out.later hf)
  clear hf
  go_wp2_with fail
  refine HP.out.1.all.mono ?_
  rintro e wA ⟨vA, rfl, hr1, hf⟩
  have HQ := Lib.hid (HQ.out.later hf)
  have HP := Lib.hid (HP.out.later hf)
  have HS := Lib.hid (HS.out.later hf)
  have HR := Lib.hid (HR.out.later hf)
  clear hf
  obtain ⟨_, _, hRe, hrz⟩ := HR.out.slice
  injection hRe with hE1 hE2 hE3
  subst hE1
  obtain ⟨sa, sc, rfl, _, hsa⟩ := EsIn.of_own hr1
  have HE := Lib.hid (sameEs_any sa ra _ _ sc rc Z Z wA rfl rfl (by have := HZl.out; omega) (by have := HZl.out; omega) hsa hrz)
  clear hr1 hsa hrz hE2 hE3
  rw [decide_eq_true rfl] at HE
  go_wp2_with fail
  refine HE.out.mono ?_
  rintro e wB ⟨rfl, hf⟩
  clear HE
  have HQ := Lib.hid (HQ.out.later hf)
  have HP := Lib.hid (HP.out.later hf)
  have HS := Lib.hid (HS.out.later hf)
  have HR := Lib.hid (HR.out.later hf)
  clear hf
  go_wp2_with fail
  refine HS.out.1.all.mono ?_
  rintro e wA ⟨vA, rfl, hr1, hf⟩
  have HQ := Lib.hid (HQ.out.later hf)
  have HP := Lib.hid (HP.out.later hf)
  have HS := Lib.hid (HS.out.later hf)
  have HR := Lib.hid (HR.out.later hf)
  clear hf
  obtain ⟨_, _, hRe, hrz⟩ := HR.out.slice
  injection hRe with hE1 hE2 hE3
  subst hE1
  obtain ⟨sa, sc, rfl, _, hsa⟩ := EsIn.of_own hr1
  have HE := Lib.hid (sameEs_any sa ra _ _ sc rc Z Z wA rfl rfl (by have := HZl.out; omega) (by have := HZl.out; omega) hsa hrz)
  clear hr1 hsa hrz hE2 hE3
  rw [decide_eq_true rfl] at HE
  go_wp2_with fail
  refine HE.out.mono ?_
  rintro e wB ⟨rfl, hf⟩
  clear HE
  have HQ := Lib.hid (HQ.out.later hf)
  have HP := Lib.hid (HP.out.later hf)
  have HS := Lib.hid (HS.out.later hf)
  have HR := Lib.hid (HR.out.later hf)
  clear hf
  go_wp2_with fail
  clear HS
  go_loopw [15, 16, 17, 18, 19, 20, 21, 22, 106] (fun _ _ _ _ _ _ _ _ i wr => ∃ (k : Nat) (fk gk : Nat → Prop), k ≤ Z.length ∧ i = .int .i64 k ∧ Hid (St w wr qb 60 L (Z.drop k) fk) ∧ Hid (St w wr pb 60 L (Z.drop k) gk) ∧ Hid (∀ k, fk k → ¬ gk k) ∧ Hid (KeptR wr w2.heap.size (.slice ra Z.length rc) Z (fun k => fk k ∨ gk k))) (fun _ _ _ _ _ _ _ _ i _ => Z.length - (Go.RowKit.intOf i).toNat)
  case atStart => exact ⟨0, ft, gt, Nat.zero_le _, rfl, HQ, HP, HD, HR⟩
  case round =>
    obtain ⟨k, fk, gk, hk, rfl, HQ, HP, HD, HR⟩ := hrel
    have hz60 := HZl.out
    by_cases hlt : k < Z.length
    · obtain ⟨x, hx⟩ : ∃ x, Z[k]? = some x := ⟨_, List.getElem?_eq_getElem hlt⟩
      have hdr : Z.drop k = x :: Z.drop (k + 1) := by
        rw [List.drop_eq_getElem_cons hlt]
        congr 1
        rw [List.getElem?_eq_getElem hlt] at hx
        exact Option.some.inj hx
      obtain ⟨_, _, hEe, hEi⟩ := HR.out.slice
      injection hEe with hE1 hE2 hE3
      subst hE1
      obtain ⟨g2, o, rfl, hxc⟩ := hEi k x hx
      obtain ⟨x0, x1, x2, x3, x4⟩ := hxc
      have k1 : (0 : Int) ≤ (k : Int) := by omega
      have k2 : (k : Int) < (Z.length : Int) := by omega
      have w5' : IntKind.i64.wrap ((Z.length : Int) - (k : Int)) = ((Z.length - k : Nat) : Int) := by rw [IntWalk.i64_in _ (by omega)]; omega
      have w6' : IntKind.i64.wrap (((Z.length - k : Nat) : Int) - 1) = ((Z.length - (k + 1) : Nat) : Int) := by rw [IntWalk.i64_in _ (by omega)]; omega
      clear hx hE2 hE3 hEi
      go_wp2_with fail
      obtain ⟨ob, hob⟩ : ∃ ob, (wr).heap.size = ob := ⟨_, rfl⟩
      obtain ⟨W3, hW⟩ : ∃ W, (wr).alloc (.cells #[.int .i64 x.key.time, .int .i64 x.key.source, .int .i64 x.key.seq, .int .i64 x.to, .int .i64 x.value] 34) = W := ⟨_, rfl⟩
      have hf : Fr0 none' (wr) W3 := by rw [← hW]; exact (Fr0.refl _ _).alloc _
      have HB0 := Lib.hid (show KeptB W3 ob (cev x) 34 (fun k => fk k ∨ gk k) from ⟨by rw [← hW, ← hob]; exact World.alloc_heap_new _ _, fun hk => by
        rcases hk with hk | hk
        · have := HQ.out.1.lt _ hk; omega
        · have := HP.out.1.lt _ hk; omega⟩)
      have HQ := Lib.hid (HQ.out.later hf)
      have HP := Lib.hid (HP.out.later hf)
      have HR := Lib.hid (HR.out.later hf)
      rw [hW]
      try rw [hob]
      clear hW hob
      clear x0 x1 x2 x3 x4
      refine HQ.out.1.least.mono ?_
      rintro e w4 ⟨rfl, hf⟩
      have HQ := Lib.hid (HQ.out.later hf)
      have HP := Lib.hid (HP.out.later hf)
      have HR := Lib.hid (HR.out.later hf)
      have HB0 := Lib.hid (HB0.out.later hf)
      clear hf
      rw [hdr] at HQ HP ⊢
      simp only [lstE, evV, List.isEmpty_cons, Bool.not_false]
      go_wp2_with fail
      obtain ⟨ob, hob⟩ : ∃ ob, (w4).heap.size = ob := ⟨_, rfl⟩
      obtain ⟨W5, hW⟩ : ∃ W, (w4).alloc (.cells #[.int .i64 x.key.time, .int .i64 x.key.source, .int .i64 x.key.seq, .int .i64 x.to, .int .i64 x.value] 34) = W := ⟨_, rfl⟩
      have hf : Fr0 none' (w4) W5 := by rw [← hW]; exact (Fr0.refl _ _).alloc _
      have HB1 := Lib.hid (show KeptB W5 ob (cev x) 34 (fun k => fk k ∨ gk k) from ⟨by rw [← hW, ← hob]; exact World.alloc_heap_new _ _, fun hk => by
        rcases hk with hk | hk
        · have := HQ.out.1.lt _ hk; omega
        · have := HP.out.1.lt _ hk; omega⟩)
      have HQ := Lib.hid (HQ.out.later hf)
      have HP := Lib.hid (HP.out.later hf)
      have HR := Lib.hid (HR.out.later hf)
      rw [hW]
      try rw [hob]
      clear hW hob
      have HB0 := Lib.hid (HB0.out.later hf)
      clear hf
      refine (HQ.out.1.take (by omega)).mono ?_
      rintro e w6 ⟨rfl, hq, hf⟩
      have hs := @qgrow_or fk W5 w6
      have HB0 := Lib.hid (HB0.out.left hs hf)
      have HB1 := Lib.hid (HB1.out.left hs hf)
      have HR := Lib.hid (HR.out.left hs hf)
      have HDn := Lib.hid (HP.out.apart (fun k h1 h2 => HD.out k h2 h1) hs)
      have HP := Lib.hid (HP.out.other HQ.out.2.2 (fun k h1 h2 => HD.out k h2 h1) hf)
      have HQ := Lib.hid (HQ.out.step2 hq hs hf)
      have HD := Lib.hid (fun k h1 h2 => HDn.out k h2 h1)
      clear hq hs hf
      rw [if_neg (by simp)]
      simp only [lstE, evV, List.tail_cons] at HQ ⊢
      go_wp2_with fail
      obtain ⟨ob, hob⟩ : ∃ ob, (w6).heap.size = ob := ⟨_, rfl⟩
      obtain ⟨W7, hW⟩ : ∃ W, (w6).alloc (.cells #[.int .i64 x.key.time, .int .i64 x.key.source, .int .i64 x.key.seq, .int .i64 x.to, .int .i64 x.value] 34) = W := ⟨_, rfl⟩
      have hf : Fr0 none' (w6) W7 := by rw [← hW]; exact (Fr0.refl _ _).alloc _
      have HB2 := Lib.hid (show KeptB W7 ob (cev x) 34 (fun k => qgrow fk W5 w6 k ∨ gk k) from ⟨by rw [← hW, ← hob]; exact World.alloc_heap_new _ _, fun hk => by
        rcases hk with hk | hk
        · have := HQ.out.1.lt _ hk; omega
        · have := HP.out.1.lt _ hk; omega⟩)
      have HQ := Lib.hid (HQ.out.later hf)
      have HP := Lib.hid (HP.out.later hf)
      have HR := Lib.hid (HR.out.later hf)
      rw [hW]
      try rw [hob]
      clear hW hob
      have HB0 := Lib.hid (HB0.out.later hf)
      have HB1 := Lib.hid (HB1.out.later hf)
      clear hf
      refine (HP.out.1.take (by omega)).mono ?_
      rintro e w8 ⟨rfl, hq, hf⟩
      have hs := @qgrow_or gk W7 w8
      have HB0 := Lib.hid (HB0.out.right hs hf)
      have HB1 := Lib.hid (HB1.out.right hs hf)
      have HB2 := Lib.hid (HB2.out.right hs hf)
      have HR := Lib.hid (HR.out.right hs hf)
      have HDn := Lib.hid (HQ.out.apart HD.out hs)
      have HQ := Lib.hid (HQ.out.other HP.out.2.2 HD.out hf)
      have HP := Lib.hid (HP.out.step2 hq hs hf)
      have HD := HDn
      clear hq hs hf
      rw [if_neg (by simp)]
      simp only [lstE, evV, List.tail_cons] at HP ⊢
      obtain ⟨W9, hW⟩ : ∃ W, w8.alloc (.cells #[.int .i64 x.key.time, .int .i64 x.key.source, .int .i64 x.key.seq, .int .i64 x.to, .int .i64 x.value] 34) = W := ⟨_, rfl⟩
      have hf : Fr0 none' w8 W9 := by rw [← hW]; exact (Fr0.refl _ _).alloc _
      have HB3 := Lib.hid (show W9.heap[w8.heap.size]? = some (.cells (cev x).toArray 34 (0, 0)) by rw [← hW]; exact World.alloc_heap_new _ _)
      have HQ := Lib.hid (HQ.out.later hf)
      have HP := Lib.hid (HP.out.later hf)
      have HR := Lib.hid (HR.out.later hf)
      have HB0 := Lib.hid (HB0.out.later hf)
      have HB1 := Lib.hid (HB1.out.later hf)
      have HB2 := Lib.hid (HB2.out.later hf)
      clear hf
      have a0 := cells_in HB0.out.1 0
      have a1 := cells_in HB0.out.1 1
      have a2 := cells_in HB0.out.1 2
      have a3 := cells_in HB0.out.1 3
      have a4 := cells_in HB0.out.1 4
      simp [cev] at a0 a1 a2 a3 a4
      have b0 := cells_in HB1.out.1 0
      have b1 := cells_in HB1.out.1 1
      have b2 := cells_in HB1.out.1 2
      have b3 := cells_in HB1.out.1 3
      have b4 := cells_in HB1.out.1 4
      simp [cev] at b0 b1 b2 b3 b4
      have c0 := cells_in HB2.out.1 0
      have c1 := cells_in HB2.out.1 1
      have c2 := cells_in HB2.out.1 2
      have c3 := cells_in HB2.out.1 3
      have c4 := cells_in HB2.out.1 4
      simp [cev] at c0 c1 c2 c3 c4
      have d0 := cells_in HB3.out 0
      have d1 := cells_in HB3.out 1
      have d2 := cells_in HB3.out 2
      have d3 := cells_in HB3.out 3
      have d4 := cells_in HB3.out 4
      simp [cev] at d0 d1 d2 d3 d4
      have hlen := HQ.out.1.len
      rw [List.length_drop] at hlen
      have HL := Lib.hid hlen
      clear hlen
      subst hW
      go_wp2_with fail
      refine HL.out.mono ?_
      rintro e w10 ⟨rfl, rfl⟩
      clear a0 a1 a2 a3 a4 b0 b1 b2 b3 b4 c0 c1 c2 c3 c4 d0 d1 d2 d3 d4 HL
      go_wp2_with fail
      go_roundw
      case rel => exact ⟨k + 1, _, _, by omega, by go_num, HQ, HP, HD, HR⟩
      case measure => simp [Go.RowKit.intOf]; omega
    · have hkn : k = Z.length := by omega
      subst hkn
      rw [List.drop_of_length_le (Nat.le_refl _)] at HQ HP
      go_wp2_with fail
      refine (HQ.out.1.take (by omega)).mono ?_
      rintro e w4 ⟨rfl, hq, hf⟩
      have hs := @qgrow_or fk wr w4
      have HP := Lib.hid (HP.out.other HQ.out.2.2 (fun k h1 h2 => HD.out k h2 h1) hf)
      clear hq hf hs
      rw [if_pos rfl]
      simp only [lstE, zeroEv, evV]
      go_wp2_with fail
      obtain ⟨W5, hW⟩ : ∃ W, w4.alloc (.cells #[.int .i64 0, .int .i64 0, .int .i64 0, .int .i64 0, .int .i64 0] 34) = W := ⟨_, rfl⟩
      have hf : Fr0 none' w4 W5 := by rw [← hW]; exact (Fr0.refl _ _).alloc _
      have HP := Lib.hid (HP.out.later hf)
      rw [hW]
      clear hW hf
      refine (HP.out.1.take (by omega)).mono ?_
      rintro e w6 ⟨rfl, hq, hf⟩
      have HF := Lib.hid (HP.out.2.1.trans' hf (fun i hi hs => by have := HP.out.2.2 i hs; omega))
      clear hq hf
      rw [if_pos rfl]
      simp only [lstE, zeroEv, evV]
      go_wp2_with fail
      go_ret
      exact ⟨rfl, HF.out.alloc _⟩
end Go.Proofs.Ytmcgipilopfgoaa

namespace Go.Proofs.Ytmcgipilopfgoaa.evqOrder
open Go.ChangeShapes Go.WideShapes Go.ChangeAt Go.RowKit Go.Proofs.Ytmcgipilopfgoaa

set_option maxRecDepth 100000 in
theorem lifted (os : Os) (started : os.Started) (H : Type) (enc : TypeId × Value → H) :
    ReturnsInHanded {} Try.checked os 8 .any (Rows.evqOrderSpec.pre6 enc Try.prog Try.f8 Rows.evqOrderRow.domain false) (Rows.evqOrderSpec.post enc Try.prog Try.f8 false true false false) := by
  refine returnsInHanded_of_change (C := Try.checked) own_knob started (by kernel_rfl) Try.func8
    (ChangeSpec.witness6 (enc := enc) (C := Try.checked) false ⟨#[], #[.slice none 0 0, .int .u8 0], []⟩ 8 (by kernel_rfl) (by kernel_rfl) (by kernel_rfl) (by kernel_rfl)) ?_
  intro W base args ds gs before hval0 hW hcnd _
  have hval : ∀ (j : Nat) t v, Try.f8.params[j]? = some t → args[j]? = some v → Value.okWide Try.prog W .any base t v := hval0
  have hW' := hW
  obtain ⟨p, q, hA0, hV, rfl, hfz, hnd⟩ := hW
  have hA : DataW.TrodAll enc Try.prog W 0 (fun _ => true) true Try.f8.params.toList args.toList ds p := hA0
  rw [Try.params8] at hA hval
  obtain ⟨v0, vs0, d0, ds0, p0, q0, hargs, rfl, rfl, h0, r0⟩ := trodAll_cons hA
  obtain ⟨v1, vs1, d1, ds1, p1, q1, rfl, rfl, rfl, h1, r1⟩ := trodAll_cons r0
  obtain ⟨rfl, rfl, rfl⟩ := trodAll_nil r1
  obtain rfl : args = #[v0, v1] := by cases args; simp_all
  obtain ⟨rfl, rfl⟩ := trodVars_none hV
  clear hA0 hval0
  simp only [List.append_nil] at hW'
  have l0 : ∀ x ∈ p0, x.block < W.heap.size := fun x hx => hW'.lt x (by simp [hx])
  have t0 := fun W' (hb : Below W.heap.size W W') => Below.trod laid_own (by kernel_rfl) (of_decide_eq_true (by kernel_rfl)) h0 hb l0
  have l1 : ∀ x ∈ p1, x.block < W.heap.size := fun x hx => hW'.lt x (by simp [hx])
  have t1 := fun W' (hb : Below W.heap.size W W') => Below.trod laid_own (by kernel_rfl) (of_decide_eq_true (by kernel_rfl)) h1 hb l1
  obtain ⟨xs0, hx0⟩ := smalls_arg (hval 0 22 v0 rfl rfl) h0
  obtain ⟨a1, rfl, _, _, w1⟩ := open_int Try.underlying5 (hval 1 5 v1 rfl rfl) h1
  have b1 : 0 ≤ a1 ∧ a1 < 256 := by
    have := bounds_u8 w1
    omega
  refine (EvqOrder_any hx0 b1).mono fun e W' ⟨he, hf⟩ => ?_
  have hg : Below W.heap.size W W' := hf.below (Nat.le_refl _) (fun _ _ h => h)
  subst he
  exact ⟨_, rfl, post_below2 (pa := p0 ++ (p1 ++ ([]))) (pv := []) hW' (fun _ _ _ => (trodAll_cons_mk (shut_bool Try.underlying4 _) trodAll_mk0)) (trodAll_cons_mk (t0 _ hg) (trodAll_cons_mk (t1 _ hg) trodAll_mk0)) (fun _ _ => rfl) hg⟩

theorem over : Rows.evqOrderRow.holds Try.pinned (OpenSpec.ofChange Rows.evqOrderSpec) :=
  OpenClaim.holds_of_wide 8 Try.f8 rfl rfl rfl rfl rfl rfl rfl ⟨rfl, rfl, rfl, rfl, rfl⟩ rfl rfl rfl rfl rfl (by kernel_rfl) Try.func8 (by kernel_rfl)
    (of_decide_eq_true (by kernel_rfl)) (by unfold Func.isWrapper; first | (rw [if_pos (by decide +kernel)]; kernel_rfl) | (rw [if_neg (by decide +kernel)]; exact ⟨rfl, rfl⟩))
    (fun os started H enc _ => lifted os started H enc)

theorem proved : Rows.EvqOrderSaid := over
#print axioms proved
end Go.Proofs.Ytmcgipilopfgoaa.evqOrder
