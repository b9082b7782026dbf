/- KeyReads: the statement, and its tied card: for any arguments the law returns true, and the arguments read as before. -/
import Derived.Test.YtkohmodnjcoapaaGreatDoorJb3
import Derived.Test.YtkohmodnjcoapaaGreatDoorJb2
import Derived.Lib.SliceRun
import Derived.Test.YtkohmodnjcoapaaGreatDoorCards
import Derived.Test.YtkohmodnjcoapaaGreatDoorTie
set_option linter.unusedSimpArgs false
set_option linter.unusedVariables false

/-
  KeyReads.
-/
namespace Go.Proofs.YtkohmodnjcoapaaGreatDoor
open Go Go.RowKit
attribute [local go_sem ↓] Go.wp_at_zero Go.wp_at_succ
attribute [local go_sem] Oper.semAt_some wide_fn wide_depth wide_fnR wide_depthR
attribute [local go_sem high] run_neq_k run_eql_k

theorem BsIn.cells {w : World} {a : Addr} {l : List UInt8} (h : BsIn w (some a) l) : ∀ j u, (Lib.byteCells l)[j]? = some u → w.cell? (a.add j) = some u := fun j u hj => by
  rw [Lib.byteCells, List.getElem?_map] at hj
  obtain ⟨x, hx, rfl⟩ := Option.map_eq_some_iff.1 hj
  obtain ⟨g, o, e, hc⟩ := h j x hx
  injection e with e
  subst e
  unfold Addr.add
  split
  · next h0 => subst h0; exact hc
  · exact hc
set_option maxRecDepth 100000 in
set_option maxHeartbeats 2000000 in
theorem Clone_bytes {w : World} {a : Option Addr} {n cap : Nat} {l : List UInt8} (h : BsIn w a l) (hl : l.length = n) (hn : n ≤ 1000) :
    Calls Tryz.prog 17 #[.slice a n cap] w fun e w' => ∃ a' c', e = .returned (.slice a' n c') ∧ n ≤ c' ∧ c' ≤ maxLen ∧ BsIn w' a' l ∧ Fr0 none' w w' := by
  obtain ⟨i0, hi, hz0, hz1, hz2⟩ := info_parts info_byte
  have H := Lib.hid h
  clear h
  cases a with
  | none =>
    have hl0 : l = [] := by
      cases l with
      | nil => rfl
      | cons x r => obtain ⟨g, o, e, _⟩ := H.out 0 x rfl; cases e
    subst hl0
    obtain rfl : n = 0 := by simpa using hl.symm
    have q : ∀ (w : World), (binOp .eql 30 (.slice none 0 cap) (.slice none 0 0)).run Tryz.prog w = .ok (.bool true) w := fun w => Lib.run_eql_slice_nil w _ _ none 0 cap 0 0 Tryz.underlying30
    go_enter Tryz.func17, Tryz.ntmps17
    go_wp2
    go_ret
    exact ⟨_, _, rfl, Nat.zero_le _, Nat.zero_le _, H.out, Fr0.refl _ _⟩
  | some a =>
    have q : ∀ (w : World), (binOp .eql 30 (.slice (some a) n cap) (.slice none 0 0)).run Tryz.prog w = .ok (.bool false) w := fun w => Lib.run_eql_slice_nil w _ _ (some a) n cap 0 0 Tryz.underlying30
    have hrow := World.ownsRow_made (e := 5) (size := 1) w #[] 0 (Nat.le_refl _) (Nat.zero_le _) (by simp)
    have Hrow := Lib.hid hrow
    have hsrc := Lib.hid (show Src Tryz.prog 1 30 (.slice (some a) n cap) n (Lib.byteCells l) (w.alloc (.cells #[] 5)) from Src.ofSlice _ Tryz.underlying30 a n cap (Lib.byteCells l) (by rw [Lib.byteCells_length, hl, Nat.mul_one]) ((H.out.later ((Fr0.refl none' w).alloc _)).cells) (fun u hu => by obtain ⟨x, _, rfl⟩ := List.mem_map.1 hu; rfl))
    clear hrow
    go_enter Tryz.func17, Tryz.ntmps17
    go_wp2_with (at_builtin; refine wpList_append_k rfl _ _ 30 30 rfl w.heap.size 5 i0 (.int .u8 0) 1 1 Tryz.underlying30 hi hz0 hz1 hz2 rfl (by decide) (.slice (some ⟨w.heap.size, 0, none⟩) 0 0) 0 [] rfl Hrow.out (.slice (some a) n cap) n _ rfl hsrc.out (by unfold maxLen; omega) (by omega) (by simp) ?_; intro v' w2 hown' hgrow hdr hob; have Hown := Lib.hid hown'; have Hgr := Lib.hid hgrow; clear hown' hgrow hdr hob)
    go_ret
    have hf : Fr0 none' w w2 := ((Fr0.refl none' w).alloc _).grown Hgr.out (fun k hk hlt => by simp [Value.ownBlock] at hk; omega)
    have h1 := Hown.out
    rw [Nat.zero_add, List.nil_append] at h1
    rcases h1.2 with ⟨hv, h0⟩ | ⟨g, c', cur, hv, hb, hg, hnc, hcm, hcs, ht⟩
    · have hl0 : l = [] := List.eq_nil_of_length_eq_zero (by omega)
      subst hl0
      subst hv
      subst h0
      exact ⟨none, 0, rfl, Nat.zero_le _, Nat.zero_le _, fun i x h => by simp at h, hf⟩
    · subst hv
      exact ⟨_, _, rfl, hnc, hcm, BsIn.of_row h1, hf⟩
theorem rRead_all (a : Option Addr) (n cap : Nat) (l : List UInt8) (hl : l.length = n) (hc : n ≤ cap) (hcm : cap ≤ maxLen) (w : World) (hb : BsIn w a l) :
    Calls Tryz.prog 58 #[.slice a n cap] w fun e w' => e = .returned (readV l) ∧ Fr0 none' w w' := by
  by_cases h : n = 12
  · subst h
    obtain ⟨g, o, rfl, _⟩ := hb 0 (l[0]'(by omega)) (List.getElem?_eq_getElem (by omega))
    exact rRead_in g o cap l w hb hl hc hcm
  · have : readV l = .tuple #[keyV zeroK, .int .i64 71] := by
      have h0 : readK l = none := by unfold readK; exact if_neg (fun hh => h (by rw [← hl]; exact hh.1))
      unfold readV; rw [h0]; rfl
    rw [this]
    exact rRead_short a n cap h w
theorem readV_form (l : List UInt8) : ∃ (k : Key3) (E : Int), readV l = .tuple #[.agg #[.int .i64 k.time, .int .i64 k.source, .int .i64 k.seq], .int .i64 E] ∧ IntKind.i64.wrap E = E := by
  unfold readV
  split
  · exact ⟨_, 0, rfl, by decide⟩
  · exact ⟨zeroK, 71, rfl, by decide⟩
theorem rparV_form (l : List UInt8) : ∃ (k : Key3) (E : Int), rparV l = .tuple #[.agg #[.int .i64 k.time, .int .i64 k.source, .int .i64 k.seq], .int .i64 E] ∧ IntKind.i64.wrap E = E := by
  unfold rparV
  split
  · exact ⟨_, 0, rfl, by decide⟩
  · exact ⟨zeroK, 72, rfl, by decide⟩
set_option maxRecDepth 100000 in
set_option maxHeartbeats 4000000 in
theorem reads_any (a : Option Addr) (n cap : Nat) (l : List UInt8) (s : ByteArray) (w : World) (hL : Laid7 w) (hb : BsIn w a l) (hl : l.length = n) (hn : n ≤ 40) (hc : n ≤ cap) (hcm : cap ≤ maxLen) (hs : s.size ≤ 60) :
    Calls Tryz.prog 22 #[.slice a n cap, .string s] w fun e w' => e = .returned (.bool true) ∧ Fr0 none' w w' := by
  have HB := Lib.hid hb
  have HL := Lib.hid hL
  have HC := Lib.hid (Clone_bytes (cap := cap) hb hl (by omega))
  clear hb hL
  go_enter Tryz.func22, Tryz.ntmps22
  go_wp2_with fail
  refine HC.out.mono ?_
  rintro e w1 ⟨a1, c1, rfl, h1, h2, h3, hf⟩
  have S := Lib.hid (show Aw [] w w1 from (Aw.start HL.out).later hf)
  have P1 := Lib.hid h3
  have P2 := Lib.hid (HB.out.later hf)
  clear h3 hf
  go_wp2_with fail
  obtain ⟨k1, x1, hv1, e1⟩ := readV_form l
  obtain ⟨k2, x2, hv2, e2⟩ := rparV_form s.data.toList
  have H1 := Lib.hid hv1
  have H2 := Lib.hid hv2
  have HP := Lib.hid (fun W h => Parse_any s (by omega) W h)
  have HPP := Lib.hid (show parseV s.data.toList = rparV s.data.toList from rfl)
  have HQ := Lib.hid (fun W => rParse_any s (by omega) W)
  clear hv1 hv2
  refine (Read_any a1 n c1 l hl h1 h2 _ P1.out).mono ?_
  rintro e w2 ⟨rfl, hf⟩
  rw [H1.out]
  have S := Lib.hid ((S.out.later hf).new k1)
  have hf := hf.alloc (.cells #[.int .i64 (k1 : Key3).time, .int .i64 (k1 : Key3).source, .int .i64 (k1 : Key3).seq] 28)
  have P1 := Lib.hid (P1.out.later hf)
  have P2 := Lib.hid (P2.out.later hf)
  clear hf
  go_wp2_with fail
  obtain ⟨q1, hq⟩ : ∃ q, w2.heap.size = q := ⟨_, rfl⟩
  rw [hq] at S ⊢
  clear hq
  refine (rRead_all a n cap l hl hc hcm _ P2.out).mono ?_
  rintro e w3 ⟨rfl, hf⟩
  rw [H1.out]
  have S := Lib.hid ((S.out.later hf).new k1)
  have hf := hf.alloc (.cells #[.int .i64 (k1 : Key3).time, .int .i64 (k1 : Key3).source, .int .i64 (k1 : Key3).seq] 28)
  have P1 := Lib.hid (P1.out.later hf)
  have P2 := Lib.hid (P2.out.later hf)
  clear hf
  go_wp2_with fail
  obtain ⟨q2, hq⟩ : ∃ q, w3.heap.size = q := ⟨_, rfl⟩
  rw [hq] at S ⊢
  clear hq
  refine (HP.out _ S.out.laid).mono ?_
  rintro e w4 ⟨rfl, hf⟩
  rw [HPP.out, H2.out]
  have S := Lib.hid ((S.out.later hf).new k2)
  have hf := hf.alloc (.cells #[.int .i64 (k2 : Key3).time, .int .i64 (k2 : Key3).source, .int .i64 (k2 : Key3).seq] 28)
  have P1 := Lib.hid (P1.out.later hf)
  have P2 := Lib.hid (P2.out.later hf)
  clear hf
  go_wp2_with fail
  obtain ⟨q3, hq⟩ : ∃ q, w4.heap.size = q := ⟨_, rfl⟩
  rw [hq] at S ⊢
  clear hq
  refine (HQ.out _).mono ?_
  rintro e w5 ⟨rfl, hf⟩
  rw [H2.out]
  have S := Lib.hid ((S.out.later hf).new k2)
  have hf := hf.alloc (.cells #[.int .i64 k2.time, .int .i64 k2.source, .int .i64 k2.seq] 28)
  have P1 := Lib.hid (P1.out.later hf)
  have P2 := Lib.hid (P2.out.later hf)
  have hcv1 := fun cap => conv_bs (cap := cap) P1.out hl
  have hcv2 := fun cap => conv_bs (cap := cap) P2.out hl
  have ⟨x10, x11, x12⟩ := S.out.cell (b := q1) (k := k1) (by simp)
  have ⟨x20, x21, x22⟩ := S.out.cell (b := q2) (k := k1) (by simp)
  have ⟨x30, x31, x32⟩ := S.out.cell (b := q3) (k := k2) (by simp)
  have ⟨x40, x41, x42⟩ := S.out.cell (b := w5.heap.size) (k := k2) (by simp)
  clear hf
  go_wp2_with fail
  go_ret
  exact ⟨rfl, S.out.fr⟩
set_option maxRecDepth 100000 in
set_option maxHeartbeats 4000000 in
theorem KeyReads_any (a : Option Addr) (n cap : Nat) (l : List UInt8) (s : ByteArray) (w : World) (hL : Laid7 w) (hb : BsIn w a l) (hl : l.length = n) (hc : n ≤ cap) (hcm : cap ≤ maxLen) :
    Calls Tryz.prog 5 #[.slice a n cap, .string s] w fun e w' => e = .returned (.bool true) ∧ Fr0 none' w w' := by
  have HR := Lib.hid (fun (W : World) (hn : n ≤ 40) (hs : s.size ≤ 60) (hL : Laid7 W) (hb : BsIn W a l) => reads_any a n cap l s W hL hb hl hn hc hcm hs)
  have HL := Lib.hid hL
  have HB := Lib.hid hb
  have HA := Lib.hid awake_any
  clear hL hb
  go_enter Tryz.func5, Tryz.ntmps5
  by_cases hn : n ≤ 40
  · by_cases hs : s.size ≤ 60
    · have d1 : decide ((40 : Int) < (n : Int)) = false := decide_eq_false (by omega)
      have d2 : decide ((60 : Int) < (s.size : Int)) = false := decide_eq_false (by omega)
      have HR := Lib.hid (fun W => HR.out W hn hs)
      clear hn hs
      go_wp2_with fail
      refine (HR.out _ HL.out HB.out).mono ?_
      rintro e w1 ⟨rfl, hf⟩
      have F1 := Lib.hid hf
      clear hf
      go_wp2_with fail
      refine (HA.out _ (HL.out.later F1.out)).mono ?_
      rintro e w2 ⟨rfl, hf⟩
      have F2 := Lib.hid (F1.out.trans hf)
      clear hf
      go_wp2_with fail
      go_ret
      exact ⟨rfl, F2.out⟩
    · have d1 : decide ((40 : Int) < (n : Int)) = false := decide_eq_false (by omega)
      have d2 : decide ((60 : Int) < (s.size : Int)) = true := decide_eq_true (by omega)
      clear hn hs
      go_wp2_with fail
      refine (HA.out _ HL.out).mono ?_
      rintro e w2 ⟨rfl, hf⟩
      have F2 := Lib.hid hf
      clear hf
      go_wp2_with fail
      go_ret
      exact ⟨rfl, F2.out⟩
  · have d1 : decide ((40 : Int) < (n : Int)) = true := decide_eq_true (by omega)
    clear hn
    go_wp2_with fail
    refine (HA.out _ HL.out).mono ?_
    rintro e w2 ⟨rfl, hf⟩
    have F2 := Lib.hid hf
    clear hf
    go_wp2_with fail
    go_ret
    exact ⟨rfl, F2.out⟩
end Go.Proofs.YtkohmodnjcoapaaGreatDoor

namespace Go.Proofs.YtkohmodnjcoapaaGreatDoor.keyReads
open Go Go.ChangeShapes Go.WideShapes Go.ChangeAt Go.RowKit Go.Proofs.YtkohmodnjcoapaaGreatDoor

set_option maxRecDepth 100000 in
theorem lifted (os : Os) (started : os.Started) (H : Type) (enc : TypeId × Value → H) :
    ReturnsInHanded {} Tryz.checked os 5 .any (fun w args => (Rows.keyReadsSpec.pre enc Tryz.prog Tryz.f5 Rows.keyReadsRow.domain false w args ∧ laidMet Tryz.prog laidK w) ∧ sizedMet enc Tryz.prog Tryz.f5 (OpenSpec.ofChange Rows.keyReadsSpec) false w args)
      (Rows.keyReadsSpec.post enc Tryz.prog Tryz.f5 false true false false) := by
  refine returnsInHanded_of_change_and (C := Tryz.checked) (X := fun w _ => laidMet Tryz.prog laidK w) (fun _ _ _ hh h => h.of_heap hh) own_knob started (by kernel_rfl) Tryz.func5
    (ChangeSpec.witness_at (enc := enc) (C := Tryz.checked) (os := os) (X := fun w _ => laidMet Tryz.prog laidK w) false (laidWorld os) #[.slice none 0 0, .string ⟨#[]⟩] 8 rfl (by kernel_rfl) (by kernel_rfl) (by kernel_rfl) (by kernel_rfl) (by kernel_rfl) (laidWorld_met os _)) ?_
  intro W base args ds gs before hval0 hW _ hsz0 hL _
  have hval : ∀ (j : Nat) t v, Tryz.f5.params[j]? = some t → args[j]? = some v → Value.okWide Tryz.prog W .any base t v := hval0
  have hW' := hW
  obtain ⟨p, q, hA0, hV, rfl, hfz, hnd⟩ := hW
  have hA : DataW.TrodAll enc Tryz.prog W 0 (fun _ => true) true Tryz.f5.params.toList args.toList ds p := hA0
  rw [Tryz.params5] at hA hval
  obtain ⟨v0, vs0, d0, ds0, p0, q0, hargs, rfl, rfl, h0, r0⟩ := trodAll_cons hA
  obtain ⟨v1, vs1, d1, ds1, p1, q1, rfl, rfl, rfl, h1, r1⟩ := trodAll_cons r0
  obtain ⟨rfl, rfl, rfl⟩ := trodAll_nil r1
  obtain rfl : args = #[v0, v1] := by cases args; simp_all
  obtain ⟨rfl, rfl⟩ := trodVars_none hV
  clear hA0 hval0
  simp only [List.append_nil] at hW'
  have l0 : ∀ x ∈ p0, x.block < W.heap.size := fun x hx => hW'.lt x (by simp [hx])
  have t0 := fun W' (hb : Below W.heap.size W W') => Below.trod laid_own (by kernel_rfl) (of_decide_eq_true (by kernel_rfl)) h0 hb l0
  have l1 : ∀ x ∈ p1, x.block < W.heap.size := fun x hx => hW'.lt x (by simp [hx])
  have t1 := fun W' (hb : Below W.heap.size W W') => Below.trod laid_own (by kernel_rfl) (of_decide_eq_true (by kernel_rfl)) h1 hb l1
  obtain ⟨a0, n0, cap0, l0, rfl, hn0, hc0, hm0, hb0⟩ := bytes8_arg (hval 0 30 v0 rfl rfl) h0
  obtain ⟨s1, rfl, _, _, _⟩ := Go.ChangeMaps.open_string Tryz.underlying9 (hval 1 9 v1 rfl rfl) h1
  refine (KeyReads_any a0 n0 cap0 l0 s1 W (laid7_of hL) hb0 hn0 hc0 hm0).mono fun e W' ⟨he, hg0⟩ => ?_
  have hg := hg0.below (Nat.le_refl _) (fun _ _ h => h)
  subst he
  exact ⟨_, rfl, post_belowK (pa := (p0 ++ (p1 ++ []))) (pv := []) hW' (fun _ _ _ => (trodAll_cons_mk (shut_bool Tryz.underlying4 _) trodAll_mk0)) (trodAll_cons_mk (t0 _ hg) (trodAll_cons_mk (t1 _ hg) trodAll_mk0)) (fun _ _ => rfl) hg⟩

theorem over : Rows.keyReadsRow.holds Tryz.pinned (OpenSpec.ofChange Rows.keyReadsSpec) :=
  OpenClaim.holds_of_wide 5 Tryz.f5 rfl rfl rfl rfl rfl rfl rfl ⟨rfl, rfl, rfl, rfl, rfl⟩ rfl rfl rfl rfl rfl (by kernel_rfl) Tryz.func5 (by kernel_rfl)
    (of_decide_eq_true (by kernel_rfl)) (by unfold Func.isWrapper; first | (rw [if_pos (by decide +kernel)]; kernel_rfl) | (rw [if_neg (by decide +kernel)]; exact ⟨rfl, rfl⟩))
    (fun os started H enc _ => lifted os started H enc)

theorem proved : Rows.KeyReadsCardSaid :=
  Claim7.holds_tied_plain_at .later [] [.data, .data, .data, .sentinel, .sentinel] true _ true
    over (fun _ h => by cases h) (by kernel_rfl) (fun _ h => by cases h) keyReads_row_tie rfl ⟨rfl, rfl⟩ (by kernel_rfl) rfl
    (fun f fn hf hfn => by
      obtain rfl : f = 5 := Option.some.inj ((show Tryz.prog.funcNamed "fermata/fermatalaw07.KeyReads" = some 5 by kernel_rfl).symm.trans hf) |>.symm
      obtain rfl : fn = Tryz.f5 := (Option.some.inj (Tryz.func5.symm.trans hfn)).symm
      exact ⟨by kernel_rfl, fun j t ht => by
        rw [Tryz.params5] at ht
        have sB : Tryz.prog.wantsStandIn 30 = false := by kernel_rfl
        have ss : Tryz.prog.wantsStandIn 9 = false := by kernel_rfl
        have hm : t ∈ [30, 9] := by
          have := Array.mem_of_getElem? ht
          simpa using this
        simp only [List.mem_cons, List.not_mem_nil, or_false, or_self] at hm
        rcases hm with rfl | rfl
        · exact sB
        · exact ss⟩)
    (by kernel_rfl)
#print axioms proved
end Go.Proofs.YtkohmodnjcoapaaGreatDoor.keyReads
