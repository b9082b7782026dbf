/- KeyRead: the statement, and its tied card: for any arguments the law returns true, and the arguments read as before. -/
import Derived.Test.YtkohmodnjcoapaaDoorJb2
import Derived.ChangeSlices
import Derived.Test.YtkohmodnjcoapaaDoorCards
import Derived.Test.YtkohmodnjcoapaaDoorTie
set_option linter.unusedSimpArgs false
set_option linter.unusedVariables false

/-
  Bytes among the arguments of a key law.
-/
namespace Go.Proofs.YtkohmodnjcoapaaDoor
open Go Go.ChangeShapes Go.WideShapes Go.ChangeAt Go.RowKit Go.Deep Go.Joins

set_option maxRecDepth 100000 in
theorem bytes8_arg {base : Nat} {H : Type} {enc : TypeId × Value → H} {W : World} {v : Value} {d : DataW H} {ps : List MemPlace}
    (hval : Value.okWide Tryd.prog W .any base 39 v) (h : DataW.Trod enc Tryd.prog W 0 (fun _ => true) true 39 v d ps) :
    ∃ (a : Option Addr) (n cap : Nat) (l : List UInt8), v = .slice a n cap ∧ l.length = n ∧ n ≤ cap ∧ cap ≤ maxLen ∧ BsIn W a l := by
  obtain ⟨A, n, cap, rfl⟩ := okWide_slice Tryd.underlying39 hval
  obtain ⟨fuel, hf⟩ := h
  rcases open_ints Tryd.underlying39 Tryd.underlying5 (by kernel_rfl) hf with ⟨hcs, _⟩ | ⟨a, len, cap', zs, hcs, _, hl, hm, hz, _, hi, hw⟩
  · simp [Value.cells] at hcs
    obtain ⟨rfl, rfl, rfl⟩ := hcs
    exact ⟨none, 0, 0, [], rfl, rfl, Nat.le_refl _, Nat.zero_le _, fun j x hj => by simp at hj⟩
  · simp [Value.cells] at hcs
    obtain ⟨rfl, rfl, rfl⟩ := hcs
    have hzl : n ≤ zs.length := by rw [hz]; split <;> omega
    refine ⟨some a, n, cap, (zs.take n).map (fun z => UInt8.ofNat z.toNat), rfl, by simp; omega, hl, hm, fun j x hj => ?_⟩
    rw [List.getElem?_map] at hj
    obtain ⟨z, hzj, rfl⟩ := Option.map_eq_some_iff.1 hj
    have hjn : j < n := by
      have := (List.getElem?_eq_some_iff.1 hzj).1
      simp at this; omega
    rw [List.getElem?_take_of_lt hjn] at hzj
    have hb := bounds_u8 (hw z (List.mem_of_getElem? hzj))
    have c0 := hi 0 (by omega)
    have cj := hi j (by omega)
    rw [List.getD_eq_getElem?_getD, hzj] at cj
    obtain ⟨b, off, spot⟩ := a
    have hspot : spot = none := by simpa [Addr.add] using World.cell?_spot c0
    subst hspot
    rw [add_plain] at cj
    refine ⟨b, off, rfl, cj.trans ?_⟩
    have : (UInt8.ofNat z.toNat).toNat = z.toNat := by simp; omega
    rw [this]
    show some (Value.int .u8 z) = some (Value.int .u8 (z.toNat : Int))
    rw [Int.toNat_of_nonneg hb.1]
end Go.Proofs.YtkohmodnjcoapaaDoor

/-
  KeyRead.
-/
namespace Go.Proofs.YtkohmodnjcoapaaDoor
open Go Go.RowKit
attribute [local go_sem ↓] Go.wp_at_zero Go.wp_at_succ
attribute [local go_sem] Oper.semAt_some wide_fn wide_depth wide_fnR wide_depthR
attribute [local go_sem high] run_neq_k run_eql_k

theorem Right_drew (k : Key3) (hk : RightK k) (w : World) : Calls Tryd.prog 19 #[keyV k] w fun e w' => e = .returned (.bool true) ∧ Fr0 none' w w' := by
  have h := Right_any k w
  rw [decide_eq_true hk] at h
  exact h
theorem Aw.put {w z : World} {rb : Nat} {k : Key3} (h : Aw [(rb, k)] w z) (hL : Laid7 w) (hge : w.heap.size ≤ rb) (j : Key3) : Aw [(rb, j)] w (put3 z rb j) := by
  have hf : Fr0 none' w (put3 z rb j) := ((h.fr.setCell (fun h => absurd h (by omega)) _).setCell (fun h => absurd h (by omega)) _).setCell (fun h => absurd h (by omega)) _
  exact ⟨fun p hp => by
    obtain rfl := List.mem_singleton.1 hp
    exact (((h.keys _ (List.mem_singleton.2 rfl)).set0 j.time).set1 j.source).set2 j.seq, hL.later hf, hf⟩
theorem BsIn.bytesIn {w : World} {a : Option Addr} {l : List UInt8} (h : BsIn w a l) {n : Nat} (hn : l.length = n) : Lib.BytesIn w a n (l.map fun b => (b.toNat : Int)) := fun h0 => by
  obtain ⟨g, o, rfl, _⟩ := h 0 l[0] (List.getElem?_eq_getElem (by omega))
  refine ⟨g, o, rfl, fun i hi => ?_⟩
  obtain ⟨g', o', e, hc⟩ := h i l[i] (List.getElem?_eq_getElem (by omega))
  injection e with e
  injection e with e e'
  subst e; subst e'
  rw [hc, List.getD_eq_getElem?_getD, List.getElem?_map, List.getElem?_eq_getElem (by omega)]
  rfl
theorem bytesOf_map' (l : List UInt8) : Lib.bytesOf (l.map fun b => (b.toNat : Int)) = l := by
  induction l with
  | nil => rfl
  | cons b l ih => rw [List.map_cons]; unfold Lib.bytesOf at ih ⊢; rw [List.map_cons, ih]; simp
theorem equal_bs {w : World} {a b : Option Addr} {n m c d : Nat} {l r : List UInt8} (ha : BsIn w a l) (hl : l.length = n) (hb : BsIn w b r) (hr : r.length = m) :
    Calls Tryd.prog 21 #[.slice a n c, .slice b m d] w fun e w' => e = .returned (.bool (l == r)) ∧ w' = w := by
  have h := Tryd.bytes_Equal_all a b n c m d _ _ w (by simpa using hl) (by simpa using hr) (ha.bytesIn hl) (hb.bytesIn hr)
  rw [bytesOf_map', bytesOf_map'] at h
  exact h
set_option maxRecDepth 100000 in
set_option maxHeartbeats 8000000 in
theorem KeyRead_any (a : Option Addr) (n cap : Nat) (l : List UInt8) (s : ByteArray) (w : World) (hL : Laid7 w) (hb : BsIn w a l) (hl : l.length = n) (hc : n ≤ cap) (hcm : cap ≤ maxLen) :
    Calls Tryd.prog 6 #[.slice a n cap, .string s] w fun e w' => e = .returned (.bool true) ∧ Fr0 none' w w' := by
  go_enter Tryd.func6, Tryd.ntmps6
  go_wp2_with fail
  refine (awake_any _ hL).mono ?_
  rintro e w1 ⟨rfl, hf⟩
  have P := Lib.hid (hb.later hf)
  have L := Lib.hid (hL.later hf)
  have F := Lib.hid hf
  have HL := Lib.hid hL
  clear hb hL hf
  go_wp2_with fail
  go_quiet (fail)
  obtain ⟨w2, hw2⟩ : ∃ W, w1.drewN nq = W := ⟨_, rfl⟩
  have f2 : Fr0 none' w1 w2 := by rw [← hw2]; exact (Fr0.refl _ _).drewN _
  have S := Lib.hid (show Aw [] w w2 from ⟨fun z hz => by simp at hz, L.out.later f2, F.out.trans f2⟩)
  have hm : (min (n : Int) 40).toNat ≤ n ∧ (min (n : Int) 40).toNat ≤ 40 := by omega
  obtain ⟨m, hmm⟩ : ∃ m, (min (n : Int) 40).toNat = m := ⟨_, rfl⟩
  rw [hmm] at hm
  obtain ⟨l', hl'⟩ : ∃ l', l.take m = l' := ⟨_, rfl⟩
  have hlen : l'.length = m := by rw [← hl', List.length_take]; omega
  have P := Lib.hid (show BsIn w2 a l' from fun j z hz => (P.out.later f2) j z (by
    rw [← hl'] at hz
    exact (List.getElem?_eq_some_iff.1 hz).elim (fun h1 h2 => by
      rw [List.getElem_take] at h2
      exact List.getElem?_eq_some_iff.2 ⟨by simp at h1; omega, h2⟩)))
  have hts : (s.extract 0 (min (s.size : Int) 60).toNat).size ≤ 60 := by rw [ByteArray.size_extract]; omega
  obtain ⟨t, ht⟩ : ∃ t, s.extract 0 (min (s.size : Int) 60).toNat = t := ⟨_, rfl⟩
  rw [ht] at hts
  rw [hw2, hmm, ht]
  have Hlen := Lib.hid hlen
  have Hts := Lib.hid hts
  have Hm := Lib.hid hm
  have Hc := Lib.hid (show m ≤ cap ∧ cap ≤ maxLen from ⟨by omega, hcm⟩)
  clear hw2 f2 hm hmm hl' hlen hts ht hl hc hcm L F
  go_wp2_with fail
  refine (Read_any a m cap l' Hlen.out Hc.out.1 Hc.out.2 _ P.out).mono ?_
  rintro e w3 ⟨rfl, hf⟩
  cases hr : readK l' with
  | none =>
    rw [show readV l' = .tuple #[.agg #[.int .i64 0, .int .i64 0, .int .i64 0], .int .i64 71] from by unfold readV; rw [hr]; rfl]
    have hge := Lib.hid (S.out.fr.trans hf).size
    have S := Lib.hid ((S.out.later hf).new ⟨0, 0, 0⟩)
    obtain ⟨rb, hrb⟩ : ∃ rb, w3.heap.size = rb := ⟨_, rfl⟩
    rw [hrb] at S hge
    clear hf hr
    go_wp2_with fail
    try rw [hrb]
    clear hrb
    obtain ⟨w4, hw4⟩ : ∃ W, w3.alloc (.cells #[.int .i64 0, .int .i64 0, .int .i64 0] 24) = W := ⟨_, rfl⟩
    rw [hw4] at S ⊢
    clear hw4
    refine (Parse_any t (by have := Hts.out; omega) _ S.out.laid).mono ?_
    rintro e z1 ⟨rfl, hf⟩
    have S := Lib.hid (S.out.later hf)
    clear hf
    have ⟨a0, a1, a2⟩ := S.out.cell (b := rb) (k := ⟨0, 0, 0⟩) (by simp)
    have b0 := (S.out.keys (rb, ⟨0, 0, 0⟩) (by simp)).frozen 0
    have b1 := (S.out.keys (rb, ⟨0, 0, 0⟩) (by simp)).frozen 1
    have b2 := (S.out.keys (rb, ⟨0, 0, 0⟩) (by simp)).frozen 2
    cases hp : parseK t.data.toList with
    | none =>
      rw [show parseV t.data.toList = .tuple #[.agg #[.int .i64 0, .int .i64 0, .int .i64 0], .int .i64 72] from by unfold parseV; rw [hp]; rfl]
      clear hp
      go_wp2_with fail
      have S := Lib.hid (S.out.put HL.out hge.out ⟨0, 0, 0⟩)
      go_ret
      exact ⟨rfl, S.out.fr⟩
    | some j =>
      obtain ⟨hj, hjt⟩ := (parseK_iff t.data.toList j).1 hp
      rw [show parseV t.data.toList = .tuple #[.agg #[.int .i64 j.time, .int .i64 j.source, .int .i64 j.seq], .int .i64 0] from by unfold parseV; rw [hp]; rfl]
      have Hj := Lib.hid hj
      have Hjt := Lib.hid hjt
      clear hp hj hjt
      go_wp2_with fail
      obtain ⟨z2, hz2⟩ : ∃ W, put3 z1 rb j = W := ⟨_, rfl⟩
      rw [show ((z1.setCell ⟨rb, 0, none⟩ (.int .i64 j.time)).setCell ⟨rb, 1, none⟩ (.int .i64 j.source)).setCell ⟨rb, 2, none⟩ (.int .i64 j.seq) = z2 from hz2]
      have S := Lib.hid (S.out.put HL.out hge.out j)
      rw [hz2] at S
      clear hz2 a0 a1 a2 b0 b1 b2
      refine (Text_any j Hj.out _ S.out.laid).mono ?_
      rintro e z3 ⟨rfl, hf⟩
      rw [show (⟨(textK j).toArray⟩ : ByteArray) = t from by apply ByteArray.ext; rw [Hjt.out]]
      have S := Lib.hid (S.out.later hf)
      clear hf
      have ⟨a0, a1, a2⟩ := S.out.cell (b := rb) (k := j) (by simp)
      go_wp2_with fail
      refine (Right_drew j Hj.out _).mono ?_
      rintro e z4 ⟨rfl, hf⟩
      have S := Lib.hid (S.out.later hf)
      clear hf a0 a1 a2
      go_wp2_with fail
      go_ret
      exact ⟨rfl, S.out.fr⟩
  | some k => 
    obtain ⟨hk, hkb⟩ := (readK_iff l' k).1 hr
    rw [show readV l' = .tuple #[.agg #[.int .i64 k.time, .int .i64 k.source, .int .i64 k.seq], .int .i64 0] from by unfold readV; rw [hr]; rfl]
    have hge := Lib.hid (S.out.fr.trans hf).size
    have S := Lib.hid ((S.out.later hf).new k)
    have P := Lib.hid (P.out.later (hf.alloc (.cells #[.int .i64 k.time, .int .i64 k.source, .int .i64 k.seq] 24)))
    obtain ⟨rb, hrb⟩ : ∃ rb, w3.heap.size = rb := ⟨_, rfl⟩
    rw [hrb] at S hge
    have Hk := Lib.hid hk
    have Hkb := Lib.hid hkb
    clear hf hr hk hkb
    go_wp2_with fail
    try rw [hrb]
    clear hrb
    obtain ⟨w4, hw4⟩ : ∃ W, w3.alloc (.cells #[.int .i64 k.time, .int .i64 k.source, .int .i64 k.seq] 24) = W := ⟨_, rfl⟩
    rw [hw4] at S P ⊢
    clear hw4
    refine (Bytes_any k Hk.out _).mono ?_
    rintro e w5 ⟨v, rfl, hr, hf⟩
    obtain ⟨g1, c1, rfl⟩ := Joins.ownsRow_form hr (by omega)
    have P1 := Lib.hid (BsIn.of_row hr)
    have P := Lib.hid (P.out.later hf)
    have S := Lib.hid (S.out.later hf)
    clear hr hf
    go_wp2_with fail
    refine (equal_bs P1.out (bytesK_length k) P.out Hlen.out).mono ?_
    rintro e w6 ⟨rfl, hu⟩
    have hf : Fr0 none' w5 w6 := by rw [hu]; exact Fr0.refl _ _
    rw [show (bytesK k == l') = true from by rw [Hkb.out]; simp]
    have S := Lib.hid (S.out.later hf)
    clear hu hf P1 P
    have ⟨a0, a1, a2⟩ := S.out.cell (b := rb) (k := k) (by simp)
    go_wp2_with fail
    refine (Right_drew k Hk.out _).mono ?_
    rintro e w7 ⟨rfl, hf⟩
    have S := Lib.hid (S.out.later hf)
    clear hf a0 a1 a2
    go_wp2_with fail
    refine (Parse_any t (by have := Hts.out; omega) _ S.out.laid).mono ?_
    rintro e z1 ⟨rfl, hf⟩
    have S := Lib.hid (S.out.later hf)
    clear hf
    have ⟨a0, a1, a2⟩ := S.out.cell (b := rb) (k := k) (by simp)
    have b0 := (S.out.keys (rb, k) (by simp)).frozen 0
    have b1 := (S.out.keys (rb, k) (by simp)).frozen 1
    have b2 := (S.out.keys (rb, k) (by simp)).frozen 2
    cases hp : parseK t.data.toList with
    | none =>
      rw [show parseV t.data.toList = .tuple #[.agg #[.int .i64 0, .int .i64 0, .int .i64 0], .int .i64 72] from by unfold parseV; rw [hp]; rfl]
      clear hp
      go_wp2_with fail
      have S := Lib.hid (S.out.put HL.out hge.out ⟨0, 0, 0⟩)
      go_ret
      exact ⟨rfl, S.out.fr⟩
    | some j =>
      obtain ⟨hj, hjt⟩ := (parseK_iff t.data.toList j).1 hp
      rw [show parseV t.data.toList = .tuple #[.agg #[.int .i64 j.time, .int .i64 j.source, .int .i64 j.seq], .int .i64 0] from by unfold parseV; rw [hp]; rfl]
      have Hj := Lib.hid hj
      have Hjt := Lib.hid hjt
      clear hp hj hjt
      go_wp2_with fail
      obtain ⟨z2, hz2⟩ : ∃ W, put3 z1 rb j = W := ⟨_, rfl⟩
      rw [show ((z1.setCell ⟨rb, 0, none⟩ (.int .i64 j.time)).setCell ⟨rb, 1, none⟩ (.int .i64 j.source)).setCell ⟨rb, 2, none⟩ (.int .i64 j.seq) = z2 from hz2]
      have S := Lib.hid (S.out.put HL.out hge.out j)
      rw [hz2] at S
      clear hz2 a0 a1 a2 b0 b1 b2
      refine (Text_any j Hj.out _ S.out.laid).mono ?_
      rintro e z3 ⟨rfl, hf⟩
      rw [show (⟨(textK j).toArray⟩ : ByteArray) = t from by apply ByteArray.ext; rw [Hjt.out]]
      have S := Lib.hid (S.out.later hf)
      clear hf
      have ⟨a0, a1, a2⟩ := S.out.cell (b := rb) (k := j) (by simp)
      go_wp2_with fail
      refine (Right_drew j Hj.out _).mono ?_
      rintro e z4 ⟨rfl, hf⟩
      have S := Lib.hid (S.out.later hf)
      clear hf a0 a1 a2
      go_wp2_with fail
      go_ret
      exact ⟨rfl, S.out.fr⟩
end Go.Proofs.YtkohmodnjcoapaaDoor

namespace Go.Proofs.YtkohmodnjcoapaaDoor.keyRead
open Go Go.ChangeShapes Go.WideShapes Go.ChangeAt Go.RowKit Go.Proofs.YtkohmodnjcoapaaDoor

set_option maxRecDepth 100000 in
theorem lifted (os : Os) (started : os.Started) (H : Type) (enc : TypeId × Value → H) :
    ReturnsInHanded {} Tryd.checked os 6 .any (fun w args => (Rows.keyReadSpec.pre enc Tryd.prog Tryd.f6 Rows.keyReadRow.domain false w args ∧ laidMet Tryd.prog laidK w) ∧ sizedMet enc Tryd.prog Tryd.f6 (OpenSpec.ofChange Rows.keyReadSpec) false w args)
      (Rows.keyReadSpec.post enc Tryd.prog Tryd.f6 false true false false) := by
  refine returnsInHanded_of_change_and (C := Tryd.checked) (X := fun w _ => laidMet Tryd.prog laidK w) (fun _ _ _ hh h => h.of_heap hh) own_knob started (by kernel_rfl) Tryd.func6
    (ChangeSpec.witness_at (enc := enc) (C := Tryd.checked) (os := os) (X := fun w _ => laidMet Tryd.prog laidK w) false (laidWorld os) #[.slice none 0 0, .string ⟨#[]⟩] 8 rfl (by kernel_rfl) (by kernel_rfl) (by kernel_rfl) (by kernel_rfl) (by kernel_rfl) (laidWorld_met os _)) ?_
  intro W base args ds gs before hval0 hW _ hsz0 hL _
  have hval : ∀ (j : Nat) t v, Tryd.f6.params[j]? = some t → args[j]? = some v → Value.okWide Tryd.prog W .any base t v := hval0
  have hW' := hW
  obtain ⟨p, q, hA0, hV, rfl, hfz, hnd⟩ := hW
  have hA : DataW.TrodAll enc Tryd.prog W 0 (fun _ => true) true Tryd.f6.params.toList args.toList ds p := hA0
  rw [Tryd.params6] at hA hval
  obtain ⟨v0, vs0, d0, ds0, p0, q0, hargs, rfl, rfl, h0, r0⟩ := trodAll_cons hA
  obtain ⟨v1, vs1, d1, ds1, p1, q1, rfl, rfl, rfl, h1, r1⟩ := trodAll_cons r0
  obtain ⟨rfl, rfl, rfl⟩ := trodAll_nil r1
  obtain rfl : args = #[v0, v1] := by cases args; simp_all
  obtain ⟨rfl, rfl⟩ := trodVars_none hV
  clear hA0 hval0
  simp only [List.append_nil] at hW'
  have l0 : ∀ x ∈ p0, x.block < W.heap.size := fun x hx => hW'.lt x (by simp [hx])
  have t0 := fun W' (hb : Below W.heap.size W W') => Below.trod laid_own (by kernel_rfl) (of_decide_eq_true (by kernel_rfl)) h0 hb l0
  have l1 : ∀ x ∈ p1, x.block < W.heap.size := fun x hx => hW'.lt x (by simp [hx])
  have t1 := fun W' (hb : Below W.heap.size W W') => Below.trod laid_own (by kernel_rfl) (of_decide_eq_true (by kernel_rfl)) h1 hb l1
  obtain ⟨a0, n0, cap0, l0, rfl, hn0, hc0, hm0, hb0⟩ := bytes8_arg (hval 0 39 v0 rfl rfl) h0
  obtain ⟨s1, rfl, _, _, _⟩ := Go.ChangeMaps.open_string Tryd.underlying9 (hval 1 9 v1 rfl rfl) h1
  refine (KeyRead_any a0 n0 cap0 l0 s1 W (laid7_of hL) hb0 hn0 hc0 hm0).mono fun e W' ⟨he, hg0⟩ => ?_
  have hg := hg0.below (Nat.le_refl _) (fun _ _ h => h)
  subst he
  exact ⟨_, rfl, post_belowK (pa := (p0 ++ (p1 ++ []))) (pv := []) hW' (fun _ _ _ => (trodAll_cons_mk (shut_bool Tryd.underlying4 _) trodAll_mk0)) (trodAll_cons_mk (t0 _ hg) (trodAll_cons_mk (t1 _ hg) trodAll_mk0)) (fun _ _ => rfl) hg⟩

theorem over : Rows.keyReadRow.holds Tryd.pinned (OpenSpec.ofChange Rows.keyReadSpec) :=
  OpenClaim.holds_of_wide 6 Tryd.f6 rfl rfl rfl rfl rfl rfl rfl ⟨rfl, rfl, rfl, rfl, rfl⟩ rfl rfl rfl rfl rfl (by kernel_rfl) Tryd.func6 (by kernel_rfl)
    (of_decide_eq_true (by kernel_rfl)) (by unfold Func.isWrapper; first | (rw [if_pos (by decide +kernel)]; kernel_rfl) | (rw [if_neg (by decide +kernel)]; exact ⟨rfl, rfl⟩))
    (fun os started H enc _ => lifted os started H enc)

theorem proved : Rows.KeyReadCardSaid :=
  Claim7.holds_tied_plain_at .later [] [.data, .data, .data, .sentinel, .sentinel] true _ true
    over (fun _ h => by cases h) (by kernel_rfl) (fun _ h => by cases h) keyRead_row_tie rfl ⟨rfl, rfl⟩ (by kernel_rfl) rfl
    (fun f fn hf hfn => by
      obtain rfl : f = 6 := Option.some.inj ((show Tryd.prog.funcNamed "fermata/fermatalaw07.KeyRead" = some 6 by kernel_rfl).symm.trans hf) |>.symm
      obtain rfl : fn = Tryd.f6 := (Option.some.inj (Tryd.func6.symm.trans hfn)).symm
      exact ⟨by kernel_rfl, fun j t ht => by
        rw [Tryd.params6] at ht
        have sB : Tryd.prog.wantsStandIn 39 = false := by kernel_rfl
        have ss : Tryd.prog.wantsStandIn 9 = false := by kernel_rfl
        have hm : t ∈ [39, 9] := by
          have := Array.mem_of_getElem? ht
          simpa using this
        simp only [List.mem_cons, List.not_mem_nil, or_false, or_self] at hm
        rcases hm with rfl | rfl
        · exact sB
        · exact ss⟩)
    (by kernel_rfl)
#print axioms proved
end Go.Proofs.YtkohmodnjcoapaaDoor.keyRead
