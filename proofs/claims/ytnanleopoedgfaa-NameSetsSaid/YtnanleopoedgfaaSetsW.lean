/-
  sets: what the document specifies of sets.
-/
import Derived.Test.YtnanleopoedgfaaKept
import Derived.Test.YtnanleopoedgfaaRefO
import Derived.Test.YtnanleopoedgfaaRefR
import Derived.Test.YtnanleopoedgfaaSorted0
import Derived.Test.YtnanleopoedgfaaAwake
set_option linter.unusedSimpArgs false
set_option linter.unusedVariables false
namespace Go.Proofs.Ytnanleopoedgfaa
open Go.RowKit
attribute [local go_sem ↓] Go.wp_at_zero Go.wp_at_succ

theorem ofL_len (xs : List Bs) : (ofL xs).length ≤ 256 := by
  unfold ofL
  by_cases h : (allR xs && decide ((ofB xs).length ≤ 256)) = true
  · rw [if_pos h]
    rw [Bool.and_eq_true] at h
    exact of_decide_eq_true h.2
  · rw [if_neg h]; exact Nat.zero_le _
theorem addL_len (xs : List Bs) (s : Bs) : (addL xs s).length ≤ 257 := by
  unfold addL
  by_cases h : (setB xs && rightB s && (decide (s ∈ xs) || decide (xs.length < 256))) = true
  · rw [if_pos h]
    simp only [Bool.and_eq_true] at h
    have h1 := setB_len h.1.1
    have h2 := insB_len s xs
    omega
  · rw [if_neg h]; exact Nat.zero_le _
theorem dropL_len (xs : List Bs) (s : Bs) : (dropL xs s).length ≤ 256 := by
  unfold dropL
  by_cases h : (setB xs && rightB s && decide (s ∈ xs)) = true
  · rw [if_pos h]
    simp only [Bool.and_eq_true] at h
    have h1 := setB_len h.1.1
    exact Nat.le_trans (List.length_filter_le _ _) h1
  · rw [if_neg h]; exact Nat.zero_le _
theorem ofE_bd (xs : List Bs) : 0 ≤ ofE xs ∧ ofE xs ≤ 41 := by unfold ofE; split <;> (try split) <;> decide
theorem addE_bd (xs : List Bs) (s : Bs) : 0 ≤ addE xs s ∧ addE xs s ≤ 41 := by unfold addE; split <;> (try split) <;> (try split) <;> (try split) <;> decide
theorem dropE_bd (xs : List Bs) (s : Bs) : 0 ≤ dropE xs s ∧ dropE xs s ≤ 41 := by unfold dropE; split <;> (try split) <;> (try split) <;> decide
theorem own_cells {w : World} {base n c : Nat} {e : TypeId} {A : Option Addr} {xs : List Value} (h : w.ownsRow base e 1 (.slice A n c) n xs) : Cells w A xs := by
  obtain ⟨a, cap, he, _, _, _, hc, _⟩ := ownsRow_cells h
  cases he; exact hc
theorem own_apart {W1 W2 : World} {b1 b2 n1 n2 : Nat} {e : TypeId} {v1 v2 : Value} {x1 x2 : List Value} (h1 : W1.ownsRow b1 e 1 v1 n1 x1) (h2 : W2.ownsRow b2 e 1 v2 n2 x2) (hle : W1.heap.size ≤ b2) : v2.ownBlock = none ∨ v2.ownBlock ≠ v1.ownBlock := by
  cases hb : v2.ownBlock with
  | none => exact .inl rfl
  | some k =>
    right
    intro he
    have g1 := (h2.lt k hb).1
    have g2 := (h1.lt k he.symm).2
    omega
/-- What Find and Range tell, as numbers. -/
theorem find_nums (xs : List Bs) (s : Bs) : ∃ (I : Nat) (B : Bool), I ≤ xs.length ∧ ∀ w e w', FindPost xs s w e w' → e = .returned (.tuple #[.int .i64 I, .bool B]) ∧ Below w.heap.size w w' := by
  by_cases h : (setB xs && rightB s) = true
  · exact ⟨lowN xs s, _, lowN_le xs s, fun w e w' hp => ⟨by rw [hp.1, if_pos h], hp.2⟩⟩
  · exact ⟨0, false, Nat.zero_le _, fun w e w' hp => ⟨by rw [hp.1, if_neg h]; rfl, hp.2⟩⟩
theorem range_nums (xs : List Bs) (s : Bs) : ∃ (I J : Nat) (E : Int), I ≤ xs.length ∧ J ≤ xs.length ∧ 0 ≤ E ∧ E ≤ 41 ∧ ∀ w e w', RangePost xs s w e w' → e = .returned (.tuple #[.int .i64 I, .int .i64 J, .int .i64 E]) ∧ Below w.heap.size w w' := by
  by_cases h : setB xs = true
  · by_cases h2 : rightB s = true
    · exact ⟨lowN xs s, _, 0, lowN_le xs s, runN_le xs s, by decide, by decide, fun w e w' hp => ⟨by rw [hp.1, if_pos h, if_pos h2], hp.2⟩⟩
    · exact ⟨0, 0, 40, Nat.zero_le _, Nat.zero_le _, by decide, by decide, fun w e w' hp => ⟨by rw [hp.1, if_pos h, if_neg h2]; rfl, hp.2⟩⟩
  · exact ⟨0, 0, 41, Nat.zero_le _, Nat.zero_le _, by decide, by decide, fun w e w' hp => ⟨by rw [hp.1, if_neg h]; rfl, hp.2⟩⟩

set_option maxRecDepth 100000 in
set_option maxHeartbeats 8000000 in
/-- At most 300 strings of at most 200 bytes. -/
theorem sets_in (a : Option Addr) (n cap : Nat) (xs : List Bs) (s : Bs) (w : World) (hn : xs.length = n) (hm : n ≤ 300) (hcap : n ≤ cap) (hcm : cap ≤ maxLen) (ha : a = none → n = 0) (hp : ∀ p ∈ xs, p.length ≤ 200) (hs : (bs s).size ≤ 200) (hc : Cells w a (xs.map strV)) :
    Calls Try.prog 24 #[.slice a n cap, .string (bs s)] w fun e w' => e = .returned (.bool true) ∧ Below w.heap.size w w' := by
  have hsl : s.length ≤ 200 := by rw [size_bs] at hs; exact hs
  have hs' : s.length ≤ 1000 := by omega
  have hp' : ∀ p ∈ xs, p.length ≤ 1000 := fun p h => by have := hp p h; omega
  have hp2 : ∀ p ∈ xs, p.length ≤ 100000 := fun p h => by have := hp p h; omega
  have HF : Calls Try.prog 28 #[.slice a n cap] w fun e w' => e = .returned (.bool true) ∧ w = w' := by
    refine (few_any a n cap (xs.map bs) w (by simpa using hn) (by unfold maxLen; omega) (fun x hx => by obtain ⟨p, h, rfl⟩ := List.mem_map.1 hx; have := hp p h; rw [size_bs]; unfold maxLen; omega) (by rw [List.map_map]; exact hc)).mono ?_
    rintro e w' ⟨rfl, rfl⟩
    refine ⟨?_, rfl⟩
    have : (decide ((xs.map bs).length ≤ 300) && (xs.map bs).all fun x => decide (x.size ≤ 200)) = true := by
      rw [Bool.and_eq_true, List.all_eq_true]
      refine ⟨by simp; omega, fun x hx => ?_⟩
      obtain ⟨p, h, rfl⟩ := List.mem_map.1 hx
      have := hp p h
      exact decide_eq_true (by rw [size_bs]; exact this)
    rw [this]
  have HL := Lib.hid (Lent_any a n cap xs w hn (by omega) hc)
  have HF := Lib.hid HF
  -- what the functions make
  have l1 := ofL_len xs
  have l2 := addL_len xs s
  have l3 := dropL_len xs s
  have e1 := ofE_bd xs
  have e2 := addE_bd xs s
  have e3 := dropE_bd xs s
  obtain ⟨I, B, hI, hfind⟩ := find_nums xs s
  obtain ⟨U, V, E4, hU, hV, e4, e5, hrange⟩ := range_nums xs s
  rw [hn] at hI hU hV
  have HOf := fun (A : Option Addr) (c : Nat) (W : World) (h : Cells W A (xs.map strV)) => Of_any A n c xs W hn (by omega) hp' h
  have HAd := fun (A : Option Addr) (c : Nat) (W : World) (h : Cells W A (xs.map strV)) => Add_any A n c xs s W hn (by omega) hp' hs' h
  have HDp := fun (A : Option Addr) (c : Nat) (W : World) (h : Cells W A (xs.map strV)) => Drop_any A n c xs s W hn (by omega) hp' hs' h
  have HFd := fun (A : Option Addr) (c : Nat) (W : World) (h : Cells W A (xs.map strV)) => (Find_any A n c xs s W hn (by omega) hp2 (by omega) h).mono fun e w' hp => hfind W e w' hp
  have HRg := fun (A : Option Addr) (c : Nat) (W : World) (h : Cells W A (xs.map strV)) => (Range_any A n c xs s W hn (by omega) hp2 (by omega) h).mono fun e w' hp => hrange W e w' hp
  have HSt := fun (A : Option Addr) (c : Nat) (W : World) (h : Cells W A (xs.map strV)) => Set_any A n c xs W hn (by omega) hp2 h
  have ROf := fun (W : World) (h : Below w.heap.size w W) => refOf_any a n cap xs W hn (by omega) hp' (hc.below h)
  have RAd := fun (W : World) (h : Below w.heap.size w W) => refAdd_any a n cap xs s W hn (by omega) hp' hs' hcap hcm ha (hc.below h)
  have RDp := fun (W : World) (h : Below w.heap.size w W) => refDrop_any a n cap xs s W hn (by omega) hp' hs' hcap hcm ha (hc.below h)
  have RFd := fun (W : World) (h : Below w.heap.size w W) => (refFind_any a n cap xs s W hn (by omega) hp2 (by omega) (hc.below h)).mono fun e w' hp => hfind W e w' hp
  have RRg := fun (W : World) (h : Below w.heap.size w W) => (refRange_any a n cap xs s W hn (by omega) hp2 (by omega) (hc.below h)).mono fun e w' hp => hrange W e w' hp
  have RSt := fun (W : World) (h : Below w.heap.size w W) => refSet_any a n cap xs W hn (by omega) hp2 (hc.below h)
  have S1 := fun (A A' : Option Addr) (c c' : Nat) (W : World) => same_l A A' (ofL xs).length c c' (ofL xs) rfl (by omega) W
  have S2 := fun (A A' : Option Addr) (c c' : Nat) (W : World) => same_l A A' (addL xs s).length c c' (addL xs s) rfl (by omega) W
  have S3 := fun (A A' : Option Addr) (c c' : Nat) (W : World) => same_l A A' (dropL xs s).length c c' (dropL xs s) rfl (by omega) W
  have HKp := Lib.hid (fun (g c1 : Nat) (W : World) (h1 : n + 12 ≤ c1) (h2 : c1 ≤ maxLen) (hb : Below w.heap.size w W) (hg : Cells W (some ⟨g, 0, none⟩) ((xs ++ marksB 1 12).map strV)) => Kept_any g c1 a n cap xs W hn (by omega) h1 h2 (hc.below hb) hg)
  obtain ⟨L1, hL1⟩ : ∃ L, ofL xs = L := ⟨_, rfl⟩
  obtain ⟨L2, hL2⟩ : ∃ L, addL xs s = L := ⟨_, rfl⟩
  obtain ⟨L3, hL3⟩ : ∃ L, dropL xs s = L := ⟨_, rfl⟩
  obtain ⟨E1, hE1⟩ : ∃ L, ofE xs = L := ⟨_, rfl⟩
  obtain ⟨E2, hE2⟩ : ∃ L, addE xs s = L := ⟨_, rfl⟩
  obtain ⟨E3, hE3⟩ : ∃ L, dropE xs s = L := ⟨_, rfl⟩
  obtain ⟨bS, hbS⟩ : ∃ b, setB xs = b := ⟨_, rfl⟩
  simp only [hL1, hE1] at HOf ROf S1
  simp only [hL2, hE2] at HAd RAd S2
  simp only [hL3, hE3] at HDp RDp S3
  simp only [hbS] at HSt RSt
  rw [hL1] at l1; rw [hL2] at l2; rw [hL3] at l3
  rw [hE1] at e1; rw [hE2] at e2; rw [hE3] at e3
  obtain ⟨n1, hn1⟩ : ∃ k, L1.length = k := ⟨_, rfl⟩
  obtain ⟨n2, hn2⟩ : ∃ k, L2.length = k := ⟨_, rfl⟩
  obtain ⟨n3, hn3⟩ : ∃ k, L3.length = k := ⟨_, rfl⟩
  rw [hn1] at l1; rw [hn2] at l2; rw [hn3] at l3
  simp only [hn1] at HOf ROf S1
  simp only [hn2] at HAd RAd S2
  simp only [hn3] at HDp RDp S3
  have HOf := Lib.hid HOf
  have HAd := Lib.hid HAd
  have HDp := Lib.hid HDp
  have HFd := Lib.hid HFd
  have HRg := Lib.hid HRg
  have HSt := Lib.hid HSt
  have ROf := Lib.hid ROf
  have RAd := Lib.hid RAd
  have RDp := Lib.hid RDp
  have RFd := Lib.hid RFd
  have RRg := Lib.hid RRg
  have RSt := Lib.hid RSt
  have S1 := Lib.hid S1
  have S2 := Lib.hid S2
  have S3 := Lib.hid S3
  have d1 : ¬ (200 : Int) < ((bs s).size : Int) := by omega
  obtain ⟨e11, e12⟩ := e1
  obtain ⟨e21, e22⟩ := e2
  obtain ⟨e31, e32⟩ := e3
  clear hL1 hL2 hL3 hE1 hE2 hE3 hbS hn1 hn2 hn3 hfind hrange hp hp' hp2 hs' hsl hs hn hc ha
  go_enter Try.func24, Try.ntmps24
  go_wp2_with fail
  refine HF.out.mono ?_
  rintro e w1 ⟨rfl, rfl⟩
  go_wp2_with fail
  refine HL.out.mono ?_
  rintro e w2 ⟨g, c1, rfl, hg1, hg2, hc1, hcm1, hck, hb12⟩
  have Hck := Lib.hid (fun (W : World) (h : Below w2.heap.size w2 W) => hck.below h)
  have Hco := Lib.hid (fun (W : World) (h : Below w2.heap.size w2 W) => show Cells W (some ⟨g, 0, none⟩) (xs.map strV) from fun j u hj => hck.below h j u (by rw [List.map_append]; rw [List.getElem?_append_left (by rw [List.length_map]; have := (List.getElem?_eq_some_iff.1 hj).1; simpa using this)]; exact hj))
  have hbl := Lib.hid (fun (W : World) (h : Below w2.heap.size w2 W) => hb12.trans (h.mono hb12.size))
  have HOf := Lib.hid (fun W h => HOf.out (some ⟨g, 0, none⟩) c1 W (Hco.out W h))
  have HAd := Lib.hid (fun W h => HAd.out (some ⟨g, 0, none⟩) c1 W (Hco.out W h))
  have HDp := Lib.hid (fun W h => HDp.out (some ⟨g, 0, none⟩) c1 W (Hco.out W h))
  have HFd := Lib.hid (fun W h => HFd.out (some ⟨g, 0, none⟩) c1 W (Hco.out W h))
  have HRg := Lib.hid (fun W h => HRg.out (some ⟨g, 0, none⟩) c1 W (Hco.out W h))
  have HSt := Lib.hid (fun W h => HSt.out (some ⟨g, 0, none⟩) c1 W (Hco.out W h))
  have ROf := Lib.hid (fun W h => ROf.out W (hbl.out W h))
  have RAd := Lib.hid (fun W h => RAd.out W (hbl.out W h))
  have RDp := Lib.hid (fun W h => RDp.out W (hbl.out W h))
  have RFd := Lib.hid (fun W h => RFd.out W (hbl.out W h))
  have RRg := Lib.hid (fun W h => RRg.out W (hbl.out W h))
  have RSt := Lib.hid (fun W h => RSt.out W (hbl.out W h))
  have HKp := Lib.hid (fun (W : World) (h : Below w2.heap.size w2 W) => HKp.out g c1 W hc1 hcm1 (hbl.out W h) (Hck.out W h))
  have hb2 : Below w2.heap.size w2 w2 := Below.refl _ _
  clear hck Hck Hco HL HF hb12
  go_wp2_with fail
  refine (HOf.out _ hb2).mono ?_
  rintro e w3 ⟨v1, rfl, hrow, hbx⟩
  have HR1 := Lib.hid (own_le hrow hb2.size)
  obtain ⟨A1, k1, rfl, _⟩ := ownsRow_cells HR1.out
  try (have HR1 := Lib.hid (HR1.out.kept (below_grows hbx) (Classical.em _)))
  try (have HU1 := Lib.hid (HU1.out.kept (below_grows hbx) (Classical.em _)))
  try (have HR2 := Lib.hid (HR2.out.kept (below_grows hbx) (Classical.em _)))
  try (have HU2 := Lib.hid (HU2.out.kept (below_grows hbx) (Classical.em _)))
  try (have HR3 := Lib.hid (HR3.out.kept (below_grows hbx) (Classical.em _)))
  try (have HU3 := Lib.hid (HU3.out.kept (below_grows hbx) (Classical.em _)))
  have hb2 := hb2.trans (hbx.mono hb2.size)
  clear hbx
  try clear hrow
  go_wp2_with fail
  refine (ROf.out _ hb2).mono ?_
  rintro e w4 ⟨v, rfl, hrow, hbx⟩
  have HU1 := Lib.hid (own_le hrow hb2.size)
  obtain ⟨A2, k2, rfl, _⟩ := ownsRow_cells HU1.out
  try (have HR1 := Lib.hid (HR1.out.kept (below_grows hbx) (Classical.em _)))
  try (have HU1 := Lib.hid (HU1.out.kept (below_grows hbx) (Classical.em _)))
  try (have HR2 := Lib.hid (HR2.out.kept (below_grows hbx) (Classical.em _)))
  try (have HU2 := Lib.hid (HU2.out.kept (below_grows hbx) (Classical.em _)))
  try (have HR3 := Lib.hid (HR3.out.kept (below_grows hbx) (Classical.em _)))
  try (have HU3 := Lib.hid (HU3.out.kept (below_grows hbx) (Classical.em _)))
  have hb2 := hb2.trans (hbx.mono hb2.size)
  clear hbx
  try clear hrow
  go_wp2_with fail
  refine (HFd.out _ hb2).mono ?_
  rintro e w5 ⟨rfl, hbx⟩
  try (have HR1 := Lib.hid (HR1.out.kept (below_grows hbx) (Classical.em _)))
  try (have HU1 := Lib.hid (HU1.out.kept (below_grows hbx) (Classical.em _)))
  try (have HR2 := Lib.hid (HR2.out.kept (below_grows hbx) (Classical.em _)))
  try (have HU2 := Lib.hid (HU2.out.kept (below_grows hbx) (Classical.em _)))
  try (have HR3 := Lib.hid (HR3.out.kept (below_grows hbx) (Classical.em _)))
  try (have HU3 := Lib.hid (HU3.out.kept (below_grows hbx) (Classical.em _)))
  have hb2 := hb2.trans (hbx.mono hb2.size)
  clear hbx
  try clear hrow
  go_wp2_with fail
  refine (RFd.out _ hb2).mono ?_
  rintro e w6 ⟨rfl, hbx⟩
  try (have HR1 := Lib.hid (HR1.out.kept (below_grows hbx) (Classical.em _)))
  try (have HU1 := Lib.hid (HU1.out.kept (below_grows hbx) (Classical.em _)))
  try (have HR2 := Lib.hid (HR2.out.kept (below_grows hbx) (Classical.em _)))
  try (have HU2 := Lib.hid (HU2.out.kept (below_grows hbx) (Classical.em _)))
  try (have HR3 := Lib.hid (HR3.out.kept (below_grows hbx) (Classical.em _)))
  try (have HU3 := Lib.hid (HU3.out.kept (below_grows hbx) (Classical.em _)))
  have hb2 := hb2.trans (hbx.mono hb2.size)
  clear hbx
  try clear hrow
  go_wp2_with fail
  refine (HAd.out _ hb2).mono ?_
  rintro e w7 ⟨v, rfl, hrow, hbx⟩
  have HR2 := Lib.hid (own_le hrow hb2.size)
  obtain ⟨A3, k3, rfl, _⟩ := ownsRow_cells HR2.out
  have ap12 := Lib.hid (own_apart HR1.out hrow (Nat.le_refl _))
  try (have HR1 := Lib.hid (HR1.out.kept (below_grows hbx) (Classical.em _)))
  try (have HU1 := Lib.hid (HU1.out.kept (below_grows hbx) (Classical.em _)))
  try (have HR2 := Lib.hid (HR2.out.kept (below_grows hbx) (Classical.em _)))
  try (have HU2 := Lib.hid (HU2.out.kept (below_grows hbx) (Classical.em _)))
  try (have HR3 := Lib.hid (HR3.out.kept (below_grows hbx) (Classical.em _)))
  try (have HU3 := Lib.hid (HU3.out.kept (below_grows hbx) (Classical.em _)))
  have hb2 := hb2.trans (hbx.mono hb2.size)
  clear hbx
  try clear hrow
  go_wp2_with fail
  refine (RAd.out _ hb2).mono ?_
  rintro e w8 ⟨v, rfl, hrow, hbx⟩
  have HU2 := Lib.hid (own_le hrow hb2.size)
  obtain ⟨A4, k4, rfl, _⟩ := ownsRow_cells HU2.out
  try (have HR1 := Lib.hid (HR1.out.kept (below_grows hbx) (Classical.em _)))
  try (have HU1 := Lib.hid (HU1.out.kept (below_grows hbx) (Classical.em _)))
  try (have HR2 := Lib.hid (HR2.out.kept (below_grows hbx) (Classical.em _)))
  try (have HU2 := Lib.hid (HU2.out.kept (below_grows hbx) (Classical.em _)))
  try (have HR3 := Lib.hid (HR3.out.kept (below_grows hbx) (Classical.em _)))
  try (have HU3 := Lib.hid (HU3.out.kept (below_grows hbx) (Classical.em _)))
  have hb2 := hb2.trans (hbx.mono hb2.size)
  clear hbx
  try clear hrow
  go_wp2_with fail
  refine (HDp.out _ hb2).mono ?_
  rintro e w9 ⟨v, rfl, hrow, hbx⟩
  have HR3 := Lib.hid (own_le hrow hb2.size)
  obtain ⟨A5, k5, rfl, _⟩ := ownsRow_cells HR3.out
  have ap13 := Lib.hid (own_apart HR1.out hrow (Nat.le_refl _))
  have ap23 := Lib.hid (own_apart HR2.out hrow (Nat.le_refl _))
  try (have HR1 := Lib.hid (HR1.out.kept (below_grows hbx) (Classical.em _)))
  try (have HU1 := Lib.hid (HU1.out.kept (below_grows hbx) (Classical.em _)))
  try (have HR2 := Lib.hid (HR2.out.kept (below_grows hbx) (Classical.em _)))
  try (have HU2 := Lib.hid (HU2.out.kept (below_grows hbx) (Classical.em _)))
  try (have HR3 := Lib.hid (HR3.out.kept (below_grows hbx) (Classical.em _)))
  try (have HU3 := Lib.hid (HU3.out.kept (below_grows hbx) (Classical.em _)))
  have hb2 := hb2.trans (hbx.mono hb2.size)
  clear hbx
  try clear hrow
  go_wp2_with fail
  refine (RDp.out _ hb2).mono ?_
  rintro e w10 ⟨v, rfl, hrow, hbx⟩
  have HU3 := Lib.hid (own_le hrow hb2.size)
  obtain ⟨A6, k6, rfl, _⟩ := ownsRow_cells HU3.out
  try (have HR1 := Lib.hid (HR1.out.kept (below_grows hbx) (Classical.em _)))
  try (have HU1 := Lib.hid (HU1.out.kept (below_grows hbx) (Classical.em _)))
  try (have HR2 := Lib.hid (HR2.out.kept (below_grows hbx) (Classical.em _)))
  try (have HU2 := Lib.hid (HU2.out.kept (below_grows hbx) (Classical.em _)))
  try (have HR3 := Lib.hid (HR3.out.kept (below_grows hbx) (Classical.em _)))
  try (have HU3 := Lib.hid (HU3.out.kept (below_grows hbx) (Classical.em _)))
  have hb2 := hb2.trans (hbx.mono hb2.size)
  clear hbx
  try clear hrow
  go_wp2_with fail
  refine (HRg.out _ hb2).mono ?_
  rintro e w11 ⟨rfl, hbx⟩
  try (have HR1 := Lib.hid (HR1.out.kept (below_grows hbx) (Classical.em _)))
  try (have HU1 := Lib.hid (HU1.out.kept (below_grows hbx) (Classical.em _)))
  try (have HR2 := Lib.hid (HR2.out.kept (below_grows hbx) (Classical.em _)))
  try (have HU2 := Lib.hid (HU2.out.kept (below_grows hbx) (Classical.em _)))
  try (have HR3 := Lib.hid (HR3.out.kept (below_grows hbx) (Classical.em _)))
  try (have HU3 := Lib.hid (HU3.out.kept (below_grows hbx) (Classical.em _)))
  have hb2 := hb2.trans (hbx.mono hb2.size)
  clear hbx
  try clear hrow
  go_wp2_with fail
  refine (RRg.out _ hb2).mono ?_
  rintro e w12 ⟨rfl, hbx⟩
  try (have HR1 := Lib.hid (HR1.out.kept (below_grows hbx) (Classical.em _)))
  try (have HU1 := Lib.hid (HU1.out.kept (below_grows hbx) (Classical.em _)))
  try (have HR2 := Lib.hid (HR2.out.kept (below_grows hbx) (Classical.em _)))
  try (have HU2 := Lib.hid (HU2.out.kept (below_grows hbx) (Classical.em _)))
  try (have HR3 := Lib.hid (HR3.out.kept (below_grows hbx) (Classical.em _)))
  try (have HU3 := Lib.hid (HU3.out.kept (below_grows hbx) (Classical.em _)))
  have hb2 := hb2.trans (hbx.mono hb2.size)
  clear hbx
  try clear hrow
  have z1 : (bS != bS) = false := by simp
  have z2 : ((E1 : Int) != E1) = false := by simp
  have z3 : ((I : Int) != (I : Int)) = false := by simp
  have z4 : (B != B) = false := by simp
  have z5 : ((E2 : Int) != E2) = false := by simp
  have z6 : ((E3 : Int) != E3) = false := by simp
  have z7 : ((U : Int) != (U : Int)) = false := by simp
  have z8 : ((V : Int) != (V : Int)) = false := by simp
  have z9 : ((E4 : Int) != E4) = false := by simp
  go_wp2_with fail
  refine (HSt.out _ hb2).mono ?_
  rintro e w13 ⟨rfl, hbx⟩
  try (have HR1 := Lib.hid (HR1.out.kept (below_grows hbx) (Classical.em _)))
  try (have HU1 := Lib.hid (HU1.out.kept (below_grows hbx) (Classical.em _)))
  try (have HR2 := Lib.hid (HR2.out.kept (below_grows hbx) (Classical.em _)))
  try (have HU2 := Lib.hid (HU2.out.kept (below_grows hbx) (Classical.em _)))
  try (have HR3 := Lib.hid (HR3.out.kept (below_grows hbx) (Classical.em _)))
  try (have HU3 := Lib.hid (HU3.out.kept (below_grows hbx) (Classical.em _)))
  have hb2 := hb2.trans (hbx.mono hb2.size)
  clear hbx
  try clear hrow
  go_wp2_with fail
  refine (RSt.out _ hb2).mono ?_
  rintro e w14 ⟨rfl, hbx⟩
  try (have HR1 := Lib.hid (HR1.out.kept (below_grows hbx) (Classical.em _)))
  try (have HU1 := Lib.hid (HU1.out.kept (below_grows hbx) (Classical.em _)))
  try (have HR2 := Lib.hid (HR2.out.kept (below_grows hbx) (Classical.em _)))
  try (have HU2 := Lib.hid (HU2.out.kept (below_grows hbx) (Classical.em _)))
  try (have HR3 := Lib.hid (HR3.out.kept (below_grows hbx) (Classical.em _)))
  try (have HU3 := Lib.hid (HU3.out.kept (below_grows hbx) (Classical.em _)))
  have hb2 := hb2.trans (hbx.mono hb2.size)
  clear hbx
  try clear hrow
  go_wp2_with fail
  refine (S1.out _ _ _ _ _ (own_cells HR1.out) (own_cells HU1.out)).mono ?_
  rintro e w15 ⟨rfl, hbx⟩
  try (have HR1 := Lib.hid (HR1.out.kept (below_grows hbx) (Classical.em _)))
  try (have HU1 := Lib.hid (HU1.out.kept (below_grows hbx) (Classical.em _)))
  try (have HR2 := Lib.hid (HR2.out.kept (below_grows hbx) (Classical.em _)))
  try (have HU2 := Lib.hid (HU2.out.kept (below_grows hbx) (Classical.em _)))
  try (have HR3 := Lib.hid (HR3.out.kept (below_grows hbx) (Classical.em _)))
  try (have HU3 := Lib.hid (HU3.out.kept (below_grows hbx) (Classical.em _)))
  have hb2 := hb2.trans (hbx.mono hb2.size)
  clear hbx
  try clear hrow
  go_wp2_with fail
  refine (S2.out _ _ _ _ _ (own_cells HR2.out) (own_cells HU2.out)).mono ?_
  rintro e w16 ⟨rfl, hbx⟩
  try (have HR1 := Lib.hid (HR1.out.kept (below_grows hbx) (Classical.em _)))
  try (have HU1 := Lib.hid (HU1.out.kept (below_grows hbx) (Classical.em _)))
  try (have HR2 := Lib.hid (HR2.out.kept (below_grows hbx) (Classical.em _)))
  try (have HU2 := Lib.hid (HU2.out.kept (below_grows hbx) (Classical.em _)))
  try (have HR3 := Lib.hid (HR3.out.kept (below_grows hbx) (Classical.em _)))
  try (have HU3 := Lib.hid (HU3.out.kept (below_grows hbx) (Classical.em _)))
  have hb2 := hb2.trans (hbx.mono hb2.size)
  clear hbx
  try clear hrow
  go_wp2_with fail
  refine (S3.out _ _ _ _ _ (own_cells HR3.out) (own_cells HU3.out)).mono ?_
  rintro e w17 ⟨rfl, hbx⟩
  try (have HR1 := Lib.hid (HR1.out.kept (below_grows hbx) (Classical.em _)))
  try (have HU1 := Lib.hid (HU1.out.kept (below_grows hbx) (Classical.em _)))
  try (have HR2 := Lib.hid (HR2.out.kept (below_grows hbx) (Classical.em _)))
  try (have HU2 := Lib.hid (HU2.out.kept (below_grows hbx) (Classical.em _)))
  try (have HR3 := Lib.hid (HR3.out.kept (below_grows hbx) (Classical.em _)))
  try (have HU3 := Lib.hid (HU3.out.kept (below_grows hbx) (Classical.em _)))
  have hb2 := hb2.trans (hbx.mono hb2.size)
  clear hbx
  try clear hrow
  clear HU1 HU2 HU3 HOf ROf HFd RFd HAd RAd HDp RDp HRg RRg HSt RSt S1 S2 S3
  go_wp2
  have hn17 := fun (v : Value) (hlt : ∀ k, v.ownBlock = some k → w2.heap.size ≤ k ∧ k < w17.heap.size) => show some w17.heap.size ≠ v.ownBlock from fun h => Nat.lt_irrefl _ (hlt _ h.symm).2
  have ne1 := hn17 _ HR1.out.lt
  have ne2 := hn17 _ HR2.out.lt
  have HZ1 := Lib.hid (HR1.out.alloc (.cells #[Value.slice A1 n1 k1, Value.slice A3 n2 k3, Value.slice A5 n3 k5] 22))
  have HZ2 := Lib.hid (HR2.out.alloc (.cells #[Value.slice A1 n1 k1, Value.slice A3 n2 k3, Value.slice A5 n3 k5] 22))
  have HZ3 := Lib.hid (HR3.out.alloc (.cells #[Value.slice A1 n1 k1, Value.slice A3 n2 k3, Value.slice A5 n3 k5] 22))
  have hbz := hb2.alloc hb2.size (.cells #[Value.slice A1 n1 k1, Value.slice A3 n2 k3, Value.slice A5 n3 k5] 22)
  have hh := World.alloc_heap_new w17 (.cells #[Value.slice A1 n1 k1, Value.slice A3 n2 k3, Value.slice A5 n3 k5] 22)
  obtain ⟨wz, hwz⟩ : ∃ wz, w17.alloc (.cells #[Value.slice A1 n1 k1, Value.slice A3 n2 k3, Value.slice A5 n3 k5] 22) = wz := ⟨_, rfl⟩
  rw [hwz] at HZ1 HZ2 HZ3 hbz hh ⊢
  obtain ⟨bz, hbzz⟩ : ∃ bz, w17.heap.size = bz := ⟨_, rfl⟩
  rw [hbzz] at hh ne1 ne2 ⊢
  have t0 : wz.cell? ⟨bz, 0, none⟩ = some (.slice A1 n1 k1) := by simp [World.cell?, hh]
  have t1 : wz.cell? ⟨bz, 1, none⟩ = some (.slice A3 n2 k3) := by simp [World.cell?, hh]
  have t2 : wz.cell? ⟨bz, 2, none⟩ = some (.slice A5 n3 k5) := by simp [World.cell?, hh]
  have T1 := Lib.hid t1
  have T2 := Lib.hid t2
  have NE1 := Lib.hid ne1
  have NE2 := Lib.hid ne2
  clear hwz hbzz hh HR1 HR2 HR3 hb2 t1 t2 ne1 ne2 hn17
  refine wp_loop_rounds 4 ?_
  rw [rounds_succ]
  go_wp2_with fail
  refine (Over_any (.slice A1 n1 k1) n1 w2.heap.size _ wz (by omega) HZ1.out hbz.size).mono ?_
  rintro e y1 ⟨rfl, gr⟩
  have HZ2 := Lib.hid (HZ2.out.kept gr ap12.out)
  have HZ3 := Lib.hid (HZ3.out.kept gr ap13.out)
  have hby := hbz.grown gr hbz.size (fun j hj => (HZ1.out.lt j hj).1)
  have t1 := gr.cell T1.out NE1.out
  have T2 := Lib.hid (gr.cell T2.out NE1.out)
  clear gr t0 T1 HZ1 hbz
  go_wp2
  rw [rounds_succ]
  go_wp2_with fail
  refine (Over_any (.slice A3 n2 k3) n2 w2.heap.size _ y1 (by omega) HZ2.out hby.size).mono ?_
  rintro e y2 ⟨rfl, gr⟩
  have HZ3 := Lib.hid (HZ3.out.kept gr ap23.out)
  have hbx := hby.grown gr hby.size (fun j hj => (HZ2.out.lt j hj).1)
  have t2 := gr.cell T2.out NE2.out
  clear gr t1 T2 HZ2 hby
  go_wp2
  rw [rounds_succ]
  go_wp2_with fail
  refine (Over_any (.slice A5 n3 k5) n3 w2.heap.size _ y2 (by omega) HZ3.out hbx.size).mono ?_
  rintro e y3 ⟨rfl, gr⟩
  have hbw := hbx.grown gr hbx.size (fun j hj => (HZ3.out.lt j hj).1)
  clear gr t2 HZ3 hbx
  go_wp2
  rw [rounds_succ]
  go_wp2_with fail
  refine (HKp.out _ hbw).mono ?_
  rintro e y4 ⟨rfl, hbv⟩
  have hfin := hbl.out _ (hbw.trans (hbv.mono hbw.size))
  go_wp2
  go_ret
  exact ⟨rfl, hfin⟩

set_option maxRecDepth 100000 in
set_option maxHeartbeats 4000000 in
theorem sets_any (A : Option Addr) (n cap : Nat) (xs : List ByteArray) (s : ByteArray) (w : World) (hn : xs.length = n) (hm : n ≤ maxLen) (hcap : n ≤ cap) (hcm : cap ≤ maxLen) (ha : A = none → n = 0) (hp : ∀ p ∈ xs, p.size ≤ maxLen) (hs : s.size ≤ maxLen) (hc : Cells w A (xs.map Value.string)) :
    Calls Try.prog 24 #[.slice A n cap, .string s] w fun e w' => e = .returned (.bool true) ∧ Below w.heap.size w w' := by
  have hF := few_any A n cap xs w hn hm hp hc
  by_cases h3 : (decide (xs.length ≤ 300) && xs.all fun x => decide (x.size ≤ 200)) = true
  · by_cases h2 : 200 < s.size
    · have d2 : (200 : Int) < (s.size : Int) := by omega
      rw [h3] at hF
      have HF := Lib.hid hF
      clear hF h2 h3
      go_enter Try.func24, Try.ntmps24
      go_wp2_with fail
      refine HF.out.mono ?_
      rintro e w0 ⟨rfl, rfl⟩
      go_wp2
      go_ret
      exact ⟨rfl, Below.refl _ _⟩
    · have hmap : (xs.map fun s : ByteArray => s.data.toList).map strV = xs.map Value.string := by
        rw [List.map_map]; rfl
      have h5 := (Bool.and_eq_true _ _ ▸ h3 : _ ∧ _)
      have h6 : xs.length ≤ 300 := of_decide_eq_true h5.1
      have := sets_in A n cap (xs.map fun s : ByteArray => s.data.toList) s.data.toList w (by rw [List.length_map]; exact hn) (by omega) hcap hcm ha
        (fun p hp => by
          obtain ⟨x, hx, rfl⟩ := List.mem_map.1 hp
          have := of_decide_eq_true (List.all_eq_true.1 h5.2 x hx)
          exact this) (by show s.size ≤ 200; omega) (by rw [hmap]; exact hc)
      exact this
  · rw [Bool.not_eq_true] at h3
    rw [h3] at hF
    have HF := Lib.hid hF
    clear hF h3
    go_enter Try.func24, Try.ntmps24
    go_wp2_with fail
    refine HF.out.mono ?_
    rintro e w0 ⟨rfl, rfl⟩
    go_wp2
    go_ret
    exact ⟨rfl, Below.refl _ _⟩

set_option maxRecDepth 100000 in
set_option maxHeartbeats 4000000 in
theorem NameSets_any (A : Option Addr) (n cap : Nat) (xs : List ByteArray) (s : ByteArray) (w : World) (hn : xs.length = n) (hm : n ≤ maxLen) (hcap : n ≤ cap) (hcm : cap ≤ maxLen) (ha : A = none → n = 0) (hp : ∀ p ∈ xs, p.size ≤ maxLen) (hs : s.size ≤ maxLen) (hc : Cells w A (xs.map Value.string)) :
    Calls Try.prog 7 #[.slice A n cap, .string s] w fun e w' => e = .returned (.bool true) ∧ Below w.heap.size w w' := by
  have HT := Lib.hid (sets_any A n cap xs s w hn hm hcap hcm ha hp hs hc)
  have HA := Lib.hid (fun W => awake_any W)
  clear hs hn hm hcap hcm ha hp hc
  go_enter Try.func7, Try.ntmps7
  go_wp2_with fail
  refine HT.out.mono ?_
  rintro e w1 ⟨rfl, hb1⟩
  go_wp2_with fail
  refine (HA.out _).mono ?_
  rintro e w2 ⟨rfl, hb2⟩
  go_wp2_with fail
  go_ret
  exact ⟨rfl, hb1.trans (hb2.mono hb1.size)⟩
end Go.Proofs.Ytnanleopoedgfaa
