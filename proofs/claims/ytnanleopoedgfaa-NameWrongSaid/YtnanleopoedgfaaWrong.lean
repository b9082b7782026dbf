/-
  NameWrong.
-/
import Derived.Test.YtnanleopoedgfaaWrongM
import Derived.Test.YtnanleopoedgfaaFull
set_option linter.unusedSimpArgs false
set_option linter.unusedVariables false
namespace Go.Proofs.Ytnanleopoedgfaa
open Go.RowKit
attribute [local go_sem ↓] Go.wp_at_zero Go.wp_at_succ

theorem bad_cell (w : World) (i : Nat) (hi : i < 9) :
    (w.alloc (.cells #[.string ⟨#[]⟩, .string ⟨#[65]⟩, .string ⟨#[48, 97]⟩, .string ⟨#[45, 97]⟩, .string ⟨#[97, 45]⟩, .string ⟨#[97, 46]⟩, .string ⟨#[46, 97]⟩, .string ⟨#[97, 46, 46, 98]⟩, .string ⟨#[97, 95, 98]⟩] 9)).cell? ⟨w.heap.size, i, none⟩ = some (.string (bs (badB i))) := by
  have h := World.alloc_heap_new w (.cells #[.string ⟨#[]⟩, .string ⟨#[65]⟩, .string ⟨#[48, 97]⟩, .string ⟨#[45, 97]⟩, .string ⟨#[97, 45]⟩, .string ⟨#[97, 46]⟩, .string ⟨#[46, 97]⟩, .string ⟨#[97, 46, 46, 98]⟩, .string ⟨#[97, 95, 98]⟩] 9)
  simp only [World.cell?, h]
  match i, hi with
  | 0, _ => rfl
  | 1, _ => rfl
  | 2, _ => rfl
  | 3, _ => rfl
  | 4, _ => rfl
  | 5, _ => rfl
  | 6, _ => rfl
  | 7, _ => rfl
  | 8, _ => rfl
theorem forty_cell (w : World) (i : Nat) (hi : i < 8) (t : TypeId) :
    (w.alloc (.cells #[.int .i64 40, .int .i64 40, .int .i64 40, .int .i64 40, .int .i64 40, .int .i64 40, .int .i64 40, .int .i64 40] t)).cell? ⟨w.heap.size, i, none⟩ = some (.int .i64 40) := by
  have h := World.alloc_heap_new w (.cells #[.int .i64 40, .int .i64 40, .int .i64 40, .int .i64 40, .int .i64 40, .int .i64 40, .int .i64 40, .int .i64 40] t)
  simp only [World.cell?, h]
  match i, hi with
  | 0, _ => rfl
  | 1, _ => rfl
  | 2, _ => rfl
  | 3, _ => rfl
  | 4, _ => rfl
  | 5, _ => rfl
  | 6, _ => rfl
  | 7, _ => rfl

theorem cell_two_new (w : World) (x y : Value) (t : TypeId) : ∀ j u, [x, y][j]? = some u → (w.alloc (.cells #[x, y] t)).cell? ((⟨w.heap.size, 0, none⟩ : Addr).add j) = some u := by
  intro j u hj
  have hh := World.alloc_heap_new w (.cells #[x, y] t)
  rw [Addr.add_lit]
  simp only [World.cell?, hh, Nat.zero_add]
  match j, hj with
  | 0, hj => exact hj
  | 1, hj => exact hj
theorem cells_three (w : World) (x y z : Bs) (t : TypeId) : Cells (w.alloc (.cells #[.string (bs x), .string (bs y), .string (bs z)] t)) (some ⟨w.heap.size, 0, none⟩) ([x, y, z].map strV) := fun j u h => by
  refine ⟨_, _, rfl, ?_⟩
  have hh := World.alloc_heap_new w (.cells #[.string (bs x), .string (bs y), .string (bs z)] t)
  simp only [World.cell?, hh, Nat.zero_add]
  match j, h with
  | 0, h => exact h
  | 1, h => exact h
  | 2, h => exact h
/-- A string that is no name: Parts, Join, Compare, Under. -/
theorem bad_calls (x : Bs) (hx : rightB x = false) (hl : x.length ≤ 4) (hj : joinOk [[97], x, [46]] = false) :
    (∀ W, Calls Try.prog 14 #[.string (bs x)] W (TwoPost [] 0 40 W)) ∧
    (∀ b W, b < W.heap.size → Cells W (some ⟨b, 0, none⟩) ([[97], x, [46]].map strV) → Calls Try.prog 15 #[.slice (some ⟨b, 0, none⟩) 3 3] W fun e w' => e = .returned (.tuple #[.string ⟨#[]⟩, .int .i64 40]) ∧ Below W.heap.size W w') ∧
    (∀ W, Calls Try.prog 13 #[.string (bs x), .string (bs [97])] W (NumPost 0 40 W)) ∧
    (∀ W, Calls Try.prog 13 #[.string (bs [97]), .string (bs x)] W (NumPost 0 40 W)) ∧
    (∀ W, Calls Try.prog 27 #[.string (bs x)] W fun e w' => e = .returned (.bool false) ∧ W = w') ∧
    (∀ y z : Bs, y.length ≤ 1000 → z.length ≤ 1000 → (y = x ∨ z = x) → ∀ W, Calls Try.prog 16 #[.string (bs y), .string (bs z)] W fun e w' => e = .returned (.bool false) ∧ Below W.heap.size W w') := by
  refine ⟨fun W => ?_, fun b W hb hc => ?_, fun W => ?_, fun W => ?_, fun W => ?_, fun y z hy hz hyz W => ?_⟩
  · have h := Parts_two x (by omega) W
    rw [show partsL x = [] by unfold partsL; rw [hx]; rfl, hx] at h
    exact h
  · refine (Join_any (some ⟨b, 0, none⟩) 3 3 [[97], x, [46]] W rfl (by omega) (by omega) (fun p hp => ?_) hc (fun b' off s h => by cases h; exact hb)).mono ?_
    · simp at hp
      rcases hp with rfl | rfl | rfl
      · decide
      · omega
      · decide
    · rintro e w' ⟨rfl, hb⟩
      rw [hj]
      exact ⟨rfl, hb⟩
  · have h := Compare_two x [97] (by omega) (by decide) W
    rw [show cmpN x [97] = 0 by unfold cmpN; rw [hx]; rfl, hx] at h
    exact h
  · have h := Compare_two [97] x (by decide) (by omega) W
    rw [show cmpN [97] x = 0 by unfold cmpN; rw [hx, Bool.and_false]; rfl, hx, Bool.and_false] at h
    exact h
  · have h := Right_l x (by omega) W
    rwa [hx] at h
  · have h := Under_l y z hy hz W
    have hu : underB y z = false := by
      rw [Bool.eq_false_iff]; intro hu
      obtain ⟨h1, h2, _⟩ := (underB_iff y z).1 hu
      rcases hyz with rfl | rfl
      · rw [hx] at h1; cases h1
      · rw [hx] at h2; cases h2
    rwa [hu] at h
/-- A string that is no name, with a set. -/
theorem bad_sets (x : Bs) (hx : rightB x = false) (hl : x.length ≤ 4) (S : List Bs) (m : Nat) (hset : setB S = true) (hm : S.length = m) :
    (∀ A c W, Cells W A (S.map strV) → Calls Try.prog 23 #[.slice A m c, .string (bs x)] W (TwoPost [] 0 40 W)) ∧
    (∀ A c W, Cells W A (S.map strV) → Calls Try.prog 26 #[.slice A m c, .string (bs x)] W (TwoPost [] 0 40 W)) ∧
    (∀ A c W, Cells W A (S.map strV) → Calls Try.prog 19 #[.slice A m c, .string (bs x)] W fun e w' => e = .returned (.tuple #[.int .i64 0, .int .i64 0, .int .i64 40]) ∧ Below W.heap.size W w') ∧
    (∀ A c W, Cells W A (S.map strV) → Calls Try.prog 20 #[.slice A m c, .string (bs x)] W fun e w' => e = .returned (.tuple #[.int .i64 0, .bool false]) ∧ Below W.heap.size W w') ∧
    (∀ A c W, Cells W A ((S ++ [x]).map strV) → Calls Try.prog 17 #[.slice A (m + 1) c] W (TwoPost [] 0 40 W)) := by
  have hs := setB_short hset
  have h256 := setB_len hset
  obtain ⟨a1, a2, a3, a4⟩ := add_bad S x hset hx
  obtain ⟨a5, a6⟩ := of_bad S x hx
  refine ⟨fun A c W hc => ?_, fun A c W hc => ?_, fun A c W hc => ?_, fun A c W hc => ?_, fun A c W hc => ?_⟩
  · have h := Add_any A m c S x W hm (by omega) (fun p hp => by have := hs p hp; omega) (by omega) hc
    rw [a1, a2] at h
    exact h.mono fun _ _ h => two_of_row h
  · have h := Drop_any A m c S x W hm (by omega) (fun p hp => by have := hs p hp; omega) (by omega) hc
    rw [a3, a4] at h
    exact h.mono fun _ _ h => two_of_row h
  · refine (Range_any A m c S x W hm (by omega) (fun p hp => by have := hs p hp; omega) (by omega) hc).mono ?_
    rintro e w' ⟨rfl, hb⟩
    rw [hset, hx]
    exact ⟨rfl, hb⟩
  · refine (Find_any A m c S x W hm (by omega) (fun p hp => by have := hs p hp; omega) (by omega) hc).mono ?_
    rintro e w' ⟨rfl, hb⟩
    rw [hset, hx]
    exact ⟨rfl, hb⟩
  · have h := Of_any A (m + 1) c (S ++ [x]) W (by rw [List.length_append, hm]; rfl) (by omega) (fun p hp => by
      rcases List.mem_append.1 hp with h | h
      · have := hs p h; omega
      · simp at h; rw [h]; omega) hc
    rw [a5, a6] at h
    exact h.mono fun _ _ h => two_of_row h
/-- A list that is no set. -/
theorem wrong_calls (x : Bs) (hl : x.length ≤ 4) (L : List Bs) (hL : setB L = false) (hs : ∀ p ∈ L, p.length ≤ 1000) (A : Option Addr) (n c : Nat) (hn : L.length = n) (h300 : n ≤ 1000) (W0 : World) (hc0 : Cells W0 A (L.map strV)) :
    (∀ W, Below W0.heap.size W0 W → Calls Try.prog 23 #[.slice A n c, .string (bs x)] W (TwoPost [] 0 41 W)) ∧
    (∀ W, Below W0.heap.size W0 W → Calls Try.prog 26 #[.slice A n c, .string (bs [97])] W (TwoPost [] 0 41 W)) ∧
    (∀ W, Below W0.heap.size W0 W → Calls Try.prog 19 #[.slice A n c, .string (bs x)] W fun e w' => e = .returned (.tuple #[.int .i64 0, .int .i64 0, .int .i64 41]) ∧ Below W.heap.size W w') ∧
    (∀ W, Below W0.heap.size W0 W → Calls Try.prog 20 #[.slice A n c, .string (bs [97])] W fun e w' => e = .returned (.tuple #[.int .i64 0, .bool false]) ∧ Below W.heap.size W w') ∧
    (∀ W, Below W0.heap.size W0 W → Calls Try.prog 25 #[.slice A n c] W fun e w' => e = .returned (.bool false) ∧ Below W.heap.size W w') := by
  obtain ⟨a1, a2, _, _⟩ := add_wrong L x hL
  obtain ⟨_, _, a3, a4⟩ := add_wrong L [97] hL
  refine ⟨fun W hb => ?_, fun W hb => ?_, fun W hb => ?_, fun W hb => ?_, fun W hb => ?_⟩
  · have h := Add_any A n c L x W hn (by omega) hs (by omega) (hc0.below hb)
    rw [a1, a2] at h
    exact h.mono fun _ _ h => two_of_row h
  · have h := Drop_any A n c L [97] W hn (by omega) hs (by decide) (hc0.below hb)
    rw [a3, a4] at h
    exact h.mono fun _ _ h => two_of_row h
  · refine (Range_any A n c L x W hn (by omega) (fun p hp => by have := hs p hp; omega) (by omega) (hc0.below hb)).mono ?_
    rintro e w' ⟨rfl, hb⟩
    rw [hL]
    exact ⟨rfl, hb⟩
  · refine (Find_any A n c L [97] W hn (by omega) (fun p hp => by have := hs p hp; omega) (by decide) (hc0.below hb)).mono ?_
    rintro e w' ⟨rfl, hb⟩
    rw [hL]
    exact ⟨rfl, hb⟩
  · have h := Set_any A n c L W hn (by omega) (fun p hp => by have := hs p hp; omega) (hc0.below hb)
    rw [hL] at h
    exact h

set_option maxRecDepth 100000 in
set_option maxHeartbeats 16000000 in
theorem NameWrong_any (a : Option Addr) (n cap wy df : Nat) (ns : List Nat) (w : World) (hn : ns.length = n) (hm : n ≤ maxLen) (hcap : n ≤ cap) (hcm : cap ≤ maxLen) (hp : ∀ x ∈ ns, x < 65536) (hwy : wy < 256) (hdf : df < 256) (hc : Cells w a (ns.map u16V)) :
    Calls Try.prog 9 #[.slice a n cap, .int .u8 wy, .int .u8 df] w fun e w' => e = .returned (.bool true) ∧ Below w.heap.size w w' := by
  obtain ⟨i0, hi, hz0, hz1, hz2⟩ := info_parts info_str
  have HA := Lib.hid (fun W => awake_any W)
  have HM := Lib.hid (fun W (h : Cells W a (ns.map u16V)) => mades_any a n cap ns W hn hm hcap hcm hp h)
  have HO := Lib.hid (fun (A : Option Addr) (c : Nat) (W : World) (h : Cells W A ((madesB ns).map strV)) => Of_mades A (madesB ns).length c ns W rfl h)
  obtain ⟨_, _, hset, h40⟩ := ofL_mades ns
  obtain ⟨k0, hk0⟩ : ∃ k, (madesB ns).length = k := ⟨_, rfl⟩
  rw [hk0] at HM HO
  obtain ⟨K, hK⟩ : ∃ K, madesB ns = K := ⟨_, rfl⟩
  rw [hK] at HM HO hset h40
  obtain ⟨S, hS⟩ : ∃ S, ofB K = S := ⟨_, rfl⟩
  rw [hS] at HO hset h40
  obtain ⟨m, hm'⟩ : ∃ m, S.length = m := ⟨_, rfl⟩
  rw [hm'] at HO h40
  obtain ⟨r, hr⟩ : ∃ r, wy % 9 = r := ⟨_, rfl⟩
  have hr9 : r < 9 := by omega
  have t1 : (wy : Int) % 9 = (r : Int) := by omega
  obtain ⟨d, hd⟩ : ∃ d, df % 4 = d := ⟨_, rfl⟩
  have hd4 : d < 4 := by omega
  have t2 : (df : Int) % 4 = (d : Int) := by omega
  have HB := fun W => bad_cell W r hr9
  obtain ⟨hxr, hxl, hxj⟩ := badB_not r hr9
  obtain ⟨x, hx⟩ : ∃ x, badB r = x := ⟨_, rfl⟩
  rw [hx] at HB hxr hxl hxj
  have HCl := bad_calls x hxr hxl hxj
  have HPt := Lib.hid HCl.1
  have HJn := Lib.hid HCl.2.1
  have HC1 := Lib.hid HCl.2.2.1
  have HC2 := Lib.hid HCl.2.2.2.1
  have HRt := Lib.hid HCl.2.2.2.2.1
  have HU := Lib.hid HCl.2.2.2.2.2
  have HSt := bad_sets x hxr hxl S m hset hm'
  have HAd := Lib.hid HSt.1
  have HDp := Lib.hid HSt.2.1
  have HRg := Lib.hid HSt.2.2.1
  have HFd := Lib.hid HSt.2.2.2.1
  have HOf := Lib.hid HSt.2.2.2.2
  have hshort := setB_short hset
  have HW := Lib.hid (fun (d : Nat) (L : List Bs) (hL : wrongB S x d = L) (A : Option Addr) (n c : Nat) (hn : L.length = n) (h300 : n ≤ 1000) {W0 : World} (hc0 : Cells W0 A (L.map strV)) =>
    wrong_calls x hxl L (hL ▸ wrongB_not S x hxr d) (hL ▸ wrongB_short S x hshort hxl d) A n c hn h300 W0 hc0)
  have HB := Lib.hid HB
  have Hm := Lib.hid hm'
  have Hc := Lib.hid hc
  have HCp := Lib.hid (fun (A : Option Addr) (c : Nat) (W : World) => CopyTexts_any A m c S W hm' (by omega))
  have Hxl := Lib.hid hxl
  clear hn hm hcap hcm hp hc hk0 hK hS hm' hr hd hx hxr hxl hxj hset hshort HCl HSt
  have q1 : (0 : Int) ≤ (r : Int) := by omega
  have q2 : (r : Int) < 9 := by omega
  go_enter Try.func9, Try.ntmps9
  go_wp2_with fail
  refine (HA.out _).mono ?_
  rintro e w1 ⟨rfl, hb1⟩
  have hcell := HB.out w1
  have hw1 : Below w1.heap.size w1 (w1.alloc (.cells #[.string ⟨#[]⟩, .string ⟨#[65]⟩, .string ⟨#[48, 97]⟩, .string ⟨#[45, 97]⟩, .string ⟨#[97, 45]⟩, .string ⟨#[97, 46]⟩, .string ⟨#[46, 97]⟩, .string ⟨#[97, 46, 46, 98]⟩, .string ⟨#[97, 95, 98]⟩] 9)) := (Below.refl _ _).alloc (Nat.le_refl _) _
  go_wp2_with fail
  refine (HM.out _ (Hc.out.below (hb1.trans (hw1.mono hb1.size)))).mono ?_
  rintro e w2 ⟨v, rfl, hrow, hb2⟩
  have hb02 := (hb1.trans (hw1.mono hb1.size)).trans (hb2.mono (hb1.trans (hw1.mono hb1.size)).size)
  obtain ⟨A2, c2, rfl, _, _, _, hc2, _⟩ := ownsRow_cells hrow
  have Hc2 := Lib.hid hc2
  clear hrow hc2 hb1 hb2 hcell hw1
  go_wp2_with fail
  refine (HO.out _ _ _ Hc2.out).mono ?_
  rintro e w3 ⟨v, rfl, hrow, hb3⟩
  have hb03 := hb02.trans (hb3.mono hb02.size)
  obtain ⟨A3, c3, rfl, _, _, _, hc3, _⟩ := ownsRow_cells hrow
  have Hc3 := Lib.hid hc3
  clear hrow hc3 hb02 hb3 Hc2
  go_wp2_with fail
  refine (HPt.out _).mono ?_
  rintro e w4 ⟨A4, c4, rfl, _, hb4⟩
  have Hc3 := Lib.hid (Hc3.out.below hb4)
  have hb04 := hb03.trans (hb4.mono hb03.size)
  clear hb03 hb4
  have hal : Below w4.heap.size w4 (w4.alloc (.cells #[.string ⟨#[97]⟩, .string (bs x), .string ⟨#[46]⟩] 9)) := (Below.refl _ _).alloc (Nat.le_refl _) _
  have hcj : Cells (w4.alloc (.cells #[.string ⟨#[97]⟩, .string (bs x), .string ⟨#[46]⟩] 9)) (some ⟨w4.heap.size, 0, none⟩) ([[97], x, [46]].map strV) := cells_three _ _ _ _ _
  have Hj := Lib.hid (HJn.out w4.heap.size _ (by simp) hcj)
  have Hc3 := Lib.hid (Hc3.out.below hal)
  have hb04 := hb04.trans (hal.mono hb04.size)
  clear hal hcj
  go_wp2_with fail
  refine Hj.out.mono ?_
  rintro e w5 ⟨rfl, hb5⟩
  have Hc3 := Lib.hid (Hc3.out.below hb5)
  have hb05 := hb04.trans (hb5.mono hb04.size)
  clear hb5 Hj
  go_wp2_with fail
  refine (HC1.out _).mono ?_
  rintro e w6 ⟨rfl, hb6⟩
  have Hc3 := Lib.hid (Hc3.out.below hb6)
  have hb06 := hb05.trans (hb6.mono hb05.size)
  clear hb6
  go_wp2_with fail
  refine (HC2.out _).mono ?_
  rintro e w7 ⟨rfl, hb7⟩
  have Hc3 := Lib.hid (Hc3.out.below hb7)
  have hb07 := hb06.trans (hb7.mono hb06.size)
  clear hb7
  go_wp2_with fail
  refine (HCp.out _ _ _ Hc3.out).mono ?_
  rintro e w8 ⟨v, rfl, hrow, hb8⟩
  go_wp2_with (at_builtin; refine wpList_append_own _ rfl _ _ 22 rfl w7.heap.size 9 i0 (.string ⟨#[]⟩) 1 16 Try.underlying22 hi hz0 hz1 hz2 rfl (by decide) v m _ rfl (hrow.alloc _) ⟨w8.heap.size, 0, none⟩ 1 1 [.string (bs x)] rfl rfl (cell_one_new _ _ _) (by simp [Value.oneCell']) (by unfold maxLen; omega) (by omega) (by have := hb8.size; simp; omega) ?_; intro v' w9 hrow9 hgrow _)
  have hb79 : Below w7.heap.size w7 w9 := (hb8.alloc hb8.size _).grown hgrow (by have := hb8.size; simp; omega) (fun j hj => (hrow.lt j hj).1)
  have Hc3 := Lib.hid (Hc3.out.below hb79)
  have hb09 := hb07.trans (hb79.mono hb07.size)
  rw [show S.map strV ++ [Value.string (bs x)] = (S ++ [x]).map strV by rw [List.map_append]; rfl] at hrow9
  obtain ⟨A9, c9, rfl, _, _, _, hc9, _⟩ := ownsRow_cells hrow9
  have HO9 := Lib.hid (HOf.out A9 c9 w9 hc9)
  clear hrow hb8 hb79 hb07 hgrow hrow9 hc9
  go_wp2_with fail
  refine HO9.out.mono ?_
  rintro e w10 ⟨A10, c10, rfl, _, hb10⟩
  have Hc3 := Lib.hid (Hc3.out.below hb10)
  have hb10 := hb09.trans (hb10.mono hb09.size)
  clear HO9 hb09
  go_wp2_with fail
  refine (HAd.out _ _ _ Hc3.out).mono ?_
  rintro e w11 ⟨A11, c11, rfl, _, hb11⟩
  have Hc3 := Lib.hid (Hc3.out.below hb11)
  have hb11 := hb10.trans (hb11.mono hb10.size)
  clear hb10
  go_wp2_with fail
  refine (HDp.out _ _ _ Hc3.out).mono ?_
  rintro e w12 ⟨A12, c12, rfl, _, hb12⟩
  have Hc3 := Lib.hid (Hc3.out.below hb12)
  have hb12 := hb11.trans (hb12.mono hb11.size)
  clear hb11
  go_wp2_with fail
  refine (HRg.out _ _ _ Hc3.out).mono ?_
  rintro e w13 ⟨rfl, hb13⟩
  have Hc3 := Lib.hid (Hc3.out.below hb13)
  have hb13 := hb12.trans (hb13.mono hb12.size)
  clear hb12
  go_wp2_with fail
  refine (HFd.out _ _ _ Hc3.out).mono ?_
  rintro e w14 ⟨rfl, hb14⟩
  have Hc3 := Lib.hid (Hc3.out.below hb14)
  have hb14 := hb13.trans (hb14.mono hb13.size)
  clear hb13
  have hal : Below w14.heap.size w14 (w14.alloc (.cells #[.int .i64 40, .int .i64 40, .int .i64 40, .int .i64 40, .int .i64 40, .int .i64 40, .int .i64 40, .int .i64 40] 27)) := (Below.refl _ _).alloc (Nat.le_refl _) _
  have h40c := fun i hi => forty_cell w14 i hi 27
  have Hc3 := Lib.hid (Hc3.out.below hal)
  have hb14 := hb14.trans (hal.mono hb14.size)
  go_wp2
  go_loop [30, 113] (fun _ i => ∃ k : Nat, k ≤ 8 ∧ i = .int .i64 k) (fun _ i => 8 - (intOf i).toNat)
  case atStart => exact ⟨0, Nat.zero_le _, rfl⟩
  case round =>
    obtain ⟨k, hk, rfl⟩ := hrel
    by_cases hlt : k < 8
    · have hck := h40c k hlt
      go_wp2
      go_round
      case rel => exact ⟨k + 1, by omega, by go_num⟩
      case measure => simp [intOf]; omega
    · have hk8 : k = 8 := by omega
      subst hk8
      clear h40c hlt hk
      obtain ⟨wz, hwz⟩ : ∃ wz, w14.alloc (.cells #[.int .i64 40, .int .i64 40, .int .i64 40, .int .i64 40, .int .i64 40, .int .i64 40, .int .i64 40, .int .i64 40] 27) = wz := ⟨_, rfl⟩
      rw [hwz] at Hc3 hb14
      rw [hwz]
      clear hwz hal
      go_wp2_with fail
      refine (HRt.out _).mono ?_
      rintro e w15 ⟨rfl, rfl⟩
      have hxl := Hxl.out
      have u1 := Lib.hid (HU.out x x (by omega) (by omega) (.inl rfl))
      have u2 := Lib.hid (HU.out x [97] (by omega) (by decide) (.inl rfl))
      have u3 := Lib.hid (HU.out [97] x (by decide) (by omega) (.inr rfl))
      clear hxl
      go_wp2_with fail
      refine (u1.out _).mono ?_
      rintro e w16 ⟨rfl, hb16⟩
      have Hc3 := Lib.hid (Hc3.out.below hb16)
      have hb16 := hb14.trans (hb16.mono hb14.size)
      clear hb14
      go_wp2_with fail
      refine (u2.out _).mono ?_
      rintro e w17 ⟨rfl, hb17⟩
      have Hc3 := Lib.hid (Hc3.out.below hb17)
      have hb17 := hb16.trans (hb17.mono hb16.size)
      clear hb16
      go_wp2_with fail
      refine (u3.out _).mono ?_
      rintro e w18 ⟨rfl, hb18⟩
      have Hc3 := Lib.hid (Hc3.out.below hb18)
      have hb18 := hb17.trans (hb18.mono hb17.size)
      clear hb17 u1 u2 u3
      go_wp2_with fail
      refine (HCp.out _ _ _ Hc3.out).mono ?_
      rintro e w19 ⟨v, rfl, hrow, hb19⟩
      have hs19 := hb19.size
      have hml : S.length = m := Hm.out
      match d, hd4 with
      | 0, _ =>
        have t3 : (df : Int) % 4 = 0 := t2
        clear t2
        go_wp2_with (at_builtin; refine wpList_append_own _ rfl _ _ 22 rfl w18.heap.size 9 i0 (.string ⟨#[]⟩) 1 16 Try.underlying22 hi hz0 hz1 hz2 rfl (by decide) v m _ rfl (hrow.alloc _) ⟨w19.heap.size, 0, none⟩ 2 2 [.string ⟨#[122, 122]⟩, .string ⟨#[122, 122]⟩] rfl rfl (cell_two_new _ _ _ _) (by simp [Value.oneCell']) (by unfold maxLen; omega) (by omega) (by simp; omega) ?_; intro v' w20 hrow20 hgrow _)
        have hb20 : Below w18.heap.size w18 w20 := (hb19.alloc hb19.size _).grown hgrow (by simp; omega) (fun j hj => (hrow.lt j hj).1)
        have hbT := hb18.trans (hb20.mono hb18.size)
        have hnL : (wrongB S x 0).length = m + 2 := by simp [wrongB, hml]
        have hnl : m + 2 ≤ 1000 := by omega
        rw [show S.map strV ++ [Value.string ⟨#[122, 122]⟩, Value.string ⟨#[122, 122]⟩] = (wrongB S x 0).map strV by rw [wrongB, List.map_append]; rfl] at hrow20
        obtain ⟨A, c, rfl, _, _, _, hcL, _⟩ := ownsRow_cells hrow20
        clear hrow hb19 hb20 hb18 hgrow hrow20
        have HT := HW.out _ _ rfl A _ c hnL hnl hcL
        have HT1 := Lib.hid HT.1
        have HT2 := Lib.hid HT.2.1
        have HT3 := Lib.hid HT.2.2.1
        have HT4 := Lib.hid HT.2.2.2.1
        have HT5 := Lib.hid HT.2.2.2.2
        have HcL := Lib.hid hcL
        clear HT hcL
        go_wp2_with fail
        refine (HT1.out _ (Below.refl _ _)).mono ?_
        rintro e y1 ⟨A41, c41, rfl, _, hy1⟩
        go_wp2_with fail
        refine (HT2.out _ hy1).mono ?_
        rintro e y2 ⟨A42, c42, rfl, _, hy2⟩
        have hy2 := hy1.trans (hy2.mono hy1.size)
        go_wp2_with fail
        refine (HT3.out _ hy2).mono ?_
        rintro e y3 ⟨rfl, hy3⟩
        have hy3 := hy2.trans (hy3.mono hy2.size)
        go_wp2_with fail
        refine (HT4.out _ hy3).mono ?_
        rintro e y4 ⟨rfl, hy4⟩
        have hy4 := hy3.trans (hy4.mono hy3.size)
        go_wp2_with fail
        refine (HT5.out _ hy4).mono ?_
        rintro e y5 ⟨rfl, hy5⟩
        have hy5 := hy4.trans (hy5.mono hy4.size)
        go_wp2
        go_ret
        exact ⟨rfl, hbT.trans (hy5.mono hbT.size)⟩
      | 1, _ =>
        have t3 : (df : Int) % 4 = 1 := t2
        clear t2
        go_wp2_with (first
          | (at_builtin; ((refine wpList_append_own _ rfl _ _ 22 rfl w18.heap.size 9 i0 (.string ⟨#[]⟩) 1 16 Try.underlying22 hi hz0 hz1 hz2 rfl (by decide) v m _ rfl ((hrow.alloc _).alloc _) ⟨w19.heap.size + 1, 0, none⟩ 1 1 [.string ⟨#[97]⟩] rfl rfl (by have := cell_one_new (w19.alloc (.cells #[.string ⟨#[122, 122]⟩] 9)) (.string ⟨#[97]⟩) 9; simpa using this) (by simp [Value.oneCell']) (by unfold maxLen; omega) (by omega) (by simp; omega) ?_); (intro v' w20 hrow20 hgrow _); (have hlit := ((World.ownsRow_lit (base := w19.heap.size) (e := 9) (size := 1) w19 #[.string ⟨#[122, 122]⟩] 1 (Nat.le_refl _) (by unfold maxLen; omega) rfl).alloc (.cells #[.string ⟨#[97]⟩] 9)).kept hgrow (.inr (fun e => absurd (hrow.lt w19.heap.size e.symm).2 (Nat.lt_irrefl _)))); (have hb20 : Below w18.heap.size w18 w20 := ((hb19.alloc hb19.size _).alloc (by simp; omega) _).grown hgrow (by simp; omega) (fun j hj => (hrow.lt j hj).1)); (have hs20 : w19.heap.size ≤ w20.heap.size := by have := hgrow.size; simp at this; omega); (obtain ⟨g', cap', rfl⟩ := ownsRow_succ hrow20)))
          | (refine wpList_append_own _ rfl _ _ 22 rfl w19.heap.size 9 i0 (.string ⟨#[]⟩) 1 16 Try.underlying22 hi hz0 hz1 hz2 rfl (by decide) (.slice (some ⟨w19.heap.size, 0, none⟩) 1 1) 1 _ rfl hlit ⟨g', 0, none⟩ (m + 1) cap' (S.map strV ++ [.string ⟨#[97]⟩]) rfl (by simp [hml]) (fun j u hj => by simpa using hrow20.cells (g := g') rfl j u hj) (fun u hu => by
               rcases List.mem_append.1 hu with h | h
               · exact one_strV S u h
               · rw [List.mem_singleton.1 h]; rfl) (by unfold maxLen; omega) (by omega) hs20 ?_
             intro v'' w21 hrow21 hgrow21 _))
        have hb21 : Below w18.heap.size w18 w21 := hb20.grown hgrow21 hb20.size (fun j hj => by cases hj; exact hs19)
        have hbT := hb18.trans (hb21.mono hb18.size)
        have hnL : (wrongB S x 1).length = 1 + (m + 1) := by simp [wrongB, hml]; omega
        have hnl : 1 + (m + 1) ≤ 1000 := by omega
        have hrow22 : w21.ownsRow w19.heap.size 9 1 v'' (1 + (m + 1)) ((wrongB S x 1).map strV) := by
          have e1 : (wrongB S x 1).map strV = #[Value.string ⟨#[122, 122]⟩].toList ++ (S.map strV ++ [Value.string ⟨#[97]⟩]) := by rw [wrongB, List.map_cons, List.map_append]; rfl
          rw [e1]; exact hrow21
        obtain ⟨A, c, rfl, _, _, _, hcL, _⟩ := ownsRow_cells hrow22
        clear hrow hb19 hb20 hb21 hb18 hgrow hgrow21 hrow20 hrow21 hrow22 hlit hs20
        have HT := HW.out _ _ rfl A _ c hnL hnl hcL
        have HT1 := Lib.hid HT.1
        have HT2 := Lib.hid HT.2.1
        have HT3 := Lib.hid HT.2.2.1
        have HT4 := Lib.hid HT.2.2.2.1
        have HT5 := Lib.hid HT.2.2.2.2
        have HcL := Lib.hid hcL
        clear HT hcL
        go_wp2_with fail
        refine (HT1.out _ (Below.refl _ _)).mono ?_
        rintro e y1 ⟨A41, c41, rfl, _, hy1⟩
        go_wp2_with fail
        refine (HT2.out _ hy1).mono ?_
        rintro e y2 ⟨A42, c42, rfl, _, hy2⟩
        have hy2 := hy1.trans (hy2.mono hy1.size)
        go_wp2_with fail
        refine (HT3.out _ hy2).mono ?_
        rintro e y3 ⟨rfl, hy3⟩
        have hy3 := hy2.trans (hy3.mono hy2.size)
        go_wp2_with fail
        refine (HT4.out _ hy3).mono ?_
        rintro e y4 ⟨rfl, hy4⟩
        have hy4 := hy3.trans (hy4.mono hy3.size)
        go_wp2_with fail
        refine (HT5.out _ hy4).mono ?_
        rintro e y5 ⟨rfl, hy5⟩
        have hy5 := hy4.trans (hy5.mono hy4.size)
        go_wp2
        go_ret
        exact ⟨rfl, hbT.trans (hy5.mono hbT.size)⟩
      | 2, _ =>
        have t3 : (df : Int) % 4 = 2 := t2
        clear t2
        go_wp2_with (at_builtin; refine wpList_append_own _ rfl _ _ 22 rfl w18.heap.size 9 i0 (.string ⟨#[]⟩) 1 16 Try.underlying22 hi hz0 hz1 hz2 rfl (by decide) v m _ rfl (hrow.alloc _) ⟨w19.heap.size, 0, none⟩ 1 1 [.string (bs x)] rfl rfl (cell_one_new _ _ _) (by simp [Value.oneCell']) (by unfold maxLen; omega) (by omega) (by simp; omega) ?_; intro v' w20 hrow20 hgrow _)
        have hb20 : Below w18.heap.size w18 w20 := (hb19.alloc hb19.size _).grown hgrow (by simp; omega) (fun j hj => (hrow.lt j hj).1)
        have hbT := hb18.trans (hb20.mono hb18.size)
        have hnL : (wrongB S x 2).length = m + 1 := by simp [wrongB, hml]
        have hnl : m + 1 ≤ 1000 := by omega
        rw [show S.map strV ++ [Value.string (bs x)] = (wrongB S x 2).map strV by rw [wrongB, List.map_append]; rfl] at hrow20
        obtain ⟨A, c, rfl, _, _, _, hcL, _⟩ := ownsRow_cells hrow20
        clear hrow hb19 hb20 hb18 hgrow hrow20
        have HT := HW.out _ _ rfl A _ c hnL hnl hcL
        have HT1 := Lib.hid HT.1
        have HT2 := Lib.hid HT.2.1
        have HT3 := Lib.hid HT.2.2.1
        have HT4 := Lib.hid HT.2.2.2.1
        have HT5 := Lib.hid HT.2.2.2.2
        have HcL := Lib.hid hcL
        clear HT hcL
        go_wp2_with fail
        refine (HT1.out _ (Below.refl _ _)).mono ?_
        rintro e y1 ⟨A41, c41, rfl, _, hy1⟩
        go_wp2_with fail
        refine (HT2.out _ hy1).mono ?_
        rintro e y2 ⟨A42, c42, rfl, _, hy2⟩
        have hy2 := hy1.trans (hy2.mono hy1.size)
        go_wp2_with fail
        refine (HT3.out _ hy2).mono ?_
        rintro e y3 ⟨rfl, hy3⟩
        have hy3 := hy2.trans (hy3.mono hy2.size)
        go_wp2_with fail
        refine (HT4.out _ hy3).mono ?_
        rintro e y4 ⟨rfl, hy4⟩
        have hy4 := hy3.trans (hy4.mono hy3.size)
        go_wp2_with fail
        refine (HT5.out _ hy4).mono ?_
        rintro e y5 ⟨rfl, hy5⟩
        have hy5 := hy4.trans (hy5.mono hy4.size)
        go_wp2
        go_ret
        exact ⟨rfl, hbT.trans (hy5.mono hbT.size)⟩
      | 3, _ =>
        have t3 : (df : Int) % 4 = 3 := t2
        clear t2
        go_wp2
        clear t3
        go_loopw [31, 32, 169] (fun o _ i wr => ∃ k : Nat, i = .int .i64 k ∧ k ≤ 257 ∧ wr.ownsRow w18.heap.size 9 1 o (m + k) ((S ++ (List.range k).map zzB).map strV) ∧ Below w18.heap.size w18 wr) (fun _ _ i _ => 257 - (intOf i).toNat)
        case atStart => exact ⟨0, rfl, Nat.zero_le _, by simpa using hrow, hb19⟩
        case round =>
          obtain ⟨k, rfl, hk, hown, hb⟩ := hrel
          by_cases hlt : k < 257
          · have hbyt : (two k).map (fun b => Value.int .u8 (b.toNat : Int)) = [.int .u8 (97 + (k : Int) / 26), .int .u8 (97 + (k : Int) % 26)] := two_vals k (by omega)
            have kc : (convert 44 9 (.slice (some ⟨wr.heap.size, 0, none⟩) 2 2)).run Try.prog (wr.alloc (.cells #[.int .u8 (97 + (k : Int) / 26), .int .u8 (97 + (k : Int) % 26)] 5)) = .ok (.string (bs (two k))) (wr.alloc (.cells #[.int .u8 (97 + (k : Int) / 26), .int .u8 (97 + (k : Int) % 26)] 5)) := by
              refine run_own_string (P := Try.prog) _ wr.heap.size 44 9 5 _ (two k) Try.underlying44 Try.underlying5 Try.underlying9 ?_
              rw [hbyt]
              exact World.ownsRow_lit wr _ 2 (Nat.le_refl _) (by unfold maxLen; omega) rfl
            clear hbyt
            have hnew : Hid ((S ++ (List.range (k + 1)).map zzB).map strV = (S ++ (List.range k).map zzB).map strV ++ [.string (⟨#[122, 122]⟩ ++ bs (two k))]) := by
              unfold Hid
              rw [List.range_succ, List.map_append (f := zzB), ← List.append_assoc, List.map_append (f := strV), List.map_singleton, List.map_singleton, strV, zzB, show (122 :: 122 :: two k : Bs) = [122, 122] ++ two k from rfl, ← bs_append]; rfl
            obtain ⟨X, hX⟩ : ∃ X, (⟨#[122, 122]⟩ : ByteArray) ++ bs (two k) = X := ⟨_, rfl⟩
            rw [hX] at hnew
            have hrb := hb.size
            obtain ⟨nk, hnk⟩ : ∃ nk, m + k = nk := ⟨_, rfl⟩
            rw [hnk] at hown
            have hnk' : nk ≤ 300 := by omega
            go_wp2_with (first
              | (at_builtin; refine wpList_append_own _ rfl _ _ 22 rfl w18.heap.size 9 i0 (.string ⟨#[]⟩) 1 16 Try.underlying22 hi hz0 hz1 hz2 rfl (by decide) u31 nk _ rfl ((hown.alloc _).alloc _) ⟨wr.heap.size + 1, 0, none⟩ 1 1 [.string X] rfl rfl (by have := cell_one_new (wr.alloc (.cells #[.int .u8 (97 + (k : Int) / 26), .int .u8 (97 + (k : Int) % 26)] 5)) (.string X) 9; simpa using this) (by simp [Value.oneCell']) (by unfold maxLen; omega) (by omega) (by simp; omega) ?_
                 intro v' w2 hown'' hgrow _
                 obtain ⟨g', cap', rfl⟩ := ownsRow_succ hown''
                 have hb2 := ((hb.alloc hb.size (.cells #[.int .u8 (97 + (k : Int) / 26), .int .u8 (97 + (k : Int) % 26)] 5)).alloc (by simp; omega) (.cells #[.string X] 9)).grown hgrow (by simp; omega) (fun j hj => (hown.lt j hj).1))
              | (rw [hX]))
            refine ⟨?_, by simp [intOf]; omega⟩
            rw [← hnew.out] at hown''
            have hown3 : w2.ownsRow w18.heap.size 9 1 (.slice (some ⟨g', 0, none⟩) (nk + 1) cap') (m + (k + 1)) ((S ++ (List.range (k + 1)).map zzB).map strV) := by
              rw [show m + (k + 1) = nk + 1 by omega]; exact hown''
            first
              | exact ⟨k + 1, by go_num, by omega, hown3, hb2⟩
              | ((repeat apply Exists.intro); refine ⟨?_, rfl⟩; exact ⟨k + 1, by go_num, by omega, hown3, hb2⟩)
              | (trace_state; sorry)
          · have hk257 : k = 257 := by omega
            subst hk257
            have hbT := hb18.trans (hb.mono hb18.size)
            have hnL : (wrongB S x 3).length = m + 257 := by simp [wrongB, hml]
            have hnl : m + 257 ≤ 1000 := by omega
            obtain ⟨A, c, rfl, _, _, _, hcL, _⟩ := ownsRow_cells hown
            have hcL : Cells wr A ((wrongB S x 3).map strV) := hcL
            clear hown hrow hb19 hb18 hb
            have HT := HW.out _ _ rfl A _ c hnL hnl hcL
            have HT1 := Lib.hid HT.1
            have HT2 := Lib.hid HT.2.1
            have HT3 := Lib.hid HT.2.2.1
            have HT4 := Lib.hid HT.2.2.2.1
            have HT5 := Lib.hid HT.2.2.2.2
            have HcL := Lib.hid hcL
            clear HT hcL
            go_wp2_with fail
            refine (HT1.out _ (Below.refl _ _)).mono ?_
            rintro e y1 ⟨A41, c41, rfl, _, hy1⟩
            go_wp2_with fail
            refine (HT2.out _ hy1).mono ?_
            rintro e y2 ⟨A42, c42, rfl, _, hy2⟩
            have hy2 := hy1.trans (hy2.mono hy1.size)
            go_wp2_with fail
            refine (HT3.out _ hy2).mono ?_
            rintro e y3 ⟨rfl, hy3⟩
            have hy3 := hy2.trans (hy3.mono hy2.size)
            go_wp2_with fail
            refine (HT4.out _ hy3).mono ?_
            rintro e y4 ⟨rfl, hy4⟩
            have hy4 := hy3.trans (hy4.mono hy3.size)
            go_wp2_with fail
            refine (HT5.out _ hy4).mono ?_
            rintro e y5 ⟨rfl, hy5⟩
            have hy5 := hy4.trans (hy5.mono hy4.size)
            go_wp2
            go_ret
            exact ⟨rfl, hbT.trans (hy5.mono hbT.size)⟩
end Go.Proofs.Ytnanleopoedgfaa
