/-
  awake: the examples of the chapter.
-/
import Derived.Test.YtnanleopoedgfaaRange
import Derived.Maps.RangeWalk
import Derived.Maps.StringElems
import Derived.Sort.KeysCollected
set_option linter.unusedSimpArgs false
set_option linter.unusedVariables false
namespace Go.Proofs.Ytnanleopoedgfaa
open Go.RowKit Go.Maps
attribute [local go_sem ↓] Go.wp_at_zero Go.wp_at_succ

theorem cells_block {w : World} {b : Nat} {c : Array Value} {t : TypeId} {fr : Nat × Nat} (h : w.heap[b]? = some (.cells c t fr)) : Cells w (some ⟨b, 0, none⟩) c.toList := fun j x hx => ⟨b, 0, rfl, by simpa [World.cell?, h] using hx⟩

/-- 'm[k] = v' in a composite literal. -/
theorem wpList_insert_own {H : Type} {P : Program} (w : World) {ops : Array Oper} {rest : List Oper} {o : Oper} {a : Act} {Q : Exit → Act → World → Prop}
    (hg : o.guard = none) (m x v : Operand) (t : TypeId) (hop : o.op = Op.insert t m x v)
    (k e : TypeId) (K : Keyed P k) (ht : P.underlying t = some (.map k e)) (R : Value → Option (DataW H × List MemPlace)) (b n : Nat) (D : DataW H)
    (hm : a.eval m = .map (some b)) (hown : w.ownsMap P k R b n D) (hn : n < maxLen) (key val : Value) (kl : Lit) (hx : a.eval x = key) (hv : a.eval v = val) (hkey : keyOf P k key = some kl)
    (d : DataW H) (ps : List MemPlace) (hval : R val = some (d, ps))
    (hK : ∀ w', w'.ownsMap P k R b (n + 1) (D.put kl d) → w.grownBy w' (some b) → wpList P ops Q rest (a.put o.dst undef) w') :
    wpList P ops Q (o :: rest) a w := by
  refine wpList_plain hg fun K' hK' => ?_
  obtain ⟨w', hrun, r1, r2⟩ := hown.update K ht hn hkey hval
  unfold Oper.wp
  simp [execOp, hop, hm, hx, hv, hrun, Result.andThen]
  exact hK' _ _ (hK w' r1 r2)

/-- A map of strings to bools, put together key by key. -/
def datB (kvs : List (Bs × Bool)) : DataW Unit := kvs.foldl (fun D p => D.put (.string p.1) (.lit (.bool p.2))) (.map [])
theorem datB_snoc (kvs : List (Bs × Bool)) (p : Bs × Bool) : datB (kvs ++ [p]) = (datB kvs).put (.string p.1) (.lit (.bool p.2)) := by simp [datB]
theorem datB_map (kvs : List (Bs × Bool)) : IsMap (datB kvs) := by
  have : ∀ (l : List (Bs × Bool)) (D : DataW Unit), IsMap D → IsMap (l.foldl (fun D p => D.put (.string p.1) (.lit (.bool p.2))) D) := by
    intro l
    induction l with
    | nil => intro D h; exact h
    | cons p r ih =>
      intro D h
      refine ih _ ?_
      obtain ⟨es, rfl⟩ := h
      exact ⟨_, rfl⟩
  exact this kvs _ ⟨[], rfl⟩
theorem datB_at (kvs : List (Bs × Bool)) (x : Bs) (y : DataW Unit) (h : ∀ zd, (datB kvs).atKey (.string x) zd = y) : ∃ b, (x, b) ∈ kvs ∧ y = .lit (.bool b) := by
  obtain ⟨l, rfl⟩ : ∃ l, kvs = l.reverse := ⟨kvs.reverse, by simp⟩
  induction l with
  | nil =>
    rw [List.reverse_nil] at h
    have h1 := h (.lit (.bool true))
    have h2 := h (.lit (.bool false))
    have e1 : (datB []).atKey (.string x) (.lit (.bool true)) = .lit (.bool true) := rfl
    have e2 : (datB []).atKey (.string x) (.lit (.bool false)) = .lit (.bool false) := rfl
    rw [e1] at h1; rw [e2] at h2
    rw [← h1] at h2
    cases h2
  | cons p l ih =>
    rw [List.reverse_cons, datB_snoc] at h
    rw [List.reverse_cons]
    by_cases hx : x = p.1
    · subst hx
      have := h .nil
      rw [atKey_put_same (datB_map _) (by trivial)] at this
      exact ⟨p.2, by simp, this.symm⟩
    · obtain ⟨b, hb, hy⟩ := ih (fun zd => by rw [← h zd, atKey_put_other (fun e => hx (by injection e))])
      exact ⟨b, by simp [hb], hy⟩

def exB : List (Bs × Bool) := [([97], true), ([97, 46, 98], true), ([97, 45, 98, 46, 99], true), ([112, 111, 114, 116, 48, 46, 105, 110], true), ([45, 97], false), ([97, 45], false), ([97, 46, 46, 98], false), ([97, 46, 45, 98], false), ([48, 97], false), ([65], false), ([], false)]
theorem exB_right : ∀ p ∈ exB, rightB p.1 = p.2 := by decide

theorem plainBool_inv {e : TypeId} (he : Try.prog.underlying e = some .bool) (v : Value) (y : DataW Unit × List MemPlace) (h : plainElem Try.prog e v = some y) : ∃ c, v = .bool c := by
  cases v <;> simp [plainElem, he] at h
  exact ⟨_, rfl⟩

theorem Compare_lit (a b : Bs) (c : Int) (h1 : (rightB a && rightB b) = true) (h2 : ordN a b = c) (ha : a.length ≤ 1000) (hb : b.length ≤ 1000) (W : World) :
    Calls Try.prog 13 #[.string ⟨a.toArray⟩, .string ⟨b.toArray⟩] W fun e w' => e = .returned (.tuple #[.int .i64 c, .int .i64 0]) ∧ Below W.heap.size W w' := by
  have h := Compare_any (bs a) (bs b) W (by rw [size_bs]; omega) (by rw [size_bs]; omega)
  rw [toList_bs, toList_bs, h1, h2] at h
  exact h
theorem Under_lit (a b : Bs) (c : Bool) (h2 : underB a b = c) (ha : a.length ≤ 1000) (hb : b.length ≤ 1000) (W : World) :
    Calls Try.prog 16 #[.string ⟨a.toArray⟩, .string ⟨b.toArray⟩] W fun e w' => e = .returned (.bool c) ∧ Below W.heap.size W w' := by
  have h := Under_any (bs a) (bs b) W (by rw [size_bs]; omega) (by rw [size_bs]; omega)
  rw [toList_bs, toList_bs, h2] at h
  exact h
theorem Range_lit (g : Nat) (cap n : Nat) (xs : List Bs) (s : Bs) (f t : Int) (hn : xs.length = n) (h1 : setB xs = true) (h2 : rightB s = true) (h3 : (lowN xs s : Int) = f) (h4 : ((lowN xs s + runN xs s : Nat) : Int) = t) (hp : ∀ p ∈ xs, p.length ≤ 1000) (hs : s.length ≤ 1000) (W : World)
    (hc : Cells W (some ⟨g, 0, none⟩) (xs.map strV)) :
    Calls Try.prog 19 #[.slice (some ⟨g, 0, none⟩) n cap, .string ⟨s.toArray⟩] W fun e w' => e = .returned (.tuple #[.int .i64 f, .int .i64 t, .int .i64 0]) ∧ Below W.heap.size W w' := by
  refine (Range_any _ n cap xs s W hn (by have := setB_len h1; omega) (fun p h => by have := hp p h; omega) (by omega) hc).mono ?_
  rintro e w' ⟨rfl, hb⟩
  rw [h1, h2, h3, h4]
  exact ⟨rfl, hb⟩

theorem awake_key {x : Bs} {c : Bool} {kl : Lit} {y : DataW Unit × List MemPlace} (hk : keyOf Try.prog 9 (encStr x) = some kl) (hv : plainElem Try.prog 4 (.bool c) = some y)
    (hat : ∀ zd, (datB exB).atKey kl zd = y.1) :
    ∀ W, Calls Try.prog 27 #[encStr x] W fun e w' => e = .returned (.bool c) ∧ W = w' := by
  obtain ⟨x', hx, rfl, hxl⟩ := Maps.keyOf_str Try.underlying9 hk
  obtain rfl := encStr_inj hx
  obtain ⟨b, hb, hy⟩ := datB_at _ _ _ hat
  rw [plainElem_bool Try.underlying4] at hv
  obtain rfl := Option.some.inj hv
  have := exB_right _ hb
  simp only [DataW.lit.injEq, Lit.bool.injEq] at hy
  intro W
  have hr := Right_any ⟨x.toArray⟩ W hxl
  rw [show (ByteArray.mk x.toArray).data.toList = x from rfl, this, ← hy] at hr
  exact hr

set_option maxRecDepth 100000 in
set_option maxHeartbeats 8000000 in
theorem awake_any (w : World) : Calls Try.prog 11 #[] w fun e w' => e = .returned (.bool true) ∧ Below w.heap.size w w' := by
  have hmm := @run_makeMap Try.prog
  have K : Keyed Try.prog 9 := string_keyed Try.underlying9
  have hk : ∀ l : Bs, l.length ≤ 100 → keyOf Try.prog 9 (.string ⟨l.toArray⟩) = some (.string l) := fun l hl => by
    rw [keyOf_string Try.underlying9]
    simp only [mapKey, Try.underlying9, maxLen]
    have : l.length ≤ 2 ^ 63 - 1 := by omega
    exact if_pos this
  have hv : ∀ c : Bool, plainElem (H := Unit) Try.prog 4 (.bool c) = some (.lit (.bool c), []) := fun c => plainElem_bool Try.underlying4 c
  go_enter Try.func11, Try.ntmps11
  have ho0 : (w.alloc (.map #[] 0)).ownsMap Try.prog 9 (plainElem Try.prog 4) w.heap.size 0 (datB (exB.take 0)) := World.ownsMap_made _ _ _ _
  have hb0 : Below w.heap.size w (w.alloc (.map #[] 0)) := (Below.refl _ _).alloc (Nat.le_refl _) _
  go_wp2_with (first
    | (refine wpList_insert_own _ rfl _ _ _ 61 rfl 9 4 K Try.underlying61 (plainElem Try.prog 4) w.heap.size 0 (datB (exB.take 0)) rfl ho0 (by decide) (.string ⟨List.toArray [97]⟩) (.bool true) (.string [97]) rfl rfl (hk _ (by decide)) (.lit (.bool true)) [] (hv true) ?_; intro w1 ho1 hg1; have hb1 := hb0.grown hg1 (Nat.le_trans (Nat.le_refl _) hb0.size) (fun k hk => by cases hk; exact Nat.le_refl _); clear ho0 hg1 hb0)
    | (refine wpList_insert_own _ rfl _ _ _ 61 rfl 9 4 K Try.underlying61 (plainElem Try.prog 4) w.heap.size 1 (datB (exB.take 1)) rfl ho1 (by decide) (.string ⟨List.toArray [97, 46, 98]⟩) (.bool true) (.string [97, 46, 98]) rfl rfl (hk _ (by decide)) (.lit (.bool true)) [] (hv true) ?_; intro w2 ho2 hg2; have hb2 := hb1.grown hg2 (Nat.le_trans (Nat.le_refl _) hb1.size) (fun k hk => by cases hk; exact Nat.le_refl _); clear ho1 hg2 hb1)
    | (refine wpList_insert_own _ rfl _ _ _ 61 rfl 9 4 K Try.underlying61 (plainElem Try.prog 4) w.heap.size 2 (datB (exB.take 2)) rfl ho2 (by decide) (.string ⟨List.toArray [97, 45, 98, 46, 99]⟩) (.bool true) (.string [97, 45, 98, 46, 99]) rfl rfl (hk _ (by decide)) (.lit (.bool true)) [] (hv true) ?_; intro w3 ho3 hg3; have hb3 := hb2.grown hg3 (Nat.le_trans (Nat.le_refl _) hb2.size) (fun k hk => by cases hk; exact Nat.le_refl _); clear ho2 hg3 hb2)
    | (refine wpList_insert_own _ rfl _ _ _ 61 rfl 9 4 K Try.underlying61 (plainElem Try.prog 4) w.heap.size 3 (datB (exB.take 3)) rfl ho3 (by decide) (.string ⟨List.toArray [112, 111, 114, 116, 48, 46, 105, 110]⟩) (.bool true) (.string [112, 111, 114, 116, 48, 46, 105, 110]) rfl rfl (hk _ (by decide)) (.lit (.bool true)) [] (hv true) ?_; intro w4 ho4 hg4; have hb4 := hb3.grown hg4 (Nat.le_trans (Nat.le_refl _) hb3.size) (fun k hk => by cases hk; exact Nat.le_refl _); clear ho3 hg4 hb3)
    | (refine wpList_insert_own _ rfl _ _ _ 61 rfl 9 4 K Try.underlying61 (plainElem Try.prog 4) w.heap.size 4 (datB (exB.take 4)) rfl ho4 (by decide) (.string ⟨List.toArray [45, 97]⟩) (.bool false) (.string [45, 97]) rfl rfl (hk _ (by decide)) (.lit (.bool false)) [] (hv false) ?_; intro w5 ho5 hg5; have hb5 := hb4.grown hg5 (Nat.le_trans (Nat.le_refl _) hb4.size) (fun k hk => by cases hk; exact Nat.le_refl _); clear ho4 hg5 hb4)
    | (refine wpList_insert_own _ rfl _ _ _ 61 rfl 9 4 K Try.underlying61 (plainElem Try.prog 4) w.heap.size 5 (datB (exB.take 5)) rfl ho5 (by decide) (.string ⟨List.toArray [97, 45]⟩) (.bool false) (.string [97, 45]) rfl rfl (hk _ (by decide)) (.lit (.bool false)) [] (hv false) ?_; intro w6 ho6 hg6; have hb6 := hb5.grown hg6 (Nat.le_trans (Nat.le_refl _) hb5.size) (fun k hk => by cases hk; exact Nat.le_refl _); clear ho5 hg6 hb5)
    | (refine wpList_insert_own _ rfl _ _ _ 61 rfl 9 4 K Try.underlying61 (plainElem Try.prog 4) w.heap.size 6 (datB (exB.take 6)) rfl ho6 (by decide) (.string ⟨List.toArray [97, 46, 46, 98]⟩) (.bool false) (.string [97, 46, 46, 98]) rfl rfl (hk _ (by decide)) (.lit (.bool false)) [] (hv false) ?_; intro w7 ho7 hg7; have hb7 := hb6.grown hg7 (Nat.le_trans (Nat.le_refl _) hb6.size) (fun k hk => by cases hk; exact Nat.le_refl _); clear ho6 hg7 hb6)
    | (refine wpList_insert_own _ rfl _ _ _ 61 rfl 9 4 K Try.underlying61 (plainElem Try.prog 4) w.heap.size 7 (datB (exB.take 7)) rfl ho7 (by decide) (.string ⟨List.toArray [97, 46, 45, 98]⟩) (.bool false) (.string [97, 46, 45, 98]) rfl rfl (hk _ (by decide)) (.lit (.bool false)) [] (hv false) ?_; intro w8 ho8 hg8; have hb8 := hb7.grown hg8 (Nat.le_trans (Nat.le_refl _) hb7.size) (fun k hk => by cases hk; exact Nat.le_refl _); clear ho7 hg8 hb7)
    | (refine wpList_insert_own _ rfl _ _ _ 61 rfl 9 4 K Try.underlying61 (plainElem Try.prog 4) w.heap.size 8 (datB (exB.take 8)) rfl ho8 (by decide) (.string ⟨List.toArray [48, 97]⟩) (.bool false) (.string [48, 97]) rfl rfl (hk _ (by decide)) (.lit (.bool false)) [] (hv false) ?_; intro w9 ho9 hg9; have hb9 := hb8.grown hg9 (Nat.le_trans (Nat.le_refl _) hb8.size) (fun k hk => by cases hk; exact Nat.le_refl _); clear ho8 hg9 hb8)
    | (refine wpList_insert_own _ rfl _ _ _ 61 rfl 9 4 K Try.underlying61 (plainElem Try.prog 4) w.heap.size 9 (datB (exB.take 9)) rfl ho9 (by decide) (.string ⟨List.toArray [65]⟩) (.bool false) (.string [65]) rfl rfl (hk _ (by decide)) (.lit (.bool false)) [] (hv false) ?_; intro w10 ho10 hg10; have hb10 := hb9.grown hg10 (Nat.le_trans (Nat.le_refl _) hb9.size) (fun k hk => by cases hk; exact Nat.le_refl _); clear ho9 hg10 hb9)
    | (refine wpList_insert_own _ rfl _ _ _ 61 rfl 9 4 K Try.underlying61 (plainElem Try.prog 4) w.heap.size 10 (datB (exB.take 10)) rfl ho10 (by decide) (.string ⟨List.toArray []⟩) (.bool false) (.string []) rfl rfl (hk _ (by decide)) (.lit (.bool false)) [] (hv false) ?_; intro w11 ho11 hg11; have hb11 := hb10.grown hg11 (Nat.le_trans (Nat.le_refl _) hb10.size) (fun k hk => by cases hk; exact Nat.le_refl _); clear ho10 hg11 hb10)
    | (at_range; refine wpList_range_own _ rfl _ _ rfl 9 4 K Try.underlying61 _ w.heap.size 11 (datB exB) rfl ho11 ?_; intro w0 hrg0 hg0 hs0))
  go_frame
  have hB := hb11.grown hg0 hb11.size (fun k hk => by cases hk)
  have hwl : w.heap.size < w0.heap.size := by
    obtain ⟨es, clock, hh, _⟩ := hrg0.owns
    exact (Array.getElem?_eq_some_iff.1 hh).1
  go_loopw [1] (fun _ wr => ∃ (left : Lit → Bool) (cnt : Nat), wr.ranges Try.prog 9 (plainElem Try.prog 4) w.heap.size w11.heap.size 11 (datB exB) left cnt ∧ Below w.heap.size w wr)
    (fun _ wr => wr.rangeLeft w.heap.size w11.heap.size)
  case atStart => exact ⟨_, _, hrg0, hB⟩
  case round =>
    obtain ⟨left, cnt, hrg, hbr⟩ := hrel
    have hB11 := hb11.size
    clear hrg0 hg0 hs0 hB hb11
    go_wp2_with (first
      | (at_next; refine wpList_next_ranges _ rfl _ rfl 9 K (plainElem Try.prog 4) encStr Value.bool (fun key kl hk => by obtain ⟨x, hx, _⟩ := Maps.keyOf_str Try.underlying9 hk; exact ⟨x, hx⟩) (plainBool_inv Try.underlying4) w.heap.size w11.heap.size 11 _ _ _ rfl hrg ?_ ?_; rotate_left; intro x c kl y w2 cnt2 hkey hlk hv2 hat hrg2 hlt hg2 hs2 hen; have hcx := Lib.hid (awake_key hkey hv2 hat); clear hkey hv2 hat hlk))
    · refine (hcx.out _).mono ?_
      rintro e w3 ⟨rfl, rfl⟩
      have hb2 := hbr.grown hg2 hbr.size (fun k hk => by cases hk; exact hB11)
      go_wp2
      go_roundw
      case rel => exact ⟨_, cnt2, hrg2, hb2⟩
      case measure => rw [hrg2.left_eq, hrg.left_eq]; exact hlt
    · intro _ _
      clear hrg
      have C1 := Lib.hid (Compare_lit [97] [97, 46, 98] (-1) (by decide) (by decide) (by decide) (by decide))
      have C2 := Lib.hid (Compare_lit [97, 46, 98] [97, 46, 99] (-1) (by decide) (by decide) (by decide) (by decide))
      have C3 := Lib.hid (Compare_lit [97, 46, 122] [97, 45, 98] (-1) (by decide) (by decide) (by decide) (by decide))
      have U1 := Lib.hid (Under_lit [97, 46, 98] [97, 46, 98] true (by decide) (by decide) (by decide))
      have U2 := Lib.hid (Under_lit [97, 46, 98, 46, 99] [97, 46, 98] true (by decide) (by decide) (by decide))
      have U3 := Lib.hid (Under_lit [97, 46, 98, 99] [97, 46, 98] false (by decide) (by decide) (by decide))
      clear hv hk K hmm hwl hB11
      go_wp2_with fail
      refine (C1.out _).mono ?_
      rintro e x1 ⟨rfl, hx1⟩
      go_wp2_with fail
      refine (C2.out _).mono ?_
      rintro e x2 ⟨rfl, hx2⟩
      go_wp2_with fail
      refine (C3.out _).mono ?_
      rintro e x3 ⟨rfl, hx3⟩
      have hb3 := ((hbr.trans (hx1.mono hbr.size)).trans (hx2.mono (Nat.le_trans hbr.size hx1.size))).trans (hx3.mono (Nat.le_trans (Nat.le_trans hbr.size hx1.size) hx2.size))
      clear hbr hx1 hx2 hx3
      go_wp2_with fail
      obtain ⟨X3, hX3⟩ : ∃ X3, X3 = x3.alloc (.cells #[.string ⟨#[97]⟩, .string ⟨#[97, 46, 98]⟩, .string ⟨#[97, 46, 98, 46, 99]⟩, .string ⟨#[97, 46, 98, 99]⟩] 9) := ⟨_, rfl⟩
      have hc3 : Cells X3 (some ⟨x3.heap.size, 0, none⟩) (List.map strV [[97], [97, 46, 98], [97, 46, 98, 46, 99], [97, 46, 98, 99]]) := by
        rw [hX3]; exact cells_block (World.alloc_heap_new x3 _)
      have hB3 : Below w.heap.size w X3 := by rw [hX3]; exact hb3.alloc hb3.size _
      have R1 := Lib.hid (fun W h => Range_lit x3.heap.size 4 4 [[97], [97, 46, 98], [97, 46, 98, 46, 99], [97, 46, 98, 99]] [97, 46, 98] 1 3 rfl (by decide) (by decide) (by decide) (by decide) (by decide) (by decide) W h)
      have R2 := Lib.hid (fun W h => Range_lit x3.heap.size 4 4 [[97], [97, 46, 98], [97, 46, 98, 46, 99], [97, 46, 98, 99]] [98] 4 4 rfl (by decide) (by decide) (by decide) (by decide) (by decide) (by decide) W h)
      have Hc3 := Lib.hid hc3
      rw [← hX3]
      clear hX3 hb3 hc3
      refine (R1.out _ Hc3.out).mono ?_
      rintro e x4 ⟨rfl, hx4⟩
      have Hc4 := Lib.hid (Hc3.out.below hx4)
      go_wp2_with fail
      refine (R2.out _ Hc4.out).mono ?_
      rintro e x5 ⟨rfl, hx5⟩
      have hB5 := (hB3.trans (hx4.mono hB3.size)).trans (hx5.mono (Nat.le_trans hB3.size hx4.size))
      clear hB3 hx4 hx5 R1 R2
      go_wp2_with fail
      have hc6 : Cells (x5.alloc (.cells #[.string ⟨#[97]⟩, .string ⟨#[98, 46, 99]⟩] 9)) (some ⟨x5.heap.size, 0, none⟩) (List.map strV [[97], [98, 46, 99]]) := cells_block (World.alloc_heap_new x5 _)
      refine (Join_any _ 2 2 [[97], [98, 46, 99]] _ rfl (by decide) (by decide) (by decide) hc6 (fun b off s h => by cases h; simp)).mono ?_
      rintro e x7 ⟨rfl, hx7⟩
      rw [show joinOk [[97], [98, 46, 99]] = false from by decide]
      have hB7 := (hB5.alloc hB5.size (.cells #[.string ⟨#[97]⟩, .string ⟨#[98, 46, 99]⟩] 9)).trans (hx7.mono (by have := hB5.size; simp; omega))
      clear hB5 hx7 hc6 C1 C2 C3
      go_wp2_with fail
      refine (U1.out _).mono ?_
      rintro e y1 ⟨rfl, hy1⟩
      go_wp2_with fail
      refine (U2.out _).mono ?_
      rintro e y2 ⟨rfl, hy2⟩
      go_wp2_with fail
      refine (U3.out _).mono ?_
      rintro e y3 ⟨rfl, hy3⟩
      have hB8 := ((hB7.trans (hy1.mono hB7.size)).trans (hy2.mono (Nat.le_trans hB7.size hy1.size))).trans (hy3.mono (Nat.le_trans (Nat.le_trans hB7.size hy1.size) hy2.size))
      clear hB7 hy1 hy2 hy3
      go_wp2
      go_ret
      exact ⟨rfl, hB8⟩
end Go.Proofs.Ytnanleopoedgfaa
