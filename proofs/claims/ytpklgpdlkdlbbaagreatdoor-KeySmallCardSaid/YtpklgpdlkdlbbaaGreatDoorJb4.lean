/-
  Keys: what each function of the package does, and what the laws make of it.
-/
import Derived.Test.YtpklgpdlkdlbbaaGreatDoorJb3
import Derived.Sort.WalkA
import Derived.Shelf.SlSortCmp.Insertion
import Derived.Test.YtpklgpdlkdlbbaaGreatDoorJb1
import Derived.Test.YtpklgpdlkdlbbaaGreatDoorJb2
import Derived.Shelf.SlicesQ.Reverse
set_option linter.unusedSimpArgs false
set_option linter.unusedVariables false

/-
  Insertion sort keeps equal ones in order; blocks; plain Lean.
-/
namespace Go.Proofs.YtpklgpdlkdlbbaaGreatDoor
open Go.Sort
variable {α : Type}

/-- The order by a comparison, equal ones by their rank. -/
def ltR (cf : α → α → Int) (rk : α → Nat) (x y : α) : Bool := decide (cf x y < 0) || (decide (cf x y = 0) && decide (rk x < rk y))
/-- What is asked of the comparison. -/
structure CmpOk (cf : α → α → Int) (rk : α → Nat) : Prop where
  anti : ∀ x y, cf x y < 0 ↔ 0 < cf y x
  trans : ∀ x y z, cf x y ≤ 0 → cf y z ≤ 0 → cf x z ≤ 0
  inj : ∀ x y, rk x = rk y → x = y
variable {cf : α → α → Int} {rk : α → Nat}
theorem CmpOk.zero (h : CmpOk cf rk) {x y : α} : cf x y = 0 ↔ cf y x = 0 := by
  have := h.anti x y; have := h.anti y x; omega
theorem CmpOk.refl (h : CmpOk cf rk) (x : α) : cf x x = 0 := by have := h.anti x x; omega
theorem CmpOk.lt_iff (x y : α) : ltR cf rk x y = true ↔ cf x y < 0 ∨ (cf x y = 0 ∧ rk x < rk y) := by simp [ltR]
theorem CmpOk.tot (h : CmpOk cf rk) : Tot (ltR cf rk) := by
  refine ⟨fun x => ?_, fun x y z h1 h2 => ?_, fun x y h1 h2 => ?_⟩
  · unfold ltR; rw [h.refl]; simp
  · rw [CmpOk.lt_iff] at h1 h2 ⊢
    have t1 := h.trans x y z (by omega) (by omega)
    have a1 := h.anti x z
    by_cases e : cf x z < 0
    · exact .inl e
    · right
      have z0 : cf x z = 0 := by omega
      have z1 := h.zero (x := x) (y := z)
      have t2 := h.trans y z x (by omega) (by omega)
      have t3 := h.trans z x y (by omega) (by omega)
      have a2 := h.anti x y
      have a3 := h.anti y z
      exact ⟨z0, by omega⟩
  · have n1 : ¬ (cf x y < 0 ∨ (cf x y = 0 ∧ rk x < rk y)) := fun hh => by rw [(CmpOk.lt_iff x y).2 hh] at h1; cases h1
    have n2 : ¬ (cf y x < 0 ∨ (cf y x = 0 ∧ rk y < rk x)) := fun hh => by rw [(CmpOk.lt_iff y x).2 hh] at h2; cases h2
    have a1 := h.anti x y
    have a2 := h.anti y x
    exact h.inj x y (by omega)
theorem Tot.swo {lt : α → α → Bool} (h : Tot lt) : SWO lt := by
  refine ⟨h.irrefl, h.trans, fun x y z h1 h2 => ?_⟩
  cases h3 : lt x z with
  | false => rfl
  | true =>
    exfalso
    cases h4 : lt y x with
    | true => rw [h.trans y x z h4 h3] at h2; cases h2
    | false =>
      have := h.total x y h1 h4
      subst this
      rw [h3] at h2; cases h2
theorem ltOf_rk {x y : α} (hr : rk y < rk x) : ltOf cf x y = ltR cf rk x y := by
  unfold ltOf ltR
  rw [show decide (rk x < rk y) = false from decide_eq_false (by omega)]
  simp
theorem cmp_lt {cf : α → α → Int} {rk : α → Nat} {x y : α} (hr : rk y < rk x) (h : cf x y < 0) : ltR cf rk x y = true := by
  rw [← ltOf_rk hr]; exact decide_eq_true h
theorem cmp_ge {cf : α → α → Int} {rk : α → Nat} (hc : CmpOk cf rk) {x y : α} (hr : rk y < rk x) (h : ¬ cf x y < 0) : ltR cf rk y x = true := by
  cases h1 : ltR cf rk y x with
  | true => rfl
  | false =>
    have h2 : ltR cf rk x y = false := by rw [← ltOf_rk hr]; exact decide_eq_false h
    have := hc.tot.total _ _ h1 h2
    subst this; omega
variable [Inhabited α]
/-- Ranks ascend. -/
def Rk (rk : α → Nat) (a b : Nat) (d : Array α) : Prop := ∀ p q, a ≤ p → p < q → q < b → rk d[p]! < rk d[q]!
theorem insInner_perm (lt : α → α → Bool) (a hi : Nat) : ∀ (j : Nat) (d : Array α), a ≤ j → j < hi → hi ≤ d.size → PermIn a hi d (insInner lt a j d)
  | 0, d, _, _, _ => by unfold insInner; exact permIn_refl d a hi
  | j + 1, d, h1, h2, h3 => by
    unfold insInner
    split
    · next hc =>
      simp only [Bool.and_eq_true, decide_eq_true_eq] at hc
      exact permIn_trans _ _ _ a hi (swp_permIn d a hi (j + 1) j h1 h2 (by omega) (by omega) h3) (insInner_perm lt a hi j _ (by omega) (by omega) (by rw [swp_size]; exact h3))
    · exact permIn_refl d a hi
theorem insInner_eq (a : Nat) : ∀ (j : Nat) (d : Array α), j < d.size → (∀ p, a ≤ p → p < j → rk d[p]! < rk d[j]!) → insInner (ltOf cf) a j d = insInner (ltR cf rk) a j d
  | 0, d, _, _ => by unfold insInner; rfl
  | j + 1, d, hs, h => by
    unfold insInner
    by_cases hj : a ≤ j
    · rw [ltOf_rk (rk := rk) (h j hj (by omega))]
      split
      · refine insInner_eq a j _ (by rw [swp_size]; omega) (fun p h1 h2 => ?_)
        have g := swp_get d (i := j + 1) (j := j) hs (by omega)
        rw [g, g, if_neg (by omega), if_neg (by omega), if_pos rfl]
        exact h p h1 (by omega)
      · rfl
    · have : decide (j + 1 > a) = false := decide_eq_false (by omega)
      simp [this]
theorem insOuter_eq (a b : Nat) : ∀ (k i : Nat) (d : Array α), b - i = k → a ≤ i → b ≤ d.size → (∀ p q, a ≤ p → p < q → i ≤ q → q < b → rk d[p]! < rk d[q]!) → insOuter (ltOf cf) a b i d = insOuter (ltR cf rk) a b i d
  | 0, i, d, h, _, _, _ => by rw [insOuter_stop _ a b i d (by omega), insOuter_stop _ a b i d (by omega)]
  | k + 1, i, d, h, h1, h2, h3 => by
    rw [insOuter_go _ a b i d (by omega), insOuter_go _ a b i d (by omega)]
    have e := insInner_eq (cf := cf) (rk := rk) a i d (by omega) (fun p c1 c2 => h3 p i c1 c2 (Nat.le_refl _) (by omega))
    rw [e]
    have hp := insInner_perm (ltR cf rk) a (i + 1) i d h1 (by omega) (by omega)
    refine insOuter_eq a b k (i + 1) _ (by omega) (by omega) (by rw [hp.1]; exact h2) (fun p q c1 c2 c3 c4 => ?_)
    rw [hp.2.1 q (.inr c3)]
    by_cases hpi : p < i + 1
    · exact permIn_all d _ a (i + 1) (fun v => rk v < rk d[q]!) (by omega) hp (fun x k1 k2 => h3 x q k1 (by omega) (by omega) c4) p c1 hpi
    · rw [hp.2.1 p (.inr (by omega))]; exact h3 p q c1 c2 (by omega) c4
theorem extract_get (d : Array α) {a b : Nat} (hb : b ≤ d.size) {j : Nat} (hj : j < b - a) : (d.extract a b).toList[j]? = some d[a + j]! := by
  rw [Array.getElem?_toList, Array.getElem?_extract_of_lt (by omega), getElem!_pos d (a + j) (by omega)]
/-- Elements of different ranks stay different. -/
theorem perm_ne {a b : Nat} {d d' : Array α} (hb : b ≤ d.size) (h : PermIn a b d d') (hr : Rk rk a b d) {i j : Nat} (hi : a ≤ i) (hij : i < j) (hj : j < b) : d'[i]! ≠ d'[j]! := by
  have hn : (d.extract a b).toList.Nodup := by
    rw [List.nodup_iff_pairwise_ne, List.pairwise_iff_getElem]
    intro x y hx hy hxy he
    have lx : x < b - a := by simp at hx; omega
    have ly : y < b - a := by simp at hy; omega
    have ex := extract_get d hb lx
    have ey := extract_get d hb ly
    rw [List.getElem?_eq_getElem hx] at ex
    rw [List.getElem?_eq_getElem hy] at ey
    injection ex with ex
    injection ey with ey
    have := hr (a + x) (a + y) (by omega) (by omega) (by omega)
    rw [← ex, ← ey, he] at this
    omega
  have hn' := (h.2.2.nodup_iff).2 hn
  intro he
  have hs := h.1
  have ex := extract_get d' (by rw [hs]; exact hb) (show i - a < b - a by omega)
  have ey := extract_get d' (by rw [hs]; exact hb) (show j - a < b - a by omega)
  rw [show a + (i - a) = i by omega] at ex
  rw [show a + (j - a) = j by omega] at ey
  have := (List.getElem?_inj (List.getElem?_eq_some_iff.1 ex).1 hn').1 (ex.trans (by rw [he]; exact ey.symm))
  omega
theorem ins_asc (hc : CmpOk cf rk) {a b : Nat} {d : Array α} (hab : a ≤ b) (hb : b ≤ d.size) (hr : Rk rk a b d) : PermIn a b d (insertionSort (ltOf cf) d a b) ∧ Asc (ltR cf rk) a b (insertionSort (ltOf cf) d a b) := by
  have e : insertionSort (ltOf cf) d a b = insertionSort (ltR cf rk) d a b := by
    unfold insertionSort
    exact insOuter_eq a b _ (a + 1) d rfl (by omega) hb (fun p q c1 c2 _ c4 => hr p q c1 c2 c4)
  rw [e]
  obtain ⟨h1, h2⟩ := insertionSort_holds (lt := ltR cf rk) hc.tot.swo d a b hab hb
  refine ⟨h1, fun i j c1 c2 c3 => ?_⟩
  have h3 := h2 i j c1 c2 c3
  cases h4 : ltR cf rk (insertionSort (ltR cf rk) d a b)[i]! (insertionSort (ltR cf rk) d a b)[j]! with
  | true => rfl
  | false => exact absurd (hc.tot.total _ _ h4 h3) (perm_ne hb h1 hr c1 c2 c3)

/-! ### Blocks -/
/-- Ranks ahead of c lie below those behind it. -/
def Bd (rk : α → Nat) (n c : Nat) (d : Array α) : Prop := ∀ x y, x < c → c ≤ y → y < n → rk d[x]! < rk d[y]!
theorem Bd.perm {n c a b : Nat} {d d' : Array α} (h : Bd rk n c d) (hn : d.size = n) (hp : PermIn a b d d') (hb : b ≤ n) (hc : c ≤ a ∨ b ≤ c) : Bd rk n c d' := fun x y h1 h2 h3 => by
  rcases hc with hc | hc
  · rw [hp.2.1 x (.inl (by omega))]
    by_cases k : a ≤ y ∧ y < b
    · exact permIn_all d d' a b (fun v => rk d[x]! < rk v) (by omega) hp (fun z k1 k2 => h x z h1 (by omega) (by omega)) y k.1 k.2
    · rw [hp.2.1 y (by omega)]; exact h x y h1 h2 h3
  · rw [hp.2.1 y (.inr (by omega))]
    by_cases k : a ≤ x ∧ x < b
    · exact permIn_all d d' a b (fun v => rk v < rk d[y]!) (by omega) hp (fun z k1 k2 => h z y (by omega) h2 h3) x k.1 k.2
    · rw [hp.2.1 x (by omega)]; exact h x y h1 h2 h3
/-- Blocks of s places ascend, from a on; those before ascend in blocks of t places. -/
structure Blk (lt : α → α → Bool) (rk : α → Nat) (n s a : Nat) (d0 d : Array α) : Prop where
  size : d.size = n
  perm : PermIn 0 n d0 d
  asc1 : ∀ c, c % (2 * s) = 0 → c < a → Asc lt c (min (c + 2 * s) n) d
  asc2 : ∀ c, c % s = 0 → a ≤ c → c < n → Asc lt c (min (c + s) n) d
  bd : ∀ c, c % s = 0 → (c % (2 * s) = 0 ∨ a ≤ c) → Bd rk n c d
theorem Bd.pre {lt : α → α → Bool} {n a m b : Nat} {d : Array α} (h : Bd rk n m d) (h1 : Asc lt a m d) (h2 : Asc lt m b d) (hb : b ≤ n) : Pre lt rk a m b d :=
  ⟨h1, h2, fun u v _ c2 c3 c4 => h u v c2 c3 (by omega)⟩
theorem mul_mod {c s k : Nat} (h : c % (k * s) = 0) : c % s = 0 := Nat.mod_eq_zero_of_dvd (Nat.dvd_trans (Nat.dvd_mul_left s k) (Nat.dvd_of_mod_eq_zero h))
theorem Blk.pre {lt : α → α → Bool} {n s a b : Nat} {d0 d : Array α} (h : Blk lt rk n s a d0 d) (hs : 0 < s) (ha : a % (2 * s) = 0) (hm : a + s < b) (hb : b ≤ n) (hb2 : b ≤ a + 2 * s) : Pre lt rk a (a + s) b d := by
  have a0 : a % s = 0 := mul_mod ha
  have m0 : (a + s) % s = 0 := by rw [Nat.add_mod_right]; exact a0
  have h1 := h.asc2 a a0 (Nat.le_refl _) (by omega)
  have h2 := h.asc2 (a + s) m0 (by omega) (by omega)
  exact (h.bd (a + s) m0 (.inr (by omega))).pre (h1.le (Nat.le_refl _) (by omega)) (h2.le (Nat.le_refl _) (by omega)) hb
/-- A block's two halves are merged. -/
theorem Blk.step {lt : α → α → Bool} {n s a : Nat} {d0 d d' : Array α} (h : Blk lt rk n s a d0 d) (hs : 0 < s) (ha : a % (2 * s) = 0) (hb : a < n) (hp : PermIn a (min (a + 2 * s) n) d d') (hasc : Asc lt a (min (a + 2 * s) n) d') : Blk lt rk n s (a + 2 * s) d0 d' := by
  have a0 : a % s = 0 := mul_mod ha
  refine ⟨hp.1.trans h.size, permIn_trans _ _ _ 0 n h.perm (permIn_mono _ _ a (min (a + 2 * s) n) 0 n (by omega) (by omega) (by rw [h.size]; exact Nat.le_refl _) hp), fun c h1 h2 => ?_, fun c h1 h2 h3 => ?_, fun c h1 h2 => ?_⟩
  · by_cases e : c = a
    · subst e; exact hasc
    · have hca : c + 2 * s ≤ a := by
        have d1 := Nat.dvd_of_mod_eq_zero h1
        have d2 := Nat.dvd_of_mod_eq_zero ha
        obtain ⟨x, rfl⟩ := d1
        obtain ⟨y, rfl⟩ := d2
        have : x < y := by
          rcases Nat.lt_trichotomy x y with h | h | h
          · exact h
          · exact absurd (by rw [h]) e
          · exfalso
            have : 2 * s * y + 2 * s ≤ 2 * s * x := by rw [← Nat.mul_succ]; exact Nat.mul_le_mul_left _ h
            omega
        rw [← Nat.mul_succ]; exact Nat.mul_le_mul_left _ this
      exact (h.asc1 c h1 (by omega)).of_eq (fun x c1 c2 => hp.2.1 x (.inl (by omega)))
  · exact (h.asc2 c h1 (by omega) h3).of_eq (fun x c1 c2 => hp.2.1 x (.inr (by omega)))
  · refine (h.bd c h1 (h2.imp id (fun h => by omega))).perm h.size hp (by omega) ?_
    rcases h2 with h2 | h2
    · by_cases e : c ≤ a
      · exact .inl e
      · right
        have d1 := Nat.dvd_of_mod_eq_zero h2
        have d2 := Nat.dvd_of_mod_eq_zero ha
        obtain ⟨x, rfl⟩ := d1
        obtain ⟨y, rfl⟩ := d2
        have : y < x := by
          rcases Nat.lt_or_ge y x with h | h
          · exact h
          · exact absurd (Nat.mul_le_mul_left (2 * s) h) e
        have : 2 * s * y + 2 * s ≤ 2 * s * x := by rw [← Nat.mul_succ]; exact Nat.mul_le_mul_left _ this
        omega
    · right; omega
/-- A last block of one half stays. -/
theorem Blk.skip {lt : α → α → Bool} {n s a : Nat} {d0 d : Array α} (h : Blk lt rk n s a d0 d) (ha : a % (2 * s) = 0) (hb : n ≤ a + s) : ∀ c, c % (2 * s) = 0 → c < n → Asc lt c (min (c + 2 * s) n) d := fun c h1 h2 => by
  by_cases e : c < a
  · exact h.asc1 c h1 e
  · exact (h.asc2 c (mul_mod h1) (by omega) h2).le (Nat.le_refl _) (by omega)
/-- The next pass. -/
theorem Blk.next {lt : α → α → Bool} {n s a : Nat} {d0 d : Array α} (h : Blk lt rk n s a d0 d) (hall : ∀ c, c % (2 * s) = 0 → c < n → Asc lt c (min (c + 2 * s) n) d) : Blk lt rk n (2 * s) 0 d0 d :=
  ⟨h.size, h.perm, fun c _ h2 => absurd h2 (Nat.not_lt_zero _), fun c h1 _ h3 => hall c h1 h3, fun c h1 _ => h.bd c (mul_mod h1) (.inl h1)⟩
theorem Blk.all {lt : α → α → Bool} {n s : Nat} {d0 d : Array α} (h : Blk lt rk n s 0 d0 d) (hn : n ≤ s) (h0 : 0 < n) : Asc lt 0 n d :=
  (h.asc2 0 (Nat.zero_mod _) (Nat.le_refl _) h0).le (Nat.le_refl _) (by omega)
end Go.Proofs.YtpklgpdlkdlbbaaGreatDoor

/-
  slices.swapRangeCmpFunc, slices.rotateCmpFunc at indexes.
-/
namespace Go.Proofs.YtpklgpdlkdlbbaaGreatDoor
open Go Go.RowKit Go.Sort Go.Lib
attribute [local go_sem ↓] Go.wp_at_zero Go.wp_at_succ
attribute [local go_sem] Oper.semAt_some wide_fn wide_depth wide_fnR wide_depthR
variable {α : Type} [Inhabited α]

set_option maxRecDepth 1000000 in
set_option maxHeartbeats 16000000 in
theorem swapRange_s (enc : α → Value) (cmp : Value) (blk off cap a b k : Nat) (d0 d : Array α) (w0 w : World) (R : Row1 enc w0 blk off d0) (hs : d0.size = d.size) (S : SW enc w0 blk off d w) (hab : a + k ≤ b) (hb : b + k ≤ d.size) (hsz : d.size < 4611686018427387904) :
    Calls Tryz.prog 140 #[.slice (some ⟨blk, off, none⟩) d.size cap, .int .i64 a, .int .i64 b, .int .i64 k, cmp] w fun e w' => e = .returned (.tuple #[]) ∧ ∃ d', SW enc w0 blk off d' w' ∧ SwK a b k d d' := by
  have hcl0 := R.hO.cells
  simp only [Value.cells] at hcl0
  have hst := R.hO.store Tryz.prog
  have mixed : Tryz.prog.follows .mixedOrders = true := by kernel_rfl
  have S0 := Lib.hid S
  clear S
  go_enter Tryz.func140, Tryz.ntmps140
  go_wp2_with fail
  go_loopw [10] (fun c wr => ∃ (i : Nat) (dk : Array α), c = .int .i64 i ∧ i ≤ k ∧ Hid (SW enc w0 blk off dk wr) ∧ Hid (SwK a b i d dk)) (fun c _ => k - (Go.RowKit.intOf c).toNat)
  case atStart => exact ⟨0, d, rfl, Nat.zero_le _, S0.out, SwK.start a b d⟩
  case round =>
    obtain ⟨i, dk, rfl, hi, hS, hK⟩ := hrel
    have hsd := hK.out.size
    by_cases hlt : i < k
    · have d0' : decide ((i : Int) < (k : Int)) = true := decide_eq_true (by omega)
      obtain ⟨iN, hiN⟩ : ∃ q, q = a + i := ⟨_, rfl⟩
      obtain ⟨jN, hjN⟩ : ∃ q, q = b + i := ⟨_, rfl⟩
      have ea : ((a : Int) + (i : Int)).toNat = iN := by omega
      have pa : (0 : Int) ≤ (a : Int) + (i : Int) := by omega
      have ba : (a : Int) + (i : Int) < (d.size : Int) := by omega
      have ra : IntKind.i64.wrap ((a : Int) + (i : Int)) = (a : Int) + (i : Int) := IntWalk.i64_in _ (by omega)
      have ec : ((b : Int) + (i : Int)).toNat = jN := by omega
      have pc : (0 : Int) ≤ (b : Int) + (i : Int) := by omega
      have bc : (b : Int) + (i : Int) < (d.size : Int) := by omega
      have rc : IntKind.i64.wrap ((b : Int) + (i : Int)) = (b : Int) + (i : Int) := IntWalk.i64_in _ (by omega)
      have ri : IntKind.i64.wrap ((i : Int) + 1) = (i : Int) + 1 := IntWalk.i64_in _ (by omega)
      obtain ⟨x, hx⟩ : ∃ x, x = dk[a + i]! := ⟨_, rfl⟩
      obtain ⟨y, hy⟩ : ∃ x, x = dk[b + i]! := ⟨_, rfl⟩
      have S3 := Lib.hid (show SW enc w0 blk off (swp dk (a + i) (b + i)) ((wr.setCell ⟨blk, off + iN, none⟩ (enc y)).setCell ⟨blk, off + jN, none⟩ (enc x)).drew by rw [hiN, hjN, hx, hy]; exact hS.out.swapped R (a + i) (b + i) (by omega) (by omega))
      have c1 := hS.out.c1 R (by omega) (a + i) (by omega)
      have c2 := hS.out.c1 R (by omega) (b + i) (by omega)
      have f1 := hS.out.f1 R (by omega) (a + i) (by omega)
      have f2 := hS.out.f1 R (by omega) (b + i) (by omega)
      obtain ⟨u, c3⟩ := hS.out.c2 R (by omega) (a + i) (b + i) (by omega) (by omega) (enc y)
      rw [← hjN, ← hiN] at c3
      rw [← hx, ← hiN] at c1
      rw [← hy, ← hjN] at c2
      rw [← hiN] at f1
      rw [← hjN] at f2
      have HK := Lib.hid (hK.out.step (by omega) (by omega))
      have Hlt := Lib.hid hlt
      have Hsd := Lib.hid hsd
      clear hS hx hy hiN hjN hK hlt hsd
      go_wp2_with fail
      go_big_region_o
      clear c1 c2 c3 f1 f2
      generalize ((wr.setCell ⟨blk, off + iN, none⟩ (enc y)).setCell ⟨blk, off + jN, none⟩ (enc x)).drew = w3 at S3 ⊢
      clear ea ec
      go_wp2
      have hlt := Hlt.out
      refine ⟨⟨i + 1, _, by simp, by omega, S3, HK⟩, by simp [Go.RowKit.intOf]; omega⟩
    · obtain rfl : i = k := by omega
      have d0' : decide ((i : Int) < (i : Int)) = false := decide_eq_false (by omega)
      go_wp2_with fail
      go_end0
      exact ⟨rfl, dk, hS.out, hK.out⟩
end Go.Proofs.YtpklgpdlkdlbbaaGreatDoor

/-
  slices.rotateCmpFunc at indexes.
-/
namespace Go.Proofs.YtpklgpdlkdlbbaaGreatDoor
open Go Go.RowKit Go.Sort Go.Lib
attribute [local go_sem ↓] Go.wp_at_zero Go.wp_at_succ
attribute [local go_sem] Oper.semAt_some wide_fn wide_depth wide_fnR wide_depthR
variable {α : Type} [Inhabited α]

set_option maxRecDepth 1000000 in
set_option maxHeartbeats 16000000 in
theorem rotate_s (enc : α → Value) (cmp : Value) (blk off cap a m b : Nat) (d0 d : Array α) (w0 w : World) (R : Row1 enc w0 blk off d0) (hs : d0.size = d.size) (S : SW enc w0 blk off d w) (ham : a < m) (hmb : m < b) (hb : b ≤ d.size) (hsz : d.size < 4611686018427387904) :
    Calls Tryz.prog 132 #[.slice (some ⟨blk, off, none⟩) d.size cap, .int .i64 a, .int .i64 m, .int .i64 b, cmp] w fun e w' => e = .returned (.tuple #[]) ∧ ∃ d', SW enc w0 blk off d' w' ∧ Rot a m b d d' := by
  have S0 := Lib.hid S
  have HW := Lib.hid (show ∀ (x y k : Nat) (dk : Array α) (W : World), dk.size = d.size → SW enc w0 blk off dk W → x + k ≤ y → y + k ≤ d.size → Calls Tryz.prog 140 #[.slice (some ⟨blk, off, none⟩) d.size cap, .int .i64 x, .int .i64 y, .int .i64 k, cmp] W fun e w' => e = .returned (.tuple #[]) ∧ ∃ d', SW enc w0 blk off d' w' ∧ SwK x y k dk d' from fun x y k dk W h1 h2 h3 h4 => by
    have := swapRange_s enc cmp blk off cap x y k d0 dk w0 W R (hs.trans h1.symm) h2 h3 (by rw [h1]; exact h4) (by rw [h1]; exact hsz)
    rwa [h1] at this)
  have z1 : IntKind.i64.wrap ((m : Int) - (a : Int)) = ((m - a : Nat) : Int) := by rw [IntWalk.i64_in _ (by omega)]; omega
  have z2 : IntKind.i64.wrap ((b : Int) - (m : Int)) = ((b - m : Nat) : Int) := by rw [IntWalk.i64_in _ (by omega)]; omega
  obtain ⟨i0, hi0⟩ : ∃ q, m - a = q := ⟨_, rfl⟩
  obtain ⟨j0, hj0⟩ : ∃ q, b - m = q := ⟨_, rfl⟩
  have HI := Lib.hid (RotI.start d ham hmb)
  rw [hi0] at z1 HI
  rw [hj0] at z2 HI
  have Hi0 := Lib.hid hi0
  have Hj0 := Lib.hid hj0
  clear S hi0 hj0
  go_enter Tryz.func132, Tryz.ntmps132
  go_wp2_with fail
  clear z1 z2
  go_loopw [10, 11] (fun c e wr => ∃ (i j : Nat) (dk : Array α), c = .int .i64 i ∧ e = .int .i64 j ∧ Hid (SW enc w0 blk off dk wr) ∧ Hid (RotI a m b i j d dk)) (fun c e _ => (Go.RowKit.intOf c).toNat + (Go.RowKit.intOf e).toNat)
  case atStart => exact ⟨i0, j0, d, rfl, rfl, S0.out, HI.out⟩
  case round =>
    obtain ⟨i, j, dk, rfl, rfl, hS, hK⟩ := hrel
    have hsd := hK.out.perm.1
    have hbi := hK.out.bi
    have hbj := hK.out.bj
    obtain ⟨p, hp⟩ : ∃ p, m - i = p := ⟨_, rfl⟩
    have z1 : IntKind.i64.wrap ((m : Int) - (i : Int)) = (p : Int) := by rw [IntWalk.i64_in _ (by omega)]; omega
    by_cases hij : i = j
    · subst hij
      have d0' : ((i : Int) != (i : Int)) = false := by simp
      have HC := Lib.hid (HW.out p m i dk wr hsd hS.out (by omega) (by omega))
      have HD := Lib.hid (fun d' (h : SwK p m i dk d') => hK.out.done hb (by rw [hp]; exact h))
      clear hS hK hp hbi hbj hsd
      go_wp2_with fail
      refine HC.out.mono ?_
      rintro e w2 ⟨rfl, d', h1, h2⟩
      have H1 := Lib.hid h1
      have H2 := Lib.hid (HD.out d' h2)
      clear h1 h2
      go_wp2
      go_end0
      exact ⟨rfl, d', H1.out, H2.out⟩
    · have d0' : ((i : Int) != (j : Int)) = true := by simp; omega
      by_cases hgt : j < i
      · have d1 : decide ((j : Int) < (i : Int)) = true := decide_eq_true (by omega)
        have HC := Lib.hid (HW.out p m j dk wr hsd hS.out (by clear z1; omega) (by clear z1; omega))
        have HD := Lib.hid (fun d' (h : SwK p m j dk d') => hK.out.big hb hgt (by rw [hp]; exact h))
        obtain ⟨q, hq⟩ : ∃ q, i - j = q := ⟨_, rfl⟩
        have z3 : IntKind.i64.wrap ((i : Int) - (j : Int)) = (q : Int) := by rw [IntWalk.i64_in _ (by omega)]; omega
        rw [hq] at HD
        have Hq := Lib.hid (show q + j = i ∧ 0 < j by omega)
        clear hS hK hp hbi hbj hsd hq
        go_wp2_with fail
        refine HC.out.mono ?_
        rintro e w2 ⟨rfl, d', h1, h2⟩
        have H1 := Lib.hid h1
        have H2 := Lib.hid (HD.out d' h2)
        clear h1 h2
        go_wp2
        have hq := Hq.out
        clear z1 z3
        exact ⟨⟨q, j, d', rfl, rfl, H1, H2⟩, by simp [Go.RowKit.intOf]; omega⟩
      · have hlt : i < j := by omega
        have d1 : decide ((j : Int) < (i : Int)) = false := decide_eq_false (by omega)
        obtain ⟨r, hr⟩ : ∃ r, m + j - i = r := ⟨_, rfl⟩
        have z4 : IntKind.i64.wrap ((m : Int) + (j : Int)) = (m : Int) + (j : Int) := IntWalk.i64_in _ (by omega)
        have z5 : IntKind.i64.wrap ((m : Int) + (j : Int) - (i : Int)) = (r : Int) := by rw [IntWalk.i64_in _ (by omega)]; omega
        have HC := Lib.hid (HW.out p r i dk wr hsd hS.out (by omega) (by omega))
        have HD := Lib.hid (fun d' (h : SwK p r i dk d') => hK.out.small hb hlt (by rw [hp, hr]; exact h))
        obtain ⟨q, hq⟩ : ∃ q, j - i = q := ⟨_, rfl⟩
        have z3 : IntKind.i64.wrap ((j : Int) - (i : Int)) = (q : Int) := by rw [IntWalk.i64_in _ (by omega)]; omega
        rw [hq] at HD
        have Hq := Lib.hid (show q + i = j ∧ 0 < i by omega)
        clear hS hK hp hbi hbj hsd hq hlt hr
        go_wp2_with fail
        refine HC.out.mono ?_
        rintro e w2 ⟨rfl, d', h1, h2⟩
        have H1 := Lib.hid h1
        have H2 := Lib.hid (HD.out d' h2)
        clear h1 h2
        go_wp2
        have hq := Hq.out
        clear z1 z3 z4 z5
        exact ⟨⟨i, q, d', rfl, rfl, H1, H2⟩, by simp [Go.RowKit.intOf]; omega⟩
end Go.Proofs.YtpklgpdlkdlbbaaGreatDoor

/-
  slices.symMergeCmpFunc at indexes: one part is one element.
-/
namespace Go.Proofs.YtpklgpdlkdlbbaaGreatDoor
open Go Go.RowKit Go.Sort Go.Lib
attribute [local go_sem ↓] Go.wp_at_zero Go.wp_at_succ
attribute [local go_sem] Oper.semAt_some wide_fn wide_depth wide_fnR wide_depthR
variable {α : Type} [Inhabited α]

/-- What a merge leaves. -/
def MergePost (enc : α → Value) (cf : α → α → Int) (rk : α → Nat) (w0 : World) (blk off a b : Nat) (d : Array α) (e : Ending) (w' : World) : Prop :=
  e = .returned (.tuple #[]) ∧ ∃ d', SW enc w0 blk off d' w' ∧ PermIn a b d d' ∧ Asc (ltR cf rk) a b d'
set_option maxRecDepth 1000000 in
set_option maxHeartbeats 16000000 in
theorem symFirst_s (enc : α → Value) (cf : α → α → Int) (rk : α → Nat) (hc : CmpOk cf rk) (g : Nat) (cb : Array Value) (blk off cap a b : Nat) (d0 d : Array α) (w0 w : World)
    (eg : ∀ args w, (callFunc g args).run Tryz.prog w = .ok (.enter g args) w) (hcmp : CmpLays1 Tryz.prog g cb enc cf blk off d0.size w0) (R : Row1 enc w0 blk off d0) (hs : d0.size = d.size) (S : SW enc w0 blk off d w) (hmb : a + 1 < b) (hb : b ≤ d.size) (hsz : d.size < 4611686018427387904)
    (hp : Pre (ltR cf rk) rk a (a + 1) b d) :
    Calls Tryz.prog 118 #[.slice (some ⟨blk, off, none⟩) d.size cap, .int .i64 a, .int .i64 ((a + 1 : Nat) : Int), .int .i64 b, .func (.func g) #[] cb] w (MergePost enc cf rk w0 blk off a b d) := by
  have hcl0 := R.hO.cells
  simp only [Value.cells] at hcl0
  have hst := R.hO.store Tryz.prog
  have mixed : Tryz.prog.follows .mixedOrders = true := by kernel_rfl
  have HC : Aside _ := hcmp
  have S0 := Lib.hid S
  have HP := Lib.hid hp
  obtain ⟨m, hm⟩ : ∃ m, a + 1 = m := ⟨_, rfl⟩
  rw [hm] at HP
  rw [hm]
  have z0 : IntKind.i64.wrap ((m : Int) - (a : Int)) = 1 := by rw [IntWalk.i64_in _ (by omega)]; omega
  have Hm := Lib.hid hm
  clear S hcmp hp hm
  go_enter Tryz.func118, Tryz.ntmps118
  go_wp2_with fail
  clear z0
  go_loopw [10, 11] (fun c e wr => ∃ (i j : Nat), c = .int .i64 i ∧ e = .int .i64 j ∧ m ≤ i ∧ i ≤ j ∧ j ≤ b ∧ Hid (SW enc w0 blk off d wr) ∧ Hid ((∀ x, m ≤ x → x < i → ltR cf rk d[x]! d[a]! = true) ∧ ∀ x, j ≤ x → x < b → ltR cf rk d[a]! d[x]! = true)) (fun c e _ => (Go.RowKit.intOf e - Go.RowKit.intOf c).toNat)
  case atStart => exact ⟨m, b, rfl, rfl, Nat.le_refl _, by have := Hm.out; omega, Nat.le_refl _, S0.out, ⟨fun x h1 h2 => by omega, fun x h1 h2 => by omega⟩⟩
  case round =>
    obtain ⟨i, j, rfl, rfl, hmi, hij, hjb, hS, hK⟩ := hrel
    by_cases hlt : i < j
    · have d0' : decide ((i : Int) < (j : Int)) = true := decide_eq_true (by omega)
      obtain ⟨h, hh⟩ : ∃ h, (i + j) / 2 = h := ⟨_, rfl⟩
      have hhb : i ≤ h ∧ h < j := by omega
      have e1 : IntKind.i64.wrap ((i : Int) + (j : Int)) = ((i + j : Nat) : Int) := by rw [IntWalk.i64_in _ (by omega)]; push_cast; rfl
      have e2 : IntKind.u64.wrap ((i + j : Nat) : Int) = ((i + j : Nat) : Int) := by rw [IntKind.wrap_u64]; omega
      have e3 : ((i + j : Nat) : Int) / 2 = (h : Int) := by omega
      have e4 : IntKind.i64.wrap (h : Int) = (h : Int) := IntWalk.i64_in _ (by omega)
      have e5 : IntKind.i64.wrap ((h : Int) + 1) = (h : Int) + 1 := IntWalk.i64_in _ (by omega)
      obtain ⟨s, hs'⟩ : ∃ s, i + j = s := ⟨_, rfl⟩
      rw [hs'] at e1 e2 e3
      clear hs' hh
      have hma := Hm.out
      have pa : (0 : Int) ≤ (h : Int) := by omega
      have ba : (h : Int) < (d.size : Int) := by omega
      have pc : (0 : Int) ≤ (a : Int) := by omega
      have bc : (a : Int) < (d.size : Int) := by omega
      obtain ⟨x, hx⟩ : ∃ x, x = d[h]! := ⟨_, rfl⟩
      obtain ⟨y, hy⟩ : ∃ x, x = d[a]! := ⟨_, rfl⟩
      have l1 := hS.out.cl R (by omega) h (by omega)
      have l2 := hS.out.cl R (by omega) a (by omega)
      rw [← hx] at l1
      rw [← hy] at l2
      have hcc := hS.out.cmp HC.out (by omega) x y
      have hrk : rk y < rk x := by rw [hx, hy]; exact HP.out.x a h (Nat.le_refl _) (by omega) (by omega) (by omega)
      have Hrk := Lib.hid hrk
      have Hx := Lib.hid hx
      have Hy := Lib.hid hy
      have Hhb := Lib.hid hhb
      have Hlt := Lib.hid hlt
      clear hrk hx hy hma hhb
      by_cases hv : cf x y < 0
      · have hd : decide (cf x y < 0) = true := decide_eq_true hv
        have HV := Lib.hid (cmp_lt Hrk.out hv)
        go_wp2_with fail
        go_quiet_grown (first | (go_at_fn g; refine Calls.grown_of (hcc _ _)))
        have S2 := Lib.hid (hS.out.grown nq osq)
        clear l1 l2 hcc hS
        generalize grow (wr.drewN nq) osq = w2 at S2 ⊢
        clear nq osq
        clear e1 e2 e3 e4 pa ba pc bc
        go_wp2_with fail
        clear e5 hd d0' hv hlt
        have hhb := Hhb.out
        refine ⟨⟨h + 1, j, by simp, rfl, by omega, by omega, hjb, S2, ⟨fun x' k1 k2 => ?_, hK.out.2⟩⟩, by simp [Go.RowKit.intOf]; omega⟩
        have hxa : ltR cf rk d[h]! d[a]! = true := by rw [← Hx.out, ← Hy.out]; exact HV.out
        by_cases e : x' = h
        · rw [e]; exact hxa
        · exact hc.tot.trans _ _ _ (HP.out.r x' h k1 (by omega) (by omega)) hxa
      · have hd : decide (cf x y < 0) = false := decide_eq_false hv
        have HV := Lib.hid (cmp_ge hc Hrk.out hv)
        go_wp2_with fail
        go_quiet_grown (first | (go_at_fn g; refine Calls.grown_of (hcc _ _)))
        have S2 := Lib.hid (hS.out.grown nq osq)
        clear l1 l2 hcc hS
        generalize grow (wr.drewN nq) osq = w2 at S2 ⊢
        clear nq osq
        clear e1 e2 e3 e4 pa ba pc bc
        go_wp2_with fail
        clear e5 hd d0' hv hlt
        have hhb := Hhb.out
        refine ⟨⟨i, h, rfl, rfl, hmi, by omega, by omega, S2, ⟨hK.out.1, fun x' k1 k2 => ?_⟩⟩, by simp [Go.RowKit.intOf]; omega⟩
        have hxa : ltR cf rk d[a]! d[h]! = true := by rw [← Hx.out, ← Hy.out]; exact HV.out
        by_cases e : x' = h
        · rw [e]; exact hxa
        · exact hc.tot.trans _ _ _ hxa (HP.out.r h x' (by omega) (by omega) k2)
    · obtain rfl : i = j := by omega
      have d0' : decide ((i : Int) < (i : Int)) = false := decide_eq_false (by omega)
      have z1 : IntKind.i64.wrap ((i : Int) - 1) = ((i - 1 : Nat) : Int) := by have := Hm.out; rw [IntWalk.i64_in _ (by omega)]; omega
      obtain ⟨i1, hi1⟩ : ∃ q, i - 1 = q := ⟨_, rfl⟩
      rw [hi1] at z1
      have Hi1 := Lib.hid hi1
      have SA := Lib.hid hS.out
      have KA := Lib.hid hK.out
      clear hS hK hi1 hlt
      go_wp2_with fail
      clear d0'
      go_loopw [13] (fun c wr => ∃ (k : Nat) (dk : Array α), c = .int .i64 k ∧ a ≤ k ∧ k ≤ i1 ∧ Hid (SW enc w0 blk off dk wr) ∧ Hid (ShU a k d dk)) (fun c _ => i1 - (Go.RowKit.intOf c).toNat)
      case atStart => exact ⟨a, d, rfl, Nat.le_refl _, by have := Hm.out; have := Hi1.out; omega, SA.out, ShU.start a d⟩
      case round =>
        obtain ⟨k, dk, rfl, hak, hki, hS, hK⟩ := hrel
        have hsd := hK.out.size
        by_cases hlt : k < i1
        · have d1' : decide ((k : Int) < (i1 : Int)) = true := decide_eq_true (by omega)
          obtain ⟨iN, hiN⟩ : ∃ q, q = k := ⟨_, rfl⟩
          obtain ⟨jN, hjN⟩ : ∃ q, q = k + 1 := ⟨_, rfl⟩
          have hi1 := Hi1.out
          have HK := Lib.hid (hK.out.step hak (by omega))
          clear hK
          have ea : ((k : Int)).toNat = iN := by omega
          have pa : (0 : Int) ≤ (k : Int) := by omega
          have ba : (k : Int) < (d.size : Int) := by omega
          have ra : IntKind.i64.wrap ((k : Int)) = (k : Int) := IntWalk.i64_in _ (by omega)
          have ec : ((k : Int) + 1).toNat = jN := by omega
          have pc : (0 : Int) ≤ (k : Int) + 1 := by omega
          have bc : (k : Int) + 1 < (d.size : Int) := by omega
          have rc : IntKind.i64.wrap ((k : Int) + 1) = (k : Int) + 1 := IntWalk.i64_in _ (by omega)
          obtain ⟨x, hx⟩ : ∃ x, x = dk[k]! := ⟨_, rfl⟩
          obtain ⟨y, hy⟩ : ∃ x, x = dk[k + 1]! := ⟨_, rfl⟩
          have S3 := Lib.hid (show SW enc w0 blk off (swp dk (k) (k + 1)) ((wr.setCell ⟨blk, off + iN, none⟩ (enc y)).setCell ⟨blk, off + jN, none⟩ (enc x)).drew by rw [hiN, hjN, hx, hy]; exact hS.out.swapped R (k) (k + 1) (by omega) (by omega))
          have c1 := hS.out.c1 R (by omega) (k) (by omega)
          have c2 := hS.out.c1 R (by omega) (k + 1) (by omega)
          have f1 := hS.out.f1 R (by omega) (k) (by omega)
          have f2 := hS.out.f1 R (by omega) (k + 1) (by omega)
          obtain ⟨u, c3⟩ := hS.out.c2 R (by omega) (k) (k + 1) (by omega) (by omega) (enc y)
          rw [← hjN, ← hiN] at c3
          rw [← hx, ← hiN] at c1
          rw [← hy, ← hjN] at c2
          rw [← hiN] at f1
          rw [← hjN] at f2
          clear hS hx hy hiN hjN
          go_wp2_with fail
          go_big_region_o
          clear c1 c2 c3 f1 f2
          generalize ((wr.setCell ⟨blk, off + iN, none⟩ (enc y)).setCell ⟨blk, off + jN, none⟩ (enc x)).drew = w3 at S3 ⊢
          clear ea ec pa ba ra pc bc rc
          go_wp2
          clear d1' z1
          refine ⟨⟨k + 1, _, by simp, by omega, by omega, S3, HK⟩, by simp [Go.RowKit.intOf]; omega⟩
        · obtain rfl : k = i1 := by omega
          have d1' : decide ((k : Int) < (k : Int)) = false := decide_eq_false (by omega)
          have HF := Lib.hid (merge_first (lt := ltR cf rk) hb (by have := Hm.out; omega) hjb (by rw [Hm.out]; exact HP.out.r) (by rw [Hm.out]; exact KA.out.1) KA.out.2 (by rw [Hi1.out]; exact hK.out))
          have SF := Lib.hid hS.out
          clear hS hK
          go_wp2_with fail
          (try simp only [Exit.inBlock, Exit.then])
          refine ⟨rfl, _, results_none rfl _ _ _, ?_⟩
          exact ⟨rfl, dk, SF.out, HF.out.1, HF.out.2⟩
end Go.Proofs.YtpklgpdlkdlbbaaGreatDoor

/-
  slices.symMergeCmpFunc at indexes: the second part is one element.
-/
namespace Go.Proofs.YtpklgpdlkdlbbaaGreatDoor
open Go Go.RowKit Go.Sort Go.Lib
attribute [local go_sem ↓] Go.wp_at_zero Go.wp_at_succ
attribute [local go_sem] Oper.semAt_some wide_fn wide_depth wide_fnR wide_depthR
variable {α : Type} [Inhabited α]

set_option maxRecDepth 1000000 in
set_option maxHeartbeats 16000000 in
theorem symLast_s (enc : α → Value) (cf : α → α → Int) (rk : α → Nat) (hc : CmpOk cf rk) (g : Nat) (cb : Array Value) (blk off cap a m : Nat) (d0 d : Array α) (w0 w : World)
    (eg : ∀ args w, (callFunc g args).run Tryz.prog w = .ok (.enter g args) w) (hcmp : CmpLays1 Tryz.prog g cb enc cf blk off d0.size w0) (R : Row1 enc w0 blk off d0) (hs : d0.size = d.size) (S : SW enc w0 blk off d w) (ham : a + 1 < m) (hb : m + 1 ≤ d.size) (hsz : d.size < 4611686018427387904)
    (hp : Pre (ltR cf rk) rk a m (m + 1) d) :
    Calls Tryz.prog 118 #[.slice (some ⟨blk, off, none⟩) d.size cap, .int .i64 a, .int .i64 m, .int .i64 ((m + 1 : Nat) : Int), .func (.func g) #[] cb] w (MergePost enc cf rk w0 blk off a (m + 1) d) := by
  have hcl0 := R.hO.cells
  simp only [Value.cells] at hcl0
  have hst := R.hO.store Tryz.prog
  have mixed : Tryz.prog.follows .mixedOrders = true := by kernel_rfl
  have HC : Aside _ := hcmp
  have S0 := Lib.hid S
  have HP := Lib.hid hp
  obtain ⟨b, hbm⟩ : ∃ b, m + 1 = b := ⟨_, rfl⟩
  rw [hbm] at HP
  rw [hbm]
  have z0 : IntKind.i64.wrap ((m : Int) - (a : Int)) = ((m - a : Nat) : Int) := by rw [IntWalk.i64_in _ (by omega)]; omega
  have z1 : IntKind.i64.wrap ((b : Int) - (m : Int)) = 1 := by rw [IntWalk.i64_in _ (by omega)]; omega
  obtain ⟨ma, hma⟩ : ∃ q, m - a = q := ⟨_, rfl⟩
  rw [hma] at z0
  have dm : ((ma : Int) == 1) = false := by simp; omega
  have Hm := Lib.hid hbm
  clear S hcmp hp hbm hma
  go_enter Tryz.func118, Tryz.ntmps118
  go_wp2_with fail
  clear z0 z1 dm
  go_loopw [14, 15] (fun c e wr => ∃ (i j : Nat), c = .int .i64 i ∧ e = .int .i64 j ∧ a ≤ i ∧ i ≤ j ∧ j ≤ m ∧ Hid (SW enc w0 blk off d wr) ∧ Hid ((∀ x, a ≤ x → x < i → ltR cf rk d[x]! d[m]! = true) ∧ ∀ x, j ≤ x → x < m → ltR cf rk d[m]! d[x]! = true)) (fun c e _ => (Go.RowKit.intOf e - Go.RowKit.intOf c).toNat)
  case atStart => exact ⟨a, m, rfl, rfl, Nat.le_refl _, by omega, Nat.le_refl _, S0.out, ⟨fun x h1 h2 => by omega, fun x h1 h2 => by omega⟩⟩
  case round =>
    obtain ⟨i, j, rfl, rfl, hmi, hij, hjb, hS, hK⟩ := hrel
    by_cases hlt : i < j
    · have d0' : decide ((i : Int) < (j : Int)) = true := decide_eq_true (by omega)
      obtain ⟨h, hh⟩ : ∃ h, (i + j) / 2 = h := ⟨_, rfl⟩
      have hhb : i ≤ h ∧ h < j := by omega
      have e1 : IntKind.i64.wrap ((i : Int) + (j : Int)) = ((i + j : Nat) : Int) := by rw [IntWalk.i64_in _ (by omega)]; push_cast; rfl
      have e2 : IntKind.u64.wrap ((i + j : Nat) : Int) = ((i + j : Nat) : Int) := by rw [IntKind.wrap_u64]; omega
      have e3 : ((i + j : Nat) : Int) / 2 = (h : Int) := by omega
      have e4 : IntKind.i64.wrap (h : Int) = (h : Int) := IntWalk.i64_in _ (by omega)
      have e5 : IntKind.i64.wrap ((h : Int) + 1) = (h : Int) + 1 := IntWalk.i64_in _ (by omega)
      obtain ⟨s, hs'⟩ : ∃ s, i + j = s := ⟨_, rfl⟩
      rw [hs'] at e1 e2 e3
      clear hs' hh
      have pa : (0 : Int) ≤ (m : Int) := by omega
      have ba : (m : Int) < (d.size : Int) := by omega
      have pc : (0 : Int) ≤ (h : Int) := by omega
      have bc : (h : Int) < (d.size : Int) := by omega
      obtain ⟨x, hx⟩ : ∃ x, x = d[m]! := ⟨_, rfl⟩
      obtain ⟨y, hy⟩ : ∃ x, x = d[h]! := ⟨_, rfl⟩
      have l1 := hS.out.cl R (by omega) m (by omega)
      have l2 := hS.out.cl R (by omega) h (by omega)
      rw [← hx] at l1
      rw [← hy] at l2
      have hcc := hS.out.cmp HC.out (by omega) x y
      have hrk : rk y < rk x := by rw [hx, hy]; exact HP.out.x h m (by omega) (by omega) (Nat.le_refl _) (by have := Hm.out; omega)
      have Hrk := Lib.hid hrk
      have Hx := Lib.hid hx
      have Hy := Lib.hid hy
      have Hhb := Lib.hid hhb
      have Hlt := Lib.hid hlt
      clear hrk hx hy hhb
      by_cases hv : cf x y < 0
      · have hd : decide (cf x y < 0) = true := decide_eq_true hv
        have HV := Lib.hid (cmp_lt Hrk.out hv)
        go_wp2_with fail
        go_quiet_grown (first | (go_at_fn g; refine Calls.grown_of (hcc _ _)))
        have S2 := Lib.hid (hS.out.grown nq osq)
        clear l1 l2 hcc hS
        generalize grow (wr.drewN nq) osq = w2 at S2 ⊢
        clear nq osq
        clear e1 e2 e3 e4 pa ba pc bc
        go_wp2_with fail
        clear e5 hd d0' hv hlt
        have hhb := Hhb.out
        refine ⟨⟨i, h, rfl, rfl, hmi, by omega, by omega, S2, ⟨hK.out.1, fun x' k1 k2 => ?_⟩⟩, by simp [Go.RowKit.intOf]; omega⟩
        have hxa : ltR cf rk d[m]! d[h]! = true := by rw [← Hx.out, ← Hy.out]; exact HV.out
        by_cases e : x' = h
        · rw [e]; exact hxa
        · exact hc.tot.trans _ _ _ hxa (HP.out.l h x' (by omega) (by omega) k2)
      · have hd : decide (cf x y < 0) = false := decide_eq_false hv
        have HV := Lib.hid (cmp_ge hc Hrk.out hv)
        go_wp2_with fail
        go_quiet_grown (first | (go_at_fn g; refine Calls.grown_of (hcc _ _)))
        have S2 := Lib.hid (hS.out.grown nq osq)
        clear l1 l2 hcc hS
        generalize grow (wr.drewN nq) osq = w2 at S2 ⊢
        clear nq osq
        clear e1 e2 e3 e4 pa ba pc bc
        go_wp2_with fail
        clear e5 hd d0' hv hlt
        have hhb := Hhb.out
        refine ⟨⟨h + 1, j, by simp, rfl, by omega, by omega, hjb, S2, ⟨fun x' k1 k2 => ?_, hK.out.2⟩⟩, by simp [Go.RowKit.intOf]; omega⟩
        have hxa : ltR cf rk d[h]! d[m]! = true := by rw [← Hx.out, ← Hy.out]; exact HV.out
        by_cases e : x' = h
        · rw [e]; exact hxa
        · exact hc.tot.trans _ _ _ (HP.out.l x' h k1 (by omega) (by omega)) hxa
    · obtain rfl : i = j := by omega
      have d0' : decide ((i : Int) < (i : Int)) = false := decide_eq_false (by omega)
      have SA := Lib.hid hS.out
      have KA := Lib.hid hK.out
      clear hS hK hlt
      go_wp2_with fail
      clear d0'
      go_loopw [17] (fun c wr => ∃ (k : Nat) (dk : Array α), c = .int .i64 k ∧ i ≤ k ∧ k ≤ m ∧ Hid (SW enc w0 blk off dk wr) ∧ Hid (ShD m k d dk)) (fun c _ => (Go.RowKit.intOf c).toNat)
      case atStart => exact ⟨m, d, rfl, hjb, Nat.le_refl _, SA.out, ShD.start m d⟩
      case round =>
        obtain ⟨k, dk, rfl, hik, hkm, hS, hK⟩ := hrel
        have hsd := hK.out.size
        by_cases hlt : i < k
        · obtain ⟨q, rfl⟩ : ∃ q, k = q + 1 := ⟨k - 1, by omega⟩
          have d1' : decide ((i : Int) < ((q + 1 : Nat) : Int)) = true := decide_eq_true (by omega)
          have d2' : decide ((i : Int) < (q : Int) + 1) = true := decide_eq_true (by omega)
          obtain ⟨iN, hiN⟩ : ∃ p, p = q + 1 := ⟨_, rfl⟩
          obtain ⟨jN, hjN⟩ : ∃ p, p = q := ⟨_, rfl⟩
          have HK := Lib.hid (hK.out.step (by omega) (by omega))
          clear hK
          have ea : ((q : Int) + 1).toNat = iN := by omega
          have pa : (0 : Int) ≤ (q : Int) + 1 := by omega
          have ba : (q : Int) + 1 < (d.size : Int) := by omega
          have ra : IntKind.i64.wrap ((q : Int) + 1) = (q : Int) + 1 := IntWalk.i64_in _ (by omega)
          have ec : ((q : Int)).toNat = jN := by omega
          have pc : (0 : Int) ≤ (q : Int) := by omega
          have bc : (q : Int) < (d.size : Int) := by omega
          have rc : IntKind.i64.wrap ((q : Int)) = (q : Int) := IntWalk.i64_in _ (by omega)
          obtain ⟨x, hx⟩ : ∃ x, x = dk[q + 1]! := ⟨_, rfl⟩
          obtain ⟨y, hy⟩ : ∃ x, x = dk[q]! := ⟨_, rfl⟩
          have S3 := Lib.hid (show SW enc w0 blk off (swp dk (q + 1) (q)) ((wr.setCell ⟨blk, off + iN, none⟩ (enc y)).setCell ⟨blk, off + jN, none⟩ (enc x)).drew by rw [hiN, hjN, hx, hy]; exact hS.out.swapped R (q + 1) (q) (by omega) (by omega))
          have c1 := hS.out.c1 R (by omega) (q + 1) (by omega)
          have c2 := hS.out.c1 R (by omega) (q) (by omega)
          have f1 := hS.out.f1 R (by omega) (q + 1) (by omega)
          have f2 := hS.out.f1 R (by omega) (q) (by omega)
          obtain ⟨u, c3⟩ := hS.out.c2 R (by omega) (q + 1) (q) (by omega) (by omega) (enc y)
          rw [← hiN, ← hjN] at c3
          rw [← hx, ← hiN] at c1
          rw [← hy, ← hjN] at c2
          rw [← hiN] at f1
          rw [← hjN] at f2
          clear hS hx hy hiN hjN
          go_wp2_with fail
          go_big_region_o
          clear c1 c2 c3 f1 f2
          generalize ((wr.setCell ⟨blk, off + iN, none⟩ (enc y)).setCell ⟨blk, off + jN, none⟩ (enc x)).drew = w3 at S3 ⊢
          clear ea ec pa ba ra pc bc rc
          go_wp2
          clear d1' d2'
          refine ⟨⟨q, _, by simp, by omega, by omega, S3, HK⟩, by simp [Go.RowKit.intOf]⟩
        · obtain rfl : i = k := by omega
          have d1' : decide ((i : Int) < (i : Int)) = false := decide_eq_false (by omega)
          have HF := Lib.hid (merge_last (lt := ltR cf rk) hb hmi hkm HP.out.l KA.out.1 KA.out.2 hK.out)
          have SF := Lib.hid hS.out
          clear hS hK
          go_wp2_with fail
          (try simp only [Exit.inBlock, Exit.then])
          refine ⟨rfl, _, results_none rfl _ _ _, ?_⟩
          have hf := HF.out
          rw [Hm.out] at hf
          exact ⟨rfl, dk, SF.out, hf.1, hf.2⟩
end Go.Proofs.YtpklgpdlkdlbbaaGreatDoor

/-
  slices.symMergeCmpFunc at indexes.
-/
namespace Go.Proofs.YtpklgpdlkdlbbaaGreatDoor
open Go Go.RowKit Go.Sort Go.Lib
attribute [local go_sem ↓] Go.wp_at_zero Go.wp_at_succ
attribute [local go_sem] Oper.semAt_some wide_fn wide_depth wide_fnR wide_depthR
variable {α : Type} [Inhabited α]

set_option maxRecDepth 1000000 in
set_option maxHeartbeats 64000000 in
theorem symMerge_s (enc : α → Value) (cf : α → α → Int) (rk : α → Nat) (hc : CmpOk cf rk) (g : Nat) (cb : Array Value) (blk off cap : Nat) (d0 : Array α) (w0 : World)
    (eg : ∀ args w, (callFunc g args).run Tryz.prog w = .ok (.enter g args) w) (hcmp : CmpLays1 Tryz.prog g cb enc cf blk off d0.size w0) (R : Row1 enc w0 blk off d0) (hsz : d0.size < 4611686018427387904) (N : Nat) :
    ∀ (a m b : Nat) (d : Array α) (w : World), d0.size = d.size → b - a = N → a < m → m < b → b ≤ d.size → SW enc w0 blk off d w → Pre (ltR cf rk) rk a m b d →
    Calls Tryz.prog 118 #[.slice (some ⟨blk, off, none⟩) d.size cap, .int .i64 a, .int .i64 m, .int .i64 b, .func (.func g) #[] cb] w (MergePost enc cf rk w0 blk off a b d) := by
  induction N using Nat.strongRecOn with
  | _ N ih =>
    intro a m b d w hs hN ham hmb hb S hp
    rw [hs] at hsz
    by_cases c1 : m = a + 1
    · subst c1
      exact symFirst_s enc cf rk hc g cb blk off cap a b d0 d w0 w eg hcmp R hs S hmb hb hsz hp
    · by_cases c2 : b = m + 1
      · subst c2
        exact symLast_s enc cf rk hc g cb blk off cap a m d0 d w0 w eg hcmp R hs S (by omega) hb hsz hp
      · have IH := Lib.hid (show ∀ (a' m' b' : Nat) (d' : Array α) (W : World), d'.size = d.size → b' - a' < N → a' < m' → m' < b' → b' ≤ d.size → SW enc w0 blk off d' W → Pre (ltR cf rk) rk a' m' b' d' → Calls Tryz.prog 118 #[.slice (some ⟨blk, off, none⟩) d.size cap, .int .i64 a', .int .i64 m', .int .i64 b', .func (.func g) #[] cb] W (MergePost enc cf rk w0 blk off a' b' d') from fun a' m' b' d' W k1 k2 k3 k4 k5 k6 k7 => by
          have := ih (b' - a') k2 a' m' b' d' W (hs.trans k1.symm) rfl k3 k4 (by rw [k1]; exact k5) k6 k7
          rwa [k1] at this)
        have HRO := Lib.hid (show ∀ (x y : Nat) (d' : Array α) (W : World), d'.size = d.size → SW enc w0 blk off d' W → x < m → m < y → y ≤ d.size → Calls Tryz.prog 132 #[.slice (some ⟨blk, off, none⟩) d.size cap, .int .i64 x, .int .i64 m, .int .i64 y, .func (.func g) #[] cb] W fun e w' => e = .returned (.tuple #[]) ∧ ∃ d'', SW enc w0 blk off d'' w' ∧ Rot x m y d' d'' from fun x y d' W k1 k2 k3 k4 k5 => by
          have := rotate_s enc (.func (.func g) #[] cb) blk off cap x m y d0 d' w0 W R (hs.trans k1.symm) k2 k3 k4 (by rw [k1]; exact k5) (by rw [k1]; exact hsz)
          rwa [k1] at this)
        have hcl0 := R.hO.cells
        simp only [Value.cells] at hcl0
        have hst := R.hO.store Tryz.prog
        have mixed : Tryz.prog.follows .mixedOrders = true := by kernel_rfl
        have HC : Aside _ := hcmp
        have S0 := Lib.hid S
        have HP := Lib.hid hp
        have zma : IntKind.i64.wrap ((m : Int) - (a : Int)) = ((m - a : Nat) : Int) := by rw [IntWalk.i64_in _ (by omega)]; omega
        have zbm : IntKind.i64.wrap ((b : Int) - (m : Int)) = ((b - m : Nat) : Int) := by rw [IntWalk.i64_in _ (by omega)]; omega
        obtain ⟨ma, hma⟩ : ∃ q, m - a = q := ⟨_, rfl⟩
        obtain ⟨bm, hbm⟩ : ∃ q, b - m = q := ⟨_, rfl⟩
        rw [hma] at zma
        rw [hbm] at zbm
        have dma : ((ma : Int) == 1) = false := by simp; omega
        have dbm : ((bm : Int) == 1) = false := by simp; omega
        obtain ⟨mid, hm⟩ : ∃ q, (a + b) / 2 = q := ⟨_, rfl⟩
        have e1 : IntKind.i64.wrap ((a : Int) + (b : Int)) = ((a + b : Nat) : Int) := by rw [IntWalk.i64_in _ (by omega)]; push_cast; rfl
        have e2 : IntKind.u64.wrap ((a + b : Nat) : Int) = ((a + b : Nat) : Int) := by rw [IntKind.wrap_u64]; omega
        have e3 : ((a + b : Nat) : Int) / 2 = (mid : Int) := by omega
        have e4 : IntKind.i64.wrap (mid : Int) = (mid : Int) := IntWalk.i64_in _ (by omega)
        obtain ⟨s0, hs0⟩ : ∃ q, a + b = q := ⟨_, rfl⟩
        obtain ⟨nn, hnn⟩ : ∃ q, mid + m = q := ⟨_, rfl⟩
        obtain ⟨p, hpp⟩ : ∃ q, mid + m - 1 = q := ⟨_, rfl⟩
        have en0 : IntKind.i64.wrap ((mid : Int) + (m : Int)) = (nn : Int) := by rw [IntWalk.i64_in _ (by omega)]; omega
        have ep : IntKind.i64.wrap ((nn : Int) - 1) = (p : Int) := by rw [IntWalk.i64_in _ (by omega)]; omega
        have Hp := Lib.hid hpp
        have Hnn := Lib.hid hnn
        have hmid := Lib.hid hm
        by_cases hgt : mid < m
        · have dg : decide ((mid : Int) < (m : Int)) = true := decide_eq_true (by omega)
          obtain ⟨lo, hlo⟩ : ∃ q, mid + m - b = q := ⟨_, rfl⟩
          have elo : IntKind.i64.wrap ((nn : Int) - (b : Int)) = (lo : Int) := by rw [IntWalk.i64_in _ (by omega)]; omega
          have Hlh := Lib.hid (show a ≤ lo ∧ mid ≤ m ∧ lo ≤ mid ∧ mid + m - lo ≤ b ∧ mid ≤ mid ∧ lo = (if mid < m then mid + m - b else a) ∧ mid = (if mid < m then mid else m) from ⟨by omega, by omega, by omega, by omega, by omega, by rw [if_pos hgt]; omega, by rw [if_pos hgt]⟩)
          rw [hs0] at e1 e2 e3
          clear S hcmp hp hma hbm ih hs0 hnn hpp hm hlo
          go_enter Tryz.func118, Tryz.ntmps118
          go_wp2_with fail
          clear zma zbm dma dbm e1 e2 e3 e4 en0 ep elo dg
          go_loopw [20, 21] (fun c e wr => ∃ (st r : Nat), c = .int .i64 st ∧ e = .int .i64 r ∧ lo ≤ st ∧ st ≤ r ∧ r ≤ mid ∧ Hid (SW enc w0 blk off d wr) ∧ Hid ((∀ x, lo ≤ x → x < st → ltR cf rk d[x]! d[mid + m - 1 - x]! = true) ∧ ∀ x, r ≤ x → x < mid → ltR cf rk d[mid + m - 1 - x]! d[x]! = true)) (fun c e _ => (Go.RowKit.intOf e - Go.RowKit.intOf c).toNat)
          case atStart => exact ⟨lo, mid, rfl, rfl, Nat.le_refl _, Hlh.out.2.2.1, Nat.le_refl _, S0.out, ⟨fun x h1 h2 => by omega, fun x h1 h2 => by omega⟩⟩
          case round =>
            obtain ⟨st, r, rfl, rfl, hls, hsr, hrh, hS, hK⟩ := hrel
            obtain ⟨hb1, hb2, hb3, hb4, hb5, hb6, hb7⟩ := Hlh.out
            by_cases hlt : st < r
            · have d0' : decide ((st : Int) < (r : Int)) = true := decide_eq_true (by omega)
              obtain ⟨h, hh⟩ : ∃ h, (st + r) / 2 = h := ⟨_, rfl⟩
              have hhb : st ≤ h ∧ h < r := by omega
              have e1 : IntKind.i64.wrap ((st : Int) + (r : Int)) = ((st + r : Nat) : Int) := by rw [IntWalk.i64_in _ (by omega)]; push_cast; rfl
              have e2 : IntKind.u64.wrap ((st + r : Nat) : Int) = ((st + r : Nat) : Int) := by rw [IntKind.wrap_u64]; omega
              have e3 : ((st + r : Nat) : Int) / 2 = (h : Int) := by omega
              have e4 : IntKind.i64.wrap (h : Int) = (h : Int) := IntWalk.i64_in _ (by omega)
              have e5 : IntKind.i64.wrap ((h : Int) + 1) = (h : Int) + 1 := IntWalk.i64_in _ (by omega)
              obtain ⟨s, hs'⟩ : ∃ s, st + r = s := ⟨_, rfl⟩
              rw [hs'] at e1 e2 e3
              obtain ⟨q, hq⟩ : ∃ q, mid + m - 1 - h = q := ⟨_, rfl⟩
              have hqb : m ≤ q ∧ q < b := by omega
              have e6 : IntKind.i64.wrap ((p : Int) - (h : Int)) = (q : Int) := by have := Hp.out; rw [IntWalk.i64_in _ (by omega)]; omega
              have pa : (0 : Int) ≤ (q : Int) := by omega
              have ba : (q : Int) < (d.size : Int) := by omega
              have pc : (0 : Int) ≤ (h : Int) := by omega
              have bc : (h : Int) < (d.size : Int) := by omega
              obtain ⟨x, hx⟩ : ∃ x, x = d[q]! := ⟨_, rfl⟩
              obtain ⟨y, hy⟩ : ∃ x, x = d[h]! := ⟨_, rfl⟩
              have l1 := hS.out.cl R (by omega) q (by omega)
              have l2 := hS.out.cl R (by omega) h (by omega)
              rw [← hx] at l1
              rw [← hy] at l2
              have hcc := hS.out.cmp HC.out (by omega) x y
              have hrk : rk y < rk x := by rw [hx, hy]; exact HP.out.x h q (by omega) (by omega) (by omega) (by omega)
              have Hrk := Lib.hid hrk
              have Hx := Lib.hid hx
              have Hy := Lib.hid hy
              have Hq := Lib.hid hq
              have Hhb := Lib.hid hhb
              have Hb := Lib.hid (show a ≤ lo ∧ mid ≤ m ∧ mid + m - lo ≤ b ∧ mid ≤ mid from ⟨hb1, hb2, hb4, hb5⟩)
              clear hrk hx hy hhb hs' hh hq hqb hb1 hb2 hb3 hb4 hb5 hb6 hb7
              by_cases hv : cf x y < 0
              · have hd : decide (cf x y < 0) = true := decide_eq_true hv
                have HV := Lib.hid (cmp_lt Hrk.out hv)
                go_wp2_with fail
                go_quiet_grown (first | (go_at_fn g; refine Calls.grown_of (hcc _ _)))
                have S2 := Lib.hid (hS.out.grown nq osq)
                clear l1 l2 hcc hS
                generalize grow (wr.drewN nq) osq = w2 at S2 ⊢
                clear nq osq
                clear e1 e2 e3 e4 e6 pa ba pc bc
                go_wp2_with fail
                clear e5 hd d0' hv hlt
                have hhb := Hhb.out
                obtain ⟨hb1, hb2, hb4, hb5⟩ := Hb.out
                refine ⟨⟨st, h, rfl, rfl, hls, by omega, by omega, S2, ⟨hK.out.1, fun x' k1 k2 => ?_⟩⟩, by simp [Go.RowKit.intOf]; omega⟩
                have hxa : ltR cf rk d[mid + m - 1 - h]! d[h]! = true := by rw [Hq.out, ← Hx.out, ← Hy.out]; exact HV.out
                by_cases e : x' = h
                · rw [e]; exact hxa
                · have h1 := HP.out.l h x' (by omega) (by omega) (by omega)
                  have h2 := HP.out.r (mid + m - 1 - x') (mid + m - 1 - h) (by omega) (by omega) (by omega)
                  exact hc.tot.trans _ _ _ h2 (hc.tot.trans _ _ _ hxa h1)
              · have hd : decide (cf x y < 0) = false := decide_eq_false hv
                have HV := Lib.hid (cmp_ge hc Hrk.out hv)
                go_wp2_with fail
                go_quiet_grown (first | (go_at_fn g; refine Calls.grown_of (hcc _ _)))
                have S2 := Lib.hid (hS.out.grown nq osq)
                clear l1 l2 hcc hS
                generalize grow (wr.drewN nq) osq = w2 at S2 ⊢
                clear nq osq
                clear e1 e2 e3 e4 e6 pa ba pc bc
                go_wp2_with fail
                clear e5 hd d0' hv hlt
                have hhb := Hhb.out
                obtain ⟨hb1, hb2, hb4, hb5⟩ := Hb.out
                refine ⟨⟨h + 1, r, by simp, rfl, by omega, by omega, hrh, S2, ⟨fun x' k1 k2 => ?_, hK.out.2⟩⟩, by simp [Go.RowKit.intOf]; omega⟩
                have hxa : ltR cf rk d[h]! d[mid + m - 1 - h]! = true := by rw [Hq.out, ← Hx.out, ← Hy.out]; exact HV.out
                by_cases e : x' = h
                · rw [e]; exact hxa
                · have h1 := HP.out.l x' h (by omega) (by omega) (by omega)
                  have h2 := HP.out.r (mid + m - 1 - h) (mid + m - 1 - x') (by omega) (by omega) (by omega)
                  exact hc.tot.trans _ _ _ (hc.tot.trans _ _ _ h1 hxa) h2
            · obtain rfl : st = r := by omega
              have d0' : decide ((st : Int) < (st : Int)) = false := decide_eq_false (by omega)
              have SA := Lib.hid hS.out
              have hcut := cut_of hc.tot HP.out.l HP.out.r (by omega) (by omega) hmid.out.symm hb6 hb7 ⟨hls, hrh⟩ hK.out.1 hK.out.2
              obtain ⟨en, hen⟩ : ∃ q, mid + m - st = q := ⟨_, rfl⟩
              rw [hen] at hcut
              have CUT := Lib.hid hcut
              have hc1 := hcut.b1
              have hc2 := hcut.b2
              have Hmid := Lib.hid (show mid = st + en - m by omega)
              have ze : IntKind.i64.wrap ((nn : Int) - (st : Int)) = (en : Int) := by have := Hnn.out; rw [IntWalk.i64_in _ (by omega)]; omega
              have hmm := hmid.out
              have hmb2 : a < mid ∧ mid < b := by omega
              have Ze := Lib.hid ze
              clear hS hK hlt hen ze hb6 hb7
              by_cases kA : a < st
              · by_cases kB : st < m
                · by_cases kC : m < en
                  · by_cases kD : en < b
                    · have hmd := Hmid.out
                      have hB1 : st < m := by omega
                      have tB1 : decide ((st : Int) < (m : Int)) = true := decide_eq_true (by omega)
                      have hC1 : m < en := by omega
                      have tC1 : decide ((m : Int) < (en : Int)) = true := decide_eq_true (by omega)
                      have hA1 : a < st := by omega
                      have tA1 : decide ((a : Int) < (st : Int)) = true := decide_eq_true (by omega)
                      have hC2 : st < mid := by omega
                      have tC2 : decide ((st : Int) < (mid : Int)) = true := decide_eq_true (by omega)
                      have hB2 : mid < en := by omega
                      have tB2 : decide ((mid : Int) < (en : Int)) = true := decide_eq_true (by omega)
                      have hD1 : en < b := by omega
                      have tD1 : decide ((en : Int) < (b : Int)) = true := decide_eq_true (by omega)
                      clear hcut hmm hmd
                      have HRo := Lib.hid (HRO.out st en d wr rfl SA.out)
                      have ze := Ze.out
                      go_wp2_with fail
                      clear ze
                      refine (HRo.out hB1 hC1 (by omega)).mono ?_
                      rintro e w2 ⟨rfl, d1, h1, h2⟩
                      have S1 := Lib.hid h1
                      have R1 := Lib.hid h2
                      clear h1 h2 HRo
                      go_wp2_with fail
                      have P1 := Lib.hid (CUT.out.pre1 HP.out Hmid.out R1.out)
                      have z1 : d1.size = d.size := R1.out.perm.1
                      refine (IH.out a st mid d1 _ z1 (by omega) hA1 hC2 (by omega) S1.out P1.out).mono ?_
                      rintro e w3 ⟨rfl, d2, h1, h2, h3⟩
                      have S2 := Lib.hid h1
                      have Q1 := Lib.hid h2
                      have A1 := Lib.hid h3
                      clear h1 h2 h3
                      go_wp2_with fail
                      have P2 := Lib.hid (CUT.out.pre2 HP.out Hmid.out R1.out Q1.out)
                      have z2 : d2.size = d.size := Q1.out.1.trans z1
                      refine (IH.out mid en b d2 _ z2 (by omega) hB2 hD1 (by omega) S2.out P2.out).mono ?_
                      rintro e w4 ⟨rfl, d3, h1, h2, h3⟩
                      have S3 := Lib.hid h1
                      have Q2 := Lib.hid h2
                      have A2 := Lib.hid h3
                      clear h1 h2 h3
                      go_wp2
                      go_end0
                      have hF := CUT.out.fin HP.out hb Hmid.out R1.out Q1.out A1.out Q2.out A2.out
                      exact ⟨rfl, d3, S3.out, hF.1, hF.2⟩
                    · have hmd := Hmid.out
                      have hB1 : st < m := by omega
                      have tB1 : decide ((st : Int) < (m : Int)) = true := decide_eq_true (by omega)
                      have hC1 : m < en := by omega
                      have tC1 : decide ((m : Int) < (en : Int)) = true := decide_eq_true (by omega)
                      have hA1 : a < st := by omega
                      have tA1 : decide ((a : Int) < (st : Int)) = true := decide_eq_true (by omega)
                      have hC2 : st < mid := by omega
                      have tC2 : decide ((st : Int) < (mid : Int)) = true := decide_eq_true (by omega)
                      have hB2 : mid < en := by omega
                      have tB2 : decide ((mid : Int) < (en : Int)) = true := decide_eq_true (by omega)
                      have hD1 : ¬ en < b := by omega
                      have tD1 : decide ((en : Int) < (b : Int)) = false := decide_eq_false (by omega)
                      clear hcut hmm hmd
                      have HRo := Lib.hid (HRO.out st en d wr rfl SA.out)
                      have ze := Ze.out
                      go_wp2_with fail
                      clear ze
                      refine (HRo.out hB1 hC1 (by omega)).mono ?_
                      rintro e w2 ⟨rfl, d1, h1, h2⟩
                      have S1 := Lib.hid h1
                      have R1 := Lib.hid h2
                      clear h1 h2 HRo
                      go_wp2_with fail
                      have P1 := Lib.hid (CUT.out.pre1 HP.out Hmid.out R1.out)
                      have z1 : d1.size = d.size := R1.out.perm.1
                      refine (IH.out a st mid d1 _ z1 (by omega) hA1 hC2 (by omega) S1.out P1.out).mono ?_
                      rintro e w3 ⟨rfl, d2, h1, h2, h3⟩
                      have S2 := Lib.hid h1
                      have Q1 := Lib.hid h2
                      have A1 := Lib.hid h3
                      clear h1 h2 h3
                      go_wp2_with fail
                      have P2 := Lib.hid (CUT.out.pre2 HP.out Hmid.out R1.out Q1.out)
                      have z2 : d2.size = d.size := Q1.out.1.trans z1
                      have A2 := Lib.hid (show Asc (ltR cf rk) mid b d2 from P2.out.l.le (Nat.le_refl _) (by omega))
                      go_end0
                      have hF := CUT.out.fin HP.out hb Hmid.out R1.out Q1.out A1.out (permIn_refl d2 mid b) A2.out
                      exact ⟨rfl, d2, S2.out, hF.1, hF.2⟩
                  · by_cases kD : en < b
                    · have hmd := Hmid.out
                      have hB1 : st < m := by omega
                      have tB1 : decide ((st : Int) < (m : Int)) = true := decide_eq_true (by omega)
                      have hC1 : ¬ m < en := by omega
                      have tC1 : decide ((m : Int) < (en : Int)) = false := decide_eq_false (by omega)
                      have hA1 : a < st := by omega
                      have tA1 : decide ((a : Int) < (st : Int)) = true := decide_eq_true (by omega)
                      have hC2 : ¬ st < mid := by omega
                      have tC2 : decide ((st : Int) < (mid : Int)) = false := decide_eq_false (by omega)
                      have hB2 : mid < en := by omega
                      have tB2 : decide ((mid : Int) < (en : Int)) = true := decide_eq_true (by omega)
                      have hD1 : en < b := by omega
                      have tD1 : decide ((en : Int) < (b : Int)) = true := decide_eq_true (by omega)
                      clear hcut hmm hmd
                      have R1 := Lib.hid (Rot.triv (a := st) (m := m) (b := en) d (by omega) (by omega) (by omega))
                      have S1 := Lib.hid SA.out
                      obtain ⟨d1, hd1⟩ : ∃ q, d = q := ⟨_, rfl⟩
                      have R1 := Lib.hid (show Rot st m en d d1 by rw [← hd1]; exact R1.out)
                      have S1 := Lib.hid (show SW enc w0 blk off d1 wr by rw [← hd1]; exact S1.out)
                      clear hd1
                      have ze := Ze.out
                      go_wp2_with fail
                      clear ze
                      have P1 := Lib.hid (CUT.out.pre1 HP.out Hmid.out R1.out)
                      have z1 : d1.size = d.size := R1.out.perm.1
                      have S2 := Lib.hid S1.out
                      have Q1 := Lib.hid (permIn_refl d1 a mid)
                      have A1 := Lib.hid (show Asc (ltR cf rk) a mid d1 from P1.out.l.le (Nat.le_refl _) (by omega))
                      obtain ⟨d2, hd2⟩ : ∃ q, d1 = q := ⟨_, rfl⟩
                      have S2 := Lib.hid (show SW enc w0 blk off d2 _ by rw [← hd2]; exact S2.out)
                      have Q1 := Lib.hid (show PermIn a mid d1 d2 by rw [← hd2]; exact Q1.out)
                      have A1 := Lib.hid (show Asc (ltR cf rk) a mid d2 by rw [← hd2]; exact A1.out)
                      clear hd2
                      have P2 := Lib.hid (CUT.out.pre2 HP.out Hmid.out R1.out Q1.out)
                      have z2 : d2.size = d.size := Q1.out.1.trans z1
                      refine (IH.out mid en b d2 _ z2 (by omega) hB2 hD1 (by omega) S2.out P2.out).mono ?_
                      rintro e w4 ⟨rfl, d3, h1, h2, h3⟩
                      have S3 := Lib.hid h1
                      have Q2 := Lib.hid h2
                      have A2 := Lib.hid h3
                      clear h1 h2 h3
                      go_wp2
                      go_end0
                      have hF := CUT.out.fin HP.out hb Hmid.out R1.out Q1.out A1.out Q2.out A2.out
                      exact ⟨rfl, d3, S3.out, hF.1, hF.2⟩
                    · have hmd := Hmid.out
                      have hB1 : st < m := by omega
                      have tB1 : decide ((st : Int) < (m : Int)) = true := decide_eq_true (by omega)
                      have hC1 : ¬ m < en := by omega
                      have tC1 : decide ((m : Int) < (en : Int)) = false := decide_eq_false (by omega)
                      have hA1 : a < st := by omega
                      have tA1 : decide ((a : Int) < (st : Int)) = true := decide_eq_true (by omega)
                      have hC2 : ¬ st < mid := by omega
                      have tC2 : decide ((st : Int) < (mid : Int)) = false := decide_eq_false (by omega)
                      have hB2 : mid < en := by omega
                      have tB2 : decide ((mid : Int) < (en : Int)) = true := decide_eq_true (by omega)
                      have hD1 : ¬ en < b := by omega
                      have tD1 : decide ((en : Int) < (b : Int)) = false := decide_eq_false (by omega)
                      clear hcut hmm hmd
                      have R1 := Lib.hid (Rot.triv (a := st) (m := m) (b := en) d (by omega) (by omega) (by omega))
                      have S1 := Lib.hid SA.out
                      obtain ⟨d1, hd1⟩ : ∃ q, d = q := ⟨_, rfl⟩
                      have R1 := Lib.hid (show Rot st m en d d1 by rw [← hd1]; exact R1.out)
                      have S1 := Lib.hid (show SW enc w0 blk off d1 wr by rw [← hd1]; exact S1.out)
                      clear hd1
                      have ze := Ze.out
                      go_wp2_with fail
                      clear ze
                      have P1 := Lib.hid (CUT.out.pre1 HP.out Hmid.out R1.out)
                      have z1 : d1.size = d.size := R1.out.perm.1
                      have S2 := Lib.hid S1.out
                      have Q1 := Lib.hid (permIn_refl d1 a mid)
                      have A1 := Lib.hid (show Asc (ltR cf rk) a mid d1 from P1.out.l.le (Nat.le_refl _) (by omega))
                      obtain ⟨d2, hd2⟩ : ∃ q, d1 = q := ⟨_, rfl⟩
                      have S2 := Lib.hid (show SW enc w0 blk off d2 _ by rw [← hd2]; exact S2.out)
                      have Q1 := Lib.hid (show PermIn a mid d1 d2 by rw [← hd2]; exact Q1.out)
                      have A1 := Lib.hid (show Asc (ltR cf rk) a mid d2 by rw [← hd2]; exact A1.out)
                      clear hd2
                      have P2 := Lib.hid (CUT.out.pre2 HP.out Hmid.out R1.out Q1.out)
                      have z2 : d2.size = d.size := Q1.out.1.trans z1
                      have A2 := Lib.hid (show Asc (ltR cf rk) mid b d2 from P2.out.l.le (Nat.le_refl _) (by omega))
                      go_end0
                      have hF := CUT.out.fin HP.out hb Hmid.out R1.out Q1.out A1.out (permIn_refl d2 mid b) A2.out
                      exact ⟨rfl, d2, S2.out, hF.1, hF.2⟩
                · by_cases kC : m < en
                  · by_cases kD : en < b
                    · have hmd := Hmid.out
                      have hB1 : ¬ st < m := by omega
                      have tB1 : decide ((st : Int) < (m : Int)) = false := decide_eq_false (by omega)
                      have hC1 : m < en := by omega
                      have tC1 : decide ((m : Int) < (en : Int)) = true := decide_eq_true (by omega)
                      have hA1 : a < st := by omega
                      have tA1 : decide ((a : Int) < (st : Int)) = true := decide_eq_true (by omega)
                      have hC2 : st < mid := by omega
                      have tC2 : decide ((st : Int) < (mid : Int)) = true := decide_eq_true (by omega)
                      have hB2 : ¬ mid < en := by omega
                      have tB2 : decide ((mid : Int) < (en : Int)) = false := decide_eq_false (by omega)
                      have hD1 : en < b := by omega
                      have tD1 : decide ((en : Int) < (b : Int)) = true := decide_eq_true (by omega)
                      clear hcut hmm hmd
                      have R1 := Lib.hid (Rot.triv (a := st) (m := m) (b := en) d (by omega) (by omega) (by omega))
                      have S1 := Lib.hid SA.out
                      obtain ⟨d1, hd1⟩ : ∃ q, d = q := ⟨_, rfl⟩
                      have R1 := Lib.hid (show Rot st m en d d1 by rw [← hd1]; exact R1.out)
                      have S1 := Lib.hid (show SW enc w0 blk off d1 wr by rw [← hd1]; exact S1.out)
                      clear hd1
                      have ze := Ze.out
                      go_wp2_with fail
                      clear ze
                      have P1 := Lib.hid (CUT.out.pre1 HP.out Hmid.out R1.out)
                      have z1 : d1.size = d.size := R1.out.perm.1
                      refine (IH.out a st mid d1 _ z1 (by omega) hA1 hC2 (by omega) S1.out P1.out).mono ?_
                      rintro e w3 ⟨rfl, d2, h1, h2, h3⟩
                      have S2 := Lib.hid h1
                      have Q1 := Lib.hid h2
                      have A1 := Lib.hid h3
                      clear h1 h2 h3
                      go_wp2_with fail
                      have P2 := Lib.hid (CUT.out.pre2 HP.out Hmid.out R1.out Q1.out)
                      have z2 : d2.size = d.size := Q1.out.1.trans z1
                      have A2 := Lib.hid (show Asc (ltR cf rk) mid b d2 from P2.out.r.le (by omega) (Nat.le_refl _))
                      go_end0
                      have hF := CUT.out.fin HP.out hb Hmid.out R1.out Q1.out A1.out (permIn_refl d2 mid b) A2.out
                      exact ⟨rfl, d2, S2.out, hF.1, hF.2⟩
                    · have hmd := Hmid.out
                      have hB1 : ¬ st < m := by omega
                      have tB1 : decide ((st : Int) < (m : Int)) = false := decide_eq_false (by omega)
                      have hC1 : m < en := by omega
                      have tC1 : decide ((m : Int) < (en : Int)) = true := decide_eq_true (by omega)
                      have hA1 : a < st := by omega
                      have tA1 : decide ((a : Int) < (st : Int)) = true := decide_eq_true (by omega)
                      have hC2 : st < mid := by omega
                      have tC2 : decide ((st : Int) < (mid : Int)) = true := decide_eq_true (by omega)
                      have hB2 : ¬ mid < en := by omega
                      have tB2 : decide ((mid : Int) < (en : Int)) = false := decide_eq_false (by omega)
                      have hD1 : ¬ en < b := by omega
                      have tD1 : decide ((en : Int) < (b : Int)) = false := decide_eq_false (by omega)
                      clear hcut hmm hmd
                      have R1 := Lib.hid (Rot.triv (a := st) (m := m) (b := en) d (by omega) (by omega) (by omega))
                      have S1 := Lib.hid SA.out
                      obtain ⟨d1, hd1⟩ : ∃ q, d = q := ⟨_, rfl⟩
                      have R1 := Lib.hid (show Rot st m en d d1 by rw [← hd1]; exact R1.out)
                      have S1 := Lib.hid (show SW enc w0 blk off d1 wr by rw [← hd1]; exact S1.out)
                      clear hd1
                      have ze := Ze.out
                      go_wp2_with fail
                      clear ze
                      have P1 := Lib.hid (CUT.out.pre1 HP.out Hmid.out R1.out)
                      have z1 : d1.size = d.size := R1.out.perm.1
                      refine (IH.out a st mid d1 _ z1 (by omega) hA1 hC2 (by omega) S1.out P1.out).mono ?_
                      rintro e w3 ⟨rfl, d2, h1, h2, h3⟩
                      have S2 := Lib.hid h1
                      have Q1 := Lib.hid h2
                      have A1 := Lib.hid h3
                      clear h1 h2 h3
                      go_wp2_with fail
                      have P2 := Lib.hid (CUT.out.pre2 HP.out Hmid.out R1.out Q1.out)
                      have z2 : d2.size = d.size := Q1.out.1.trans z1
                      have A2 := Lib.hid (show Asc (ltR cf rk) mid b d2 from P2.out.r.le (by omega) (Nat.le_refl _))
                      go_end0
                      have hF := CUT.out.fin HP.out hb Hmid.out R1.out Q1.out A1.out (permIn_refl d2 mid b) A2.out
                      exact ⟨rfl, d2, S2.out, hF.1, hF.2⟩
                  · by_cases kD : en < b
                    · have hmd := Hmid.out
                      have hB1 : ¬ st < m := by omega
                      have tB1 : decide ((st : Int) < (m : Int)) = false := decide_eq_false (by omega)
                      have hC1 : ¬ m < en := by omega
                      have tC1 : decide ((m : Int) < (en : Int)) = false := decide_eq_false (by omega)
                      have hA1 : a < st := by omega
                      have tA1 : decide ((a : Int) < (st : Int)) = true := decide_eq_true (by omega)
                      have hC2 : ¬ st < mid := by omega
                      have tC2 : decide ((st : Int) < (mid : Int)) = false := decide_eq_false (by omega)
                      have hB2 : ¬ mid < en := by omega
                      have tB2 : decide ((mid : Int) < (en : Int)) = false := decide_eq_false (by omega)
                      have hD1 : en < b := by omega
                      have tD1 : decide ((en : Int) < (b : Int)) = true := decide_eq_true (by omega)
                      clear hcut hmm hmd
                      have R1 := Lib.hid (Rot.triv (a := st) (m := m) (b := en) d (by omega) (by omega) (by omega))
                      have S1 := Lib.hid SA.out
                      obtain ⟨d1, hd1⟩ : ∃ q, d = q := ⟨_, rfl⟩
                      have R1 := Lib.hid (show Rot st m en d d1 by rw [← hd1]; exact R1.out)
                      have S1 := Lib.hid (show SW enc w0 blk off d1 wr by rw [← hd1]; exact S1.out)
                      clear hd1
                      have ze := Ze.out
                      go_wp2_with fail
                      clear ze
                      have P1 := Lib.hid (CUT.out.pre1 HP.out Hmid.out R1.out)
                      have z1 : d1.size = d.size := R1.out.perm.1
                      have S2 := Lib.hid S1.out
                      have Q1 := Lib.hid (permIn_refl d1 a mid)
                      have A1 := Lib.hid (show Asc (ltR cf rk) a mid d1 from P1.out.l.le (Nat.le_refl _) (by omega))
                      obtain ⟨d2, hd2⟩ : ∃ q, d1 = q := ⟨_, rfl⟩
                      have S2 := Lib.hid (show SW enc w0 blk off d2 _ by rw [← hd2]; exact S2.out)
                      have Q1 := Lib.hid (show PermIn a mid d1 d2 by rw [← hd2]; exact Q1.out)
                      have A1 := Lib.hid (show Asc (ltR cf rk) a mid d2 by rw [← hd2]; exact A1.out)
                      clear hd2
                      have P2 := Lib.hid (CUT.out.pre2 HP.out Hmid.out R1.out Q1.out)
                      have z2 : d2.size = d.size := Q1.out.1.trans z1
                      have A2 := Lib.hid (show Asc (ltR cf rk) mid b d2 from P2.out.r.le (by omega) (Nat.le_refl _))
                      go_end0
                      have hF := CUT.out.fin HP.out hb Hmid.out R1.out Q1.out A1.out (permIn_refl d2 mid b) A2.out
                      exact ⟨rfl, d2, S2.out, hF.1, hF.2⟩
                    · have hmd := Hmid.out
                      have hB1 : ¬ st < m := by omega
                      have tB1 : decide ((st : Int) < (m : Int)) = false := decide_eq_false (by omega)
                      have hC1 : ¬ m < en := by omega
                      have tC1 : decide ((m : Int) < (en : Int)) = false := decide_eq_false (by omega)
                      have hA1 : a < st := by omega
                      have tA1 : decide ((a : Int) < (st : Int)) = true := decide_eq_true (by omega)
                      have hC2 : ¬ st < mid := by omega
                      have tC2 : decide ((st : Int) < (mid : Int)) = false := decide_eq_false (by omega)
                      have hB2 : ¬ mid < en := by omega
                      have tB2 : decide ((mid : Int) < (en : Int)) = false := decide_eq_false (by omega)
                      have hD1 : ¬ en < b := by omega
                      have tD1 : decide ((en : Int) < (b : Int)) = false := decide_eq_false (by omega)
                      clear hcut hmm hmd
                      have R1 := Lib.hid (Rot.triv (a := st) (m := m) (b := en) d (by omega) (by omega) (by omega))
                      have S1 := Lib.hid SA.out
                      obtain ⟨d1, hd1⟩ : ∃ q, d = q := ⟨_, rfl⟩
                      have R1 := Lib.hid (show Rot st m en d d1 by rw [← hd1]; exact R1.out)
                      have S1 := Lib.hid (show SW enc w0 blk off d1 wr by rw [← hd1]; exact S1.out)
                      clear hd1
                      have ze := Ze.out
                      go_wp2_with fail
                      clear ze
                      have P1 := Lib.hid (CUT.out.pre1 HP.out Hmid.out R1.out)
                      have z1 : d1.size = d.size := R1.out.perm.1
                      have S2 := Lib.hid S1.out
                      have Q1 := Lib.hid (permIn_refl d1 a mid)
                      have A1 := Lib.hid (show Asc (ltR cf rk) a mid d1 from P1.out.l.le (Nat.le_refl _) (by omega))
                      obtain ⟨d2, hd2⟩ : ∃ q, d1 = q := ⟨_, rfl⟩
                      have S2 := Lib.hid (show SW enc w0 blk off d2 _ by rw [← hd2]; exact S2.out)
                      have Q1 := Lib.hid (show PermIn a mid d1 d2 by rw [← hd2]; exact Q1.out)
                      have A1 := Lib.hid (show Asc (ltR cf rk) a mid d2 by rw [← hd2]; exact A1.out)
                      clear hd2
                      have P2 := Lib.hid (CUT.out.pre2 HP.out Hmid.out R1.out Q1.out)
                      have z2 : d2.size = d.size := Q1.out.1.trans z1
                      have A2 := Lib.hid (show Asc (ltR cf rk) mid b d2 from P2.out.r.le (by omega) (Nat.le_refl _))
                      go_end0
                      have hF := CUT.out.fin HP.out hb Hmid.out R1.out Q1.out A1.out (permIn_refl d2 mid b) A2.out
                      exact ⟨rfl, d2, S2.out, hF.1, hF.2⟩
              · by_cases kB : st < m
                · by_cases kC : m < en
                  · by_cases kD : en < b
                    · have hmd := Hmid.out
                      have hB1 : st < m := by omega
                      have tB1 : decide ((st : Int) < (m : Int)) = true := decide_eq_true (by omega)
                      have hC1 : m < en := by omega
                      have tC1 : decide ((m : Int) < (en : Int)) = true := decide_eq_true (by omega)
                      have hA1 : ¬ a < st := by omega
                      have tA1 : decide ((a : Int) < (st : Int)) = false := decide_eq_false (by omega)
                      have hC2 : st < mid := by omega
                      have tC2 : decide ((st : Int) < (mid : Int)) = true := decide_eq_true (by omega)
                      have hB2 : mid < en := by omega
                      have tB2 : decide ((mid : Int) < (en : Int)) = true := decide_eq_true (by omega)
                      have hD1 : en < b := by omega
                      have tD1 : decide ((en : Int) < (b : Int)) = true := decide_eq_true (by omega)
                      clear hcut hmm hmd
                      have HRo := Lib.hid (HRO.out st en d wr rfl SA.out)
                      have ze := Ze.out
                      go_wp2_with fail
                      clear ze
                      refine (HRo.out hB1 hC1 (by omega)).mono ?_
                      rintro e w2 ⟨rfl, d1, h1, h2⟩
                      have S1 := Lib.hid h1
                      have R1 := Lib.hid h2
                      clear h1 h2 HRo
                      go_wp2_with fail
                      have P1 := Lib.hid (CUT.out.pre1 HP.out Hmid.out R1.out)
                      have z1 : d1.size = d.size := R1.out.perm.1
                      have S2 := Lib.hid S1.out
                      have Q1 := Lib.hid (permIn_refl d1 a mid)
                      have A1 := Lib.hid (show Asc (ltR cf rk) a mid d1 from P1.out.r.le (by omega) (Nat.le_refl _))
                      obtain ⟨d2, hd2⟩ : ∃ q, d1 = q := ⟨_, rfl⟩
                      have S2 := Lib.hid (show SW enc w0 blk off d2 _ by rw [← hd2]; exact S2.out)
                      have Q1 := Lib.hid (show PermIn a mid d1 d2 by rw [← hd2]; exact Q1.out)
                      have A1 := Lib.hid (show Asc (ltR cf rk) a mid d2 by rw [← hd2]; exact A1.out)
                      clear hd2
                      have P2 := Lib.hid (CUT.out.pre2 HP.out Hmid.out R1.out Q1.out)
                      have z2 : d2.size = d.size := Q1.out.1.trans z1
                      refine (IH.out mid en b d2 _ z2 (by omega) hB2 hD1 (by omega) S2.out P2.out).mono ?_
                      rintro e w4 ⟨rfl, d3, h1, h2, h3⟩
                      have S3 := Lib.hid h1
                      have Q2 := Lib.hid h2
                      have A2 := Lib.hid h3
                      clear h1 h2 h3
                      go_wp2
                      go_end0
                      have hF := CUT.out.fin HP.out hb Hmid.out R1.out Q1.out A1.out Q2.out A2.out
                      exact ⟨rfl, d3, S3.out, hF.1, hF.2⟩
                    · have hmd := Hmid.out
                      have hB1 : st < m := by omega
                      have tB1 : decide ((st : Int) < (m : Int)) = true := decide_eq_true (by omega)
                      have hC1 : m < en := by omega
                      have tC1 : decide ((m : Int) < (en : Int)) = true := decide_eq_true (by omega)
                      have hA1 : ¬ a < st := by omega
                      have tA1 : decide ((a : Int) < (st : Int)) = false := decide_eq_false (by omega)
                      have hC2 : st < mid := by omega
                      have tC2 : decide ((st : Int) < (mid : Int)) = true := decide_eq_true (by omega)
                      have hB2 : mid < en := by omega
                      have tB2 : decide ((mid : Int) < (en : Int)) = true := decide_eq_true (by omega)
                      have hD1 : ¬ en < b := by omega
                      have tD1 : decide ((en : Int) < (b : Int)) = false := decide_eq_false (by omega)
                      clear hcut hmm hmd
                      have HRo := Lib.hid (HRO.out st en d wr rfl SA.out)
                      have ze := Ze.out
                      go_wp2_with fail
                      clear ze
                      refine (HRo.out hB1 hC1 (by omega)).mono ?_
                      rintro e w2 ⟨rfl, d1, h1, h2⟩
                      have S1 := Lib.hid h1
                      have R1 := Lib.hid h2
                      clear h1 h2 HRo
                      go_wp2_with fail
                      have P1 := Lib.hid (CUT.out.pre1 HP.out Hmid.out R1.out)
                      have z1 : d1.size = d.size := R1.out.perm.1
                      have S2 := Lib.hid S1.out
                      have Q1 := Lib.hid (permIn_refl d1 a mid)
                      have A1 := Lib.hid (show Asc (ltR cf rk) a mid d1 from P1.out.r.le (by omega) (Nat.le_refl _))
                      obtain ⟨d2, hd2⟩ : ∃ q, d1 = q := ⟨_, rfl⟩
                      have S2 := Lib.hid (show SW enc w0 blk off d2 _ by rw [← hd2]; exact S2.out)
                      have Q1 := Lib.hid (show PermIn a mid d1 d2 by rw [← hd2]; exact Q1.out)
                      have A1 := Lib.hid (show Asc (ltR cf rk) a mid d2 by rw [← hd2]; exact A1.out)
                      clear hd2
                      have P2 := Lib.hid (CUT.out.pre2 HP.out Hmid.out R1.out Q1.out)
                      have z2 : d2.size = d.size := Q1.out.1.trans z1
                      have A2 := Lib.hid (show Asc (ltR cf rk) mid b d2 from P2.out.l.le (Nat.le_refl _) (by omega))
                      go_end0
                      have hF := CUT.out.fin HP.out hb Hmid.out R1.out Q1.out A1.out (permIn_refl d2 mid b) A2.out
                      exact ⟨rfl, d2, S2.out, hF.1, hF.2⟩
                  · by_cases kD : en < b
                    · have hmd := Hmid.out
                      have hB1 : st < m := by omega
                      have tB1 : decide ((st : Int) < (m : Int)) = true := decide_eq_true (by omega)
                      have hC1 : ¬ m < en := by omega
                      have tC1 : decide ((m : Int) < (en : Int)) = false := decide_eq_false (by omega)
                      have hA1 : ¬ a < st := by omega
                      have tA1 : decide ((a : Int) < (st : Int)) = false := decide_eq_false (by omega)
                      have hC2 : ¬ st < mid := by omega
                      have tC2 : decide ((st : Int) < (mid : Int)) = false := decide_eq_false (by omega)
                      have hB2 : mid < en := by omega
                      have tB2 : decide ((mid : Int) < (en : Int)) = true := decide_eq_true (by omega)
                      have hD1 : en < b := by omega
                      have tD1 : decide ((en : Int) < (b : Int)) = true := decide_eq_true (by omega)
                      clear hcut hmm hmd
                      have R1 := Lib.hid (Rot.triv (a := st) (m := m) (b := en) d (by omega) (by omega) (by omega))
                      have S1 := Lib.hid SA.out
                      obtain ⟨d1, hd1⟩ : ∃ q, d = q := ⟨_, rfl⟩
                      have R1 := Lib.hid (show Rot st m en d d1 by rw [← hd1]; exact R1.out)
                      have S1 := Lib.hid (show SW enc w0 blk off d1 wr by rw [← hd1]; exact S1.out)
                      clear hd1
                      have ze := Ze.out
                      go_wp2_with fail
                      clear ze
                      have P1 := Lib.hid (CUT.out.pre1 HP.out Hmid.out R1.out)
                      have z1 : d1.size = d.size := R1.out.perm.1
                      have S2 := Lib.hid S1.out
                      have Q1 := Lib.hid (permIn_refl d1 a mid)
                      have A1 := Lib.hid (show Asc (ltR cf rk) a mid d1 from P1.out.l.le (Nat.le_refl _) (by omega))
                      obtain ⟨d2, hd2⟩ : ∃ q, d1 = q := ⟨_, rfl⟩
                      have S2 := Lib.hid (show SW enc w0 blk off d2 _ by rw [← hd2]; exact S2.out)
                      have Q1 := Lib.hid (show PermIn a mid d1 d2 by rw [← hd2]; exact Q1.out)
                      have A1 := Lib.hid (show Asc (ltR cf rk) a mid d2 by rw [← hd2]; exact A1.out)
                      clear hd2
                      have P2 := Lib.hid (CUT.out.pre2 HP.out Hmid.out R1.out Q1.out)
                      have z2 : d2.size = d.size := Q1.out.1.trans z1
                      refine (IH.out mid en b d2 _ z2 (by omega) hB2 hD1 (by omega) S2.out P2.out).mono ?_
                      rintro e w4 ⟨rfl, d3, h1, h2, h3⟩
                      have S3 := Lib.hid h1
                      have Q2 := Lib.hid h2
                      have A2 := Lib.hid h3
                      clear h1 h2 h3
                      go_wp2
                      go_end0
                      have hF := CUT.out.fin HP.out hb Hmid.out R1.out Q1.out A1.out Q2.out A2.out
                      exact ⟨rfl, d3, S3.out, hF.1, hF.2⟩
                    · have hmd := Hmid.out
                      have hB1 : st < m := by omega
                      have tB1 : decide ((st : Int) < (m : Int)) = true := decide_eq_true (by omega)
                      have hC1 : ¬ m < en := by omega
                      have tC1 : decide ((m : Int) < (en : Int)) = false := decide_eq_false (by omega)
                      have hA1 : ¬ a < st := by omega
                      have tA1 : decide ((a : Int) < (st : Int)) = false := decide_eq_false (by omega)
                      have hC2 : ¬ st < mid := by omega
                      have tC2 : decide ((st : Int) < (mid : Int)) = false := decide_eq_false (by omega)
                      have hB2 : mid < en := by omega
                      have tB2 : decide ((mid : Int) < (en : Int)) = true := decide_eq_true (by omega)
                      have hD1 : ¬ en < b := by omega
                      have tD1 : decide ((en : Int) < (b : Int)) = false := decide_eq_false (by omega)
                      clear hcut hmm hmd
                      have R1 := Lib.hid (Rot.triv (a := st) (m := m) (b := en) d (by omega) (by omega) (by omega))
                      have S1 := Lib.hid SA.out
                      obtain ⟨d1, hd1⟩ : ∃ q, d = q := ⟨_, rfl⟩
                      have R1 := Lib.hid (show Rot st m en d d1 by rw [← hd1]; exact R1.out)
                      have S1 := Lib.hid (show SW enc w0 blk off d1 wr by rw [← hd1]; exact S1.out)
                      clear hd1
                      have ze := Ze.out
                      go_wp2_with fail
                      clear ze
                      have P1 := Lib.hid (CUT.out.pre1 HP.out Hmid.out R1.out)
                      have z1 : d1.size = d.size := R1.out.perm.1
                      have S2 := Lib.hid S1.out
                      have Q1 := Lib.hid (permIn_refl d1 a mid)
                      have A1 := Lib.hid (show Asc (ltR cf rk) a mid d1 from P1.out.l.le (Nat.le_refl _) (by omega))
                      obtain ⟨d2, hd2⟩ : ∃ q, d1 = q := ⟨_, rfl⟩
                      have S2 := Lib.hid (show SW enc w0 blk off d2 _ by rw [← hd2]; exact S2.out)
                      have Q1 := Lib.hid (show PermIn a mid d1 d2 by rw [← hd2]; exact Q1.out)
                      have A1 := Lib.hid (show Asc (ltR cf rk) a mid d2 by rw [← hd2]; exact A1.out)
                      clear hd2
                      have P2 := Lib.hid (CUT.out.pre2 HP.out Hmid.out R1.out Q1.out)
                      have z2 : d2.size = d.size := Q1.out.1.trans z1
                      have A2 := Lib.hid (show Asc (ltR cf rk) mid b d2 from P2.out.l.le (Nat.le_refl _) (by omega))
                      go_end0
                      have hF := CUT.out.fin HP.out hb Hmid.out R1.out Q1.out A1.out (permIn_refl d2 mid b) A2.out
                      exact ⟨rfl, d2, S2.out, hF.1, hF.2⟩
                · by_cases kC : m < en
                  · by_cases kD : en < b
                    · have hmd := Hmid.out
                      have hB1 : ¬ st < m := by omega
                      have tB1 : decide ((st : Int) < (m : Int)) = false := decide_eq_false (by omega)
                      have hC1 : m < en := by omega
                      have tC1 : decide ((m : Int) < (en : Int)) = true := decide_eq_true (by omega)
                      have hA1 : ¬ a < st := by omega
                      have tA1 : decide ((a : Int) < (st : Int)) = false := decide_eq_false (by omega)
                      have hC2 : st < mid := by omega
                      have tC2 : decide ((st : Int) < (mid : Int)) = true := decide_eq_true (by omega)
                      have hB2 : ¬ mid < en := by omega
                      have tB2 : decide ((mid : Int) < (en : Int)) = false := decide_eq_false (by omega)
                      have hD1 : en < b := by omega
                      have tD1 : decide ((en : Int) < (b : Int)) = true := decide_eq_true (by omega)
                      clear hcut hmm hmd
                      have R1 := Lib.hid (Rot.triv (a := st) (m := m) (b := en) d (by omega) (by omega) (by omega))
                      have S1 := Lib.hid SA.out
                      obtain ⟨d1, hd1⟩ : ∃ q, d = q := ⟨_, rfl⟩
                      have R1 := Lib.hid (show Rot st m en d d1 by rw [← hd1]; exact R1.out)
                      have S1 := Lib.hid (show SW enc w0 blk off d1 wr by rw [← hd1]; exact S1.out)
                      clear hd1
                      have ze := Ze.out
                      go_wp2_with fail
                      clear ze
                      have P1 := Lib.hid (CUT.out.pre1 HP.out Hmid.out R1.out)
                      have z1 : d1.size = d.size := R1.out.perm.1
                      have S2 := Lib.hid S1.out
                      have Q1 := Lib.hid (permIn_refl d1 a mid)
                      have A1 := Lib.hid (show Asc (ltR cf rk) a mid d1 from P1.out.r.le (by omega) (Nat.le_refl _))
                      obtain ⟨d2, hd2⟩ : ∃ q, d1 = q := ⟨_, rfl⟩
                      have S2 := Lib.hid (show SW enc w0 blk off d2 _ by rw [← hd2]; exact S2.out)
                      have Q1 := Lib.hid (show PermIn a mid d1 d2 by rw [← hd2]; exact Q1.out)
                      have A1 := Lib.hid (show Asc (ltR cf rk) a mid d2 by rw [← hd2]; exact A1.out)
                      clear hd2
                      have P2 := Lib.hid (CUT.out.pre2 HP.out Hmid.out R1.out Q1.out)
                      have z2 : d2.size = d.size := Q1.out.1.trans z1
                      have A2 := Lib.hid (show Asc (ltR cf rk) mid b d2 from P2.out.r.le (by omega) (Nat.le_refl _))
                      go_end0
                      have hF := CUT.out.fin HP.out hb Hmid.out R1.out Q1.out A1.out (permIn_refl d2 mid b) A2.out
                      exact ⟨rfl, d2, S2.out, hF.1, hF.2⟩
                    · have hmd := Hmid.out
                      have hB1 : ¬ st < m := by omega
                      have tB1 : decide ((st : Int) < (m : Int)) = false := decide_eq_false (by omega)
                      have hC1 : m < en := by omega
                      have tC1 : decide ((m : Int) < (en : Int)) = true := decide_eq_true (by omega)
                      have hA1 : ¬ a < st := by omega
                      have tA1 : decide ((a : Int) < (st : Int)) = false := decide_eq_false (by omega)
                      have hC2 : st < mid := by omega
                      have tC2 : decide ((st : Int) < (mid : Int)) = true := decide_eq_true (by omega)
                      have hB2 : ¬ mid < en := by omega
                      have tB2 : decide ((mid : Int) < (en : Int)) = false := decide_eq_false (by omega)
                      have hD1 : ¬ en < b := by omega
                      have tD1 : decide ((en : Int) < (b : Int)) = false := decide_eq_false (by omega)
                      clear hcut hmm hmd
                      have R1 := Lib.hid (Rot.triv (a := st) (m := m) (b := en) d (by omega) (by omega) (by omega))
                      have S1 := Lib.hid SA.out
                      obtain ⟨d1, hd1⟩ : ∃ q, d = q := ⟨_, rfl⟩
                      have R1 := Lib.hid (show Rot st m en d d1 by rw [← hd1]; exact R1.out)
                      have S1 := Lib.hid (show SW enc w0 blk off d1 wr by rw [← hd1]; exact S1.out)
                      clear hd1
                      have ze := Ze.out
                      go_wp2_with fail
                      clear ze
                      have P1 := Lib.hid (CUT.out.pre1 HP.out Hmid.out R1.out)
                      have z1 : d1.size = d.size := R1.out.perm.1
                      have S2 := Lib.hid S1.out
                      have Q1 := Lib.hid (permIn_refl d1 a mid)
                      have A1 := Lib.hid (show Asc (ltR cf rk) a mid d1 from P1.out.r.le (by omega) (Nat.le_refl _))
                      obtain ⟨d2, hd2⟩ : ∃ q, d1 = q := ⟨_, rfl⟩
                      have S2 := Lib.hid (show SW enc w0 blk off d2 _ by rw [← hd2]; exact S2.out)
                      have Q1 := Lib.hid (show PermIn a mid d1 d2 by rw [← hd2]; exact Q1.out)
                      have A1 := Lib.hid (show Asc (ltR cf rk) a mid d2 by rw [← hd2]; exact A1.out)
                      clear hd2
                      have P2 := Lib.hid (CUT.out.pre2 HP.out Hmid.out R1.out Q1.out)
                      have z2 : d2.size = d.size := Q1.out.1.trans z1
                      have A2 := Lib.hid (show Asc (ltR cf rk) mid b d2 from P2.out.r.le (by omega) (Nat.le_refl _))
                      go_end0
                      have hF := CUT.out.fin HP.out hb Hmid.out R1.out Q1.out A1.out (permIn_refl d2 mid b) A2.out
                      exact ⟨rfl, d2, S2.out, hF.1, hF.2⟩
                  · by_cases kD : en < b
                    · have hmd := Hmid.out
                      have hB1 : ¬ st < m := by omega
                      have tB1 : decide ((st : Int) < (m : Int)) = false := decide_eq_false (by omega)
                      have hC1 : ¬ m < en := by omega
                      have tC1 : decide ((m : Int) < (en : Int)) = false := decide_eq_false (by omega)
                      have hA1 : ¬ a < st := by omega
                      have tA1 : decide ((a : Int) < (st : Int)) = false := decide_eq_false (by omega)
                      have hC2 : ¬ st < mid := by omega
                      have tC2 : decide ((st : Int) < (mid : Int)) = false := decide_eq_false (by omega)
                      have hB2 : ¬ mid < en := by omega
                      have tB2 : decide ((mid : Int) < (en : Int)) = false := decide_eq_false (by omega)
                      have hD1 : en < b := by omega
                      have tD1 : decide ((en : Int) < (b : Int)) = true := decide_eq_true (by omega)
                      clear hcut hmm hmd
                      have R1 := Lib.hid (Rot.triv (a := st) (m := m) (b := en) d (by omega) (by omega) (by omega))
                      have S1 := Lib.hid SA.out
                      obtain ⟨d1, hd1⟩ : ∃ q, d = q := ⟨_, rfl⟩
                      have R1 := Lib.hid (show Rot st m en d d1 by rw [← hd1]; exact R1.out)
                      have S1 := Lib.hid (show SW enc w0 blk off d1 wr by rw [← hd1]; exact S1.out)
                      clear hd1
                      have ze := Ze.out
                      go_wp2_with fail
                      clear ze
                      have P1 := Lib.hid (CUT.out.pre1 HP.out Hmid.out R1.out)
                      have z1 : d1.size = d.size := R1.out.perm.1
                      have S2 := Lib.hid S1.out
                      have Q1 := Lib.hid (permIn_refl d1 a mid)
                      have A1 := Lib.hid (show Asc (ltR cf rk) a mid d1 from P1.out.l.le (Nat.le_refl _) (by omega))
                      obtain ⟨d2, hd2⟩ : ∃ q, d1 = q := ⟨_, rfl⟩
                      have S2 := Lib.hid (show SW enc w0 blk off d2 _ by rw [← hd2]; exact S2.out)
                      have Q1 := Lib.hid (show PermIn a mid d1 d2 by rw [← hd2]; exact Q1.out)
                      have A1 := Lib.hid (show Asc (ltR cf rk) a mid d2 by rw [← hd2]; exact A1.out)
                      clear hd2
                      have P2 := Lib.hid (CUT.out.pre2 HP.out Hmid.out R1.out Q1.out)
                      have z2 : d2.size = d.size := Q1.out.1.trans z1
                      have A2 := Lib.hid (show Asc (ltR cf rk) mid b d2 from P2.out.r.le (by omega) (Nat.le_refl _))
                      go_end0
                      have hF := CUT.out.fin HP.out hb Hmid.out R1.out Q1.out A1.out (permIn_refl d2 mid b) A2.out
                      exact ⟨rfl, d2, S2.out, hF.1, hF.2⟩
                    · have hmd := Hmid.out
                      have hB1 : ¬ st < m := by omega
                      have tB1 : decide ((st : Int) < (m : Int)) = false := decide_eq_false (by omega)
                      have hC1 : ¬ m < en := by omega
                      have tC1 : decide ((m : Int) < (en : Int)) = false := decide_eq_false (by omega)
                      have hA1 : ¬ a < st := by omega
                      have tA1 : decide ((a : Int) < (st : Int)) = false := decide_eq_false (by omega)
                      have hC2 : ¬ st < mid := by omega
                      have tC2 : decide ((st : Int) < (mid : Int)) = false := decide_eq_false (by omega)
                      have hB2 : ¬ mid < en := by omega
                      have tB2 : decide ((mid : Int) < (en : Int)) = false := decide_eq_false (by omega)
                      have hD1 : ¬ en < b := by omega
                      have tD1 : decide ((en : Int) < (b : Int)) = false := decide_eq_false (by omega)
                      clear hcut hmm hmd
                      have R1 := Lib.hid (Rot.triv (a := st) (m := m) (b := en) d (by omega) (by omega) (by omega))
                      have S1 := Lib.hid SA.out
                      obtain ⟨d1, hd1⟩ : ∃ q, d = q := ⟨_, rfl⟩
                      have R1 := Lib.hid (show Rot st m en d d1 by rw [← hd1]; exact R1.out)
                      have S1 := Lib.hid (show SW enc w0 blk off d1 wr by rw [← hd1]; exact S1.out)
                      clear hd1
                      have ze := Ze.out
                      go_wp2_with fail
                      clear ze
                      have P1 := Lib.hid (CUT.out.pre1 HP.out Hmid.out R1.out)
                      have z1 : d1.size = d.size := R1.out.perm.1
                      have S2 := Lib.hid S1.out
                      have Q1 := Lib.hid (permIn_refl d1 a mid)
                      have A1 := Lib.hid (show Asc (ltR cf rk) a mid d1 from P1.out.l.le (Nat.le_refl _) (by omega))
                      obtain ⟨d2, hd2⟩ : ∃ q, d1 = q := ⟨_, rfl⟩
                      have S2 := Lib.hid (show SW enc w0 blk off d2 _ by rw [← hd2]; exact S2.out)
                      have Q1 := Lib.hid (show PermIn a mid d1 d2 by rw [← hd2]; exact Q1.out)
                      have A1 := Lib.hid (show Asc (ltR cf rk) a mid d2 by rw [← hd2]; exact A1.out)
                      clear hd2
                      have P2 := Lib.hid (CUT.out.pre2 HP.out Hmid.out R1.out Q1.out)
                      have z2 : d2.size = d.size := Q1.out.1.trans z1
                      have A2 := Lib.hid (show Asc (ltR cf rk) mid b d2 from P2.out.r.le (by omega) (Nat.le_refl _))
                      go_end0
                      have hF := CUT.out.fin HP.out hb Hmid.out R1.out Q1.out A1.out (permIn_refl d2 mid b) A2.out
                      exact ⟨rfl, d2, S2.out, hF.1, hF.2⟩
        · have dg : decide ((mid : Int) < (m : Int)) = false := decide_eq_false (by omega)
          have Hlh := Lib.hid (show a ≤ a ∧ m ≤ m ∧ a ≤ m ∧ mid + m - a ≤ b ∧ m ≤ mid ∧ a = (if mid < m then mid + m - b else a) ∧ m = (if mid < m then mid else m) from ⟨by omega, by omega, by omega, by omega, by omega, by rw [if_neg hgt], by rw [if_neg hgt]⟩)
          rw [hs0] at e1 e2 e3
          clear S hcmp hp hma hbm ih hs0 hnn hpp hm
          go_enter Tryz.func118, Tryz.ntmps118
          go_wp2_with fail
          clear zma zbm dma dbm e1 e2 e3 e4 en0 ep dg
          go_loopw [20, 21] (fun c e wr => ∃ (st r : Nat), c = .int .i64 st ∧ e = .int .i64 r ∧ a ≤ st ∧ st ≤ r ∧ r ≤ m ∧ Hid (SW enc w0 blk off d wr) ∧ Hid ((∀ x, a ≤ x → x < st → ltR cf rk d[x]! d[mid + m - 1 - x]! = true) ∧ ∀ x, r ≤ x → x < m → ltR cf rk d[mid + m - 1 - x]! d[x]! = true)) (fun c e _ => (Go.RowKit.intOf e - Go.RowKit.intOf c).toNat)
          case atStart => exact ⟨a, m, rfl, rfl, Nat.le_refl _, Hlh.out.2.2.1, Nat.le_refl _, S0.out, ⟨fun x h1 h2 => by omega, fun x h1 h2 => by omega⟩⟩
          case round =>
            obtain ⟨st, r, rfl, rfl, hls, hsr, hrh, hS, hK⟩ := hrel
            obtain ⟨hb1, hb2, hb3, hb4, hb5, hb6, hb7⟩ := Hlh.out
            by_cases hlt : st < r
            · have d0' : decide ((st : Int) < (r : Int)) = true := decide_eq_true (by omega)
              obtain ⟨h, hh⟩ : ∃ h, (st + r) / 2 = h := ⟨_, rfl⟩
              have hhb : st ≤ h ∧ h < r := by omega
              have e1 : IntKind.i64.wrap ((st : Int) + (r : Int)) = ((st + r : Nat) : Int) := by rw [IntWalk.i64_in _ (by omega)]; push_cast; rfl
              have e2 : IntKind.u64.wrap ((st + r : Nat) : Int) = ((st + r : Nat) : Int) := by rw [IntKind.wrap_u64]; omega
              have e3 : ((st + r : Nat) : Int) / 2 = (h : Int) := by omega
              have e4 : IntKind.i64.wrap (h : Int) = (h : Int) := IntWalk.i64_in _ (by omega)
              have e5 : IntKind.i64.wrap ((h : Int) + 1) = (h : Int) + 1 := IntWalk.i64_in _ (by omega)
              obtain ⟨s, hs'⟩ : ∃ s, st + r = s := ⟨_, rfl⟩
              rw [hs'] at e1 e2 e3
              obtain ⟨q, hq⟩ : ∃ q, mid + m - 1 - h = q := ⟨_, rfl⟩
              have hqb : m ≤ q ∧ q < b := by omega
              have e6 : IntKind.i64.wrap ((p : Int) - (h : Int)) = (q : Int) := by have := Hp.out; rw [IntWalk.i64_in _ (by omega)]; omega
              have pa : (0 : Int) ≤ (q : Int) := by omega
              have ba : (q : Int) < (d.size : Int) := by omega
              have pc : (0 : Int) ≤ (h : Int) := by omega
              have bc : (h : Int) < (d.size : Int) := by omega
              obtain ⟨x, hx⟩ : ∃ x, x = d[q]! := ⟨_, rfl⟩
              obtain ⟨y, hy⟩ : ∃ x, x = d[h]! := ⟨_, rfl⟩
              have l1 := hS.out.cl R (by omega) q (by omega)
              have l2 := hS.out.cl R (by omega) h (by omega)
              rw [← hx] at l1
              rw [← hy] at l2
              have hcc := hS.out.cmp HC.out (by omega) x y
              have hrk : rk y < rk x := by rw [hx, hy]; exact HP.out.x h q (by omega) (by omega) (by omega) (by omega)
              have Hrk := Lib.hid hrk
              have Hx := Lib.hid hx
              have Hy := Lib.hid hy
              have Hq := Lib.hid hq
              have Hhb := Lib.hid hhb
              have Hb := Lib.hid (show a ≤ a ∧ m ≤ m ∧ mid + m - a ≤ b ∧ m ≤ mid from ⟨hb1, hb2, hb4, hb5⟩)
              clear hrk hx hy hhb hs' hh hq hqb hb1 hb2 hb3 hb4 hb5 hb6 hb7
              by_cases hv : cf x y < 0
              · have hd : decide (cf x y < 0) = true := decide_eq_true hv
                have HV := Lib.hid (cmp_lt Hrk.out hv)
                go_wp2_with fail
                go_quiet_grown (first | (go_at_fn g; refine Calls.grown_of (hcc _ _)))
                have S2 := Lib.hid (hS.out.grown nq osq)
                clear l1 l2 hcc hS
                generalize grow (wr.drewN nq) osq = w2 at S2 ⊢
                clear nq osq
                clear e1 e2 e3 e4 e6 pa ba pc bc
                go_wp2_with fail
                clear e5 hd d0' hv hlt
                have hhb := Hhb.out
                obtain ⟨hb1, hb2, hb4, hb5⟩ := Hb.out
                refine ⟨⟨st, h, rfl, rfl, hls, by omega, by omega, S2, ⟨hK.out.1, fun x' k1 k2 => ?_⟩⟩, by simp [Go.RowKit.intOf]; omega⟩
                have hxa : ltR cf rk d[mid + m - 1 - h]! d[h]! = true := by rw [Hq.out, ← Hx.out, ← Hy.out]; exact HV.out
                by_cases e : x' = h
                · rw [e]; exact hxa
                · have h1 := HP.out.l h x' (by omega) (by omega) (by omega)
                  have h2 := HP.out.r (mid + m - 1 - x') (mid + m - 1 - h) (by omega) (by omega) (by omega)
                  exact hc.tot.trans _ _ _ h2 (hc.tot.trans _ _ _ hxa h1)
              · have hd : decide (cf x y < 0) = false := decide_eq_false hv
                have HV := Lib.hid (cmp_ge hc Hrk.out hv)
                go_wp2_with fail
                go_quiet_grown (first | (go_at_fn g; refine Calls.grown_of (hcc _ _)))
                have S2 := Lib.hid (hS.out.grown nq osq)
                clear l1 l2 hcc hS
                generalize grow (wr.drewN nq) osq = w2 at S2 ⊢
                clear nq osq
                clear e1 e2 e3 e4 e6 pa ba pc bc
                go_wp2_with fail
                clear e5 hd d0' hv hlt
                have hhb := Hhb.out
                obtain ⟨hb1, hb2, hb4, hb5⟩ := Hb.out
                refine ⟨⟨h + 1, r, by simp, rfl, by omega, by omega, hrh, S2, ⟨fun x' k1 k2 => ?_, hK.out.2⟩⟩, by simp [Go.RowKit.intOf]; omega⟩
                have hxa : ltR cf rk d[h]! d[mid + m - 1 - h]! = true := by rw [Hq.out, ← Hx.out, ← Hy.out]; exact HV.out
                by_cases e : x' = h
                · rw [e]; exact hxa
                · have h1 := HP.out.l x' h (by omega) (by omega) (by omega)
                  have h2 := HP.out.r (mid + m - 1 - h) (mid + m - 1 - x') (by omega) (by omega) (by omega)
                  exact hc.tot.trans _ _ _ (hc.tot.trans _ _ _ h1 hxa) h2
            · obtain rfl : st = r := by omega
              have d0' : decide ((st : Int) < (st : Int)) = false := decide_eq_false (by omega)
              have SA := Lib.hid hS.out
              have hcut := cut_of hc.tot HP.out.l HP.out.r (by omega) (by omega) hmid.out.symm hb6 hb7 ⟨hls, hrh⟩ hK.out.1 hK.out.2
              obtain ⟨en, hen⟩ : ∃ q, mid + m - st = q := ⟨_, rfl⟩
              rw [hen] at hcut
              have CUT := Lib.hid hcut
              have hc1 := hcut.b1
              have hc2 := hcut.b2
              have Hmid := Lib.hid (show mid = st + en - m by omega)
              have ze : IntKind.i64.wrap ((nn : Int) - (st : Int)) = (en : Int) := by have := Hnn.out; rw [IntWalk.i64_in _ (by omega)]; omega
              have hmm := hmid.out
              have hmb2 : a < mid ∧ mid < b := by omega
              have Ze := Lib.hid ze
              clear hS hK hlt hen ze hb6 hb7
              by_cases kA : a < st
              · by_cases kB : st < m
                · by_cases kC : m < en
                  · by_cases kD : en < b
                    · have hmd := Hmid.out
                      have hB1 : st < m := by omega
                      have tB1 : decide ((st : Int) < (m : Int)) = true := decide_eq_true (by omega)
                      have hC1 : m < en := by omega
                      have tC1 : decide ((m : Int) < (en : Int)) = true := decide_eq_true (by omega)
                      have hA1 : a < st := by omega
                      have tA1 : decide ((a : Int) < (st : Int)) = true := decide_eq_true (by omega)
                      have hC2 : st < mid := by omega
                      have tC2 : decide ((st : Int) < (mid : Int)) = true := decide_eq_true (by omega)
                      have hB2 : mid < en := by omega
                      have tB2 : decide ((mid : Int) < (en : Int)) = true := decide_eq_true (by omega)
                      have hD1 : en < b := by omega
                      have tD1 : decide ((en : Int) < (b : Int)) = true := decide_eq_true (by omega)
                      clear hcut hmm hmd
                      have HRo := Lib.hid (HRO.out st en d wr rfl SA.out)
                      have ze := Ze.out
                      go_wp2_with fail
                      clear ze
                      refine (HRo.out hB1 hC1 (by omega)).mono ?_
                      rintro e w2 ⟨rfl, d1, h1, h2⟩
                      have S1 := Lib.hid h1
                      have R1 := Lib.hid h2
                      clear h1 h2 HRo
                      go_wp2_with fail
                      have P1 := Lib.hid (CUT.out.pre1 HP.out Hmid.out R1.out)
                      have z1 : d1.size = d.size := R1.out.perm.1
                      refine (IH.out a st mid d1 _ z1 (by omega) hA1 hC2 (by omega) S1.out P1.out).mono ?_
                      rintro e w3 ⟨rfl, d2, h1, h2, h3⟩
                      have S2 := Lib.hid h1
                      have Q1 := Lib.hid h2
                      have A1 := Lib.hid h3
                      clear h1 h2 h3
                      go_wp2_with fail
                      have P2 := Lib.hid (CUT.out.pre2 HP.out Hmid.out R1.out Q1.out)
                      have z2 : d2.size = d.size := Q1.out.1.trans z1
                      refine (IH.out mid en b d2 _ z2 (by omega) hB2 hD1 (by omega) S2.out P2.out).mono ?_
                      rintro e w4 ⟨rfl, d3, h1, h2, h3⟩
                      have S3 := Lib.hid h1
                      have Q2 := Lib.hid h2
                      have A2 := Lib.hid h3
                      clear h1 h2 h3
                      go_wp2
                      go_end0
                      have hF := CUT.out.fin HP.out hb Hmid.out R1.out Q1.out A1.out Q2.out A2.out
                      exact ⟨rfl, d3, S3.out, hF.1, hF.2⟩
                    · have hmd := Hmid.out
                      have hB1 : st < m := by omega
                      have tB1 : decide ((st : Int) < (m : Int)) = true := decide_eq_true (by omega)
                      have hC1 : m < en := by omega
                      have tC1 : decide ((m : Int) < (en : Int)) = true := decide_eq_true (by omega)
                      have hA1 : a < st := by omega
                      have tA1 : decide ((a : Int) < (st : Int)) = true := decide_eq_true (by omega)
                      have hC2 : st < mid := by omega
                      have tC2 : decide ((st : Int) < (mid : Int)) = true := decide_eq_true (by omega)
                      have hB2 : mid < en := by omega
                      have tB2 : decide ((mid : Int) < (en : Int)) = true := decide_eq_true (by omega)
                      have hD1 : ¬ en < b := by omega
                      have tD1 : decide ((en : Int) < (b : Int)) = false := decide_eq_false (by omega)
                      clear hcut hmm hmd
                      have HRo := Lib.hid (HRO.out st en d wr rfl SA.out)
                      have ze := Ze.out
                      go_wp2_with fail
                      clear ze
                      refine (HRo.out hB1 hC1 (by omega)).mono ?_
                      rintro e w2 ⟨rfl, d1, h1, h2⟩
                      have S1 := Lib.hid h1
                      have R1 := Lib.hid h2
                      clear h1 h2 HRo
                      go_wp2_with fail
                      have P1 := Lib.hid (CUT.out.pre1 HP.out Hmid.out R1.out)
                      have z1 : d1.size = d.size := R1.out.perm.1
                      refine (IH.out a st mid d1 _ z1 (by omega) hA1 hC2 (by omega) S1.out P1.out).mono ?_
                      rintro e w3 ⟨rfl, d2, h1, h2, h3⟩
                      have S2 := Lib.hid h1
                      have Q1 := Lib.hid h2
                      have A1 := Lib.hid h3
                      clear h1 h2 h3
                      go_wp2_with fail
                      have P2 := Lib.hid (CUT.out.pre2 HP.out Hmid.out R1.out Q1.out)
                      have z2 : d2.size = d.size := Q1.out.1.trans z1
                      have A2 := Lib.hid (show Asc (ltR cf rk) mid b d2 from P2.out.l.le (Nat.le_refl _) (by omega))
                      go_end0
                      have hF := CUT.out.fin HP.out hb Hmid.out R1.out Q1.out A1.out (permIn_refl d2 mid b) A2.out
                      exact ⟨rfl, d2, S2.out, hF.1, hF.2⟩
                  · by_cases kD : en < b
                    · have hmd := Hmid.out
                      have hB1 : st < m := by omega
                      have tB1 : decide ((st : Int) < (m : Int)) = true := decide_eq_true (by omega)
                      have hC1 : ¬ m < en := by omega
                      have tC1 : decide ((m : Int) < (en : Int)) = false := decide_eq_false (by omega)
                      have hA1 : a < st := by omega
                      have tA1 : decide ((a : Int) < (st : Int)) = true := decide_eq_true (by omega)
                      have hC2 : ¬ st < mid := by omega
                      have tC2 : decide ((st : Int) < (mid : Int)) = false := decide_eq_false (by omega)
                      have hB2 : mid < en := by omega
                      have tB2 : decide ((mid : Int) < (en : Int)) = true := decide_eq_true (by omega)
                      have hD1 : en < b := by omega
                      have tD1 : decide ((en : Int) < (b : Int)) = true := decide_eq_true (by omega)
                      clear hcut hmm hmd
                      have R1 := Lib.hid (Rot.triv (a := st) (m := m) (b := en) d (by omega) (by omega) (by omega))
                      have S1 := Lib.hid SA.out
                      obtain ⟨d1, hd1⟩ : ∃ q, d = q := ⟨_, rfl⟩
                      have R1 := Lib.hid (show Rot st m en d d1 by rw [← hd1]; exact R1.out)
                      have S1 := Lib.hid (show SW enc w0 blk off d1 wr by rw [← hd1]; exact S1.out)
                      clear hd1
                      have ze := Ze.out
                      go_wp2_with fail
                      clear ze
                      have P1 := Lib.hid (CUT.out.pre1 HP.out Hmid.out R1.out)
                      have z1 : d1.size = d.size := R1.out.perm.1
                      have S2 := Lib.hid S1.out
                      have Q1 := Lib.hid (permIn_refl d1 a mid)
                      have A1 := Lib.hid (show Asc (ltR cf rk) a mid d1 from P1.out.l.le (Nat.le_refl _) (by omega))
                      obtain ⟨d2, hd2⟩ : ∃ q, d1 = q := ⟨_, rfl⟩
                      have S2 := Lib.hid (show SW enc w0 blk off d2 _ by rw [← hd2]; exact S2.out)
                      have Q1 := Lib.hid (show PermIn a mid d1 d2 by rw [← hd2]; exact Q1.out)
                      have A1 := Lib.hid (show Asc (ltR cf rk) a mid d2 by rw [← hd2]; exact A1.out)
                      clear hd2
                      have P2 := Lib.hid (CUT.out.pre2 HP.out Hmid.out R1.out Q1.out)
                      have z2 : d2.size = d.size := Q1.out.1.trans z1
                      refine (IH.out mid en b d2 _ z2 (by omega) hB2 hD1 (by omega) S2.out P2.out).mono ?_
                      rintro e w4 ⟨rfl, d3, h1, h2, h3⟩
                      have S3 := Lib.hid h1
                      have Q2 := Lib.hid h2
                      have A2 := Lib.hid h3
                      clear h1 h2 h3
                      go_wp2
                      go_end0
                      have hF := CUT.out.fin HP.out hb Hmid.out R1.out Q1.out A1.out Q2.out A2.out
                      exact ⟨rfl, d3, S3.out, hF.1, hF.2⟩
                    · have hmd := Hmid.out
                      have hB1 : st < m := by omega
                      have tB1 : decide ((st : Int) < (m : Int)) = true := decide_eq_true (by omega)
                      have hC1 : ¬ m < en := by omega
                      have tC1 : decide ((m : Int) < (en : Int)) = false := decide_eq_false (by omega)
                      have hA1 : a < st := by omega
                      have tA1 : decide ((a : Int) < (st : Int)) = true := decide_eq_true (by omega)
                      have hC2 : ¬ st < mid := by omega
                      have tC2 : decide ((st : Int) < (mid : Int)) = false := decide_eq_false (by omega)
                      have hB2 : mid < en := by omega
                      have tB2 : decide ((mid : Int) < (en : Int)) = true := decide_eq_true (by omega)
                      have hD1 : ¬ en < b := by omega
                      have tD1 : decide ((en : Int) < (b : Int)) = false := decide_eq_false (by omega)
                      clear hcut hmm hmd
                      have R1 := Lib.hid (Rot.triv (a := st) (m := m) (b := en) d (by omega) (by omega) (by omega))
                      have S1 := Lib.hid SA.out
                      obtain ⟨d1, hd1⟩ : ∃ q, d = q := ⟨_, rfl⟩
                      have R1 := Lib.hid (show Rot st m en d d1 by rw [← hd1]; exact R1.out)
                      have S1 := Lib.hid (show SW enc w0 blk off d1 wr by rw [← hd1]; exact S1.out)
                      clear hd1
                      have ze := Ze.out
                      go_wp2_with fail
                      clear ze
                      have P1 := Lib.hid (CUT.out.pre1 HP.out Hmid.out R1.out)
                      have z1 : d1.size = d.size := R1.out.perm.1
                      have S2 := Lib.hid S1.out
                      have Q1 := Lib.hid (permIn_refl d1 a mid)
                      have A1 := Lib.hid (show Asc (ltR cf rk) a mid d1 from P1.out.l.le (Nat.le_refl _) (by omega))
                      obtain ⟨d2, hd2⟩ : ∃ q, d1 = q := ⟨_, rfl⟩
                      have S2 := Lib.hid (show SW enc w0 blk off d2 _ by rw [← hd2]; exact S2.out)
                      have Q1 := Lib.hid (show PermIn a mid d1 d2 by rw [← hd2]; exact Q1.out)
                      have A1 := Lib.hid (show Asc (ltR cf rk) a mid d2 by rw [← hd2]; exact A1.out)
                      clear hd2
                      have P2 := Lib.hid (CUT.out.pre2 HP.out Hmid.out R1.out Q1.out)
                      have z2 : d2.size = d.size := Q1.out.1.trans z1
                      have A2 := Lib.hid (show Asc (ltR cf rk) mid b d2 from P2.out.l.le (Nat.le_refl _) (by omega))
                      go_end0
                      have hF := CUT.out.fin HP.out hb Hmid.out R1.out Q1.out A1.out (permIn_refl d2 mid b) A2.out
                      exact ⟨rfl, d2, S2.out, hF.1, hF.2⟩
                · by_cases kC : m < en
                  · by_cases kD : en < b
                    · have hmd := Hmid.out
                      have hB1 : ¬ st < m := by omega
                      have tB1 : decide ((st : Int) < (m : Int)) = false := decide_eq_false (by omega)
                      have hC1 : m < en := by omega
                      have tC1 : decide ((m : Int) < (en : Int)) = true := decide_eq_true (by omega)
                      have hA1 : a < st := by omega
                      have tA1 : decide ((a : Int) < (st : Int)) = true := decide_eq_true (by omega)
                      have hC2 : st < mid := by omega
                      have tC2 : decide ((st : Int) < (mid : Int)) = true := decide_eq_true (by omega)
                      have hB2 : ¬ mid < en := by omega
                      have tB2 : decide ((mid : Int) < (en : Int)) = false := decide_eq_false (by omega)
                      have hD1 : en < b := by omega
                      have tD1 : decide ((en : Int) < (b : Int)) = true := decide_eq_true (by omega)
                      clear hcut hmm hmd
                      have R1 := Lib.hid (Rot.triv (a := st) (m := m) (b := en) d (by omega) (by omega) (by omega))
                      have S1 := Lib.hid SA.out
                      obtain ⟨d1, hd1⟩ : ∃ q, d = q := ⟨_, rfl⟩
                      have R1 := Lib.hid (show Rot st m en d d1 by rw [← hd1]; exact R1.out)
                      have S1 := Lib.hid (show SW enc w0 blk off d1 wr by rw [← hd1]; exact S1.out)
                      clear hd1
                      have ze := Ze.out
                      go_wp2_with fail
                      clear ze
                      have P1 := Lib.hid (CUT.out.pre1 HP.out Hmid.out R1.out)
                      have z1 : d1.size = d.size := R1.out.perm.1
                      refine (IH.out a st mid d1 _ z1 (by omega) hA1 hC2 (by omega) S1.out P1.out).mono ?_
                      rintro e w3 ⟨rfl, d2, h1, h2, h3⟩
                      have S2 := Lib.hid h1
                      have Q1 := Lib.hid h2
                      have A1 := Lib.hid h3
                      clear h1 h2 h3
                      go_wp2_with fail
                      have P2 := Lib.hid (CUT.out.pre2 HP.out Hmid.out R1.out Q1.out)
                      have z2 : d2.size = d.size := Q1.out.1.trans z1
                      have A2 := Lib.hid (show Asc (ltR cf rk) mid b d2 from P2.out.r.le (by omega) (Nat.le_refl _))
                      go_end0
                      have hF := CUT.out.fin HP.out hb Hmid.out R1.out Q1.out A1.out (permIn_refl d2 mid b) A2.out
                      exact ⟨rfl, d2, S2.out, hF.1, hF.2⟩
                    · have hmd := Hmid.out
                      have hB1 : ¬ st < m := by omega
                      have tB1 : decide ((st : Int) < (m : Int)) = false := decide_eq_false (by omega)
                      have hC1 : m < en := by omega
                      have tC1 : decide ((m : Int) < (en : Int)) = true := decide_eq_true (by omega)
                      have hA1 : a < st := by omega
                      have tA1 : decide ((a : Int) < (st : Int)) = true := decide_eq_true (by omega)
                      have hC2 : st < mid := by omega
                      have tC2 : decide ((st : Int) < (mid : Int)) = true := decide_eq_true (by omega)
                      have hB2 : ¬ mid < en := by omega
                      have tB2 : decide ((mid : Int) < (en : Int)) = false := decide_eq_false (by omega)
                      have hD1 : ¬ en < b := by omega
                      have tD1 : decide ((en : Int) < (b : Int)) = false := decide_eq_false (by omega)
                      clear hcut hmm hmd
                      have R1 := Lib.hid (Rot.triv (a := st) (m := m) (b := en) d (by omega) (by omega) (by omega))
                      have S1 := Lib.hid SA.out
                      obtain ⟨d1, hd1⟩ : ∃ q, d = q := ⟨_, rfl⟩
                      have R1 := Lib.hid (show Rot st m en d d1 by rw [← hd1]; exact R1.out)
                      have S1 := Lib.hid (show SW enc w0 blk off d1 wr by rw [← hd1]; exact S1.out)
                      clear hd1
                      have ze := Ze.out
                      go_wp2_with fail
                      clear ze
                      have P1 := Lib.hid (CUT.out.pre1 HP.out Hmid.out R1.out)
                      have z1 : d1.size = d.size := R1.out.perm.1
                      refine (IH.out a st mid d1 _ z1 (by omega) hA1 hC2 (by omega) S1.out P1.out).mono ?_
                      rintro e w3 ⟨rfl, d2, h1, h2, h3⟩
                      have S2 := Lib.hid h1
                      have Q1 := Lib.hid h2
                      have A1 := Lib.hid h3
                      clear h1 h2 h3
                      go_wp2_with fail
                      have P2 := Lib.hid (CUT.out.pre2 HP.out Hmid.out R1.out Q1.out)
                      have z2 : d2.size = d.size := Q1.out.1.trans z1
                      have A2 := Lib.hid (show Asc (ltR cf rk) mid b d2 from P2.out.r.le (by omega) (Nat.le_refl _))
                      go_end0
                      have hF := CUT.out.fin HP.out hb Hmid.out R1.out Q1.out A1.out (permIn_refl d2 mid b) A2.out
                      exact ⟨rfl, d2, S2.out, hF.1, hF.2⟩
                  · by_cases kD : en < b
                    · have hmd := Hmid.out
                      have hB1 : ¬ st < m := by omega
                      have tB1 : decide ((st : Int) < (m : Int)) = false := decide_eq_false (by omega)
                      have hC1 : ¬ m < en := by omega
                      have tC1 : decide ((m : Int) < (en : Int)) = false := decide_eq_false (by omega)
                      have hA1 : a < st := by omega
                      have tA1 : decide ((a : Int) < (st : Int)) = true := decide_eq_true (by omega)
                      have hC2 : ¬ st < mid := by omega
                      have tC2 : decide ((st : Int) < (mid : Int)) = false := decide_eq_false (by omega)
                      have hB2 : ¬ mid < en := by omega
                      have tB2 : decide ((mid : Int) < (en : Int)) = false := decide_eq_false (by omega)
                      have hD1 : en < b := by omega
                      have tD1 : decide ((en : Int) < (b : Int)) = true := decide_eq_true (by omega)
                      clear hcut hmm hmd
                      have R1 := Lib.hid (Rot.triv (a := st) (m := m) (b := en) d (by omega) (by omega) (by omega))
                      have S1 := Lib.hid SA.out
                      obtain ⟨d1, hd1⟩ : ∃ q, d = q := ⟨_, rfl⟩
                      have R1 := Lib.hid (show Rot st m en d d1 by rw [← hd1]; exact R1.out)
                      have S1 := Lib.hid (show SW enc w0 blk off d1 wr by rw [← hd1]; exact S1.out)
                      clear hd1
                      have ze := Ze.out
                      go_wp2_with fail
                      clear ze
                      have P1 := Lib.hid (CUT.out.pre1 HP.out Hmid.out R1.out)
                      have z1 : d1.size = d.size := R1.out.perm.1
                      have S2 := Lib.hid S1.out
                      have Q1 := Lib.hid (permIn_refl d1 a mid)
                      have A1 := Lib.hid (show Asc (ltR cf rk) a mid d1 from P1.out.l.le (Nat.le_refl _) (by omega))
                      obtain ⟨d2, hd2⟩ : ∃ q, d1 = q := ⟨_, rfl⟩
                      have S2 := Lib.hid (show SW enc w0 blk off d2 _ by rw [← hd2]; exact S2.out)
                      have Q1 := Lib.hid (show PermIn a mid d1 d2 by rw [← hd2]; exact Q1.out)
                      have A1 := Lib.hid (show Asc (ltR cf rk) a mid d2 by rw [← hd2]; exact A1.out)
                      clear hd2
                      have P2 := Lib.hid (CUT.out.pre2 HP.out Hmid.out R1.out Q1.out)
                      have z2 : d2.size = d.size := Q1.out.1.trans z1
                      have A2 := Lib.hid (show Asc (ltR cf rk) mid b d2 from P2.out.r.le (by omega) (Nat.le_refl _))
                      go_end0
                      have hF := CUT.out.fin HP.out hb Hmid.out R1.out Q1.out A1.out (permIn_refl d2 mid b) A2.out
                      exact ⟨rfl, d2, S2.out, hF.1, hF.2⟩
                    · have hmd := Hmid.out
                      have hB1 : ¬ st < m := by omega
                      have tB1 : decide ((st : Int) < (m : Int)) = false := decide_eq_false (by omega)
                      have hC1 : ¬ m < en := by omega
                      have tC1 : decide ((m : Int) < (en : Int)) = false := decide_eq_false (by omega)
                      have hA1 : a < st := by omega
                      have tA1 : decide ((a : Int) < (st : Int)) = true := decide_eq_true (by omega)
                      have hC2 : ¬ st < mid := by omega
                      have tC2 : decide ((st : Int) < (mid : Int)) = false := decide_eq_false (by omega)
                      have hB2 : ¬ mid < en := by omega
                      have tB2 : decide ((mid : Int) < (en : Int)) = false := decide_eq_false (by omega)
                      have hD1 : ¬ en < b := by omega
                      have tD1 : decide ((en : Int) < (b : Int)) = false := decide_eq_false (by omega)
                      clear hcut hmm hmd
                      have R1 := Lib.hid (Rot.triv (a := st) (m := m) (b := en) d (by omega) (by omega) (by omega))
                      have S1 := Lib.hid SA.out
                      obtain ⟨d1, hd1⟩ : ∃ q, d = q := ⟨_, rfl⟩
                      have R1 := Lib.hid (show Rot st m en d d1 by rw [← hd1]; exact R1.out)
                      have S1 := Lib.hid (show SW enc w0 blk off d1 wr by rw [← hd1]; exact S1.out)
                      clear hd1
                      have ze := Ze.out
                      go_wp2_with fail
                      clear ze
                      have P1 := Lib.hid (CUT.out.pre1 HP.out Hmid.out R1.out)
                      have z1 : d1.size = d.size := R1.out.perm.1
                      have S2 := Lib.hid S1.out
                      have Q1 := Lib.hid (permIn_refl d1 a mid)
                      have A1 := Lib.hid (show Asc (ltR cf rk) a mid d1 from P1.out.l.le (Nat.le_refl _) (by omega))
                      obtain ⟨d2, hd2⟩ : ∃ q, d1 = q := ⟨_, rfl⟩
                      have S2 := Lib.hid (show SW enc w0 blk off d2 _ by rw [← hd2]; exact S2.out)
                      have Q1 := Lib.hid (show PermIn a mid d1 d2 by rw [← hd2]; exact Q1.out)
                      have A1 := Lib.hid (show Asc (ltR cf rk) a mid d2 by rw [← hd2]; exact A1.out)
                      clear hd2
                      have P2 := Lib.hid (CUT.out.pre2 HP.out Hmid.out R1.out Q1.out)
                      have z2 : d2.size = d.size := Q1.out.1.trans z1
                      have A2 := Lib.hid (show Asc (ltR cf rk) mid b d2 from P2.out.r.le (by omega) (Nat.le_refl _))
                      go_end0
                      have hF := CUT.out.fin HP.out hb Hmid.out R1.out Q1.out A1.out (permIn_refl d2 mid b) A2.out
                      exact ⟨rfl, d2, S2.out, hF.1, hF.2⟩
              · by_cases kB : st < m
                · by_cases kC : m < en
                  · by_cases kD : en < b
                    · have hmd := Hmid.out
                      have hB1 : st < m := by omega
                      have tB1 : decide ((st : Int) < (m : Int)) = true := decide_eq_true (by omega)
                      have hC1 : m < en := by omega
                      have tC1 : decide ((m : Int) < (en : Int)) = true := decide_eq_true (by omega)
                      have hA1 : ¬ a < st := by omega
                      have tA1 : decide ((a : Int) < (st : Int)) = false := decide_eq_false (by omega)
                      have hC2 : st < mid := by omega
                      have tC2 : decide ((st : Int) < (mid : Int)) = true := decide_eq_true (by omega)
                      have hB2 : mid < en := by omega
                      have tB2 : decide ((mid : Int) < (en : Int)) = true := decide_eq_true (by omega)
                      have hD1 : en < b := by omega
                      have tD1 : decide ((en : Int) < (b : Int)) = true := decide_eq_true (by omega)
                      clear hcut hmm hmd
                      have HRo := Lib.hid (HRO.out st en d wr rfl SA.out)
                      have ze := Ze.out
                      go_wp2_with fail
                      clear ze
                      refine (HRo.out hB1 hC1 (by omega)).mono ?_
                      rintro e w2 ⟨rfl, d1, h1, h2⟩
                      have S1 := Lib.hid h1
                      have R1 := Lib.hid h2
                      clear h1 h2 HRo
                      go_wp2_with fail
                      have P1 := Lib.hid (CUT.out.pre1 HP.out Hmid.out R1.out)
                      have z1 : d1.size = d.size := R1.out.perm.1
                      have S2 := Lib.hid S1.out
                      have Q1 := Lib.hid (permIn_refl d1 a mid)
                      have A1 := Lib.hid (show Asc (ltR cf rk) a mid d1 from P1.out.r.le (by omega) (Nat.le_refl _))
                      obtain ⟨d2, hd2⟩ : ∃ q, d1 = q := ⟨_, rfl⟩
                      have S2 := Lib.hid (show SW enc w0 blk off d2 _ by rw [← hd2]; exact S2.out)
                      have Q1 := Lib.hid (show PermIn a mid d1 d2 by rw [← hd2]; exact Q1.out)
                      have A1 := Lib.hid (show Asc (ltR cf rk) a mid d2 by rw [← hd2]; exact A1.out)
                      clear hd2
                      have P2 := Lib.hid (CUT.out.pre2 HP.out Hmid.out R1.out Q1.out)
                      have z2 : d2.size = d.size := Q1.out.1.trans z1
                      refine (IH.out mid en b d2 _ z2 (by omega) hB2 hD1 (by omega) S2.out P2.out).mono ?_
                      rintro e w4 ⟨rfl, d3, h1, h2, h3⟩
                      have S3 := Lib.hid h1
                      have Q2 := Lib.hid h2
                      have A2 := Lib.hid h3
                      clear h1 h2 h3
                      go_wp2
                      go_end0
                      have hF := CUT.out.fin HP.out hb Hmid.out R1.out Q1.out A1.out Q2.out A2.out
                      exact ⟨rfl, d3, S3.out, hF.1, hF.2⟩
                    · have hmd := Hmid.out
                      have hB1 : st < m := by omega
                      have tB1 : decide ((st : Int) < (m : Int)) = true := decide_eq_true (by omega)
                      have hC1 : m < en := by omega
                      have tC1 : decide ((m : Int) < (en : Int)) = true := decide_eq_true (by omega)
                      have hA1 : ¬ a < st := by omega
                      have tA1 : decide ((a : Int) < (st : Int)) = false := decide_eq_false (by omega)
                      have hC2 : st < mid := by omega
                      have tC2 : decide ((st : Int) < (mid : Int)) = true := decide_eq_true (by omega)
                      have hB2 : mid < en := by omega
                      have tB2 : decide ((mid : Int) < (en : Int)) = true := decide_eq_true (by omega)
                      have hD1 : ¬ en < b := by omega
                      have tD1 : decide ((en : Int) < (b : Int)) = false := decide_eq_false (by omega)
                      clear hcut hmm hmd
                      have HRo := Lib.hid (HRO.out st en d wr rfl SA.out)
                      have ze := Ze.out
                      go_wp2_with fail
                      clear ze
                      refine (HRo.out hB1 hC1 (by omega)).mono ?_
                      rintro e w2 ⟨rfl, d1, h1, h2⟩
                      have S1 := Lib.hid h1
                      have R1 := Lib.hid h2
                      clear h1 h2 HRo
                      go_wp2_with fail
                      have P1 := Lib.hid (CUT.out.pre1 HP.out Hmid.out R1.out)
                      have z1 : d1.size = d.size := R1.out.perm.1
                      have S2 := Lib.hid S1.out
                      have Q1 := Lib.hid (permIn_refl d1 a mid)
                      have A1 := Lib.hid (show Asc (ltR cf rk) a mid d1 from P1.out.r.le (by omega) (Nat.le_refl _))
                      obtain ⟨d2, hd2⟩ : ∃ q, d1 = q := ⟨_, rfl⟩
                      have S2 := Lib.hid (show SW enc w0 blk off d2 _ by rw [← hd2]; exact S2.out)
                      have Q1 := Lib.hid (show PermIn a mid d1 d2 by rw [← hd2]; exact Q1.out)
                      have A1 := Lib.hid (show Asc (ltR cf rk) a mid d2 by rw [← hd2]; exact A1.out)
                      clear hd2
                      have P2 := Lib.hid (CUT.out.pre2 HP.out Hmid.out R1.out Q1.out)
                      have z2 : d2.size = d.size := Q1.out.1.trans z1
                      have A2 := Lib.hid (show Asc (ltR cf rk) mid b d2 from P2.out.l.le (Nat.le_refl _) (by omega))
                      go_end0
                      have hF := CUT.out.fin HP.out hb Hmid.out R1.out Q1.out A1.out (permIn_refl d2 mid b) A2.out
                      exact ⟨rfl, d2, S2.out, hF.1, hF.2⟩
                  · by_cases kD : en < b
                    · have hmd := Hmid.out
                      have hB1 : st < m := by omega
                      have tB1 : decide ((st : Int) < (m : Int)) = true := decide_eq_true (by omega)
                      have hC1 : ¬ m < en := by omega
                      have tC1 : decide ((m : Int) < (en : Int)) = false := decide_eq_false (by omega)
                      have hA1 : ¬ a < st := by omega
                      have tA1 : decide ((a : Int) < (st : Int)) = false := decide_eq_false (by omega)
                      have hC2 : ¬ st < mid := by omega
                      have tC2 : decide ((st : Int) < (mid : Int)) = false := decide_eq_false (by omega)
                      have hB2 : mid < en := by omega
                      have tB2 : decide ((mid : Int) < (en : Int)) = true := decide_eq_true (by omega)
                      have hD1 : en < b := by omega
                      have tD1 : decide ((en : Int) < (b : Int)) = true := decide_eq_true (by omega)
                      clear hcut hmm hmd
                      have R1 := Lib.hid (Rot.triv (a := st) (m := m) (b := en) d (by omega) (by omega) (by omega))
                      have S1 := Lib.hid SA.out
                      obtain ⟨d1, hd1⟩ : ∃ q, d = q := ⟨_, rfl⟩
                      have R1 := Lib.hid (show Rot st m en d d1 by rw [← hd1]; exact R1.out)
                      have S1 := Lib.hid (show SW enc w0 blk off d1 wr by rw [← hd1]; exact S1.out)
                      clear hd1
                      have ze := Ze.out
                      go_wp2_with fail
                      clear ze
                      have P1 := Lib.hid (CUT.out.pre1 HP.out Hmid.out R1.out)
                      have z1 : d1.size = d.size := R1.out.perm.1
                      have S2 := Lib.hid S1.out
                      have Q1 := Lib.hid (permIn_refl d1 a mid)
                      have A1 := Lib.hid (show Asc (ltR cf rk) a mid d1 from P1.out.l.le (Nat.le_refl _) (by omega))
                      obtain ⟨d2, hd2⟩ : ∃ q, d1 = q := ⟨_, rfl⟩
                      have S2 := Lib.hid (show SW enc w0 blk off d2 _ by rw [← hd2]; exact S2.out)
                      have Q1 := Lib.hid (show PermIn a mid d1 d2 by rw [← hd2]; exact Q1.out)
                      have A1 := Lib.hid (show Asc (ltR cf rk) a mid d2 by rw [← hd2]; exact A1.out)
                      clear hd2
                      have P2 := Lib.hid (CUT.out.pre2 HP.out Hmid.out R1.out Q1.out)
                      have z2 : d2.size = d.size := Q1.out.1.trans z1
                      refine (IH.out mid en b d2 _ z2 (by omega) hB2 hD1 (by omega) S2.out P2.out).mono ?_
                      rintro e w4 ⟨rfl, d3, h1, h2, h3⟩
                      have S3 := Lib.hid h1
                      have Q2 := Lib.hid h2
                      have A2 := Lib.hid h3
                      clear h1 h2 h3
                      go_wp2
                      go_end0
                      have hF := CUT.out.fin HP.out hb Hmid.out R1.out Q1.out A1.out Q2.out A2.out
                      exact ⟨rfl, d3, S3.out, hF.1, hF.2⟩
                    · have hmd := Hmid.out
                      have hB1 : st < m := by omega
                      have tB1 : decide ((st : Int) < (m : Int)) = true := decide_eq_true (by omega)
                      have hC1 : ¬ m < en := by omega
                      have tC1 : decide ((m : Int) < (en : Int)) = false := decide_eq_false (by omega)
                      have hA1 : ¬ a < st := by omega
                      have tA1 : decide ((a : Int) < (st : Int)) = false := decide_eq_false (by omega)
                      have hC2 : ¬ st < mid := by omega
                      have tC2 : decide ((st : Int) < (mid : Int)) = false := decide_eq_false (by omega)
                      have hB2 : mid < en := by omega
                      have tB2 : decide ((mid : Int) < (en : Int)) = true := decide_eq_true (by omega)
                      have hD1 : ¬ en < b := by omega
                      have tD1 : decide ((en : Int) < (b : Int)) = false := decide_eq_false (by omega)
                      clear hcut hmm hmd
                      have R1 := Lib.hid (Rot.triv (a := st) (m := m) (b := en) d (by omega) (by omega) (by omega))
                      have S1 := Lib.hid SA.out
                      obtain ⟨d1, hd1⟩ : ∃ q, d = q := ⟨_, rfl⟩
                      have R1 := Lib.hid (show Rot st m en d d1 by rw [← hd1]; exact R1.out)
                      have S1 := Lib.hid (show SW enc w0 blk off d1 wr by rw [← hd1]; exact S1.out)
                      clear hd1
                      have ze := Ze.out
                      go_wp2_with fail
                      clear ze
                      have P1 := Lib.hid (CUT.out.pre1 HP.out Hmid.out R1.out)
                      have z1 : d1.size = d.size := R1.out.perm.1
                      have S2 := Lib.hid S1.out
                      have Q1 := Lib.hid (permIn_refl d1 a mid)
                      have A1 := Lib.hid (show Asc (ltR cf rk) a mid d1 from P1.out.l.le (Nat.le_refl _) (by omega))
                      obtain ⟨d2, hd2⟩ : ∃ q, d1 = q := ⟨_, rfl⟩
                      have S2 := Lib.hid (show SW enc w0 blk off d2 _ by rw [← hd2]; exact S2.out)
                      have Q1 := Lib.hid (show PermIn a mid d1 d2 by rw [← hd2]; exact Q1.out)
                      have A1 := Lib.hid (show Asc (ltR cf rk) a mid d2 by rw [← hd2]; exact A1.out)
                      clear hd2
                      have P2 := Lib.hid (CUT.out.pre2 HP.out Hmid.out R1.out Q1.out)
                      have z2 : d2.size = d.size := Q1.out.1.trans z1
                      have A2 := Lib.hid (show Asc (ltR cf rk) mid b d2 from P2.out.l.le (Nat.le_refl _) (by omega))
                      go_end0
                      have hF := CUT.out.fin HP.out hb Hmid.out R1.out Q1.out A1.out (permIn_refl d2 mid b) A2.out
                      exact ⟨rfl, d2, S2.out, hF.1, hF.2⟩
                · by_cases kC : m < en
                  · by_cases kD : en < b
                    · have hmd := Hmid.out
                      have hB1 : ¬ st < m := by omega
                      have tB1 : decide ((st : Int) < (m : Int)) = false := decide_eq_false (by omega)
                      have hC1 : m < en := by omega
                      have tC1 : decide ((m : Int) < (en : Int)) = true := decide_eq_true (by omega)
                      have hA1 : ¬ a < st := by omega
                      have tA1 : decide ((a : Int) < (st : Int)) = false := decide_eq_false (by omega)
                      have hC2 : st < mid := by omega
                      have tC2 : decide ((st : Int) < (mid : Int)) = true := decide_eq_true (by omega)
                      have hB2 : ¬ mid < en := by omega
                      have tB2 : decide ((mid : Int) < (en : Int)) = false := decide_eq_false (by omega)
                      have hD1 : en < b := by omega
                      have tD1 : decide ((en : Int) < (b : Int)) = true := decide_eq_true (by omega)
                      clear hcut hmm hmd
                      have R1 := Lib.hid (Rot.triv (a := st) (m := m) (b := en) d (by omega) (by omega) (by omega))
                      have S1 := Lib.hid SA.out
                      obtain ⟨d1, hd1⟩ : ∃ q, d = q := ⟨_, rfl⟩
                      have R1 := Lib.hid (show Rot st m en d d1 by rw [← hd1]; exact R1.out)
                      have S1 := Lib.hid (show SW enc w0 blk off d1 wr by rw [← hd1]; exact S1.out)
                      clear hd1
                      have ze := Ze.out
                      go_wp2_with fail
                      clear ze
                      have P1 := Lib.hid (CUT.out.pre1 HP.out Hmid.out R1.out)
                      have z1 : d1.size = d.size := R1.out.perm.1
                      have S2 := Lib.hid S1.out
                      have Q1 := Lib.hid (permIn_refl d1 a mid)
                      have A1 := Lib.hid (show Asc (ltR cf rk) a mid d1 from P1.out.r.le (by omega) (Nat.le_refl _))
                      obtain ⟨d2, hd2⟩ : ∃ q, d1 = q := ⟨_, rfl⟩
                      have S2 := Lib.hid (show SW enc w0 blk off d2 _ by rw [← hd2]; exact S2.out)
                      have Q1 := Lib.hid (show PermIn a mid d1 d2 by rw [← hd2]; exact Q1.out)
                      have A1 := Lib.hid (show Asc (ltR cf rk) a mid d2 by rw [← hd2]; exact A1.out)
                      clear hd2
                      have P2 := Lib.hid (CUT.out.pre2 HP.out Hmid.out R1.out Q1.out)
                      have z2 : d2.size = d.size := Q1.out.1.trans z1
                      have A2 := Lib.hid (show Asc (ltR cf rk) mid b d2 from P2.out.r.le (by omega) (Nat.le_refl _))
                      go_end0
                      have hF := CUT.out.fin HP.out hb Hmid.out R1.out Q1.out A1.out (permIn_refl d2 mid b) A2.out
                      exact ⟨rfl, d2, S2.out, hF.1, hF.2⟩
                    · have hmd := Hmid.out
                      have hB1 : ¬ st < m := by omega
                      have tB1 : decide ((st : Int) < (m : Int)) = false := decide_eq_false (by omega)
                      have hC1 : m < en := by omega
                      have tC1 : decide ((m : Int) < (en : Int)) = true := decide_eq_true (by omega)
                      have hA1 : ¬ a < st := by omega
                      have tA1 : decide ((a : Int) < (st : Int)) = false := decide_eq_false (by omega)
                      have hC2 : st < mid := by omega
                      have tC2 : decide ((st : Int) < (mid : Int)) = true := decide_eq_true (by omega)
                      have hB2 : ¬ mid < en := by omega
                      have tB2 : decide ((mid : Int) < (en : Int)) = false := decide_eq_false (by omega)
                      have hD1 : ¬ en < b := by omega
                      have tD1 : decide ((en : Int) < (b : Int)) = false := decide_eq_false (by omega)
                      clear hcut hmm hmd
                      have R1 := Lib.hid (Rot.triv (a := st) (m := m) (b := en) d (by omega) (by omega) (by omega))
                      have S1 := Lib.hid SA.out
                      obtain ⟨d1, hd1⟩ : ∃ q, d = q := ⟨_, rfl⟩
                      have R1 := Lib.hid (show Rot st m en d d1 by rw [← hd1]; exact R1.out)
                      have S1 := Lib.hid (show SW enc w0 blk off d1 wr by rw [← hd1]; exact S1.out)
                      clear hd1
                      have ze := Ze.out
                      go_wp2_with fail
                      clear ze
                      have P1 := Lib.hid (CUT.out.pre1 HP.out Hmid.out R1.out)
                      have z1 : d1.size = d.size := R1.out.perm.1
                      have S2 := Lib.hid S1.out
                      have Q1 := Lib.hid (permIn_refl d1 a mid)
                      have A1 := Lib.hid (show Asc (ltR cf rk) a mid d1 from P1.out.r.le (by omega) (Nat.le_refl _))
                      obtain ⟨d2, hd2⟩ : ∃ q, d1 = q := ⟨_, rfl⟩
                      have S2 := Lib.hid (show SW enc w0 blk off d2 _ by rw [← hd2]; exact S2.out)
                      have Q1 := Lib.hid (show PermIn a mid d1 d2 by rw [← hd2]; exact Q1.out)
                      have A1 := Lib.hid (show Asc (ltR cf rk) a mid d2 by rw [← hd2]; exact A1.out)
                      clear hd2
                      have P2 := Lib.hid (CUT.out.pre2 HP.out Hmid.out R1.out Q1.out)
                      have z2 : d2.size = d.size := Q1.out.1.trans z1
                      have A2 := Lib.hid (show Asc (ltR cf rk) mid b d2 from P2.out.r.le (by omega) (Nat.le_refl _))
                      go_end0
                      have hF := CUT.out.fin HP.out hb Hmid.out R1.out Q1.out A1.out (permIn_refl d2 mid b) A2.out
                      exact ⟨rfl, d2, S2.out, hF.1, hF.2⟩
                  · by_cases kD : en < b
                    · have hmd := Hmid.out
                      have hB1 : ¬ st < m := by omega
                      have tB1 : decide ((st : Int) < (m : Int)) = false := decide_eq_false (by omega)
                      have hC1 : ¬ m < en := by omega
                      have tC1 : decide ((m : Int) < (en : Int)) = false := decide_eq_false (by omega)
                      have hA1 : ¬ a < st := by omega
                      have tA1 : decide ((a : Int) < (st : Int)) = false := decide_eq_false (by omega)
                      have hC2 : ¬ st < mid := by omega
                      have tC2 : decide ((st : Int) < (mid : Int)) = false := decide_eq_false (by omega)
                      have hB2 : ¬ mid < en := by omega
                      have tB2 : decide ((mid : Int) < (en : Int)) = false := decide_eq_false (by omega)
                      have hD1 : en < b := by omega
                      have tD1 : decide ((en : Int) < (b : Int)) = true := decide_eq_true (by omega)
                      clear hcut hmm hmd
                      have R1 := Lib.hid (Rot.triv (a := st) (m := m) (b := en) d (by omega) (by omega) (by omega))
                      have S1 := Lib.hid SA.out
                      obtain ⟨d1, hd1⟩ : ∃ q, d = q := ⟨_, rfl⟩
                      have R1 := Lib.hid (show Rot st m en d d1 by rw [← hd1]; exact R1.out)
                      have S1 := Lib.hid (show SW enc w0 blk off d1 wr by rw [← hd1]; exact S1.out)
                      clear hd1
                      have ze := Ze.out
                      go_wp2_with fail
                      clear ze
                      have P1 := Lib.hid (CUT.out.pre1 HP.out Hmid.out R1.out)
                      have z1 : d1.size = d.size := R1.out.perm.1
                      have S2 := Lib.hid S1.out
                      have Q1 := Lib.hid (permIn_refl d1 a mid)
                      have A1 := Lib.hid (show Asc (ltR cf rk) a mid d1 from P1.out.l.le (Nat.le_refl _) (by omega))
                      obtain ⟨d2, hd2⟩ : ∃ q, d1 = q := ⟨_, rfl⟩
                      have S2 := Lib.hid (show SW enc w0 blk off d2 _ by rw [← hd2]; exact S2.out)
                      have Q1 := Lib.hid (show PermIn a mid d1 d2 by rw [← hd2]; exact Q1.out)
                      have A1 := Lib.hid (show Asc (ltR cf rk) a mid d2 by rw [← hd2]; exact A1.out)
                      clear hd2
                      have P2 := Lib.hid (CUT.out.pre2 HP.out Hmid.out R1.out Q1.out)
                      have z2 : d2.size = d.size := Q1.out.1.trans z1
                      have A2 := Lib.hid (show Asc (ltR cf rk) mid b d2 from P2.out.r.le (by omega) (Nat.le_refl _))
                      go_end0
                      have hF := CUT.out.fin HP.out hb Hmid.out R1.out Q1.out A1.out (permIn_refl d2 mid b) A2.out
                      exact ⟨rfl, d2, S2.out, hF.1, hF.2⟩
                    · have hmd := Hmid.out
                      have hB1 : ¬ st < m := by omega
                      have tB1 : decide ((st : Int) < (m : Int)) = false := decide_eq_false (by omega)
                      have hC1 : ¬ m < en := by omega
                      have tC1 : decide ((m : Int) < (en : Int)) = false := decide_eq_false (by omega)
                      have hA1 : ¬ a < st := by omega
                      have tA1 : decide ((a : Int) < (st : Int)) = false := decide_eq_false (by omega)
                      have hC2 : ¬ st < mid := by omega
                      have tC2 : decide ((st : Int) < (mid : Int)) = false := decide_eq_false (by omega)
                      have hB2 : ¬ mid < en := by omega
                      have tB2 : decide ((mid : Int) < (en : Int)) = false := decide_eq_false (by omega)
                      have hD1 : ¬ en < b := by omega
                      have tD1 : decide ((en : Int) < (b : Int)) = false := decide_eq_false (by omega)
                      clear hcut hmm hmd
                      have R1 := Lib.hid (Rot.triv (a := st) (m := m) (b := en) d (by omega) (by omega) (by omega))
                      have S1 := Lib.hid SA.out
                      obtain ⟨d1, hd1⟩ : ∃ q, d = q := ⟨_, rfl⟩
                      have R1 := Lib.hid (show Rot st m en d d1 by rw [← hd1]; exact R1.out)
                      have S1 := Lib.hid (show SW enc w0 blk off d1 wr by rw [← hd1]; exact S1.out)
                      clear hd1
                      have ze := Ze.out
                      go_wp2_with fail
                      clear ze
                      have P1 := Lib.hid (CUT.out.pre1 HP.out Hmid.out R1.out)
                      have z1 : d1.size = d.size := R1.out.perm.1
                      have S2 := Lib.hid S1.out
                      have Q1 := Lib.hid (permIn_refl d1 a mid)
                      have A1 := Lib.hid (show Asc (ltR cf rk) a mid d1 from P1.out.l.le (Nat.le_refl _) (by omega))
                      obtain ⟨d2, hd2⟩ : ∃ q, d1 = q := ⟨_, rfl⟩
                      have S2 := Lib.hid (show SW enc w0 blk off d2 _ by rw [← hd2]; exact S2.out)
                      have Q1 := Lib.hid (show PermIn a mid d1 d2 by rw [← hd2]; exact Q1.out)
                      have A1 := Lib.hid (show Asc (ltR cf rk) a mid d2 by rw [← hd2]; exact A1.out)
                      clear hd2
                      have P2 := Lib.hid (CUT.out.pre2 HP.out Hmid.out R1.out Q1.out)
                      have z2 : d2.size = d.size := Q1.out.1.trans z1
                      have A2 := Lib.hid (show Asc (ltR cf rk) mid b d2 from P2.out.r.le (by omega) (Nat.le_refl _))
                      go_end0
                      have hF := CUT.out.fin HP.out hb Hmid.out R1.out Q1.out A1.out (permIn_refl d2 mid b) A2.out
                      exact ⟨rfl, d2, S2.out, hF.1, hF.2⟩
end Go.Proofs.YtpklgpdlkdlbbaaGreatDoor

/-
  slices.stableCmpFunc at indexes.
-/
namespace Go.Proofs.YtpklgpdlkdlbbaaGreatDoor
open Go Go.RowKit Go.Sort Go.Lib
attribute [local go_sem ↓] Go.wp_at_zero Go.wp_at_succ
attribute [local go_sem] Oper.semAt_some wide_fn wide_depth wide_fnR wide_depthR
variable {α : Type} [Inhabited α]

/-- What stands behind the first blocks. -/
structure Ins1 (lt : α → α → Bool) (rk : α → Nat) (n a : Nat) (d0 d : Array α) : Prop where
  size : d.size = n
  perm : PermIn 0 n d0 d
  rest : ∀ x, a ≤ x → d[x]! = d0[x]!
  asc : ∀ c, c % 20 = 0 → c < a → Asc lt c (min (c + 20) n) d
  bd : ∀ c, c % 20 = 0 → Bd rk n c d
theorem Ins1.start {lt : α → α → Bool} {rk : α → Nat} {n : Nat} {d0 : Array α} (hn : d0.size = n) (hr : Rk rk 0 n d0) : Ins1 lt rk n 0 d0 d0 :=
  ⟨hn, permIn_refl d0 0 n, fun _ _ => rfl, fun c _ h => absurd h (Nat.not_lt_zero _), fun c _ x y h1 h2 h3 => hr x y (Nat.zero_le _) (by omega) h3⟩
theorem Ins1.step {cf : α → α → Int} {rk : α → Nat} {n a b : Nat} {d0 d : Array α} (hc : CmpOk cf rk) (hr : Rk rk 0 n d0) (h : Ins1 (ltR cf rk) rk n a d0 d) (ha : a % 20 = 0) (hab : a ≤ b) (hb : b ≤ n) (hb2 : b ≤ a + 20) (hb3 : b = a + 20 ∨ b = n) :
    Ins1 (ltR cf rk) rk n b d0 (insertionSort (ltOf cf) d a b) := by
  have hrk : Rk rk a b d := fun p q c1 c2 c3 => by rw [h.rest p c1, h.rest q (by omega)]; exact hr p q (Nat.zero_le _) c2 (by omega)
  obtain ⟨hp, hs⟩ := ins_asc hc hab (by rw [h.size]; exact hb) hrk
  refine ⟨hp.1.trans h.size, permIn_trans _ _ _ 0 n h.perm (permIn_mono _ _ a b 0 n (Nat.zero_le _) hb (by rw [h.size]; exact Nat.le_refl _) hp), fun x hx => ?_, fun c h1 h2 => ?_, fun c h1 => ?_⟩
  · rw [hp.2.1 x (.inr hx)]; exact h.rest x (by omega)
  · by_cases e : c < a
    · exact (h.asc c h1 e).of_eq (fun x k1 k2 => hp.2.1 x (.inl (by omega)))
    · have : c = a := by omega
      subst this
      exact hs.le (Nat.le_refl _) (by omega)
  · refine (h.bd c h1).perm h.size hp hb ?_
    rcases hb3 with e | e
    · omega
    · by_cases k : c ≤ a
      · exact .inl k
      · exact .inr (by omega)
theorem Ins1.blk {lt : α → α → Bool} {rk : α → Nat} {n : Nat} {d0 d : Array α} (h : Ins1 lt rk n n d0 d) : Blk lt rk n 20 0 d0 d :=
  ⟨h.size, h.perm, fun c _ h2 => absurd h2 (Nat.not_lt_zero _), fun c h1 _ h3 => h.asc c h1 h3, fun c h1 _ => h.bd c h1⟩
theorem Blk.last {lt : α → α → Bool} {rk : α → Nat} {n s a : Nat} {d0 d : Array α} (h : Blk lt rk n s a d0 d) (hb : n ≤ a) : ∀ c, c % (2 * s) = 0 → c < n → Asc lt c (min (c + 2 * s) n) d := fun c h1 h2 => h.asc1 c h1 (by omega)
theorem mod_next {a s : Nat} (h : a % (2 * s) = 0) : (a + 2 * s) % (2 * s) = 0 := by rw [Nat.add_mod_right]; exact h
theorem mod20 {a : Nat} (h : a % 20 = 0) : (a + 20) % 20 = 0 := by omega
set_option maxRecDepth 1000000 in
set_option maxHeartbeats 64000000 in
theorem stable_s (enc : α → Value) (cf : α → α → Int) (rk : α → Nat) (hc : CmpOk cf rk) (g : Nat) (cb : Array Value) (blk off cap : Nat) (d0 : Array α) (w0 : World)
    (eg : ∀ args w, (callFunc g args).run Tryz.prog w = .ok (.enter g args) w) (hcmp : CmpLays1 Tryz.prog g cb enc cf blk off d0.size w0) (R : Row1 enc w0 blk off d0) (hsz : d0.size < 1000000) (hr : Rk rk 0 d0.size d0) :
    Calls Tryz.prog 94 #[.slice (some ⟨blk, off, none⟩) d0.size cap, .int .i64 d0.size, .func (.func g) #[] cb] w0 fun e w' => e = .returned (.tuple #[]) ∧ ∃ d', SW enc w0 blk off d' w' ∧ PermIn 0 d0.size d0 d' ∧ Asc (ltR cf rk) 0 d0.size d' := by
  obtain ⟨n, hn⟩ : ∃ n, d0.size = n := ⟨_, rfl⟩
  have HI := Lib.hid (show ∀ (a b : Nat) (d : Array α) (w : World), d.size = n → SW enc w0 blk off d w → a ≤ b → b ≤ n → Calls Tryz.prog 117 #[.slice (some ⟨blk, off, none⟩) n cap, .int .i64 a, .int .i64 b, .func (.func g) #[] cb] w fun e w' => e = .returned (.tuple #[]) ∧ SW enc w0 blk off (insertionSort (ltOf cf) d a b) w' from fun a b d w h1 h2 h3 h4 => by
    have := Any.insertionSortCmpFunc_s Tryz.laysSlF20_f117 enc cf g cb blk off cap a b d0 d w0 w eg hcmp R (hn.trans h1.symm) h2 h3 (by rw [h1]; exact h4) (by omega)
    rwa [h1] at this)
  have HM := Lib.hid (show ∀ (a m b : Nat) (d : Array α) (w : World), d.size = n → SW enc w0 blk off d w → a < m → m < b → b ≤ n → Pre (ltR cf rk) rk a m b d → Calls Tryz.prog 118 #[.slice (some ⟨blk, off, none⟩) n cap, .int .i64 a, .int .i64 m, .int .i64 b, .func (.func g) #[] cb] w (MergePost enc cf rk w0 blk off a b d) from fun a m b d w h1 h2 h3 h4 h5 h6 => by
    have := symMerge_s enc cf rk hc g cb blk off cap d0 w0 eg hcmp R (by omega) _ a m b d w (hn.trans h1.symm) rfl h3 h4 (by rw [h1]; exact h5) h2 h6
    rwa [h1] at this)
  have S0 := Lib.hid (SW.start R.hH : SW enc w0 blk off d0 w0)
  rw [hn] at hr hsz ⊢
  have Hr := Lib.hid hr
  have Hn := Lib.hid hn
  have Hsz := Lib.hid hsz
  clear hr hn hcmp
  go_enter Tryz.func94, Tryz.ntmps94
  go_wp2_with fail
  go_loopw [7, 8] (fun x y wr => ∃ (a : Nat) (d : Array α), x = .int .i64 a ∧ y = .int .i64 ((a + 20 : Nat) : Int) ∧ a ≤ n ∧ a % 20 = 0 ∧ Hid (SW enc w0 blk off d wr) ∧ Hid (Ins1 (ltR cf rk) rk n a d0 d)) (fun x _ _ => n - (Go.RowKit.intOf x).toNat)
  case atStart => exact ⟨0, d0, rfl, rfl, Nat.zero_le _, rfl, S0.out, Ins1.start Hn.out Hr.out⟩
  case round =>
    obtain ⟨a, d, rfl, rfl, han, ha20, hS, hB⟩ := hrel
    obtain ⟨b, hb⟩ : ∃ b, a + 20 = b := ⟨_, rfl⟩
    rw [hb]
    have Hb := Lib.hid hb
    clear hb
    by_cases hbn : b ≤ n
    · have d0' : decide ((b : Int) ≤ (n : Int)) = true := decide_eq_true (by omega)
      have e5 : IntKind.i64.wrap ((b : Int) + 20) = ((b + 20 : Nat) : Int) := by have := Hsz.out; rw [IntWalk.i64_in _ (by omega)]; push_cast; rfl
      have HIn := Lib.hid (HI.out a b d wr hB.out.size hS.out (by have := Hb.out; omega) hbn)
      have HB := Lib.hid (hB.out.step hc Hr.out ha20 (by have := Hb.out; omega) hbn (by have := Hb.out; omega) (.inl Hb.out.symm))
      obtain ⟨d2, hd2⟩ : ∃ q, insertionSort (ltOf cf) d a b = q := ⟨_, rfl⟩
      rw [hd2] at HIn HB
      clear hd2 hS hB
      go_wp2_with fail
      refine HIn.out.mono ?_
      rintro e w2 ⟨rfl, hsw⟩
      have S2 := Lib.hid hsw
      clear hsw
      go_wp2_with fail
      clear e5 d0'
      have hb := Hb.out
      refine ⟨⟨b, d2, rfl, rfl, hbn, by rw [← hb]; exact mod20 ha20, S2, HB⟩, by simp [Go.RowKit.intOf]; omega⟩
    · have d0' : decide ((b : Int) ≤ (n : Int)) = false := decide_eq_false (by omega)
      have HIn := Lib.hid (HI.out a n d wr hB.out.size hS.out han (Nat.le_refl _))
      have HB := Lib.hid (hB.out.step hc Hr.out ha20 han (Nat.le_refl _) (by have := Hb.out; omega) (.inr rfl)).blk
      obtain ⟨d2, hd2⟩ : ∃ q, insertionSort (ltOf cf) d a n = q := ⟨_, rfl⟩
      rw [hd2] at HIn HB
      clear hd2 hS hB
      go_wp2_with fail
      refine HIn.out.mono ?_
      rintro e w2 ⟨rfl, hsw⟩
      have S2 := Lib.hid hsw
      clear hsw
      go_wp2_with fail
      clear d0' hbn
      go_loopw [6, 7, 8, 9] (fun x _ _ _ wr => ∃ (s : Nat) (d : Array α), x = .int .i64 s ∧ 0 < s ∧ s < 4000000 ∧ Hid (SW enc w0 blk off d wr) ∧ Hid (Blk (ltR cf rk) rk n s 0 d0 d)) (fun x _ _ _ _ => 4000000 - (Go.RowKit.intOf x).toNat)
      case atStart => exact ⟨20, d2, rfl, by omega, by omega, S2.out, HB⟩
      case round =>
        obtain ⟨s, d, rfl, hs0, hs1, hS, hB⟩ := hrel
        by_cases hsn : s < n
        · have d1' : decide ((s : Int) < (n : Int)) = true := decide_eq_true (by omega)
          have z1 : IntKind.i64.wrap (2 * (s : Int)) = ((2 * s : Nat) : Int) := by rw [IntWalk.i64_in _ (by omega)]; push_cast; rfl
          have z2 : IntKind.i64.wrap ((s : Int) * 2) = ((2 * s : Nat) : Int) := by rw [IntWalk.i64_in _ (by omega)]; push_cast; omega
          obtain ⟨t, ht⟩ : ∃ t, 2 * s = t := ⟨_, rfl⟩
          rw [ht] at z1 z2
          have Ht := Lib.hid ht
          have HB := Lib.hid hB.out
          have HS := Lib.hid hS.out
          clear hS hB ht
          go_wp2_with fail
          clear d1'
          go_loopw [7, 8] (fun x y wr => ∃ (a : Nat) (d : Array α), x = .int .i64 a ∧ y = .int .i64 ((a + t : Nat) : Int) ∧ a ≤ n ∧ a % (2 * s) = 0 ∧ Hid (SW enc w0 blk off d wr) ∧ Hid (Blk (ltR cf rk) rk n s a d0 d)) (fun x _ _ => n - (Go.RowKit.intOf x).toNat)
          case atStart => exact ⟨0, d, rfl, by simp, Nat.zero_le _, Nat.zero_mod _, HS.out, HB.out⟩
          case round =>
            obtain ⟨a, d, rfl, rfl, han, ham, hS, hB⟩ := hrel
            obtain ⟨b, hb⟩ : ∃ b, a + t = b := ⟨_, rfl⟩
            rw [hb]
            have Hb := Lib.hid (show a + 2 * s = b from by rw [Ht.out]; exact hb)
            obtain ⟨m, hm⟩ : ∃ m, a + s = m := ⟨_, rfl⟩
            have z3 : IntKind.i64.wrap ((a : Int) + (s : Int)) = (m : Int) := by have := Hsz.out; rw [IntWalk.i64_in _ (by omega)]; omega
            have Hm := Lib.hid hm
            by_cases hbn : b ≤ n
            · have d2' : decide ((b : Int) ≤ (n : Int)) = true := decide_eq_true (by omega)
              have z4 : IntKind.i64.wrap ((b : Int) + (t : Int)) = ((b + t : Nat) : Int) := by have := Hsz.out; have := Ht.out; rw [IntWalk.i64_in _ (by omega)]; push_cast; rfl
              have HMe := Lib.hid (HM.out a m b d wr hB.out.size hS.out (by omega) (by have := Hb.out; omega) hbn (by rw [← hm]; exact hB.out.pre hs0 ham (by have := Hb.out; omega) hbn (by have := Hb.out; omega)))
              have hst := fun d' h1 h2 => hB.out.step (d' := d') hs0 ham (by have := Hb.out; omega) h1 h2
              rw [Nat.min_eq_left (by rw [Hb.out]; exact hbn), Hb.out] at hst
              have HSt := Lib.hid hst
              clear hS hB hst hb hm
              go_wp2_with fail
              refine HMe.out.mono ?_
              rintro e w3 ⟨rfl, d3, h1, h2, h3⟩
              have S3 := Lib.hid h1
              have HB3 := Lib.hid (HSt.out d3 h2 h3)
              clear h1 h2 h3
              go_wp2_with fail
              clear z3 z4 d2'
              have hb := Hb.out
              refine ⟨⟨b, d3, rfl, rfl, hbn, by rw [← hb]; exact mod_next ham, S3, HB3⟩, by simp [Go.RowKit.intOf]; omega⟩
            · have d2' : decide ((b : Int) ≤ (n : Int)) = false := decide_eq_false (by omega)
              by_cases hmn : m < n
              · have d3' : decide ((m : Int) < (n : Int)) = true := decide_eq_true (by omega)
                have HMe := Lib.hid (HM.out a m n d wr hB.out.size hS.out (by omega) hmn (Nat.le_refl _) (by rw [← hm]; exact hB.out.pre hs0 ham (by omega) (Nat.le_refl _) (by have := Hb.out; omega)))
                have hst := fun d' h1 h2 => hB.out.step (d' := d') hs0 ham (by omega) h1 h2
                rw [Nat.min_eq_right (by have := Hb.out; omega)] at hst
                have HSt := Lib.hid (fun d' h1 h2 => (hst d' h1 h2).next ((hst d' h1 h2).last (by have := Hb.out; omega)))
                clear hS hB hst hb hm
                go_wp2_with fail
                refine HMe.out.mono ?_
                rintro e w3 ⟨rfl, d3, h1, h2, h3⟩
                have S3 := Lib.hid h1
                have HB3 := Lib.hid (HSt.out d3 h2 h3)
                clear h1 h2 h3
                go_wp2_with fail
                clear z3 d2' d3' z1 z2
                have ht := Ht.out
                have hsz := Hsz.out
                refine ⟨⟨t, d3, rfl, by omega, by omega, S3, by unfold Hid; rw [← ht]; exact HB3.out⟩, by simp [Go.RowKit.intOf]; omega⟩
              · have d3' : decide ((m : Int) < (n : Int)) = false := decide_eq_false (by omega)
                have HB3 := Lib.hid (hB.out.next (hB.out.skip ham (by omega)))
                have S3 := Lib.hid hS.out
                clear hS hB hb hm
                go_wp2_with fail
                clear z3 d2' d3' z1 z2
                have ht := Ht.out
                have hsz := Hsz.out
                refine ⟨⟨t, d, rfl, by omega, by omega, S3, by unfold Hid; rw [← ht]; exact HB3.out⟩, by simp [Go.RowKit.intOf]; omega⟩
        · have d1' : decide ((s : Int) < (n : Int)) = false := decide_eq_false (by omega)
          have HF := Lib.hid (show PermIn 0 n d0 d ∧ Asc (ltR cf rk) 0 n d from ⟨hB.out.perm, by
            by_cases h0 : 0 < n
            · exact hB.out.all (by omega) h0
            · exact Asc.one d (by omega)⟩)
          have SF := Lib.hid hS.out
          clear hS hB
          go_wp2_with fail
          go_end0
          exact ⟨rfl, d, SF.out, HF.out.1, HF.out.2⟩
end Go.Proofs.YtpklgpdlkdlbbaaGreatDoor

/-
  key.Order: any list.
-/
namespace Go.Proofs.YtpklgpdlkdlbbaaGreatDoor
open Go Go.RowKit Go.Sort
attribute [local go_sem ↓] Go.wp_at_zero Go.wp_at_succ
attribute [local go_sem] Oper.semAt_some wide_fn wide_depth wide_fnR wide_depthR

/-- The indexes in the order of their keys, those of one key in their own order. -/
def StabOk (L : List Key3) (n : Nat) [Inhabited (Fin n)] (d : Array (Fin n)) : Prop := d.size = n ∧ PermIn 0 n (rangeF n) d ∧ Asc (ltR (cfI L) (fun i : Fin n => i.val)) 0 n d
theorem cmpOk_I (L : List Key3) (n : Nat) : CmpOk (cfI L) (fun i : Fin n => i.val) :=
  ⟨fun x y => by
    have := cmpK_anti (kat L x.val) (kat L y.val)
    unfold cfI
    omega, fun x y z h1 h2 => cmpK_le_trans h1 h2, fun x y h => Fin.ext h⟩
theorem rangeF_get (n : Nat) [Inhabited (Fin n)] {p : Nat} (hp : p < n) : (rangeF n)[p]! = ⟨p, hp⟩ := by
  rw [getElem!_pos (rangeF n) p (by simp [rangeF]; exact hp)]
  simp [rangeF]
theorem rk_range (n : Nat) [Inhabited (Fin n)] : Rk (fun i : Fin n => i.val) 0 n (rangeF n) := fun p q _ h2 h3 => by
  rw [rangeF_get n (show p < n by omega), rangeF_get n h3]; exact h2
set_option maxRecDepth 100000 in
set_option maxHeartbeats 4000000 in
theorem stable_any (L : List Key3) (g o n cap lb base R rc : Nat) (w : World) [Inhabited (Fin n)] (hb : Box w lb (.slice (some ⟨g, o, none⟩) n cap)) (hP : KsIn w (some ⟨g, o, none⟩) L) (hl : L.length = n) (h1 : lb ≠ R) (h2 : g ≠ R) (hn : n < 1000000)
    (hrow : w.ownsRow base 3 1 (.slice (some ⟨R, 0, none⟩) n rc) n ((rangeF n).toList.map encI)) :
    Calls Tryz.prog 66 #[.slice (some ⟨R, 0, none⟩) n rc, .func (.func 67) #[] #[.pointer (some ⟨lb, 0, none⟩)]] w fun e w' => e = .returned (.tuple #[]) ∧ ∃ d : Array (Fin n), w'.ownsRow base 3 1 (.slice (some ⟨R, 0, none⟩) n rc) n (d.toList.map encI) ∧ StabOk L n d ∧ Fr0 (fun k => k = R) w w' := by
  have eg : ∀ args w, (callFunc 67 args).run Tryz.prog w = .ok (.enter 67 args) w := enters_of Tryz.func67 (by kernel_rfl) rfl
  have hRl := (hrow.lt R rfl).2
  have hsz : (rangeF n).size = n := by simp [rangeF]
  have hH : Holds encI w R 0 (rangeF n) := fun j hj => by
    have hc := hrow.cells (g := R) rfl j (encI (rangeF n)[j]) (by rw [List.getElem?_map, Array.getElem?_toList, Array.getElem?_eq_getElem hj]; rfl)
    refine ⟨?_, row_frozen hrow _⟩
    rw [Nat.zero_add, getElem!_pos _ j hj]
    unfold Addr.add at hc
    split at hc
    · next h0 => subst h0; exact hc
    · simpa using hc
  have hI := stable_s encI (cfI L) (fun i : Fin n => i.val) (cmpOk_I L n) 67 #[.pointer (some ⟨lb, 0, none⟩)] R 0 rc (rangeF n) w eg (by rw [hsz]; exact laysI L g o n cap lb R w hb hP hl h1 h2) ⟨fun _ => rfl, hH, hRl⟩ (by rw [hsz]; exact hn) (by rw [hsz]; exact rk_range n)
  rw [hsz] at hI
  have HT := Lib.hid hI
  have Hrow := Lib.hid hrow
  clear hI hH hrow hRl eg hb hP hl
  go_enter Tryz.func66, Tryz.ntmps66
  go_wp2_with fail
  refine HT.out.mono ?_
  rintro e w1 ⟨rfl, d, hsw, hp, ha⟩
  have HSW := Lib.hid hsw
  have HP := Lib.hid hp
  have HA := Lib.hid ha
  clear hsw hp ha
  go_wp2
  go_end0
  obtain ⟨m, os, hw⟩ := HSW.out
  rw [hw]
  unfold sortWorld
  exact ⟨rfl, d, row_putI Hrow.out (HP.out.1.trans hsz), ⟨HP.out.1.trans hsz, HP.out, HA.out⟩, fr_putI.to0⟩
set_option maxRecDepth 100000 in
set_option maxHeartbeats 4000000 in
theorem Order_some (L : List Key3) (g o n cap : Nat) (w : World) [Inhabited (Fin n)] (hP : KsIn w (some ⟨g, o, none⟩) L) (hl : L.length = n) (h0 : 0 < n) (hn : n < 1000000) :
    Calls Tryz.prog 29 #[.slice (some ⟨g, o, none⟩) n cap] w fun e w' => ∃ R rc, ∃ d : Array (Fin n), e = .returned (.slice (some ⟨R, 0, none⟩) n rc) ∧ w'.ownsRow w.heap.size 3 1 (.slice (some ⟨R, 0, none⟩) n rc) n (d.toList.map encI) ∧ StabOk L n d ∧ Fr0 none' w w' := by
  have HP := Lib.hid hP
  have Hl := Lib.hid hl
  have hgw : g < w.heap.size := by
    obtain ⟨g', o', e, hc⟩ := hP.at (i := 0) (by omega)
    injection e with e
    injection e with e
    subst e
    exact World.block_lt_of_cell? _ _ hc.1
  have hmk := make_intsK n (by omega) (w.alloc (.cells #[.slice (some ⟨g, o, none⟩) n cap] 49))
  clear hP hl
  go_enter Tryz.func29, Tryz.ntmps29
  go_wp2_with fail
  clear hmk
  obtain ⟨W1, hW1⟩ : ∃ W1, (w.alloc (.cells #[.slice (some ⟨g, o, none⟩) n cap] 49)).alloc (.cells (Array.replicate n (.int .i64 0)) 3) = W1 := ⟨_, rfl⟩
  have hR : (w.alloc (.cells #[.slice (some ⟨g, o, none⟩) n cap] 49)).heap.size = w.heap.size + 1 := by simp
  rw [hW1]
  have hF1 : Fr0 none' w W1 := by rw [← hW1]; exact ((Fr0.refl _ _).alloc _).alloc _
  have hB1 : Box W1 w.heap.size (.slice (some ⟨g, o, none⟩) n cap) := by rw [← hW1]; exact (Box.new w _ _).alloc _
  have hO1 : W1.ownsRow w.heap.size 3 1 (.slice (some ⟨w.heap.size + 1, 0, none⟩) n n) n (List.replicate n (.int .i64 0)) := by
    rw [← hW1]
    refine ⟨by simp, .inr ⟨w.heap.size + 1, n, Array.replicate n (.int .i64 0), rfl, by omega, ?_, Nat.le_refl _, by unfold maxLen; omega, by simp, by simp⟩⟩
    have := World.alloc_heap_new (w.alloc (.cells #[.slice (some ⟨g, o, none⟩) n cap] 49)) (.cells (Array.replicate n (.int .i64 0)) 3)
    rw [hR] at this
    exact this
  have hP1 := HP.out.later hF1
  have HF1 := Lib.hid hF1
  have HB1 := Lib.hid hB1
  have HO1 := Lib.hid hO1
  have HP1 := Lib.hid hP1
  obtain ⟨lb, hlb⟩ : ∃ lb, w.heap.size = lb := ⟨_, rfl⟩
  rw [hlb] at HB1 HO1 hgw ⊢
  have Hlb := Lib.hid hlb
  clear hW1 hR hF1 hB1 hO1 hP1 hlb HP
  go_loopw [4, 10] (fun _ i wr => ∃ (k : Nat) (xs : List Value), i = .int .i64 k ∧ k ≤ n ∧ Hid (xs.length = n ∧ xs.take k = ((rangeF n).toList.map encI).take k) ∧ Hid (wr.ownsRow lb 3 1 (.slice (some ⟨lb + 1, 0, none⟩) n n) n xs) ∧ Hid (Fr0 (fun b => b = lb + 1) W1 wr)) (fun _ i _ => n - (Go.RowKit.intOf i).toNat)
  case atStart => exact ⟨0, _, rfl, Nat.zero_le _, ⟨by simp, by simp⟩, HO1.out, Fr0.refl _ _⟩
  case round =>
    obtain ⟨k, xs, rfl, hk, hxs, hr, hf⟩ := hrel
    by_cases hlt : k < n
    · have d0 : decide ((k : Int) < (n : Int)) = true := decide_eq_true (by omega)
      have e5 : IntKind.i64.wrap ((k : Int) + 1) = (k : Int) + 1 := IntWalk.i64_in _ (by omega)
      have b1 : (0 : Int) ≤ (k : Int) := by omega
      have b2 : (k : Int) < (n : Int) := by omega
      obtain ⟨y, hy⟩ : ∃ y, xs[k]? = some y := ⟨_, List.getElem?_eq_getElem (by rw [hxs.out.1]; exact hlt)⟩
      have y0 : wr.cell? ⟨lb + 1, k, none⟩ = some y := by
        have hc := hr.out.cells (g := lb + 1) rfl k y hy
        unfold Addr.add at hc
        split at hc
        · next h0 => subst h0; exact hc
        · simpa using hc
      have y1 := row_frozen hr.out k
      go_wp2
      refine ⟨⟨k + 1, xs.set k (.int .i64 (k : Int)), by simp, by omega, ⟨by rw [List.length_set]; exact hxs.out.1, range_head n k hlt xs hxs.out.1 hxs.out.2⟩, row_set1 hr.out hlt, hf.out.setCell (fun _ => rfl) _⟩, ?_⟩
      simp only [Go.RowKit.intOf]
      omega
    · have d0 : decide ((k : Int) < (n : Int)) = false := decide_eq_false (by omega)
      have hkn : k = n := by omega
      subst hkn
      have hxe : xs = (rangeF k).toList.map encI := by
        have := hxs.out.2
        rw [List.take_of_length_le (by rw [hxs.out.1]; exact Nat.le_refl _), List.take_of_length_le (by simp [rangeF])] at this
        exact this
      have hb2 : Box wr lb (.slice (some ⟨g, o, none⟩) k cap) := HB1.out.fr0 hf.out (by omega)
      have hP2 := HP1.out.fr0 hf.out (fun g' o' s e => by injection e with e; injection e with e; subst e; omega)
      rw [hxe] at hr
      have HS := Lib.hid (stable_any L g o k cap lb lb (lb + 1) k wr hb2 hP2 Hl.out (by omega) (by omega) hn hr.out)
      clear hb2 hP2 hxe hxs
      go_wp2_with fail
      refine HS.out.mono ?_
      rintro e w2 ⟨rfl, d, hr2, hok, hf2⟩
      have Hr2 := Lib.hid hr2
      have Hok := Lib.hid hok
      have Hf2 := Lib.hid hf2
      clear hr2 hf2 hok
      go_wp2
      go_ret
      exact ⟨lb + 1, k, d, rfl, by rw [Hlb.out]; exact Hr2.out, Hok.out, (HF1.out.trans' hf.out (fun b hb h => by rw [Hlb.out] at hb; omega)).trans' Hf2.out (fun b hb h => by rw [Hlb.out] at hb; omega)⟩
end Go.Proofs.YtpklgpdlkdlbbaaGreatDoor

/-
  key.Order: any list, an empty one too.
-/
namespace Go.Proofs.YtpklgpdlkdlbbaaGreatDoor
open Go Go.RowKit Go.Sort
attribute [local go_sem ↓] Go.wp_at_zero Go.wp_at_succ
attribute [local go_sem] Oper.semAt_some wide_fn wide_depth wide_fnR wide_depthR

/-- The order of indexes: by their keys, those of one key in their own order. -/
def befI (L : List Key3) (i j : Nat) : Prop := cmpK (kat L i) (kat L j) < 0 ∨ (cmpK (kat L i) (kat L j) = 0 ∧ i < j)
structure OrdOk (L : List Key3) (o : List Nat) : Prop where
  len : o.length = L.length
  lt : ∀ i ∈ o, i < L.length
  all : ∀ i, i < L.length → i ∈ o
  nd : o.Nodup
  asc : o.Pairwise (befI L)
theorem extract_whole {α : Type} (d : Array α) (n : Nat) (h : d.size = n) : d.extract 0 n = d := by subst h; exact Array.extract_size
theorem ordOk_of {L : List Key3} {n : Nat} [Inhabited (Fin n)] {d : Array (Fin n)} (hl : L.length = n) (h : StabOk L n d) : OrdOk L (d.toList.map (fun i => i.val)) := by
  obtain ⟨hs, hp, ha⟩ := h
  have hperm : d.toList.Perm (rangeF n).toList := by
    have := hp.2.2
    have e1 : d.extract 0 n = d := extract_whole d n hs
    have e2 : (rangeF n).extract 0 n = rangeF n := extract_whole _ n (by simp [rangeF])
    rw [e1, e2] at this
    exact this
  have hmem : ∀ i : Fin n, i ∈ d.toList := fun i => hperm.mem_iff.2 (by
    have : (rangeF n).toList[i.val]? = some i := by rw [Array.getElem?_toList]; simp [rangeF]
    exact List.mem_of_getElem? this)
  have hasc : (d.toList.map (fun i => i.val)).Pairwise (befI L) := by
    rw [List.pairwise_map, List.pairwise_iff_getElem]
    intro i j hi hj hij
    have h1 := ha i j (Nat.zero_le _) hij (by simpa [hs] using hj)
    have gi : d[i]! = d.toList[i] := by rw [getElem!_pos d i (by simpa using hi)]; simp
    have gj : d[j]! = d.toList[j] := by rw [getElem!_pos d j (by simpa using hj)]; simp
    rw [gi, gj, CmpOk.lt_iff] at h1
    exact h1
  have hnd : (d.toList.map (fun i => i.val)).Nodup := by
    rw [List.nodup_iff_pairwise_ne]
    refine hasc.imp (fun {a b} h e => ?_)
    subst e
    rcases h with h | h
    · rw [cmpK_refl] at h; omega
    · omega
  exact ⟨by rw [List.length_map, Array.length_toList, hs, hl], fun i hi => by
    obtain ⟨x, _, rfl⟩ := List.mem_map.1 hi
    rw [hl]; exact x.isLt, fun i hi => List.mem_map.2 ⟨⟨i, by rw [← hl]; exact hi⟩, hmem _, rfl⟩, hnd, hasc⟩
set_option maxRecDepth 100000 in
set_option maxHeartbeats 4000000 in
theorem stable_zero (p : Option Addr) (cap : Nat) (fv : Value) (w : World) :
    Calls Tryz.prog 66 #[.slice p 0 cap, fv] w fun e w' => e = .returned (.tuple #[]) ∧ w' = w := by
  have HI := Lib.hid (fun W => Tryz.insertionSortCmpFunc_none (α := Nat) p cap fv W)
  have HT : Calls Tryz.prog 94 #[.slice p 0 cap, .int .i64 0, fv] w fun e w' => e = .returned (.tuple #[]) ∧ w' = w := by
    go_enter Tryz.func94, Tryz.ntmps94
    go_wp2_with fail
    refine wp_loop_rounds 1 ?_
    rw [rounds_succ]
    go_wp2_with fail
    refine (HI.out _).mono ?_
    rintro e w1 ⟨rfl, rfl⟩
    go_wp2_with fail
    refine wp_loop_rounds 1 ?_
    rw [rounds_succ]
    go_wp2_with fail
    go_end0
    exact ⟨rfl, rfl⟩
  have HT := Lib.hid HT
  go_enter Tryz.func66, Tryz.ntmps66
  go_wp2_with fail
  refine HT.out.mono ?_
  rintro e w1 ⟨rfl, rfl⟩
  go_wp2
  go_end0
  exact ⟨rfl, rfl⟩
set_option maxRecDepth 100000 in
set_option maxHeartbeats 4000000 in
theorem Order_zero (a : Option Addr) (cap : Nat) (w : World) :
    Calls Tryz.prog 29 #[.slice a 0 cap] w fun e w' => ∃ R rc, e = .returned (.slice (some ⟨R, 0, none⟩) 0 rc) ∧ w'.ownsRow w.heap.size 3 1 (.slice (some ⟨R, 0, none⟩) 0 rc) 0 [] ∧ Fr0 none' w w' := by
  obtain ⟨W0, hW0⟩ : ∃ W0, w.alloc (.cells #[.slice a 0 cap] 49) = W0 := ⟨_, rfl⟩
  have f0 : Fr0 none' w W0 := by rw [← hW0]; exact (Fr0.refl _ _).alloc _
  have hmk : (Go.Instr.makeSlice 39 (.int .i64 0) (.int .i64 0)).run Tryz.prog W0 = .ok (.slice (some ⟨W0.heap.size, 0, none⟩) 0 0) (W0.alloc (.cells #[] 3)) := make_intsK 0 (by omega) W0
  obtain ⟨W1, hW1⟩ : ∃ W1, W0.alloc (.cells #[] 3) = W1 := ⟨_, rfl⟩
  have f1 := Lib.hid (show Fr0 none' w W1 by rw [← hW1]; exact f0.alloc _)
  have hrow := World.ownsRow_made (e := 3) (size := 1) W0 #[] 0 (Nat.le_refl _) (Nat.zero_le _) (by simp)
  rw [hW1] at hrow hmk
  have Hrow := Lib.hid (ownsRow_k_mono hrow f0.size)
  have y0 : W0.cell? ⟨w.heap.size, 0, none⟩ = some (.slice a 0 cap) := by rw [← hW0]; exact (Box.new w _ _).cell
  clear hrow f0 hW1
  go_enter Tryz.func29, Tryz.ntmps29
  go_wp2_with fail
  clear hmk
  refine wp_loop_rounds 1 ?_
  rw [rounds_succ]
  go_wp2_with fail
  refine (stable_zero _ _ _ _).mono ?_
  rintro e w1 ⟨rfl, rfl⟩
  go_wp2_with fail
  go_ret
  exact ⟨_, _, rfl, Hrow.out, f1.out⟩
/-- key.Order: any list. -/
theorem Order_any (L : List Key3) (a : Option Addr) (n cap : Nat) (w : World) (hP : KsIn w a L) (hl : L.length = n) (hn : n < 1000000) :
    Calls Tryz.prog 29 #[.slice a n cap] w fun e w' => ∃ R rc o, e = .returned (.slice (some ⟨R, 0, none⟩) n rc) ∧ w'.ownsRow w.heap.size 3 1 (.slice (some ⟨R, 0, none⟩) n rc) n (o.map fun i : Nat => Value.int .i64 (i : Int)) ∧ OrdOk L o ∧ Fr0 none' w w' := by
  by_cases h0 : n = 0
  · subst h0
    refine (Order_zero a cap w).mono ?_
    rintro e w' ⟨R, rc, rfl, hr, hf⟩
    have hL : L = [] := List.eq_nil_of_length_eq_zero hl
    subst hL
    exact ⟨R, rc, [], rfl, hr, ⟨rfl, fun i h => by simp at h, fun i h => by simp at h, List.nodup_nil, List.Pairwise.nil⟩, hf⟩
  · obtain ⟨g, o, rfl, _⟩ := hP.at (i := 0) (by omega)
    haveI : Inhabited (Fin n) := ⟨⟨0, by omega⟩⟩
    refine (Order_some L g o n cap w hP hl (by omega) hn).mono ?_
    rintro e w' ⟨R, rc, d, rfl, hr, hok, hf⟩
    refine ⟨R, rc, d.toList.map (fun i => i.val), rfl, ?_, ordOk_of hl hok, hf⟩
    rw [List.map_map]
    exact hr
end Go.Proofs.YtpklgpdlkdlbbaaGreatDoor

/-
  The place of a key in the order: the number of those that come before it (plain).
-/
namespace Go.Proofs.YtpklgpdlkdlbbaaGreatDoor
open Go Go.RowKit

/-- The key at k comes before the key at i. -/
def befB (K : List Key3) (i k : Nat) : Bool := decide (cmpK (kat K k) (kat K i) < 0) || (decide (cmpK (kat K k) (kat K i) = 0) && decide (k < i))
theorem befB_iff (K : List Key3) (i k : Nat) : befB K i k = true ↔ befI K k i := by
  unfold befB befI
  simp
/-- How many of the first j come before the key at i. -/
def rankTo (K : List Key3) (i j : Nat) : Nat := (List.range j).countP (befB K i)
theorem rankTo_zero (K : List Key3) (i : Nat) : rankTo K i 0 = 0 := rfl
theorem rankTo_succ (K : List Key3) (i j : Nat) : rankTo K i (j + 1) = rankTo K i j + (if befB K i j = true then 1 else 0) := by
  unfold rankTo
  rw [List.range_succ, List.countP_append, List.countP_cons, List.countP_nil]
  simp
theorem rankTo_le (K : List Key3) (i j : Nat) : rankTo K i j ≤ j := by
  unfold rankTo
  have := List.countP_le_length (p := befB K i) (l := List.range j)
  simpa using this
theorem befI_asym {K : List Key3} {i k : Nat} (h : befI K k i) : ¬ befI K i k := by
  unfold befI at *
  have := cmpK_anti (kat K k) (kat K i)
  omega
theorem befI_irr (K : List Key3) (i : Nat) : ¬ befI K i i := fun h => befI_asym h h
theorem ord_perm {K : List Key3} {o : List Nat} (h : OrdOk K o) : (List.range K.length).Perm o :=
  (List.perm_ext_iff_of_nodup List.nodup_range h.nd).2 (fun a => by
    rw [List.mem_range]
    exact ⟨h.all a, h.lt a⟩)
theorem rank_at {K : List Key3} {o : List Nat} (h : OrdOk K o) {r i : Nat} (hr : o[r]? = some i) : rankTo K i K.length = r := by
  unfold rankTo
  rw [(ord_perm h).countP_eq]
  have hlt := (List.getElem?_eq_some_iff.1 hr).1
  have hget := (List.getElem?_eq_some_iff.1 hr).2
  have hpw := List.pairwise_iff_getElem.1 h.asc
  rw [← List.take_append_drop r o, List.countP_append]
  have h1 : (o.take r).countP (befB K i) = r := by
    have : (o.take r).countP (befB K i) = (o.take r).length := List.countP_eq_length.2 (fun a ha => by
      obtain ⟨t, ht, e⟩ := List.getElem_of_mem ha
      rw [List.length_take] at ht
      rw [List.getElem_take] at e
      have := hpw t r (by omega) hlt (by omega)
      rw [e, hget] at this
      exact (befB_iff K i a).2 this)
    rw [this, List.length_take]
    omega
  have h2 : (o.drop r).countP (befB K i) = 0 := List.countP_eq_zero.2 (fun a ha hb => by
    obtain ⟨t, ht, e⟩ := List.getElem_of_mem ha
    rw [List.length_drop] at ht
    rw [List.getElem_drop] at e
    have hb := (befB_iff K i a).1 hb
    by_cases h0 : t = 0
    · subst h0
      have e2 : a = i := by rw [← e, ← hget]; simp
      rw [e2] at hb
      exact befI_irr K i hb
    · have := hpw r (r + t) hlt (by omega) (by omega)
      rw [e, hget] at this
      exact befI_asym this hb)
  rw [h1, h2, Nat.add_zero]
/-- The row of places, part of the way: the numbers below j stand at their places. -/
def Placed (o : List Nat) (j : Nat) (Z : List Value) : Prop := Z.length = o.length ∧ ∀ r i : Nat, o[r]? = some i → i < j → Z[r]? = some (.int .i64 (i : Int))
theorem placed_zero {o : List Nat} {Z : List Value} (h : Z.length = o.length) : Placed o 0 Z := ⟨h, fun r i _ h => by omega⟩
theorem placed_set {K : List Key3} {o : List Nat} {j : Nat} {Z : List Value} (h : OrdOk K o) (hZ : Placed o j Z) (hj : j < K.length) : Placed o (j + 1) (Z.set (rankTo K j K.length) (.int .i64 (j : Int))) := ⟨by rw [List.length_set]; exact hZ.1, fun r i hr hi => by
  by_cases e : i = j
  · subst e
    rw [rank_at h hr, List.getElem?_set_self (by rw [hZ.1]; exact (List.getElem?_eq_some_iff.1 hr).1)]
  · have hne : rankTo K j K.length ≠ r := fun e2 => by
      obtain ⟨t, ht, e3⟩ := List.getElem_of_mem (h.all j hj)
      have h1 := rank_at h (show o[t]? = some j by rw [List.getElem?_eq_getElem ht, e3])
      rw [h1] at e2
      subst e2
      rw [List.getElem?_eq_getElem ht, e3] at hr
      injection hr with hr
      exact e hr.symm
    rw [List.getElem?_set_ne hne]
    exact hZ.2 r i hr (by omega)⟩
theorem rank_lt {K : List Key3} {o : List Nat} {j : Nat} (h : OrdOk K o) (hj : j < K.length) : rankTo K j K.length < K.length := by
  obtain ⟨t, ht, e3⟩ := List.getElem_of_mem (h.all j hj)
  rw [rank_at h (show o[t]? = some j by rw [List.getElem?_eq_getElem ht, e3]), ← h.len]
  exact ht
theorem placed_end {K : List Key3} {o : List Nat} {Z : List Value} (h : OrdOk K o) (hZ : Placed o K.length Z) : Z = o.map fun i : Nat => Value.int .i64 (i : Int) := by
  apply List.ext_getElem?
  intro r
  rw [List.getElem?_map]
  by_cases hr : r < o.length
  · rw [List.getElem?_eq_getElem hr, hZ.2 r o[r] (List.getElem?_eq_getElem hr) (h.lt _ (List.getElem_mem hr))]
    rfl
  · rw [List.getElem?_eq_none (by rw [hZ.1]; omega), List.getElem?_eq_none (by omega)]
    rfl
end Go.Proofs.YtpklgpdlkdlbbaaGreatDoor

/-
  The reference's Order.
-/
namespace Go.Proofs.YtpklgpdlkdlbbaaGreatDoor
open Go Go.RowKit
attribute [local go_sem ↓] Go.wp_at_zero Go.wp_at_succ
attribute [local go_sem] Oper.semAt_some wide_fn wide_depth wide_fnR wide_depthR
attribute [local go_sem high] run_neq_k run_eql_k

set_option maxRecDepth 100000 in
set_option maxHeartbeats 8000000 in
theorem rOrder_any (L : List Key3) (o : List Nat) (a : Option Addr) (n cap : Nat) (w : World) (hO : OrdOk L o) (hP : KsIn w a L) (hl : L.length = n) (hn : n < 1000000) :
    Calls Tryz.prog 59 #[.slice a n cap] w fun e w' => ∃ R rc, e = .returned (.slice (some ⟨R, 0, none⟩) n rc) ∧ w'.ownsRow w.heap.size 3 1 (.slice (some ⟨R, 0, none⟩) n rc) n (o.map fun i : Nat => Value.int .i64 (i : Int)) ∧ Fr0 none' w w' := by
  have HP := Lib.hid hP
  have HOk := Lib.hid hO
  have Hl := Lib.hid hl
  have hmk := make_intsK n (by omega) w
  clear hP hl hO
  go_enter Tryz.func59, Tryz.ntmps59
  go_wp2_with fail
  clear hmk
  obtain ⟨W1, hW1⟩ : ∃ W, w.alloc (.cells (Array.replicate n (.int .i64 0)) 3) = W := ⟨_, rfl⟩
  have hO1 : W1.ownsRow w.heap.size 3 1 (.slice (some ⟨w.heap.size, 0, none⟩) n n) n (List.replicate n (.int .i64 0)) := by
    rw [← hW1]
    exact ⟨by simp, .inr ⟨w.heap.size, n, Array.replicate n (.int .i64 0), rfl, by omega, World.alloc_heap_new w _, Nat.le_refl _, by unfold maxLen; omega, by simp, by simp⟩⟩
  have HO := Lib.hid hO1
  have HF1 := Lib.hid (show Fr0 none' w W1 by rw [← hW1]; exact (Fr0.refl _ _).alloc _)
  rw [hW1]
  clear hW1 hO1
  obtain ⟨R, hR⟩ : ∃ R, w.heap.size = R := ⟨_, rfl⟩
  rw [hR] at HO ⊢
  have HR := Lib.hid hR
  clear hR
  go_loopw [4, 5, 6] (fun c _ _ wr => ∃ (i : Nat) (Z : List Value), c = .int .i64 i ∧ i ≤ n ∧ Hid (wr.ownsRow R 3 1 (.slice (some ⟨R, 0, none⟩) n n) n Z) ∧ Hid (Placed o i Z) ∧ Hid (Fr0 none' w wr)) (fun c _ _ _ => n - (Go.RowKit.intOf c).toNat)
  case atStart => exact ⟨0, _, rfl, Nat.zero_le _, HO.out, placed_zero (by rw [List.length_replicate, HOk.out.len, Hl.out]), HF1.out⟩
  case round =>
    obtain ⟨i, Z, rfl, hi, hz, hpl, hf⟩ := hrel
    by_cases hlt : i < n
    · have d0 : decide ((i : Int) < (n : Int)) = true := decide_eq_true (by omega)
      have b1 : (0 : Int) ≤ (i : Int) := by omega
      have b2 : (i : Int) < (n : Int) := by omega
      obtain ⟨g, og, rfl, hx⟩ := HP.out.at (i := i) (by rw [Hl.out]; exact hlt)
      obtain ⟨ki, hki⟩ : ∃ k, kat L i = k := ⟨_, rfl⟩
      rw [hki] at hx
      have Hxi := Lib.hid hx
      have Hki := Lib.hid hki
      have Hlt := Lib.hid hlt
      have Hrk := Lib.hid (rankTo_zero L i)
      clear hx hki
      go_wp2_with fail
      go_loopw [5, 6] (fun v c wr2 => ∃ k : Nat, v = .int .i64 (rankTo L i k : Nat) ∧ c = .int .i64 k ∧ k ≤ n ∧ Hid (Fr0 none' wr wr2)) (fun _ c _ => n - (Go.RowKit.intOf c).toNat)
      case atStart => exact ⟨0, rfl, rfl, Nat.zero_le _, Fr0.refl _ _⟩
      case round =>
        obtain ⟨k, rfl, rfl, hk, hf2⟩ := hrel
        by_cases hlt2 : k < n
        · have d0 : decide ((k : Int) < (n : Int)) = true := decide_eq_true (by omega)
          have e5 : IntKind.i64.wrap ((k : Int) + 1) = (k : Int) + 1 := IntWalk.i64_in _ (by omega)
          have c1 : (0 : Int) ≤ (k : Int) := by omega
          have c2 : (k : Int) < (n : Int) := by omega
          obtain ⟨g', og', e', hx⟩ := HP.out.at (i := k) (by rw [Hl.out]; exact hlt2)
          cases e'
          obtain ⟨kk, hkk⟩ : ∃ x, kat L k = x := ⟨_, rfl⟩
          rw [hkk] at hx
          have FW := Lib.hid (hf.out.trans hf2.out)
          have HXk := Lib.hid (hx.later FW.out)
          have HXi := Lib.hid (Hxi.out.later FW.out)
          have HLs := Lib.hid (rLess_any kk ki)
          simp only [keyV] at HLs
          have Hkk := Lib.hid hkk
          have Hlt2 := Lib.hid hlt2
          have hrs := rankTo_succ L i k
          have hrl := rankTo_le L i k
          unfold befB at hrs
          rw [Hki.out, hkk] at hrs
          have Hrs := Lib.hid hrs
          obtain ⟨r, hr⟩ : ∃ r, rankTo L i k = r := ⟨_, rfl⟩
          rw [hr] at Hrs hrl ⊢
          have e6 : IntKind.i64.wrap ((r : Int) + 1) = (r : Int) + 1 := IntWalk.i64_in _ (by omega)
          clear hx hkk hrs hr
          go_wp2_with fail
          by_cases h1 : cmpK kk ki < 0
          · have hr1 : rankTo L i (k + 1) = r + 1 := by have h := Hrs.out; rw [decide_eq_true h1] at h; exact h
            have Hr1 := Lib.hid hr1
            rw [decide_eq_true h1] at HLs
            clear h1 hr1
            refine wp_region_held_drew (S := fun W' => Fr0 none' wr W') (by kernel_rfl) ((Fr0.refl none' wr).drew) (fun hHeld => ?_)
            refine take_on (i := 0) (v := .slice (some ⟨g, og, none⟩) n cap) rfl (by kernel_rfl) (by kernel_rfl) (by kernel_rfl) (fun _ _ _ h => h) (by kernel_rfl) (fun W' hSW => ?_) (by assumption) ?_
            · clear hSW
              first | (go_simp; done) | exact rfl | (go_simp; rfl) | (go_simp; omega)
            try simp only [Act.put, List.setIfInBounds_toArray, List.set_cons_zero, List.set_cons_succ]
            refine take_on (i := 1) (v := .int .i64 (k : Int)) rfl (by kernel_rfl) (by kernel_rfl) (by kernel_rfl) (fun _ _ _ h => h) (by kernel_rfl) (fun W' hSW => ?_) (by assumption) ?_
            · clear hSW
              first | (go_simp; done) | exact rfl | (go_simp; rfl) | (go_simp; omega)
            try simp only [Act.put, List.setIfInBounds_toArray, List.set_cons_zero, List.set_cons_succ]
            refine take_on (i := 2) (v := .pointer (some ⟨g, og + k * 3, none⟩)) rfl (by kernel_rfl) (by kernel_rfl) (by kernel_rfl) (fun _ _ _ h => h) (by kernel_rfl) (fun W' hSW => ?_) (by assumption) ?_
            · clear hSW
              first | (go_simp; done) | exact rfl | (go_simp; rfl) | (go_simp; omega)
            try simp only [Act.put, List.setIfInBounds_toArray, List.set_cons_zero, List.set_cons_succ]
            refine take_on (i := 3) (v := .agg #[.int .i64 (kk : Key3).time, .int .i64 (kk : Key3).source, .int .i64 (kk : Key3).seq]) rfl (by kernel_rfl) (by kernel_rfl) (by kernel_rfl) (fun _ _ _ h => h) (by kernel_rfl) (fun W' hSW => ?_) (by assumption) ?_
            · obtain ⟨x0, x1, x2⟩ := HXk.out.later hSW
              clear hSW
              first | (go_simp; done) | exact rfl | (go_simp; rfl) | (go_simp; omega)
            try simp only [Act.put, List.setIfInBounds_toArray, List.set_cons_zero, List.set_cons_succ]
            refine take_on (i := 4) (v := .slice (some ⟨g, og, none⟩) n cap) rfl (by kernel_rfl) (by kernel_rfl) (by kernel_rfl) (fun _ _ _ h => h) (by kernel_rfl) (fun W' hSW => ?_) (by assumption) ?_
            · clear hSW
              first | (go_simp; done) | exact rfl | (go_simp; rfl) | (go_simp; omega)
            try simp only [Act.put, List.setIfInBounds_toArray, List.set_cons_zero, List.set_cons_succ]
            refine take_on (i := 5) (v := .int .i64 (i : Int)) rfl (by kernel_rfl) (by kernel_rfl) (by kernel_rfl) (fun _ _ _ h => h) (by kernel_rfl) (fun W' hSW => ?_) (by assumption) ?_
            · clear hSW
              first | (go_simp; done) | exact rfl | (go_simp; rfl) | (go_simp; omega)
            try simp only [Act.put, List.setIfInBounds_toArray, List.set_cons_zero, List.set_cons_succ]
            refine take_on (i := 6) (v := .pointer (some ⟨g, og + i * 3, none⟩)) rfl (by kernel_rfl) (by kernel_rfl) (by kernel_rfl) (fun _ _ _ h => h) (by kernel_rfl) (fun W' hSW => ?_) (by assumption) ?_
            · clear hSW
              first | (go_simp; done) | exact rfl | (go_simp; rfl) | (go_simp; omega)
            try simp only [Act.put, List.setIfInBounds_toArray, List.set_cons_zero, List.set_cons_succ]
            refine take_on (i := 7) (v := .agg #[.int .i64 (ki : Key3).time, .int .i64 (ki : Key3).source, .int .i64 (ki : Key3).seq]) rfl (by kernel_rfl) (by kernel_rfl) (by kernel_rfl) (fun _ _ _ h => h) (by kernel_rfl) (fun W' hSW => ?_) (by assumption) ?_
            · obtain ⟨x0, x1, x2⟩ := HXi.out.later hSW
              clear hSW
              first | (go_simp; done) | exact rfl | (go_simp; rfl) | (go_simp; omega)
            try simp only [Act.put, List.setIfInBounds_toArray, List.set_cons_zero, List.set_cons_succ]
            refine take_call (i := 8) rfl (by kernel_rfl) (by kernel_rfl) (fun K' hK => ?_)
            go_simp
            refine (HLs.out _).mono ?_
            rintro e W4 ⟨rfl, hf4⟩
            have hS4 := hHeld.trans hf4
            clear hf4 hHeld
            go_wp2_with fail
            refine hK.out _ _ hS4 (fun hHeld => ?_)
            clear hK K' hS4
            have H4 := Lib.hid hHeld
            try simp only [Act.put, List.setIfInBounds_toArray, List.set_cons_zero, List.set_cons_succ]
            refine take_on (i := 9) (v := .bool true) rfl (by kernel_rfl) (by kernel_rfl) (by kernel_rfl) (fun _ _ _ h => h) (by kernel_rfl) (fun W' hSW => ?_) (by assumption) ?_
            · clear hSW
              first | (go_simp; done) | exact rfl | (go_simp; rfl) | (go_simp; omega)
            try simp only [Act.put, List.setIfInBounds_toArray, List.set_cons_zero, List.set_cons_succ]
            refine take_off (i := 10) rfl (by kernel_rfl) (by kernel_rfl) (by kernel_rfl) (fun _ _ _ h => h) (by kernel_rfl) (by assumption) ?_
            try simp only [Act.put, List.setIfInBounds_toArray, List.set_cons_zero, List.set_cons_succ]
            refine take_off (i := 11) rfl (by kernel_rfl) (by kernel_rfl) (by kernel_rfl) (fun _ _ _ h => h) (by kernel_rfl) (by assumption) ?_
            try simp only [Act.put, List.setIfInBounds_toArray, List.set_cons_zero, List.set_cons_succ]
            refine take_off (i := 12) rfl (by kernel_rfl) (by kernel_rfl) (by kernel_rfl) (fun _ _ _ h => h) (by kernel_rfl) (by assumption) ?_
            try simp only [Act.put, List.setIfInBounds_toArray, List.set_cons_zero, List.set_cons_succ]
            refine take_off (i := 13) rfl (by kernel_rfl) (by kernel_rfl) (by kernel_rfl) (fun _ _ _ h => h) (by kernel_rfl) (by assumption) ?_
            try simp only [Act.put, List.setIfInBounds_toArray, List.set_cons_zero, List.set_cons_succ]
            refine take_off (i := 14) rfl (by kernel_rfl) (by kernel_rfl) (by kernel_rfl) (fun _ _ _ h => h) (by kernel_rfl) (by assumption) ?_
            try simp only [Act.put, List.setIfInBounds_toArray, List.set_cons_zero, List.set_cons_succ]
            refine take_off (i := 15) rfl (by kernel_rfl) (by kernel_rfl) (by kernel_rfl) (fun _ _ _ h => h) (by kernel_rfl) (by assumption) ?_
            try simp only [Act.put, List.setIfInBounds_toArray, List.set_cons_zero, List.set_cons_succ]
            refine take_off (i := 16) rfl (by kernel_rfl) (by kernel_rfl) (by kernel_rfl) (fun _ _ _ h => h) (by kernel_rfl) (by assumption) ?_
            try simp only [Act.put, List.setIfInBounds_toArray, List.set_cons_zero, List.set_cons_succ]
            refine take_off (i := 17) rfl (by kernel_rfl) (by kernel_rfl) (by kernel_rfl) (fun _ _ _ h => h) (by kernel_rfl) (by assumption) ?_
            try simp only [Act.put, List.setIfInBounds_toArray, List.set_cons_zero, List.set_cons_succ]
            refine take_off (i := 18) rfl (by kernel_rfl) (by kernel_rfl) (by kernel_rfl) (fun _ _ _ h => h) (by kernel_rfl) (by assumption) ?_
            try simp only [Act.put, List.setIfInBounds_toArray, List.set_cons_zero, List.set_cons_succ]
            refine take_off (i := 19) rfl (by kernel_rfl) (by kernel_rfl) (by kernel_rfl) (fun _ _ _ h => h) (by kernel_rfl) (by assumption) ?_
            try simp only [Act.put, List.setIfInBounds_toArray, List.set_cons_zero, List.set_cons_succ]
            refine take_off (i := 20) rfl (by kernel_rfl) (by kernel_rfl) (by kernel_rfl) (fun _ _ _ h => h) (by kernel_rfl) (by assumption) ?_
            try simp only [Act.put, List.setIfInBounds_toArray, List.set_cons_zero, List.set_cons_succ]
            refine take_off (i := 21) rfl (by kernel_rfl) (by kernel_rfl) (by kernel_rfl) (fun _ _ _ h => h) (by kernel_rfl) (by assumption) ?_
            try simp only [Act.put, List.setIfInBounds_toArray, List.set_cons_zero, List.set_cons_succ]
            refine take_off (i := 22) rfl (by kernel_rfl) (by kernel_rfl) (by kernel_rfl) (fun _ _ _ h => h) (by kernel_rfl) (by assumption) ?_
            try simp only [Act.put, List.setIfInBounds_toArray, List.set_cons_zero, List.set_cons_succ]
            refine take_off (i := 23) rfl (by kernel_rfl) (by kernel_rfl) (by kernel_rfl) (fun _ _ _ h => h) (by kernel_rfl) (by assumption) ?_
            try simp only [Act.put, List.setIfInBounds_toArray, List.set_cons_zero, List.set_cons_succ]
            refine take_on (i := 24) (v := .bool true) rfl (by kernel_rfl) (by kernel_rfl) (by kernel_rfl) (fun _ _ _ h => h) (by kernel_rfl) (fun W' hSW => ?_) (by assumption) ?_
            · clear hSW
              first | (go_simp; done) | exact rfl | (go_simp; rfl) | (go_simp; omega)
            try simp only [Act.put, List.setIfInBounds_toArray, List.set_cons_zero, List.set_cons_succ]
            refine wpAnyH_done (by kernel_rfl) ?_ _
            have F4 := Lib.hid (hf2.out.trans H4.out)
            clear hHeld
            go_wp2_with fail
            exact ⟨⟨k + 1, by rw [Hr1.out]; simp, by simp, by have := Hlt2.out; omega, F4.out⟩, by simp [Go.RowKit.intOf]; have := Hlt2.out; omega⟩
          · by_cases h2 : cmpK kk ki = 0
            · have he := (cmpK_eq kk ki).1 h2
              have HLt := Lib.hid (show decide (cmpK kk ki < 0) = false from decide_eq_false h1)
              rw [HLt.out] at HLs
              have HD := Lib.hid (show sameK ⟨kk.time, kk.source, kk.seq⟩ ⟨ki.time, ki.source, ki.seq⟩ = true from by rw [he]; exact sameK_self ki)
              obtain ⟨D, hD⟩ : ∃ D, decide (k < i) = D := ⟨_, rfl⟩
              have hD2 : decide ((k : Int) < (i : Int)) = D := by rw [← hD]; exact decide_eq_decide.2 (by omega)
              have hr1 : rankTo L i (k + 1) = r + (if D = true then 1 else 0) := by
                have h := Hrs.out
                rw [HLt.out, decide_eq_true h2, hD] at h
                simpa using h
              have Hr1 := Lib.hid hr1
              have HD2 := Lib.hid hD2
              have HD1 := Lib.hid hD
              clear h1 h2 hr1 he hD hD2
              refine wp_region_held_drew (S := fun W' => Fr0 none' wr W') (by kernel_rfl) ((Fr0.refl none' wr).drew) (fun hHeld => ?_)
              refine take_on (i := 0) (v := .slice (some ⟨g, og, none⟩) n cap) rfl (by kernel_rfl) (by kernel_rfl) (by kernel_rfl) (fun _ _ _ h => h) (by kernel_rfl) (fun W' hSW => ?_) (by assumption) ?_
              · clear hSW
                first | (go_simp; done) | exact rfl | (go_simp; rfl) | (go_simp; omega)
              try simp only [Act.put, List.setIfInBounds_toArray, List.set_cons_zero, List.set_cons_succ]
              refine take_on (i := 1) (v := .int .i64 (k : Int)) rfl (by kernel_rfl) (by kernel_rfl) (by kernel_rfl) (fun _ _ _ h => h) (by kernel_rfl) (fun W' hSW => ?_) (by assumption) ?_
              · clear hSW
                first | (go_simp; done) | exact rfl | (go_simp; rfl) | (go_simp; omega)
              try simp only [Act.put, List.setIfInBounds_toArray, List.set_cons_zero, List.set_cons_succ]
              refine take_on (i := 2) (v := .pointer (some ⟨g, og + k * 3, none⟩)) rfl (by kernel_rfl) (by kernel_rfl) (by kernel_rfl) (fun _ _ _ h => h) (by kernel_rfl) (fun W' hSW => ?_) (by assumption) ?_
              · clear hSW
                first | (go_simp; done) | exact rfl | (go_simp; rfl) | (go_simp; omega)
              try simp only [Act.put, List.setIfInBounds_toArray, List.set_cons_zero, List.set_cons_succ]
              refine take_on (i := 3) (v := .agg #[.int .i64 (kk : Key3).time, .int .i64 (kk : Key3).source, .int .i64 (kk : Key3).seq]) rfl (by kernel_rfl) (by kernel_rfl) (by kernel_rfl) (fun _ _ _ h => h) (by kernel_rfl) (fun W' hSW => ?_) (by assumption) ?_
              · obtain ⟨x0, x1, x2⟩ := HXk.out.later hSW
                clear hSW
                first | (go_simp; done) | exact rfl | (go_simp; rfl) | (go_simp; omega)
              try simp only [Act.put, List.setIfInBounds_toArray, List.set_cons_zero, List.set_cons_succ]
              refine take_on (i := 4) (v := .slice (some ⟨g, og, none⟩) n cap) rfl (by kernel_rfl) (by kernel_rfl) (by kernel_rfl) (fun _ _ _ h => h) (by kernel_rfl) (fun W' hSW => ?_) (by assumption) ?_
              · clear hSW
                first | (go_simp; done) | exact rfl | (go_simp; rfl) | (go_simp; omega)
              try simp only [Act.put, List.setIfInBounds_toArray, List.set_cons_zero, List.set_cons_succ]
              refine take_on (i := 5) (v := .int .i64 (i : Int)) rfl (by kernel_rfl) (by kernel_rfl) (by kernel_rfl) (fun _ _ _ h => h) (by kernel_rfl) (fun W' hSW => ?_) (by assumption) ?_
              · clear hSW
                first | (go_simp; done) | exact rfl | (go_simp; rfl) | (go_simp; omega)
              try simp only [Act.put, List.setIfInBounds_toArray, List.set_cons_zero, List.set_cons_succ]
              refine take_on (i := 6) (v := .pointer (some ⟨g, og + i * 3, none⟩)) rfl (by kernel_rfl) (by kernel_rfl) (by kernel_rfl) (fun _ _ _ h => h) (by kernel_rfl) (fun W' hSW => ?_) (by assumption) ?_
              · clear hSW
                first | (go_simp; done) | exact rfl | (go_simp; rfl) | (go_simp; omega)
              try simp only [Act.put, List.setIfInBounds_toArray, List.set_cons_zero, List.set_cons_succ]
              refine take_on (i := 7) (v := .agg #[.int .i64 (ki : Key3).time, .int .i64 (ki : Key3).source, .int .i64 (ki : Key3).seq]) rfl (by kernel_rfl) (by kernel_rfl) (by kernel_rfl) (fun _ _ _ h => h) (by kernel_rfl) (fun W' hSW => ?_) (by assumption) ?_
              · obtain ⟨x0, x1, x2⟩ := HXi.out.later hSW
                clear hSW
                first | (go_simp; done) | exact rfl | (go_simp; rfl) | (go_simp; omega)
              try simp only [Act.put, List.setIfInBounds_toArray, List.set_cons_zero, List.set_cons_succ]
              refine take_call (i := 8) rfl (by kernel_rfl) (by kernel_rfl) (fun K' hK => ?_)
              go_simp
              refine (HLs.out _).mono ?_
              rintro e W4 ⟨rfl, hf4⟩
              have hS4 := hHeld.trans hf4
              clear hf4 hHeld
              go_wp2_with fail
              refine hK.out _ _ hS4 (fun hHeld => ?_)
              clear hK K' hS4
              have H4 := Lib.hid hHeld
              try simp only [Act.put, List.setIfInBounds_toArray, List.set_cons_zero, List.set_cons_succ]
              refine take_on (i := 9) (v := .bool false) rfl (by kernel_rfl) (by kernel_rfl) (by kernel_rfl) (fun _ _ _ h => h) (by kernel_rfl) (fun W' hSW => ?_) (by assumption) ?_
              · clear hSW
                first | (go_simp; done) | exact rfl | (go_simp; rfl) | (go_simp; omega)
              try simp only [Act.put, List.setIfInBounds_toArray, List.set_cons_zero, List.set_cons_succ]
              refine take_on (i := 10) (v := .slice (some ⟨g, og, none⟩) n cap) rfl (by kernel_rfl) (by kernel_rfl) (by kernel_rfl) (fun _ _ _ h => h) (by kernel_rfl) (fun W' hSW => ?_) (by assumption) ?_
              · clear hSW
                first | (go_simp; done) | exact rfl | (go_simp; rfl) | (go_simp; omega)
              try simp only [Act.put, List.setIfInBounds_toArray, List.set_cons_zero, List.set_cons_succ]
              refine take_on (i := 11) (v := .int .i64 (k : Int)) rfl (by kernel_rfl) (by kernel_rfl) (by kernel_rfl) (fun _ _ _ h => h) (by kernel_rfl) (fun W' hSW => ?_) (by assumption) ?_
              · clear hSW
                first | (go_simp; done) | exact rfl | (go_simp; rfl) | (go_simp; omega)
              try simp only [Act.put, List.setIfInBounds_toArray, List.set_cons_zero, List.set_cons_succ]
              refine take_on (i := 12) (v := .pointer (some ⟨g, og + k * 3, none⟩)) rfl (by kernel_rfl) (by kernel_rfl) (by kernel_rfl) (fun _ _ _ h => h) (by kernel_rfl) (fun W' hSW => ?_) (by assumption) ?_
              · clear hSW
                first | (go_simp; done) | exact rfl | (go_simp; rfl) | (go_simp; omega)
              try simp only [Act.put, List.setIfInBounds_toArray, List.set_cons_zero, List.set_cons_succ]
              refine take_on (i := 13) (v := .agg #[.int .i64 (kk : Key3).time, .int .i64 (kk : Key3).source, .int .i64 (kk : Key3).seq]) rfl (by kernel_rfl) (by kernel_rfl) (by kernel_rfl) (fun _ _ _ h => h) (by kernel_rfl) (fun W' hSW => ?_) (by assumption) ?_
              · obtain ⟨x0, x1, x2⟩ := HXk.out.later hSW
                clear hSW
                first | (go_simp; done) | exact rfl | (go_simp; rfl) | (go_simp; omega)
              try simp only [Act.put, List.setIfInBounds_toArray, List.set_cons_zero, List.set_cons_succ]
              refine take_on (i := 14) (v := .slice (some ⟨g, og, none⟩) n cap) rfl (by kernel_rfl) (by kernel_rfl) (by kernel_rfl) (fun _ _ _ h => h) (by kernel_rfl) (fun W' hSW => ?_) (by assumption) ?_
              · clear hSW
                first | (go_simp; done) | exact rfl | (go_simp; rfl) | (go_simp; omega)
              try simp only [Act.put, List.setIfInBounds_toArray, List.set_cons_zero, List.set_cons_succ]
              refine take_on (i := 15) (v := .int .i64 (i : Int)) rfl (by kernel_rfl) (by kernel_rfl) (by kernel_rfl) (fun _ _ _ h => h) (by kernel_rfl) (fun W' hSW => ?_) (by assumption) ?_
              · clear hSW
                first | (go_simp; done) | exact rfl | (go_simp; rfl) | (go_simp; omega)
              try simp only [Act.put, List.setIfInBounds_toArray, List.set_cons_zero, List.set_cons_succ]
              refine take_on (i := 16) (v := .pointer (some ⟨g, og + i * 3, none⟩)) rfl (by kernel_rfl) (by kernel_rfl) (by kernel_rfl) (fun _ _ _ h => h) (by kernel_rfl) (fun W' hSW => ?_) (by assumption) ?_
              · clear hSW
                first | (go_simp; done) | exact rfl | (go_simp; rfl) | (go_simp; omega)
              try simp only [Act.put, List.setIfInBounds_toArray, List.set_cons_zero, List.set_cons_succ]
              refine take_on (i := 17) (v := .agg #[.int .i64 (ki : Key3).time, .int .i64 (ki : Key3).source, .int .i64 (ki : Key3).seq]) rfl (by kernel_rfl) (by kernel_rfl) (by kernel_rfl) (fun _ _ _ h => h) (by kernel_rfl) (fun W' hSW => ?_) (by assumption) ?_
              · obtain ⟨x0, x1, x2⟩ := HXi.out.later hSW
                clear hSW
                first | (go_simp; done) | exact rfl | (go_simp; rfl) | (go_simp; omega)
              try simp only [Act.put, List.setIfInBounds_toArray, List.set_cons_zero, List.set_cons_succ]
              have d7 := HD.out
              refine take_on (i := 18) (v := .bool true) rfl (by kernel_rfl) (by kernel_rfl) (by kernel_rfl) (fun _ _ _ h => h) (by kernel_rfl) (fun W' hSW => ?_) (by assumption) ?_
              · clear hSW
                first | (go_simp; done) | exact rfl | (go_simp; rfl) | (go_simp; omega)
              try simp only [Act.put, List.setIfInBounds_toArray, List.set_cons_zero, List.set_cons_succ]
              clear d7
              refine take_on (i := 19) (v := .bool true) rfl (by kernel_rfl) (by kernel_rfl) (by kernel_rfl) (fun _ _ _ h => h) (by kernel_rfl) (fun W' hSW => ?_) (by assumption) ?_
              · clear hSW
                first | (go_simp; done) | exact rfl | (go_simp; rfl) | (go_simp; omega)
              try simp only [Act.put, List.setIfInBounds_toArray, List.set_cons_zero, List.set_cons_succ]
              refine take_on (i := 20) (v := .int .i64 (k : Int)) rfl (by kernel_rfl) (by kernel_rfl) (by kernel_rfl) (fun _ _ _ h => h) (by kernel_rfl) (fun W' hSW => ?_) (by assumption) ?_
              · clear hSW
                first | (go_simp; done) | exact rfl | (go_simp; rfl) | (go_simp; omega)
              try simp only [Act.put, List.setIfInBounds_toArray, List.set_cons_zero, List.set_cons_succ]
              refine take_on (i := 21) (v := .int .i64 (i : Int)) rfl (by kernel_rfl) (by kernel_rfl) (by kernel_rfl) (fun _ _ _ h => h) (by kernel_rfl) (fun W' hSW => ?_) (by assumption) ?_
              · clear hSW
                first | (go_simp; done) | exact rfl | (go_simp; rfl) | (go_simp; omega)
              try simp only [Act.put, List.setIfInBounds_toArray, List.set_cons_zero, List.set_cons_succ]
              have d7 := HD2.out
              have d8 := HD1.out
              refine take_on (i := 22) (v := .bool D) rfl (by kernel_rfl) (by kernel_rfl) (by kernel_rfl) (fun _ _ _ h => h) (by kernel_rfl) (fun W' hSW => ?_) (by assumption) ?_
              · clear hSW
                first | (go_simp; done) | exact rfl | (go_simp; rfl) | (go_simp; omega)
              try simp only [Act.put, List.setIfInBounds_toArray, List.set_cons_zero, List.set_cons_succ]
              clear d7 d8
              refine take_on (i := 23) (v := .bool D) rfl (by kernel_rfl) (by kernel_rfl) (by kernel_rfl) (fun _ _ _ h => h) (by kernel_rfl) (fun W' hSW => ?_) (by assumption) ?_
              · clear hSW
                first | (go_simp; done) | exact rfl | (go_simp; rfl) | (go_simp; omega)
              try simp only [Act.put, List.setIfInBounds_toArray, List.set_cons_zero, List.set_cons_succ]
              refine take_on (i := 24) (v := .bool D) rfl (by kernel_rfl) (by kernel_rfl) (by kernel_rfl) (fun _ _ _ h => h) (by kernel_rfl) (fun W' hSW => ?_) (by assumption) ?_
              · clear hSW
                first | (go_simp; done) | exact rfl | (go_simp; rfl) | (go_simp; omega)
              try simp only [Act.put, List.setIfInBounds_toArray, List.set_cons_zero, List.set_cons_succ]
              refine wpAnyH_done (by kernel_rfl) ?_ _
              have F4 := Lib.hid (hf2.out.trans H4.out)
              clear hHeld
              cases D
              · have Hr2 := Lib.hid (show rankTo L i (k + 1) = r from Hr1.out)
                go_wp2_with fail
                exact ⟨⟨k + 1, by rw [Hr2.out], by simp, by have := Hlt2.out; omega, F4.out⟩, by simp [Go.RowKit.intOf]; have := Hlt2.out; omega⟩
              · have Hr2 := Lib.hid (show rankTo L i (k + 1) = r + 1 from Hr1.out)
                go_wp2_with fail
                exact ⟨⟨k + 1, by rw [Hr2.out]; simp, by simp, by have := Hlt2.out; omega, F4.out⟩, by simp [Go.RowKit.intOf]; have := Hlt2.out; omega⟩
            · have HD := Lib.hid (show sameK ⟨kk.time, kk.source, kk.seq⟩ ⟨ki.time, ki.source, ki.seq⟩ = false from sameK_ne (fun e => h2 ((cmpK_eq kk ki).2 e)))
              have hr1 : rankTo L i (k + 1) = r := by
                have h := Hrs.out
                rw [decide_eq_false h1, decide_eq_false h2] at h
                simpa using h
              have Hr1 := Lib.hid hr1
              rw [decide_eq_false h1] at HLs
              clear h1 h2 hr1
              refine wp_region_held_drew (S := fun W' => Fr0 none' wr W') (by kernel_rfl) ((Fr0.refl none' wr).drew) (fun hHeld => ?_)
              refine take_on (i := 0) (v := .slice (some ⟨g, og, none⟩) n cap) rfl (by kernel_rfl) (by kernel_rfl) (by kernel_rfl) (fun _ _ _ h => h) (by kernel_rfl) (fun W' hSW => ?_) (by assumption) ?_
              · clear hSW
                first | (go_simp; done) | exact rfl | (go_simp; rfl) | (go_simp; omega)
              try simp only [Act.put, List.setIfInBounds_toArray, List.set_cons_zero, List.set_cons_succ]
              refine take_on (i := 1) (v := .int .i64 (k : Int)) rfl (by kernel_rfl) (by kernel_rfl) (by kernel_rfl) (fun _ _ _ h => h) (by kernel_rfl) (fun W' hSW => ?_) (by assumption) ?_
              · clear hSW
                first | (go_simp; done) | exact rfl | (go_simp; rfl) | (go_simp; omega)
              try simp only [Act.put, List.setIfInBounds_toArray, List.set_cons_zero, List.set_cons_succ]
              refine take_on (i := 2) (v := .pointer (some ⟨g, og + k * 3, none⟩)) rfl (by kernel_rfl) (by kernel_rfl) (by kernel_rfl) (fun _ _ _ h => h) (by kernel_rfl) (fun W' hSW => ?_) (by assumption) ?_
              · clear hSW
                first | (go_simp; done) | exact rfl | (go_simp; rfl) | (go_simp; omega)
              try simp only [Act.put, List.setIfInBounds_toArray, List.set_cons_zero, List.set_cons_succ]
              refine take_on (i := 3) (v := .agg #[.int .i64 (kk : Key3).time, .int .i64 (kk : Key3).source, .int .i64 (kk : Key3).seq]) rfl (by kernel_rfl) (by kernel_rfl) (by kernel_rfl) (fun _ _ _ h => h) (by kernel_rfl) (fun W' hSW => ?_) (by assumption) ?_
              · obtain ⟨x0, x1, x2⟩ := HXk.out.later hSW
                clear hSW
                first | (go_simp; done) | exact rfl | (go_simp; rfl) | (go_simp; omega)
              try simp only [Act.put, List.setIfInBounds_toArray, List.set_cons_zero, List.set_cons_succ]
              refine take_on (i := 4) (v := .slice (some ⟨g, og, none⟩) n cap) rfl (by kernel_rfl) (by kernel_rfl) (by kernel_rfl) (fun _ _ _ h => h) (by kernel_rfl) (fun W' hSW => ?_) (by assumption) ?_
              · clear hSW
                first | (go_simp; done) | exact rfl | (go_simp; rfl) | (go_simp; omega)
              try simp only [Act.put, List.setIfInBounds_toArray, List.set_cons_zero, List.set_cons_succ]
              refine take_on (i := 5) (v := .int .i64 (i : Int)) rfl (by kernel_rfl) (by kernel_rfl) (by kernel_rfl) (fun _ _ _ h => h) (by kernel_rfl) (fun W' hSW => ?_) (by assumption) ?_
              · clear hSW
                first | (go_simp; done) | exact rfl | (go_simp; rfl) | (go_simp; omega)
              try simp only [Act.put, List.setIfInBounds_toArray, List.set_cons_zero, List.set_cons_succ]
              refine take_on (i := 6) (v := .pointer (some ⟨g, og + i * 3, none⟩)) rfl (by kernel_rfl) (by kernel_rfl) (by kernel_rfl) (fun _ _ _ h => h) (by kernel_rfl) (fun W' hSW => ?_) (by assumption) ?_
              · clear hSW
                first | (go_simp; done) | exact rfl | (go_simp; rfl) | (go_simp; omega)
              try simp only [Act.put, List.setIfInBounds_toArray, List.set_cons_zero, List.set_cons_succ]
              refine take_on (i := 7) (v := .agg #[.int .i64 (ki : Key3).time, .int .i64 (ki : Key3).source, .int .i64 (ki : Key3).seq]) rfl (by kernel_rfl) (by kernel_rfl) (by kernel_rfl) (fun _ _ _ h => h) (by kernel_rfl) (fun W' hSW => ?_) (by assumption) ?_
              · obtain ⟨x0, x1, x2⟩ := HXi.out.later hSW
                clear hSW
                first | (go_simp; done) | exact rfl | (go_simp; rfl) | (go_simp; omega)
              try simp only [Act.put, List.setIfInBounds_toArray, List.set_cons_zero, List.set_cons_succ]
              refine take_call (i := 8) rfl (by kernel_rfl) (by kernel_rfl) (fun K' hK => ?_)
              go_simp
              refine (HLs.out _).mono ?_
              rintro e W4 ⟨rfl, hf4⟩
              have hS4 := hHeld.trans hf4
              clear hf4 hHeld
              go_wp2_with fail
              refine hK.out _ _ hS4 (fun hHeld => ?_)
              clear hK K' hS4
              have H4 := Lib.hid hHeld
              try simp only [Act.put, List.setIfInBounds_toArray, List.set_cons_zero, List.set_cons_succ]
              refine take_on (i := 9) (v := .bool false) rfl (by kernel_rfl) (by kernel_rfl) (by kernel_rfl) (fun _ _ _ h => h) (by kernel_rfl) (fun W' hSW => ?_) (by assumption) ?_
              · clear hSW
                first | (go_simp; done) | exact rfl | (go_simp; rfl) | (go_simp; omega)
              try simp only [Act.put, List.setIfInBounds_toArray, List.set_cons_zero, List.set_cons_succ]
              refine take_on (i := 10) (v := .slice (some ⟨g, og, none⟩) n cap) rfl (by kernel_rfl) (by kernel_rfl) (by kernel_rfl) (fun _ _ _ h => h) (by kernel_rfl) (fun W' hSW => ?_) (by assumption) ?_
              · clear hSW
                first | (go_simp; done) | exact rfl | (go_simp; rfl) | (go_simp; omega)
              try simp only [Act.put, List.setIfInBounds_toArray, List.set_cons_zero, List.set_cons_succ]
              refine take_on (i := 11) (v := .int .i64 (k : Int)) rfl (by kernel_rfl) (by kernel_rfl) (by kernel_rfl) (fun _ _ _ h => h) (by kernel_rfl) (fun W' hSW => ?_) (by assumption) ?_
              · clear hSW
                first | (go_simp; done) | exact rfl | (go_simp; rfl) | (go_simp; omega)
              try simp only [Act.put, List.setIfInBounds_toArray, List.set_cons_zero, List.set_cons_succ]
              refine take_on (i := 12) (v := .pointer (some ⟨g, og + k * 3, none⟩)) rfl (by kernel_rfl) (by kernel_rfl) (by kernel_rfl) (fun _ _ _ h => h) (by kernel_rfl) (fun W' hSW => ?_) (by assumption) ?_
              · clear hSW
                first | (go_simp; done) | exact rfl | (go_simp; rfl) | (go_simp; omega)
              try simp only [Act.put, List.setIfInBounds_toArray, List.set_cons_zero, List.set_cons_succ]
              refine take_on (i := 13) (v := .agg #[.int .i64 (kk : Key3).time, .int .i64 (kk : Key3).source, .int .i64 (kk : Key3).seq]) rfl (by kernel_rfl) (by kernel_rfl) (by kernel_rfl) (fun _ _ _ h => h) (by kernel_rfl) (fun W' hSW => ?_) (by assumption) ?_
              · obtain ⟨x0, x1, x2⟩ := HXk.out.later hSW
                clear hSW
                first | (go_simp; done) | exact rfl | (go_simp; rfl) | (go_simp; omega)
              try simp only [Act.put, List.setIfInBounds_toArray, List.set_cons_zero, List.set_cons_succ]
              refine take_on (i := 14) (v := .slice (some ⟨g, og, none⟩) n cap) rfl (by kernel_rfl) (by kernel_rfl) (by kernel_rfl) (fun _ _ _ h => h) (by kernel_rfl) (fun W' hSW => ?_) (by assumption) ?_
              · clear hSW
                first | (go_simp; done) | exact rfl | (go_simp; rfl) | (go_simp; omega)
              try simp only [Act.put, List.setIfInBounds_toArray, List.set_cons_zero, List.set_cons_succ]
              refine take_on (i := 15) (v := .int .i64 (i : Int)) rfl (by kernel_rfl) (by kernel_rfl) (by kernel_rfl) (fun _ _ _ h => h) (by kernel_rfl) (fun W' hSW => ?_) (by assumption) ?_
              · clear hSW
                first | (go_simp; done) | exact rfl | (go_simp; rfl) | (go_simp; omega)
              try simp only [Act.put, List.setIfInBounds_toArray, List.set_cons_zero, List.set_cons_succ]
              refine take_on (i := 16) (v := .pointer (some ⟨g, og + i * 3, none⟩)) rfl (by kernel_rfl) (by kernel_rfl) (by kernel_rfl) (fun _ _ _ h => h) (by kernel_rfl) (fun W' hSW => ?_) (by assumption) ?_
              · clear hSW
                first | (go_simp; done) | exact rfl | (go_simp; rfl) | (go_simp; omega)
              try simp only [Act.put, List.setIfInBounds_toArray, List.set_cons_zero, List.set_cons_succ]
              refine take_on (i := 17) (v := .agg #[.int .i64 (ki : Key3).time, .int .i64 (ki : Key3).source, .int .i64 (ki : Key3).seq]) rfl (by kernel_rfl) (by kernel_rfl) (by kernel_rfl) (fun _ _ _ h => h) (by kernel_rfl) (fun W' hSW => ?_) (by assumption) ?_
              · obtain ⟨x0, x1, x2⟩ := HXi.out.later hSW
                clear hSW
                first | (go_simp; done) | exact rfl | (go_simp; rfl) | (go_simp; omega)
              try simp only [Act.put, List.setIfInBounds_toArray, List.set_cons_zero, List.set_cons_succ]
              have d7 := HD.out
              refine take_on (i := 18) (v := .bool false) rfl (by kernel_rfl) (by kernel_rfl) (by kernel_rfl) (fun _ _ _ h => h) (by kernel_rfl) (fun W' hSW => ?_) (by assumption) ?_
              · clear hSW
                first | (go_simp; done) | exact rfl | (go_simp; rfl) | (go_simp; omega)
              try simp only [Act.put, List.setIfInBounds_toArray, List.set_cons_zero, List.set_cons_succ]
              clear d7
              refine take_on (i := 19) (v := .bool false) rfl (by kernel_rfl) (by kernel_rfl) (by kernel_rfl) (fun _ _ _ h => h) (by kernel_rfl) (fun W' hSW => ?_) (by assumption) ?_
              · clear hSW
                first | (go_simp; done) | exact rfl | (go_simp; rfl) | (go_simp; omega)
              try simp only [Act.put, List.setIfInBounds_toArray, List.set_cons_zero, List.set_cons_succ]
              refine take_off (i := 20) rfl (by kernel_rfl) (by kernel_rfl) (by kernel_rfl) (fun _ _ _ h => h) (by kernel_rfl) (by assumption) ?_
              try simp only [Act.put, List.setIfInBounds_toArray, List.set_cons_zero, List.set_cons_succ]
              refine take_off (i := 21) rfl (by kernel_rfl) (by kernel_rfl) (by kernel_rfl) (fun _ _ _ h => h) (by kernel_rfl) (by assumption) ?_
              try simp only [Act.put, List.setIfInBounds_toArray, List.set_cons_zero, List.set_cons_succ]
              refine take_off (i := 22) rfl (by kernel_rfl) (by kernel_rfl) (by kernel_rfl) (fun _ _ _ h => h) (by kernel_rfl) (by assumption) ?_
              try simp only [Act.put, List.setIfInBounds_toArray, List.set_cons_zero, List.set_cons_succ]
              refine take_on (i := 23) (v := .bool false) rfl (by kernel_rfl) (by kernel_rfl) (by kernel_rfl) (fun _ _ _ h => h) (by kernel_rfl) (fun W' hSW => ?_) (by assumption) ?_
              · clear hSW
                first | (go_simp; done) | exact rfl | (go_simp; rfl) | (go_simp; omega)
              try simp only [Act.put, List.setIfInBounds_toArray, List.set_cons_zero, List.set_cons_succ]
              refine take_on (i := 24) (v := .bool false) rfl (by kernel_rfl) (by kernel_rfl) (by kernel_rfl) (fun _ _ _ h => h) (by kernel_rfl) (fun W' hSW => ?_) (by assumption) ?_
              · clear hSW
                first | (go_simp; done) | exact rfl | (go_simp; rfl) | (go_simp; omega)
              try simp only [Act.put, List.setIfInBounds_toArray, List.set_cons_zero, List.set_cons_succ]
              refine wpAnyH_done (by kernel_rfl) ?_ _
              have F4 := Lib.hid (hf2.out.trans H4.out)
              clear hHeld
              go_wp2_with fail
              exact ⟨⟨k + 1, by rw [Hr1.out], by simp, by have := Hlt2.out; omega, F4.out⟩, by simp [Go.RowKit.intOf]; have := Hlt2.out; omega⟩
        · obtain rfl : k = n := by omega
          have d0 : decide ((k : Int) < (k : Int)) = false := decide_eq_false (by omega)
          have hrl : rankTo L i k < k := by
            have h := rank_lt HOk.out (j := i) (by rw [Hl.out]; exact Hlt.out)
            rwa [Hl.out] at h
          have FW := Lib.hid (hf.out.trans hf2.out)
          have HZ := Lib.hid (ownsRow_q_fr hz.out hf2.out (fun _ _ h => h))
          have HPl := Lib.hid (placed_set HOk.out hpl.out (j := i) (by rw [Hl.out]; exact Hlt.out))
          have HZl := Lib.hid (show Z.length = k from by rw [hpl.out.1, HOk.out.len, Hl.out])
          rw [Hl.out] at HPl
          obtain ⟨r, hr⟩ : ∃ r, rankTo L i k = r := ⟨_, rfl⟩
          rw [hr] at hrl HPl ⊢
          obtain ⟨y, hy⟩ : ∃ y, Z[r]? = some y := ⟨_, List.getElem?_eq_getElem (by rw [HZl.out]; exact hrl)⟩
          have y0 : wr.cell? ⟨R, r, none⟩ = some y := by
            have hc := HZ.out.cells (g := R) rfl r y hy
            unfold Addr.add at hc
            split at hc
            · next h0 => subst h0; exact hc
            · simpa using hc
          have y1 := row_frozen HZ.out r
          have e5 : IntKind.i64.wrap ((i : Int) + 1) = (i : Int) + 1 := IntWalk.i64_in _ (by have := Hlt.out; omega)
          have c1 : (0 : Int) ≤ (r : Int) := by omega
          have c2 : (r : Int) < (k : Int) := by omega
          have Hrl := Lib.hid hrl
          clear hr hy
          go_wp2_with fail
          exact ⟨⟨i + 1, Z.set r (.int .i64 (i : Int)), by simp, by have := Hlt.out; omega, row_set1 HZ.out Hrl.out, HPl.out, FW.out.setCell (fun h => by rw [HR.out] at h; exact absurd h (Nat.lt_irrefl _)) _⟩, by simp [Go.RowKit.intOf]; have := Hlt.out; omega⟩
    · obtain rfl : i = n := by omega
      have d0 : decide ((i : Int) < (i : Int)) = false := decide_eq_false (by omega)
      have hpe := placed_end HOk.out (by rw [Hl.out]; exact hpl.out)
      have HPe := Lib.hid hpe
      clear hpe
      go_wp2_with fail
      go_ret
      exact ⟨R, i, rfl, by rw [← HPe.out, HR.out]; exact hz.out, hf.out⟩
end Go.Proofs.YtpklgpdlkdlbbaaGreatDoor

/-
  fermatalaw07.Keys; slices.Reverse, slices.Index and slices.Contains at keys.
-/
namespace Go.Proofs.YtpklgpdlkdlbbaaGreatDoor
open Go Go.RowKit
attribute [local go_sem ↓] Go.wp_at_zero Go.wp_at_succ
attribute [local go_sem] Oper.semAt_some wide_fn wide_depth wide_fnR wide_depthR
attribute [local go_sem high] run_neq_k run_eql_k

/-- The three cells of a key in numbers. -/
def NAt (w : World) (g o : Nat) (x : Num3) : Prop := w.cell? ⟨g, o, none⟩ = some (.int .u64 x.t) ∧ w.cell? ⟨g, o + 1, none⟩ = some (.int .u32 x.s) ∧ w.cell? ⟨g, o + 2, none⟩ = some (.int .u32 x.q)
/-- A row of keys in numbers. -/
def NsIn (w : World) (a : Option Addr) (L : List Num3) : Prop := ∀ i x, L[i]? = some x → ∃ g o, a = some ⟨g, o, none⟩ ∧ NAt w g (o + i * 3) x
theorem NAt.later {w w' : World} {g o : Nat} {x : Num3} (h : NAt w g o x) (hf : Fr0 none' w w') : NAt w' g o x := ⟨hf.later h.1, hf.later h.2.1, hf.later h.2.2⟩
theorem NsIn.later {w w' : World} {a : Option Addr} {L : List Num3} (h : NsIn w a L) (hf : Fr0 none' w w') : NsIn w' a L := fun i x hx => by
  obtain ⟨g, o, e, hc⟩ := h i x hx
  exact ⟨g, o, e, hc.later hf⟩
end Go.Proofs.YtpklgpdlkdlbbaaGreatDoor

/-
  slices.Reverse, slices.Index and slices.Contains at keys.
-/
namespace Go.Proofs
open Go.Shelf
end Go.Proofs
namespace Go.Proofs.YtpklgpdlkdlbbaaGreatDoor
open Go Go.RowKit Go.Sort
attribute [local go_sem ↓] Go.wp_at_zero Go.wp_at_succ
attribute [local go_sem] Oper.semAt_some wide_fn wide_depth wide_fnR wide_depthR
attribute [local go_sem high] run_neq_k run_eql_k

end Go.Proofs.YtpklgpdlkdlbbaaGreatDoor

/-
  Two keys made: what is kept; the ground of the laws with two keys.
-/
namespace Go.Proofs.YtpklgpdlkdlbbaaGreatDoor
open Go Go.RowKit
attribute [local go_sem ↓] Go.wp_at_zero Go.wp_at_succ
attribute [local go_sem] Oper.semAt_some wide_fn wide_depth wide_fnR wide_depthR
attribute [local go_sem high] run_neq_k

theorem next_lit0 (k : Key3) (hk : RightK k) (hn : nextK k = none) (w : World) : Calls Tryz.prog 9 #[keyV k] w fun e w' => e = .returned (.tuple #[.agg #[.int .i64 0, .int .i64 0, .int .i64 0], .int .i64 6]) ∧ Fr0 none' w w' := by
  have h := Next_any k w
  rw [if_pos hk, hn] at h
  exact h
theorem back_lit0 (k : Key3) (hk : RightK k) (hn : backK k = none) (w : World) : Calls Tryz.prog 10 #[keyV k] w fun e w' => e = .returned (.tuple #[.agg #[.int .i64 0, .int .i64 0, .int .i64 0], .int .i64 6]) ∧ Fr0 none' w w' := by
  have h := Back_any k w
  rw [if_pos hk, hn] at h
  exact h
def C3 (W : World) (b : Nat) (k : Key3) : Prop := W.cell? ⟨b, 0, none⟩ = some (.int .i64 k.time) ∧ W.cell? ⟨b, 1, none⟩ = some (.int .i64 k.source) ∧ W.cell? ⟨b, 2, none⟩ = some (.int .i64 k.seq)
/-- The cells of a small key. -/
def SmAt (W : World) (b : Nat) (x : Num3) : Prop := W.cell? ⟨b, 0, none⟩ = some (.int .u64 x.t) ∧ W.cell? ⟨b, 1, none⟩ = some (.int .u32 x.s) ∧ W.cell? ⟨b, 2, none⟩ = some (.int .u32 x.q)
theorem SmAt.later {W W' : World} {b : Nat} {x : Num3} (h : SmAt W b x) (hf : Fr0 none' W W') : SmAt W' b x := ⟨hf.later h.1, hf.later h.2.1, hf.later h.2.2⟩
theorem SmAt.of_block {W : World} {b : Nat} {x : Num3} {ty : TypeId} (h : W.heap[b]? = some (.cells #[.int .u64 x.t, .int .u32 x.s, .int .u32 x.q] ty (0, 0))) : SmAt W b x := by
  refine ⟨?_, ?_, ?_⟩ <;> rw [cellsK_at h] <;> rfl
/-- What is kept while two keys are made. -/
structure St2 (x y : Num3) (b : Nat) (w W : World) : Prop where
  sx : SmAt W b x
  sy : SmAt W (b + 1) y
  fr : Fr0 none' w W
  sx0 : SmAt w b x
  sy0 : SmAt w (b + 1) y
theorem St2.later {x y : Num3} {b : Nat} {w W W' : World} (h : St2 x y b w W) (hf : Fr0 none' W W') : St2 x y b w W' := ⟨h.sx.later hf, h.sy.later hf, h.fr.trans hf, h.sx0, h.sy0⟩
theorem St2.both {x y : Num3} {b : Nat} {w W : World} (h : St2 x y b w W) : SmAt W b x ∧ SmAt W (b + 1) y := ⟨h.sx, h.sy⟩
structure NewK (w W : World) (b : Nat) (k : Key3) : Prop where
  key : KeyAt W b k
  ge : w.heap.size ≤ b
theorem NewK.lt {w W : World} {b : Nat} {k : Key3} (h : NewK w W b k) : b < W.heap.size := (Array.getElem?_eq_some_iff.1 h.key).1
theorem NewK.cells {w W : World} {b : Nat} {k : Key3} (h : NewK w W b k) : W.cell? ⟨b, 0, none⟩ = some (.int .i64 k.time) ∧ W.cell? ⟨b, 1, none⟩ = some (.int .i64 k.source) ∧ W.cell? ⟨b, 2, none⟩ = some (.int .i64 k.seq) :=
  ⟨h.key.cell (i := 0) (by omega), h.key.cell (i := 1) (by omega), h.key.cell (i := 2) (by omega)⟩
theorem NewK.frozen {w W : World} {b : Nat} {k : Key3} (h : NewK w W b k) : W.frozen? ⟨b, 0, none⟩ = false ∧ W.frozen? ⟨b, 1, none⟩ = false ∧ W.frozen? ⟨b, 2, none⟩ = false := ⟨h.key.frozen _, h.key.frozen _, h.key.frozen _⟩
theorem NewK.later {w W W' : World} {b : Nat} {k : Key3} (h : NewK w W b k) (hf : Fr0 none' W W') : NewK w W' b k := ⟨h.key.fr0 hf id, h.ge⟩
def put3 (W : World) (b : Nat) (k : Key3) : World := ((W.setCell ⟨b, 0, none⟩ (.int .i64 k.time)).setCell ⟨b, 1, none⟩ (.int .i64 k.source)).setCell ⟨b, 2, none⟩ (.int .i64 k.seq)
theorem NewK.put {w W : World} {b : Nat} {k : Key3} (h : NewK w W b k) (x : Key3) : NewK w (put3 W b x) b x := ⟨((h.key.set0 x.time).set1 x.source).set2 x.seq, h.ge⟩
theorem NewK.other {w W : World} {a b : Nat} {k : Key3} (h : NewK w W a k) (hne : a ≠ b) (x : Key3) : NewK w (put3 W b x) a k := ⟨((h.key.setOther hne _).setOther hne _).setOther hne _, h.ge⟩
theorem St2.put {x y : Num3} {b c : Nat} {w W : World} (h : St2 x y b w W) (hc : w.heap.size ≤ c) (k : Key3) : St2 x y b w (put3 W c k) := by
  have hf : Fr0 none' w (put3 W c k) := ((h.fr.setCell (fun h => absurd h (by omega)) _).setCell (fun h => absurd h (by omega)) _).setCell (fun h => absurd h (by omega)) _
  exact ⟨h.sx0.later hf, h.sy0.later hf, hf, h.sx0, h.sy0⟩
theorem via {P : Program} {c : Code} {K : Act → World → Prop} {Q : Exit → Act → World → Prop} {a : Act} {w : World} (F : Nat → Nat → World → Prop) (d1 d2 s1 s2 s3 s4 : Nat) (v1 v2 v3 v4 : Value)
    (t : ∀ pa pb W, F pa pb W → K ((((((a.put (some s1) v1).put (some s2) v2).put (some s3) v3).put (some s4) v4).put (some d1) (.pointer (some ⟨pa, 0, none⟩))).put (some d2) (.pointer (some ⟨pb, 0, none⟩))) W)
    (h : (∀ pa pb W, F pa pb W → K ((((((a.put (some s1) v1).put (some s2) v2).put (some s3) v3).put (some s4) v4).put (some d1) (.pointer (some ⟨pa, 0, none⟩))).put (some d2) (.pointer (some ⟨pb, 0, none⟩))) W) → c.wp P (Exit.then K Q) a w) : c.wp P (Exit.then K Q) a w := h t
end Go.Proofs.YtpklgpdlkdlbbaaGreatDoor

/-
  KeyFinds.
-/
namespace Go.Proofs.YtpklgpdlkdlbbaaGreatDoor
open Go Go.RowKit
attribute [local go_sem ↓] Go.wp_at_zero Go.wp_at_succ
attribute [local go_sem] Oper.semAt_some wide_fn wide_depth wide_fnR wide_depthR
attribute [local go_sem high] run_neq_k run_eql_k

/-- Sort of an own row. -/
theorem Sort_own {w : World} {base n : Nat} {v : Value} (L : List Key3) (h : w.ownsRow base 28 3 v n (flatKy L)) (hl : L.length = n) (hn : n ≤ 1000) :
    Calls Tryz.prog 26 #[v] w fun e w' => ∃ v', e = .returned v' ∧ w'.ownsRow w.heap.size 28 3 v' (ss L).length (flatKy (ss L)) ∧ Fr0 none' w w' := by
  obtain ⟨a, cap, rfl, hk⟩ := KsAt.of_own h hl
  rcases h.2 with ⟨h0, hz⟩ | ⟨g, cap', cur, h1, _⟩
  · have : L = [] := List.eq_nil_of_length_eq_zero (by rw [hl]; exact hz)
    subst this
    rw [h0]
    refine (Sort_nil w).mono ?_
    rintro e w' ⟨rfl, hf⟩
    rw [show ss [] = [] from by unfold ss sortK; rw [List.mergeSort_nil]; rfl]
    exact ⟨_, rfl, World.ownsRow_nil _ _ _ _, hf⟩
  · cases h1
    exact Sort_some L hk rfl (by omega)
/-- Clone of an own row. -/
theorem Clone_own {w : World} {base n : Nat} {v : Value} (L : List Key3) (h : w.ownsRow base 28 3 v n (flatKy L)) (hl : L.length = n) (hn : n ≤ 1000) :
    Calls Tryz.prog 57 #[v] w fun e w' => ∃ v', e = .returned v' ∧ w'.ownsRow w.heap.size 28 3 v' n (flatKy L) ∧ Fr0 none' w w' := by
  obtain ⟨a, cap, rfl, hk⟩ := KsAt.of_own h hl
  rcases h.2 with ⟨h0, hz⟩ | ⟨g, cap', cur, h1, _⟩
  · have : L = [] := List.eq_nil_of_length_eq_zero (by rw [hl]; exact hz)
    subst this
    subst hz
    rw [h0]
    refine (clone_nil w).mono ?_
    rintro e w' ⟨rfl, rfl⟩
    exact ⟨_, rfl, World.ownsRow_nil _ _ _ _, Fr0.refl _ _⟩
  · cases h1
    refine (Clone_keys L hk hl hn).mono ?_
    rintro e w' ⟨v', rfl, hr, _, hf⟩
    exact ⟨v', rfl, hr, hf⟩
theorem ss_len (l : List Key3) : (ss l).length ≤ l.length := by
  have h1 : (sortK l).length = l.length := List.length_mergeSort _
  rw [← h1]
  exact dd_le (sortK l)
theorem cut_split {L : List Key3} (hL : Inc L) (k : Key3) : ∃ i, i ≤ L.length ∧ (∀ t, t < i → cmpK (kat L t) k < 0) ∧ (∀ t, i ≤ t → t < L.length → 0 ≤ cmpK (kat L t) k) := by
  induction L with
  | nil => exact ⟨0, Nat.le_refl _, fun t h => absurd h (Nat.not_lt_zero _), fun t _ h => absurd h (Nat.not_lt_zero _)⟩
  | cons x r ih =>
    obtain ⟨i, h1, h2, h3⟩ := ih (List.pairwise_cons.1 hL).2
    by_cases hx : cmpK x k < 0
    · refine ⟨i + 1, by simp; omega, fun t ht => ?_, fun t ht1 ht2 => ?_⟩
      · cases t with
        | zero => simpa [kat] using hx
        | succ t => have := h2 t (by omega); simpa [kat] using this
      · cases t with
        | zero => omega
        | succ t => have := h3 t (by omega) (by simp at ht2; omega); simpa [kat] using this
    · refine ⟨0, Nat.zero_le _, fun t h => absurd h (Nat.not_lt_zero _), fun t _ ht2 => ?_⟩
      cases t with
      | zero => simp [kat]; omega
      | succ t =>
        have h4 := inc_step hL (show 0 < t + 1 by omega) ht2
        have e0 : kat (x :: r) 0 = x := by simp [kat]
        rw [e0] at h4
        have a1 := cmpK_anti x (kat (x :: r) (t + 1))
        have a2 := cmpK_anti (kat (x :: r) (t + 1)) k
        have a3 := cmpK_anti x k
        exact Int.not_lt.1 (fun h5 => hx (cmpK_trans _ _ _ h4 h5))
/-- Where a key stands, or would stand. -/
theorem cnt_split {L : List Key3} (hL : Inc L) (k : Key3) : cntK L k ≤ L.length ∧ (∀ t, t < cntK L k → cmpK (kat L t) k < 0) ∧ (∀ t, cntK L k ≤ t → t < L.length → 0 ≤ cmpK (kat L t) k) := by
  obtain ⟨i, h1, h2, h3⟩ := cut_split hL k
  rw [cnt_at h1 h2 h3]
  exact ⟨h1, h2, h3⟩
theorem cnt_self {L : List Key3} (hL : Inc L) {i : Nat} (hi : i < L.length) : cntK L (kat L i) = i :=
  cnt_at (by omega) (fun t ht => inc_step hL ht hi) (fun t h1 h2 => by
    by_cases e : t = i
    · subst e; rw [cmpK_refl]; exact Int.le_refl _
    · have h3 := inc_step hL (show i < t by omega) h2
      have := cmpK_anti (kat L i) (kat L t)
      omega)
theorem twice_not_inc (L : List Key3) (x : Key3) : ¬ Inc (L ++ [x, x]) := fun h => by
  have h1 := (List.pairwise_append.1 h).2.1
  have h2 := (List.pairwise_cons.1 h1).1 x (by simp)
  rw [cmpK_refl] at h2
  omega
theorem rev_inc {L : List Key3} (hL : Inc L) : Inc L.reverse ↔ L.length ≤ 1 := by
  constructor
  · intro h
    match L, hL, h with
    | [], _, _ => simp
    | [x], _, _ => simp
    | x :: y :: r, hL, h =>
      exfalso
      have h1 := (List.pairwise_cons.1 hL).1 y (by simp)
      unfold Inc at h
      rw [List.pairwise_reverse] at h
      have h2 := (List.pairwise_cons.1 h).1 y (by simp)
      have := cmpK_anti x y
      omega
  · intro h
    match L, h with
    | [], _ => exact List.Pairwise.nil
    | [x], _ => exact List.pairwise_singleton _ _
theorem viaT {T : Type} {P : Program} {c : Code} {K : Act → World → Prop} {Q : Exit → Act → World → Prop} {a : Act} {w : World} (F : T → World → Prop) (vs : T → List (Nat × Value))
    (t : ∀ q W, F q W → K ((vs q).foldl (fun a p => a.put (some p.1) p.2) a) W)
    (h : (∀ q W, F q W → K ((vs q).foldl (fun a p => a.put (some p.1) p.2) a) W) → c.wp P (Exit.then K Q) a w) : c.wp P (Exit.then K Q) a w := h t
theorem searchV_inc {L : List Key3} (h : Inc L) (k : Key3) : searchV L k = .tuple #[.int .i64 (cntK L k), .bool (decide (k ∈ L)), .int .i64 0] := by unfold searchV; rw [if_pos h]
theorem searchV_not {L : List Key3} (h : ¬ Inc L) (k : Key3) : searchV L k = .tuple #[.int .i64 0, .bool false, .int .i64 73] := by unfold searchV; rw [if_neg h]
end Go.Proofs.YtpklgpdlkdlbbaaGreatDoor
