/-
  The order of names is an order. Plain Lean.
-/
import Derived.Test.YtnanleopoedgfaaCmp
set_option linter.unusedSimpArgs false
set_option linter.unusedVariables false
namespace Go.Proofs.Ytnanleopoedgfaa
open Go.RowKit

structure IsCmp {α : Type} (f : α → α → Int) : Prop where
  eq : ∀ a b, f a b = 0 ↔ a = b
  anti : ∀ a b, f b a = - f a b
  trans : ∀ a b c, f a b < 0 → f b c < 0 → f a c < 0

theorem bytesLess_irrefl (a : Bs) : Op.bytesLess a a = false := by
  induction a with
  | nil => rfl
  | cons x r ih => simp [Op.bytesLess, ih]
theorem bytesLess_trans : ∀ (a b c : Bs), Op.bytesLess a b = true → Op.bytesLess b c = true → Op.bytesLess a c = true
  | _, [], _, h, _ => by simp [Op.bytesLess] at h
  | _, _ :: _, [], _, h => by simp [Op.bytesLess] at h
  | [], _ :: _, _ :: _, _, _ => by simp [Op.bytesLess]
  | x :: a, y :: b, z :: c, h1, h2 => by
    simp only [Op.bytesLess, Bool.or_eq_true, decide_eq_true_eq, Bool.and_eq_true, beq_iff_eq] at h1 h2 ⊢
    rcases h1 with h1 | ⟨rfl, h1⟩
    · rcases h2 with h2 | ⟨rfl, h2⟩
      · exact .inl (UInt8.lt_trans h1 h2)
      · exact .inl h1
    · rcases h2 with h2 | ⟨rfl, h2⟩
      · exact .inl h2
      · exact .inr ⟨rfl, bytesLess_trans a b c h1 h2⟩
theorem bytesLess_total : ∀ (a b : Bs), a ≠ b → Op.bytesLess a b = false → Op.bytesLess b a = true
  | [], [], h, _ => absurd rfl h
  | [], _ :: _, _, h => by simp [Op.bytesLess] at h
  | _ :: _, [], _, _ => by simp [Op.bytesLess]
  | x :: a, y :: b, hn, h => by
    simp only [Op.bytesLess, Bool.or_eq_false_iff, decide_eq_false_iff_not, Bool.and_eq_false_iff, beq_eq_false_iff_ne] at h
    simp only [Op.bytesLess, Bool.or_eq_true, decide_eq_true_eq, Bool.and_eq_true, beq_iff_eq]
    by_cases hxy : x = y
    · subst hxy
      right
      refine ⟨rfl, bytesLess_total a b (fun e => hn (by rw [e])) ?_⟩
      rcases h.2 with h | h
      · exact absurd rfl h
      · exact h
    · left
      have h1 : x.toNat ≠ y.toNat := fun e => hxy (UInt8.toNat_inj.1 e)
      have h2 := h.1
      rw [UInt8.lt_iff_toNat_lt] at h2 ⊢
      omega
theorem bytesLess_asymm (a b : Bs) (h : Op.bytesLess a b = true) : Op.bytesLess b a = false := by
  rw [Bool.eq_false_iff]
  intro h2
  have := bytesLess_trans a b a h h2
  rw [bytesLess_irrefl] at this; cases this

theorem cmpB_cmp : IsCmp cmpB where
  eq a b := by
    unfold cmpB ltB
    by_cases h : a = b
    · subst h; simp [bytesLess_irrefl]
    · simp only [h, if_false]
      split <;> simp
  anti a b := by
    unfold cmpB ltB
    by_cases h : a = b
    · subst h; simp [bytesLess_irrefl]
    · have h' : ¬ b = a := fun e => h e.symm
      simp only [h, h', if_false]
      cases hl : Op.bytesLess a b with
      | true => simp [bytesLess_asymm a b hl]
      | false => simp [bytesLess_total a b h hl]
  trans a b c h1 h2 := by
    have key : ∀ x y : Bs, cmpB x y < 0 ↔ Op.bytesLess x y = true := fun x y => by
      unfold cmpB ltB
      cases Op.bytesLess x y <;> simp
      split <;> simp
    rw [key] at h1 h2 ⊢
    exact bytesLess_trans _ _ _ h1 h2

theorem cmpL_cmp : IsCmp cmpL where
  eq a b := by
    induction a generalizing b with
    | nil => cases b <;> simp [cmpL]
    | cons x r ih =>
      cases b with
      | nil => simp [cmpL]
      | cons y t =>
        simp only [cmpL, List.cons.injEq]
        by_cases h : cmpB x y = 0
        · rw [if_pos h, ih t]
          simp [(cmpB_cmp.eq x y).1 h]
        · rw [if_neg h]
          exact ⟨fun e => absurd e h, fun e => absurd ((cmpB_cmp.eq x y).2 e.1) h⟩
  anti a b := by
    induction a generalizing b with
    | nil => cases b <;> simp [cmpL]
    | cons x r ih =>
      cases b with
      | nil => simp [cmpL]
      | cons y t =>
        simp only [cmpL]
        have h1 := cmpB_cmp.anti x y
        by_cases h : cmpB x y = 0
        · rw [if_pos h, if_pos (by omega)]; exact ih t
        · rw [if_neg h, if_neg (by omega)]; exact h1
  trans a b c := by
    induction a generalizing b c with
    | nil => cases b <;> cases c <;> simp [cmpL]
    | cons x r ih =>
      cases b with
      | nil => simp [cmpL]
      | cons y t =>
        cases c with
        | nil => simp [cmpL]
        | cons z u =>
          simp only [cmpL]
          intro h1 h2
          by_cases hxy : cmpB x y = 0
          · rw [if_pos hxy] at h1
            obtain rfl := (cmpB_cmp.eq x y).1 hxy
            by_cases hyz : cmpB x z = 0
            · rw [if_pos hyz] at h2 ⊢; exact ih _ _ h1 h2
            · rw [if_neg hyz] at h2 ⊢; exact h2
          · rw [if_neg hxy] at h1
            by_cases hyz : cmpB y z = 0
            · obtain rfl := (cmpB_cmp.eq y z).1 hyz
              rw [if_neg hxy]; exact h1
            · rw [if_neg hyz] at h2
              have := cmpB_cmp.trans _ _ _ h1 h2
              rw [if_neg (by omega)]; exact this

/-- The parts of a string, put together again. -/
def glue : List Bs → Bs
  | [] => []
  | [p] => p
  | p :: r => p ++ 46 :: glue r
theorem glue_cut (l : Bs) : glue (cut l) = l := by
  induction l with
  | nil => rfl
  | cons c r ih =>
    simp only [cut]
    split
    · next h =>
      subst h
      cases hc : cut r with
      | nil => exact absurd hc (cut_ne r)
      | cons p t => rw [hc] at ih; simp only [glue, List.nil_append]; rw [ih]
    · cases hc : cut r with
      | nil => exact absurd hc (cut_ne r)
      | cons p t =>
        rw [hc] at ih
        simp only [List.headD_cons, List.tail_cons]
        cases t with
        | nil => simp only [glue] at ih ⊢; rw [ih]
        | cons q u => simp only [glue, List.cons_append] at ih ⊢; rw [ih]
theorem cut_inj {a b : Bs} (h : cut a = cut b) : a = b := by rw [← glue_cut a, ← glue_cut b, h]

theorem ordN_cmp : IsCmp ordN where
  eq a b := by unfold ordN; rw [cmpL_cmp.eq]; exact ⟨cut_inj, fun h => by rw [h]⟩
  anti a b := cmpL_cmp.anti _ _
  trans a b c := cmpL_cmp.trans _ _ _

theorem IsCmp.refl {α : Type} {f : α → α → Int} (h : IsCmp f) (a : α) : f a a = 0 := (h.eq a a).2 rfl
/-- a ≤ b < c, or a < b ≤ c. -/
theorem IsCmp.lt_of_le {α : Type} {f : α → α → Int} (h : IsCmp f) {a b c : α} (h1 : f a b ≤ 0) (h2 : f b c < 0) : f a c < 0 := by
  by_cases he : f a b = 0
  · rw [(h.eq a b).1 he]; exact h2
  · exact h.trans a b c (by omega) h2
theorem IsCmp.lt_of_lt {α : Type} {f : α → α → Int} (h : IsCmp f) {a b c : α} (h1 : f a b < 0) (h2 : f b c ≤ 0) : f a c < 0 := by
  by_cases he : f b c = 0
  · rw [← (h.eq b c).1 he]; exact h1
  · exact h.trans a b c h1 (by omega)
theorem IsCmp.le_trans {α : Type} {f : α → α → Int} (h : IsCmp f) {a b c : α} (h1 : f a b ≤ 0) (h2 : f b c ≤ 0) : f a c ≤ 0 := by
  by_cases he : f a b = 0
  · rw [(h.eq a b).1 he]; exact h2
  · have := h.lt_of_lt (a := a) (b := b) (c := c) (by omega) h2; omega
/-- In a list that increases step by step each element comes before all later ones. -/
theorem IsCmp.incr {α : Type} {f : α → α → Int} (h : IsCmp f) (g : Nat → α) (n : Nat) (hs : ∀ j, j + 1 < n → f (g j) (g (j + 1)) < 0) : ∀ i j, i < j → j < n → f (g i) (g j) < 0 := by
  intro i j hij hj
  induction j with
  | zero => omega
  | succ j ih =>
    by_cases he : i = j
    · subst he; exact hs i hj
    · exact h.trans _ _ _ (ih (by omega) (by omega)) (hs j hj)

/-- cmpB has three values, and so have the others. -/
theorem cmpB_val (a b : Bs) : cmpB a b = -1 ∨ cmpB a b = 0 ∨ cmpB a b = 1 := by unfold cmpB; split <;> (try split) <;> simp
theorem cmpL_val : ∀ (a b : List Bs), cmpL a b = -1 ∨ cmpL a b = 0 ∨ cmpL a b = 1
  | [], [] => by simp [cmpL]
  | [], _ :: _ => by simp [cmpL]
  | _ :: _, [] => by simp [cmpL]
  | x :: r, y :: t => by simp only [cmpL]; split; exact cmpL_val r t; exact cmpB_val x y
theorem ordN_val (a b : Bs) : ordN a b = -1 ∨ ordN a b = 0 ∨ ordN a b = 1 := cmpL_val _ _
end Go.Proofs.Ytnanleopoedgfaa
