/-
  Keys: what each function of the package does, and what the laws make of it.
-/
import Derived.Test.YtpklgpdlkdlbbaaGreatDoorJa
import Derived.Lib.ItoaNum
import Derived.Lib.ItoaMem
import Derived.Lib.AtoiAll
import Derived.Lib.IndexAny
import Derived.Test.YtpklgpdlkdlbbaaGreatDoorShelf
import Derived.Lib.OwnBridge
import Derived.Deep.RegionLaw
import Derived.Deep.LoopGhost
import Derived.Lib.SliceRun
import Derived.Shelf.RegionOpenPlain
import Derived.Deep.QuietTactic
import Derived.LoopNIn
import Derived.Lib.SmallJoins
import Derived.Lib.ItoaLen
set_option linter.unusedSimpArgs false
set_option linter.unusedVariables false

/-
  Keys, their bytes, their texts; plain Lean.
-/
namespace Go.Proofs.YtpklgpdlkdlbbaaGreatDoor

def RightK (k : Key3) : Prop := 0 ≤ k.time ∧ k.time ≤ 281474976710656 ∧ 0 ≤ k.source ∧ k.source ≤ 16 ∧ 0 ≤ k.seq ∧ k.seq ≤ 4294967295
instance (k : Key3) : Decidable (RightK k) := by unfold RightK; infer_instance

/-! ### Bytes -/
def beB : Nat → Nat → List UInt8
  | 0, _ => []
  | n + 1, x => UInt8.ofNat (x / 256 ^ n % 256) :: beB n x
def numB (l : List UInt8) : Nat := l.foldl (fun a b => a * 256 + b.toNat) 0
def bytesK (k : Key3) : List UInt8 := beB 7 k.time.toNat ++ (beB 1 k.source.toNat ++ beB 4 k.seq.toNat)
def keyB (l : List UInt8) : Key3 := ⟨numB (l.take 7), numB ((l.drop 7).take 1), numB ((l.drop 8).take 4)⟩
theorem beB_length : ∀ n x, (beB n x).length = n
  | 0, _ => rfl
  | n + 1, x => by simp [beB, beB_length n x]
theorem numB_from : ∀ (l : List UInt8) (a : Nat), l.foldl (fun a b => a * 256 + b.toNat) a = a * 256 ^ l.length + numB l
  | [], a => by simp [numB]
  | b :: l, a => by
    have h1 := numB_from l (a * 256 + b.toNat)
    have h2 := numB_from l (0 * 256 + b.toNat)
    unfold numB at h2 ⊢
    simp only [List.foldl_cons] at h1 h2 ⊢
    rw [h1, h2, List.length_cons, Nat.pow_succ, Nat.add_mul]
    unfold numB
    rw [Nat.zero_mul, Nat.zero_add, Nat.mul_assoc, Nat.mul_comm 256 (256 ^ l.length), Nat.add_assoc]
theorem numB_cons (b : UInt8) (l : List UInt8) : numB (b :: l) = b.toNat * 256 ^ l.length + numB l := by
  have := numB_from l b.toNat
  unfold numB at this ⊢
  simpa using this
theorem numB_lt : ∀ l : List UInt8, numB l < 256 ^ l.length
  | [] => by simp [numB]
  | b :: l => by
    have := numB_lt l
    have hb : b.toNat < 256 := b.toNat_lt
    rw [numB_cons, List.length_cons, Nat.pow_succ]
    have : b.toNat * 256 ^ l.length + 256 ^ l.length ≤ 256 ^ l.length * 256 := by
      rw [← Nat.succ_mul, Nat.mul_comm]; exact Nat.mul_le_mul (Nat.le_refl _) (by omega)
    omega
theorem numB_be : ∀ n x, numB (beB n x) = x % 256 ^ n
  | 0, x => by simp [beB, numB, Nat.mod_one]
  | n + 1, x => by
    have hd : (UInt8.ofNat (x / 256 ^ n % 256)).toNat = x / 256 ^ n % 256 := by simp
    rw [beB, numB_cons, beB_length, numB_be n x, hd, Nat.pow_succ, Nat.mod_mul, Nat.mul_comm, Nat.add_comm]
theorem beB_mod : ∀ n x y, x % 256 ^ n = y % 256 ^ n → beB n x = beB n y
  | 0, _, _, _ => rfl
  | n + 1, x, y, h => by
    rw [Nat.pow_succ, Nat.mod_mul, Nat.mod_mul] at h
    have hx : x % 256 ^ n < 256 ^ n := Nat.mod_lt _ (Nat.pos_of_ne_zero (by simp))
    have hy : y % 256 ^ n < 256 ^ n := Nat.mod_lt _ (Nat.pos_of_ne_zero (by simp))
    have e1 : x % 256 ^ n = y % 256 ^ n := by
      have := congrArg (· % 256 ^ n) h
      simp only [Nat.add_mul_mod_self_left, Nat.mod_mod] at this
      exact this
    have e2 : x / 256 ^ n % 256 = y / 256 ^ n % 256 := by
      rw [e1] at h
      have := Nat.add_left_cancel h
      exact Nat.eq_of_mul_eq_mul_left (Nat.pos_of_ne_zero (by simp)) this
    rw [beB, beB, e2, beB_mod n x y e1]
theorem be_numB : ∀ l : List UInt8, beB l.length (numB l) = l
  | [] => rfl
  | b :: l => by
    have h := numB_lt l
    rw [List.length_cons, beB, numB_cons]
    have hp : 0 < 256 ^ l.length := Nat.pos_of_ne_zero (by simp)
    have e1 : (b.toNat * 256 ^ l.length + numB l) / 256 ^ l.length = b.toNat := by
      rw [Nat.add_comm, Nat.add_mul_div_right _ _ hp, Nat.div_eq_of_lt h, Nat.zero_add]
    rw [e1, Nat.mod_eq_of_lt b.toNat_lt]
    have e2 : beB l.length (b.toNat * 256 ^ l.length + numB l) = beB l.length (numB l) := beB_mod _ _ _ (by
      rw [Nat.add_comm, Nat.add_mul_mod_self_right])
    rw [e2, be_numB l]
    simp
theorem bytesK_length (k : Key3) : (bytesK k).length = 12 := by simp [bytesK, beB_length]
theorem keyB_bytesK {k : Key3} (h : RightK k) : keyB (bytesK k) = k := by
  obtain ⟨h1, h2, h3, h4, h5, h6⟩ := h
  have t1 : (bytesK k).take 7 = beB 7 k.time.toNat := by
    unfold bytesK; rw [List.take_append_of_le_length (by simp [beB_length]), List.take_of_length_le (by simp [beB_length])]
  have t2 : ((bytesK k).drop 7).take 1 = beB 1 k.source.toNat := by
    unfold bytesK; rw [List.drop_append_of_le_length (by simp [beB_length]), List.drop_of_length_le (by simp [beB_length]), List.nil_append, List.take_append_of_le_length (by simp [beB_length]), List.take_of_length_le (by simp [beB_length])]
  have t3 : ((bytesK k).drop 8).take 4 = beB 4 k.seq.toNat := by
    have e : (bytesK k).drop 8 = beB 4 k.seq.toNat := by
      unfold bytesK
      rw [← List.append_assoc]
      exact List.drop_left' (by simp [beB_length])
    rw [e, List.take_of_length_le (by simp [beB_length])]
  unfold keyB
  rw [t1, t2, t3, numB_be, numB_be, numB_be]
  obtain ⟨a, b, c⟩ := k
  simp only [Key3.mk.injEq] at *
  omega
theorem bytesK_keyB {l : List UInt8} (h : l.length = 12) : bytesK (keyB l) = l := by
  unfold bytesK keyB
  simp only [Int.toNat_natCast]
  have e1 := be_numB (l.take 7)
  have e2 := be_numB ((l.drop 7).take 1)
  have e3 := be_numB ((l.drop 8).take 4)
  rw [List.length_take, h] at e1
  rw [List.length_take, List.length_drop, h] at e2 e3
  rw [show min 7 12 = 7 from rfl] at e1
  rw [show min 1 (12 - 7) = 1 from rfl] at e2
  rw [show min 4 (12 - 8) = 4 from rfl] at e3
  rw [e1, e2, e3]
  have t3 : (l.drop 8).take 4 = l.drop 8 := List.take_of_length_le (by simp [h])
  rw [t3, show l.drop 8 = (l.drop 7).drop 1 from by rw [List.drop_drop], List.take_append_drop, List.take_append_drop]
theorem keyB_nonneg (l : List UInt8) : 0 ≤ (keyB l).time ∧ 0 ≤ (keyB l).source ∧ 0 ≤ (keyB l).seq := by unfold keyB; simp
/-- The key that bytes tell, where they tell one. -/
def readK (l : List UInt8) : Option Key3 := if l.length = 12 ∧ RightK (keyB l) then some (keyB l) else none
theorem readK_bytes {k : Key3} (h : RightK k) : readK (bytesK k) = some k := by
  unfold readK; rw [keyB_bytesK h, if_pos ⟨bytesK_length k, h⟩]
theorem readK_some {l : List UInt8} {k : Key3} (h : readK l = some k) : RightK k ∧ bytesK k = l := by
  unfold readK at h
  split at h
  · next hc => injection h with h; subst h; exact ⟨hc.2, bytesK_keyB hc.1⟩
  · cases h
theorem readK_iff (l : List UInt8) (k : Key3) : readK l = some k ↔ RightK k ∧ bytesK k = l :=
  ⟨readK_some, fun ⟨h1, h2⟩ => by rw [← h2]; exact readK_bytes h1⟩

/-! ### Texts -/
def decI (x : Int) : List UInt8 := Lib.decDigits x.toNat
def textK (k : Key3) : List UInt8 := decI k.time ++ (64 :: (decI k.source ++ (35 :: decI k.seq)))
def marks : List UInt8 := [64, 35]
/-- Where a number ends in a text. -/
def cutAt : List UInt8 → Nat
  | [] => 0
  | b :: l => if marks.contains b then 0 else cutAt l + 1
theorem cutAt_le : ∀ l, cutAt l ≤ l.length
  | [] => Nat.le_refl _
  | b :: l => by unfold cutAt; split <;> simp; exact cutAt_le l
theorem cutAt_any : ∀ l : List UInt8, Lib.indexAny l marks = if cutAt l < l.length then (cutAt l : Int) else -1
  | [] => rfl
  | b :: l => by
    have ih := cutAt_any l
    have hl := cutAt_le l
    by_cases hb : marks.contains b = true
    · rw [Lib.indexAny, if_pos hb, cutAt, if_pos hb]; simp
    · rw [Lib.indexAny, if_neg hb, cutAt, if_neg hb, ih]
      simp only [List.length_cons]
      by_cases hc : cutAt l < l.length
      · have e1 : cutAt l + 1 < l.length + 1 := by omega
        simp only [hc, e1, if_true]
        rw [if_neg (by rw [beq_iff_eq]; omega)]
        omega
      · have e1 : ¬ cutAt l + 1 < l.length + 1 := by omega
        simp only [hc, e1, if_false]
        rfl
theorem cutAt_append : ∀ (a : List UInt8) (b : List UInt8), (∀ x ∈ a, marks.contains x = false) → (b = [] ∨ ∃ c r, b = c :: r ∧ marks.contains c = true) → cutAt (a ++ b) = a.length
  | [], b, _, hb => by
    rcases hb with rfl | ⟨c, r, rfl, hc⟩
    · rfl
    · rw [List.nil_append, cutAt, if_pos hc]; rfl
  | x :: a, b, ha, hb => by
    have := cutAt_append a b (fun y hy => ha y (List.mem_cons_of_mem _ hy)) hb
    have hx := ha x List.mem_cons_self
    rw [List.cons_append, cutAt, if_neg (by rw [hx]; simp), this, List.length_cons]
/-- A number of a text behind its mark, and what follows. -/
def pieceOf (mark s : List UInt8) : Option (Int × List UInt8) :=
  if Lib.hasPrefix s mark = false then none else
  match Lib.atoiAll ((Lib.trimPrefix s mark).take (cutAt (Lib.trimPrefix s mark))) with
  | .ok n => if Lib.itoa n = (Lib.trimPrefix s mark).take (cutAt (Lib.trimPrefix s mark)) then some (n, (Lib.trimPrefix s mark).drop (cutAt (Lib.trimPrefix s mark))) else none
  | _ => none
def parseK (s : List UInt8) : Option Key3 :=
  match pieceOf [] s with
  | none => none
  | some (t, s1) => match pieceOf [64] s1 with
    | none => none
    | some (c, s2) => match pieceOf [35] s2 with
      | none => none
      | some (q, s3) => if s3 = [] ∧ RightK ⟨t, c, q⟩ then some ⟨t, c, q⟩ else none
theorem pieceOf_some {mark s : List UInt8} {n : Int} {r : List UInt8} (h : pieceOf mark s = some (n, r)) : s = mark ++ (Lib.itoa n ++ r) := by
  unfold pieceOf at h
  split at h
  · cases h
  · next hp =>
    have hp' : Lib.hasPrefix s mark = true := by simpa using hp
    split at h
    · next v hv =>
      split at h
      · next he =>
        injection h with h
        injection h with h1 h2
        subst h1 h2
        rw [he, List.take_append_drop]
        unfold Lib.hasPrefix at hp'
        have := List.isPrefixOf_iff_prefix.1 hp'
        obtain ⟨t, rfl⟩ := this
        congr 1
        unfold Lib.trimPrefix
        simp [Lib.hasPrefix]
      · cases h
    · cases h
theorem decDigits_mem (u : Nat) : ∀ x ∈ Lib.decDigits u, 48 ≤ x.toNat ∧ x.toNat ≤ 57 := by
  intro x hx
  rw [Lib.decDigits_eq] at hx
  obtain ⟨t, _, rfl⟩ := List.mem_map.1 hx
  unfold Lib.dg
  have : u / 10 ^ (Lib.nDigits u - 1 - t) % 10 < 10 := Nat.mod_lt _ (by decide)
  simp
  omega
theorem decDigits_ne (u : Nat) : Lib.decDigits u ≠ [] := fun h => by
  have := Lib.decDigits_length u
  have := Lib.nDigits_pos u
  rw [h] at *; simp at *; omega
theorem parse_snoc : ∀ (l : List UInt8) (acc v : Nat) (c : UInt8), Lib.parseUint10 acc l = .ok v → 48 ≤ c.toNat ∧ c.toNat ≤ 57 → v * 10 + (c.toNat - 48) < 18446744073709551616 → Lib.parseUint10 acc (l ++ [c]) = .ok (v * 10 + (c.toNat - 48))
  | [], acc, v, c, h, hc, hb => by
    simp only [Lib.parseUint10] at h
    injection h with h
    subst h
    simp only [List.nil_append, Lib.parseUint10]
    rw [if_pos hc, if_neg (by omega), if_neg (by omega)]
  | x :: l, acc, v, c, h, hc, hb => by
    simp only [Lib.parseUint10, List.cons_append] at h ⊢
    split at h
    · next h1 =>
      rw [if_pos h1]
      split at h
      · cases h
      · next h2 =>
        rw [if_neg h2]
        split at h
        · cases h
        · next h3 =>
          rw [if_neg h3]
          exact parse_snoc l _ v c h hc hb
    · cases h
theorem parse_dec (u : Nat) (h : u < 18446744073709551616) : Lib.parseUint10 0 (Lib.decDigits u) = .ok u := by
  induction u using Nat.strongRecOn with
  | _ u ih =>
    have hd : ∀ j : Nat, j < 10 → (UInt8.ofNat (48 + j)).toNat = 48 + j := fun j hj => by simp; omega
    by_cases h1 : u < 10
    · rw [Lib.decDigits_one h1]
      have := hd u h1
      simp only [Lib.parseUint10]
      rw [if_pos (by omega), if_neg (by omega), if_neg (by omega), this]
      congr 1; omega
    · rw [Lib.decDigits, dif_neg h1]
      have := hd (u % 10) (by omega)
      rw [parse_snoc _ 0 (u / 10) _ (ih (u / 10) (by omega) (by omega)) (by omega) (by omega), this]
      congr 1; omega
theorem atoi_dec (u : Nat) (h : u < 9223372036854775808) : Lib.atoiAll (Lib.decDigits u) = .ok (u : Int) := by
  have hm := decDigits_mem u
  have hp := parse_dec u (by omega)
  cases hl : Lib.decDigits u with
  | nil => exact absurd hl (decDigits_ne u)
  | cons c r =>
    rw [hl] at hm hp
    have hc := hm c List.mem_cons_self
    simp only [Lib.atoiAll]
    have h1 : ¬ (c.toNat = 43 ∨ c.toNat = 45) := by omega
    have h2 : ¬ c.toNat = 45 := by omega
    rw [if_neg h1]
    have : Lib.parseMag (c :: r) = .ok u := by unfold Lib.parseMag; rw [if_neg (by simp)]; exact hp
    rw [this]
    simp only [h2, not_false_eq_true, true_and, false_and, if_false]
    rw [if_neg (by omega)]
theorem marks_dec (u : Nat) : ∀ x ∈ Lib.decDigits u, marks.contains x = false := fun x hx => by
  have h := decDigits_mem u x hx
  simp only [marks, List.contains_cons, List.contains_nil, Bool.or_false, Bool.or_eq_false_iff, beq_eq_false_iff_ne]
  exact ⟨fun e => by subst e; simp at h, fun e => by subst e; simp at h⟩
theorem pieceOf_dec (mark : List UInt8) (u : Nat) (hu : u < 9223372036854775808) (r : List UInt8) (hr : r = [] ∨ ∃ c t, r = c :: t ∧ marks.contains c = true) : pieceOf mark (mark ++ (Lib.decDigits u ++ r)) = some ((u : Int), r) := by
  have hp : Lib.hasPrefix (mark ++ (Lib.decDigits u ++ r)) mark = true := by simp [Lib.hasPrefix]
  have ht : Lib.trimPrefix (mark ++ (Lib.decDigits u ++ r)) mark = Lib.decDigits u ++ r := by simp [Lib.trimPrefix, Lib.hasPrefix]
  have hc := cutAt_append (Lib.decDigits u) r (marks_dec u) hr
  unfold pieceOf
  rw [if_neg (by rw [hp]; simp), ht, hc, List.take_left, List.drop_left, atoi_dec u hu]
  simp only [Lib.itoa_nonneg, if_true]
theorem textK_eq {k : Key3} (h : RightK k) : textK k = [] ++ (Lib.decDigits k.time.toNat ++ ([64] ++ (Lib.decDigits k.source.toNat ++ ([35] ++ (Lib.decDigits k.seq.toNat ++ []))))) := by
  simp [textK, decI]
theorem parseK_text {k : Key3} (h : RightK k) : parseK (textK k) = some k := by
  obtain ⟨h1, h2, h3, h4, h5, h6⟩ := id h
  unfold parseK
  rw [textK_eq h]
  have p1 := pieceOf_dec [] k.time.toNat (by omega) ([64] ++ (Lib.decDigits k.source.toNat ++ ([35] ++ (Lib.decDigits k.seq.toNat ++ [])))) (.inr ⟨64, _, rfl, rfl⟩)
  have p2 := pieceOf_dec [64] k.source.toNat (by omega) ([35] ++ (Lib.decDigits k.seq.toNat ++ [])) (.inr ⟨35, _, rfl, rfl⟩)
  have p3 := pieceOf_dec [35] k.seq.toNat (by omega) [] (.inl rfl)
  simp only [p1, p2, p3, true_and]
  have : (⟨(k.time.toNat : Int), (k.source.toNat : Int), (k.seq.toNat : Int)⟩ : Key3) = k := by
    obtain ⟨a, b, c⟩ := k
    simp only [Key3.mk.injEq] at *
    omega
  rw [this, if_pos h]
theorem parseK_some {s : List UInt8} {k : Key3} (h : parseK s = some k) : RightK k ∧ textK k = s := by
  unfold parseK at h
  split at h
  · cases h
  · next t s1 e1 =>
    split at h
    · cases h
    · next c s2 e2 =>
      split at h
      · cases h
      · next q s3 e3 =>
        split at h
        · next hr =>
          injection h with h
          subst h
          obtain ⟨rfl, hr⟩ := hr
          refine ⟨hr, ?_⟩
          rw [pieceOf_some e1, pieceOf_some e2, pieceOf_some e3]
          obtain ⟨h1, _, h2, _, h3, _⟩ := hr
          have hi : ∀ n : Int, 0 ≤ n → Lib.itoa n = decI n := fun n hn => by unfold Lib.itoa decI; rw [if_neg (by omega)]
          rw [hi t h1, hi c h2, hi q h3]
          simp [textK]
        · cases h
theorem parseK_iff (s : List UInt8) (k : Key3) : parseK s = some k ↔ RightK k ∧ textK k = s :=
  ⟨parseK_some, fun ⟨h1, h2⟩ => by rw [← h2]; exact parseK_text h1⟩

/-! ### Steps -/
def nextK (k : Key3) : Option Key3 := if k.seq < 4294967295 then some ⟨k.time, k.source, k.seq + 1⟩ else if k.source < 16 then some ⟨k.time, k.source + 1, 0⟩ else if k.time < 281474976710656 then some ⟨k.time + 1, 0, 0⟩ else none
def backK (k : Key3) : Option Key3 := if 0 < k.seq then some ⟨k.time, k.source, k.seq - 1⟩ else if 0 < k.source then some ⟨k.time, k.source - 1, 4294967295⟩ else if 0 < k.time then some ⟨k.time - 1, 16, 4294967295⟩ else none
end Go.Proofs.YtpklgpdlkdlbbaaGreatDoor

/-
  Rows of keys.
-/
namespace Go.Proofs.YtpklgpdlkdlbbaaGreatDoor
open Go Go.RowKit
attribute [local go_sem ↓] Go.wp_at_zero Go.wp_at_succ

theorem IterX.to0 {α : Type} {P : Program} {gf : Nat} {lb : Array Value} {encs : α → Array Value} {xs : List α} {own rd : Nat → Prop} {w : World} (h : IterX P gf lb encs xs own rd w) : IterX0 P gf lb encs xs own rd w := by
  intro l J Jx W hK hJ hJx hY h0
  exact h l J Jx W hK (fun i X Y W1 W2 h1 hf h2 => hJ i X Y W1 W2 h1 hf.to0 h2) (fun W1 W2 h1 hf => hJx W1 W2 h1 hf.to0) hY h0

def ckey (k : Key3) : List Value := [.int .i64 k.time, .int .i64 k.source, .int .i64 k.seq]
def flatKy (l : List Key3) : List Value := l.flatMap ckey
theorem flatKy_snoc (l : List Key3) (p : Key3) : flatKy (l ++ [p]) = flatKy l ++ ckey p := by simp [flatKy]
theorem flatKy_append (A B : List Key3) : flatKy (A ++ B) = flatKy A ++ flatKy B := by simp [flatKy]
theorem flatKy_length (l : List Key3) : (flatKy l).length = l.length * 3 := by
  induction l with
  | nil => rfl
  | cons x r ih => rw [flatKy, List.flatMap_cons, List.length_append]; unfold flatKy at ih; rw [ih]; simp [ckey]; omega
theorem flatKy_at (l : List Key3) (k c : Nat) (p : Key3) (hk : l[k]? = some p) (hc : c < 3) : (flatKy l)[k * 3 + c]? = (ckey p)[c]? := by
  induction l generalizing k with
  | nil => simp at hk
  | cons x r ih =>
    rw [flatKy, List.flatMap_cons]
    cases k with
    | zero =>
      simp only [List.getElem?_cons_zero, Option.some.injEq] at hk
      subst hk
      rw [List.getElem?_append_left (by simp [ckey]; omega)]
      simp
    | succ k =>
      rw [List.getElem?_append_right (by simp [ckey]; omega)]
      have := ih k (by simpa using hk)
      rw [← this]
      congr 1
      simp [ckey]; omega

/-- The three cells of a key. -/
def KAt (w : World) (g o : Nat) (p : Key3) : Prop := w.cell? ⟨g, o, none⟩ = some (.int .i64 p.time) ∧ w.cell? ⟨g, o + 1, none⟩ = some (.int .i64 p.source) ∧ w.cell? ⟨g, o + 2, none⟩ = some (.int .i64 p.seq)
def KsIn (w : World) (a : Option Addr) (L : List Key3) : Prop := ∀ i p, L[i]? = some p → ∃ g o, a = some ⟨g, o, none⟩ ∧ KAt w g (o + i * 3) p
def KsAt (w : World) (v : Value) (L : List Key3) : Prop := ∃ a cap, v = .slice a L.length cap ∧ KsIn w a L
theorem KAt.later {w w' : World} {g o : Nat} {p : Key3} (h : KAt w g o p) (hf : Fr0 none' w w') : KAt w' g o p := ⟨hf.later h.1, hf.later h.2.1, hf.later h.2.2⟩
theorem KAt.fr0 {S : Nat → Prop} {w w' : World} {g o : Nat} {p : Key3} (h : KAt w g o p) (hf : Fr0 S w w') (hS : ¬ S g) : KAt w' g o p := by
  have hl := World.block_lt_of_cell? _ _ h.1
  exact ⟨(hf.cell (p := ⟨g, o, none⟩) hl hS).trans h.1, (hf.cell (p := ⟨g, o + 1, none⟩) hl hS).trans h.2.1, (hf.cell (p := ⟨g, o + 2, none⟩) hl hS).trans h.2.2⟩
theorem KsIn.fr0 {S : Nat → Prop} {w w' : World} {a : Option Addr} {L : List Key3} (h : KsIn w a L) (hf : Fr0 S w w') (hS : ∀ g o s, a = some ⟨g, o, s⟩ → ¬ S g) : KsIn w' a L := fun i p hp => by
  obtain ⟨g, o, rfl, hc⟩ := h i p hp
  exact ⟨g, o, rfl, hc.fr0 hf (hS g o none rfl)⟩
theorem KsIn.later {w w' : World} {a : Option Addr} {L : List Key3} (h : KsIn w a L) (hf : Fr0 none' w w') : KsIn w' a L := h.fr0 hf (fun _ _ _ _ h => h)
theorem KsAt.later {w w' : World} {v : Value} {L : List Key3} (h : KsAt w v L) (hf : Fr0 none' w w') : KsAt w' v L := by
  obtain ⟨a, cap, rfl, h⟩ := h
  exact ⟨a, cap, rfl, h.later hf⟩
theorem cellsK_at {w : World} {b : Nat} {cu : Array Value} {ty : TypeId} (h : w.heap[b]? = some (.cells cu ty (0, 0))) (o : Nat) : w.cell? ⟨b, o, none⟩ = cu[o]? := by simp [World.cell?, h]
theorem KsIn.of_cells {w : World} {g n : Nat} {cu : Array Value} {ty : TypeId} {L : List Key3} (hg : w.heap[g]? = some (.cells cu ty (0, 0))) (ht : cu.toList.take (n * 3) = flatKy L) (hn : L.length = n) : KsIn w (some ⟨g, 0, none⟩) L := fun i p hp => by
  refine ⟨g, 0, rfl, ?_, ?_, ?_⟩
  all_goals
    have hi := (List.getElem?_eq_some_iff.1 hp).1
    have h1 : ∀ j, j < n * 3 → cu.toList[j]? = (flatKy L)[j]? := fun j hj => by rw [← ht, List.getElem?_take_of_lt hj]
    have h2 := flatKy_at L i
    rw [cellsK_at hg, ← Array.getElem?_toList, Nat.zero_add]
  · have := h2 0 p hp (by omega); rw [Nat.add_zero] at this; rw [h1 _ (by omega), this]; rfl
  · rw [h1 _ (by omega), h2 1 p hp (by omega)]; rfl
  · rw [h1 _ (by omega), h2 2 p hp (by omega)]; rfl
theorem KsAt.of_own {w : World} {base : Nat} {v : Value} {n : Nat} {L : List Key3} (h : w.ownsRow base 28 3 v n (flatKy L)) (hn : L.length = n) : KsAt w v L := by
  rcases h.2 with ⟨rfl, h0⟩ | ⟨g, cap, cur, rfl, hb, hg, hn', hcm, hs, ht⟩
  · have : L = [] := List.eq_nil_of_length_eq_zero (by omega)
    subst this
    exact ⟨none, 0, rfl, fun i p hp => by simp at hp⟩
  · exact ⟨_, cap, by rw [hn], KsIn.of_cells hg ht hn⟩
theorem KsIn.nil (w : World) (a : Option Addr) : KsIn w a [] := fun i p hp => by simp at hp
theorem info_key : (Tryz.prog.info? 28).map (fun i => (i.zero, i.size, i.bytes)) = some (some (.agg #[.int .i64 0, .int .i64 0, .int .i64 0]), 3, 24) := by kernel_rfl
end Go.Proofs.YtpklgpdlkdlbbaaGreatDoor

/-
  key.Right.
-/
namespace Go.Proofs.YtpklgpdlkdlbbaaGreatDoor
open Go Go.RowKit
attribute [local go_sem ↓] Go.wp_at_zero Go.wp_at_succ
attribute [local go_sem] Oper.semAt_some wide_fn wide_depth wide_fnR wide_depthR

/-- One field is right. -/
def okF (k : Key3) (i : Nat) : Prop := 0 ≤ nth3 k i ∧ nth3 k i ≤ fMost i
theorem okF_all (k : Key3) : RightK k ↔ ∀ i, i < 3 → okF k i := by
  constructor
  · intro h i hi
    have h3 : i = 0 ∨ i = 1 ∨ i = 2 := by omega
    obtain ⟨h1, h2, h3', h4, h5, h6⟩ := h
    rcases h3 with rfl | rfl | rfl <;> simp [okF, nth3, fMost] <;> omega
  · intro h
    have h0 := h 0 (by omega)
    have h1 := h 1 (by omega)
    have h2 := h 2 (by omega)
    simp [okF, nth3, fMost] at h0 h1 h2
    exact ⟨h0.1, h0.2, h1.1, h1.2, h2.1, h2.2⟩

set_option maxRecDepth 100000 in
set_option maxHeartbeats 2000000 in
theorem Right_in (k : Key3) (w : World) :
    CallsIn Fence.wide 0 Tryz.prog 11 #[keyV k] w fun e w' => e = .returned (.bool (decide (RightK k))) ∧ Fr0 none' w w' := by
  obtain ⟨R, hR⟩ : ∃ R, decide (RightK k) = R := ⟨_, rfl⟩
  rw [hR]
  have HR := Lib.hid hR
  clear hR
  refine callsIn_of_wp_marks Tryz.func11 rfl trivial ?_ rfl
  simp only [keyV, Tryz.ntmps11, List.size_toArray, List.length_cons, List.length_nil, Nat.reduceAdd, Nat.reduceSub, Array.replicate_succ, Array.replicate_zero, List.push_toArray, List.append_toArray, List.nil_append, List.cons_append]
  gi_wp2_with fail
  obtain ⟨Bw, hBw⟩ : ∃ Bw, w.heap.size = Bw := ⟨_, rfl⟩
  obtain ⟨W0, hW0⟩ : ∃ W0, (w.alloc (.cells #[.int .i64 k.time, .int .i64 k.source, .int .i64 k.seq] 28)).alloc (.cells #[.bool false] 4) = W0 := ⟨_, rfl⟩
  rw [hW0, hBw]
  have hsz : W0.heap.size = Bw + 2 := by rw [← hW0, ← hBw]; simp
  have ka : KeyAt W0 Bw k := by
    rw [← hW0, ← hBw]
    exact (KeyAt.fr (S := none') (World.alloc_heap_new w _) ((Fr.refl _ _).alloc _) id)
  have r0 : Box W0 (Bw + 1) (.bool false) := by
    rw [← hW0, ← hBw]
    have := Box.new (w.alloc (.cells #[.int .i64 k.time, .int .i64 k.source, .int .i64 k.seq] 28)) (.bool false) 4
    simpa using this
  have f0 : Fr0 none' w W0 := by rw [← hW0]; exact ((Fr0.refl _ _).alloc _).alloc _
  have F0 := Lib.hid f0
  have HBw := Lib.hid hBw
  have Ka := Lib.hid ka
  have R0 := Lib.hid r0
  clear hW0 hBw ka r0 f0
  refine (callsIn_wide.2 (fields_any _ _)).mono ?_
  rintro e w1 ⟨rfl, rfl⟩
  gi_wp2_with fail
  obtain ⟨W1, hW1⟩ : ∃ W1, W0.alloc (.cells #[.pointer (some ⟨Bw, 0, none⟩)] 71) = W1 := ⟨_, rfl⟩
  have it := (fields_iter Bw W0.heap.size _ (Box.new W0 _ _ : Box (W0.alloc (.cells #[.pointer (some ⟨Bw, 0, none⟩)] 71)) _ _)).to0
  rw [hW1, hsz] at it
  rw [hW1]
  have f1 : Fr0 none' W0 W1 := by rw [← hW1]; exact (Fr0.refl _ _).alloc _
  have hsz1 : W1.heap.size = Bw + 3 := by rw [← hW1, World.size_alloc, hsz]
  have F1 := Lib.hid f1
  have Hsz1 := Lib.hid hsz1
  clear hW1 f1 hsz1 hsz
  refine wpIn_iterX0 (gf := 68) (lb := #[.pointer (some ⟨Bw + 2, 0, none⟩)]) rfl (by intro args w; rfl) it (Keep.refl _ _) (fun _ => rfl) (fun k hk => hk.elim) (fun k hk => by subst hk; rw [Hsz1.out]; omega)
    (fun i X W => Fr0 none' W1 W ∧ Hid (∀ j, j < i → okF k j))
    (fun c W => c = .ret ∧ Hid (¬ RightK k) ∧ Box W (Bw + 1) (.bool false) ∧ Fr0 (fun k => k = Bw + 1) W1 W) ?hI ?hIx ?h0
    (fun x W a' => ∃ B, a' = { tmps := #[.agg #[.int .i64 k.time, .int .i64 k.source, .int .i64 k.seq], .pointer (some ⟨Bw, 0, none⟩), .pointer (some ⟨Bw + 1, 0, none⟩), .pointer (some ⟨B, 0, none⟩), .func (.func 68) #[] #[.pointer (some ⟨Bw + 2, 0, none⟩)], fV Bw x, undef, undef, undef, undef, undef, undef, undef, undef, undef, undef, undef, undef, undef, undef], defers := [] } ∧ Bw + 4 < B ∧ W.heap[B]? = some (.cells (fC Bw x).toArray 74 (0, 0)))
    ?assign ?keep ?body ?done ?stop
  case hI =>
    rintro i X Y W4 W5 ⟨h1, h3⟩ hX hf hY
    exact ⟨h1.trans' hf (fun k hk h => by
      rw [Hsz1.out] at hk
      rcases h with h | h | h | h
      · exact h
      · have := hX k h; rw [Hsz1.out] at this; omega
      · rw [Hsz1.out] at h; omega
      · rw [Hsz1.out] at h; omega), h3⟩
  case hIx =>
    rintro c W4 W5 ⟨h0, h1, h2, h3⟩ hf
    have hlt : ∀ k, k < Bw + 3 → ¬ (none' k ∨ k = W1.heap.size ∨ k = W1.heap.size + 1) := fun k hk h => by
      have hz := Hsz1.out
      rcases h with h | h | h
      · exact h
      · omega
      · omega
    exact ⟨h0, h1, h2.fr0 hf (hlt _ (by omega)), h3.trans' hf (fun k hk h => absurd h (hlt k (by rw [Hsz1.out] at hk; exact hk)))⟩
  case h0 =>
    exact ⟨Fr0.refl _ _, fun j hj => by omega⟩
  case keep =>
    rintro x W4 W5 a' ⟨B, rfl, hB, hc⟩ hf
    refine ⟨B, rfl, hB, (hf.block B (Array.getElem?_eq_some_iff.1 hc).1 (by rw [Hsz1.out]; omega)).trans hc⟩
  case assign =>
    intro l x W K hlt hK
    rw [Hsz1.out] at hlt
    simp only [fV]
    gi_wp2
    exact hK _ _ ⟨W.heap.size, by simp [fV], by omega, World.alloc_heap_new W _⟩ ((Fr0.refl _ _).alloc _)
  case body =>
    rintro l i x X W a' r hxi ⟨hfr, hall⟩ hXb ⟨B, rfl, hB, hcB⟩ hD hL
    have hi : i < 3 ∧ x = i := by
      have : i < 3 := (List.getElem?_eq_some_iff.1 hxi).1
      have h3 : i = 0 ∨ i = 1 ∨ i = 2 := by omega
      rcases h3 with rfl | rfl | rfl <;> simp at hxi <;> omega
    obtain ⟨hi, rfl⟩ := hi
    clear hxi hD hL
    have hcb := cells_of hcB 0
    have hcm := cells_of hcB 1
    simp [fC] at hcb hcm
    have ka : W.cell? ⟨Bw, x, none⟩ = some (.int .i64 (nth3 k x)) := hfr.later (F1.out.later (Ka.out.cell hi))
    clear hcB
    obtain ⟨p, hp⟩ : ∃ p, nth3 k x = p := ⟨_, rfl⟩
    obtain ⟨m, hm⟩ : ∃ m, fMost x = m := ⟨_, rfl⟩
    rw [hp] at ka
    rw [hm] at hcm
    have Hp := Lib.hid hp
    have Hm := Lib.hid hm
    clear hp hm
    gi_wp2
    by_cases hp0 : p < 0
    · have d0 : decide (p < 0) = true := decide_eq_true hp0
      refine wpIn_round_held (S := fun W' => W' = W.drew) (by kernel_rfl) (by kernel_rfl) (by intro a w h; exact h) rfl (fun hHeld => ?_)
      refine take_on (i := 0) (v := .pointer (some ⟨B, 0, none⟩)) rfl (by kernel_rfl) (by kernel_rfl) (by kernel_rfl) (fun _ _ _ h => h) (by kernel_rfl) (fun W' hSW => ?_) (by assumption) ?_
      · (try dsimp only at hSW); (try subst hSW)
        first | (go_simp; done) | exact rfl | (go_simp; rfl) | (go_simp; omega)
      try simp only [Act.put, List.setIfInBounds_toArray, List.set_cons_zero, List.set_cons_succ]
      refine take_on (i := 1) (v := .pointer (some ⟨Bw, x, none⟩)) rfl (by kernel_rfl) (by kernel_rfl) (by kernel_rfl) (fun _ _ _ h => h) (by kernel_rfl) (fun W' hSW => ?_) (by assumption) ?_
      · (try dsimp only at hSW); (try subst hSW)
        first | (go_simp; done) | exact rfl | (go_simp; rfl) | (go_simp; omega)
      try simp only [Act.put, List.setIfInBounds_toArray, List.set_cons_zero, List.set_cons_succ]
      refine take_on (i := 2) (v := .pointer (some ⟨Bw, x, none⟩)) rfl (by kernel_rfl) (by kernel_rfl) (by kernel_rfl) (fun _ _ _ h => h) (by kernel_rfl) (fun W' hSW => ?_) (by assumption) ?_
      · (try dsimp only at hSW); (try subst hSW)
        first | (go_simp; done) | exact rfl | (go_simp; rfl) | (go_simp; omega)
      try simp only [Act.put, List.setIfInBounds_toArray, List.set_cons_zero, List.set_cons_succ]
      refine take_on (i := 3) (v := .int .i64 p) rfl (by kernel_rfl) (by kernel_rfl) (by kernel_rfl) (fun _ _ _ h => h) (by kernel_rfl) (fun W' hSW => ?_) (by assumption) ?_
      · (try dsimp only at hSW); (try subst hSW)
        first | (go_simp; done) | exact rfl | (go_simp; rfl) | (go_simp; omega)
      try simp only [Act.put, List.setIfInBounds_toArray, List.set_cons_zero, List.set_cons_succ]
      refine take_on (i := 4) (v := .bool true) rfl (by kernel_rfl) (by kernel_rfl) (by kernel_rfl) (fun _ _ _ h => h) (by kernel_rfl) (fun W' hSW => ?_) (by assumption) ?_
      · (try dsimp only at hSW); (try subst hSW)
        first | (go_simp; done) | exact rfl | (go_simp; rfl) | (go_simp; omega)
      try simp only [Act.put, List.setIfInBounds_toArray, List.set_cons_zero, List.set_cons_succ]
      refine take_on (i := 5) (v := .bool true) rfl (by kernel_rfl) (by kernel_rfl) (by kernel_rfl) (fun _ _ _ h => h) (by kernel_rfl) (fun W' hSW => ?_) (by assumption) ?_
      · (try dsimp only at hSW); (try subst hSW)
        first | (go_simp; done) | exact rfl | (go_simp; rfl) | (go_simp; omega)
      try simp only [Act.put, List.setIfInBounds_toArray, List.set_cons_zero, List.set_cons_succ]
      refine take_off (i := 6) rfl (by kernel_rfl) (by kernel_rfl) (by kernel_rfl) (fun _ _ _ h => h) (by kernel_rfl) (by assumption) ?_
      try simp only [Act.put, List.setIfInBounds_toArray, List.set_cons_zero, List.set_cons_succ]
      refine take_off (i := 7) rfl (by kernel_rfl) (by kernel_rfl) (by kernel_rfl) (fun _ _ _ h => h) (by kernel_rfl) (by assumption) ?_
      try simp only [Act.put, List.setIfInBounds_toArray, List.set_cons_zero, List.set_cons_succ]
      refine take_off (i := 8) rfl (by kernel_rfl) (by kernel_rfl) (by kernel_rfl) (fun _ _ _ h => h) (by kernel_rfl) (by assumption) ?_
      try simp only [Act.put, List.setIfInBounds_toArray, List.set_cons_zero, List.set_cons_succ]
      refine take_off (i := 9) rfl (by kernel_rfl) (by kernel_rfl) (by kernel_rfl) (fun _ _ _ h => h) (by kernel_rfl) (by assumption) ?_
      try simp only [Act.put, List.setIfInBounds_toArray, List.set_cons_zero, List.set_cons_succ]
      refine take_off (i := 10) rfl (by kernel_rfl) (by kernel_rfl) (by kernel_rfl) (fun _ _ _ h => h) (by kernel_rfl) (by assumption) ?_
      try simp only [Act.put, List.setIfInBounds_toArray, List.set_cons_zero, List.set_cons_succ]
      refine take_off (i := 11) rfl (by kernel_rfl) (by kernel_rfl) (by kernel_rfl) (fun _ _ _ h => h) (by kernel_rfl) (by assumption) ?_
      try simp only [Act.put, List.setIfInBounds_toArray, List.set_cons_zero, List.set_cons_succ]
      refine take_off (i := 12) rfl (by kernel_rfl) (by kernel_rfl) (by kernel_rfl) (fun _ _ _ h => h) (by kernel_rfl) (by assumption) ?_
      try simp only [Act.put, List.setIfInBounds_toArray, List.set_cons_zero, List.set_cons_succ]
      refine take_on (i := 13) (v := .bool true) rfl (by kernel_rfl) (by kernel_rfl) (by kernel_rfl) (fun _ _ _ h => h) (by kernel_rfl) (fun W' hSW => ?_) (by assumption) ?_
      · (try dsimp only at hSW); (try subst hSW)
        first | (go_simp; done) | exact rfl | (go_simp; rfl) | (go_simp; omega)
      try simp only [Act.put, List.setIfInBounds_toArray, List.set_cons_zero, List.set_cons_succ]
      clear d0
      refine wpAnyH_done (by kernel_rfl) ?_ _
      clear hHeld hcb hcm ka
      have hr0 : Box W (Bw + 1) (.bool false) := (R0.out.fr0 F1.out id).fr0 hfr id
      have c0 := hr0.cell
      have g0 := hr0.frozen
      gi_wp2
      refine ⟨fun k => k = Bw + 1, ?_, ?_, rfl, ?_, ?_, ?_⟩
      · exact ((Fr0.refl (fun k => k = Bw + 1) W).setCell (fun _ => rfl) _).drew
      · intro k hk h
        subst hk
        rcases h with h | h | h | h
        · omega
        · have := hXb _ h; rw [Hsz1.out] at this; omega
        · rw [Hsz1.out] at h; omega
        · rw [Hsz1.out] at h; omega
      · unfold Hid; intro hc
        have := (okF_all k).1 hc x hi
        unfold okF at this
        rw [Hp.out, Hm.out] at this
        omega
      · exact (hr0.set _).of_block rfl
      · exact ((hfr.mono (S' := fun k => k = Bw + 1) (fun k _ h => h.elim)).setCell (fun _ => rfl) _).drew
    · have d0 : decide (p < 0) = false := decide_eq_false hp0
      by_cases hpm : m < p
      · have d1 : decide (m < p) = true := decide_eq_true hpm
        refine wpIn_round_held (S := fun W' => W' = W.drew) (by kernel_rfl) (by kernel_rfl) (by intro a w h; exact h) rfl (fun hHeld => ?_)
        refine take_on (i := 0) (v := .pointer (some ⟨B, 0, none⟩)) rfl (by kernel_rfl) (by kernel_rfl) (by kernel_rfl) (fun _ _ _ h => h) (by kernel_rfl) (fun W' hSW => ?_) (by assumption) ?_
        · (try dsimp only at hSW); (try subst hSW)
          first | (go_simp; done) | exact rfl | (go_simp; rfl) | (go_simp; omega)
        try simp only [Act.put, List.setIfInBounds_toArray, List.set_cons_zero, List.set_cons_succ]
        refine take_on (i := 1) (v := .pointer (some ⟨Bw, x, none⟩)) rfl (by kernel_rfl) (by kernel_rfl) (by kernel_rfl) (fun _ _ _ h => h) (by kernel_rfl) (fun W' hSW => ?_) (by assumption) ?_
        · (try dsimp only at hSW); (try subst hSW)
          first | (go_simp; done) | exact rfl | (go_simp; rfl) | (go_simp; omega)
        try simp only [Act.put, List.setIfInBounds_toArray, List.set_cons_zero, List.set_cons_succ]
        refine take_on (i := 2) (v := .pointer (some ⟨Bw, x, none⟩)) rfl (by kernel_rfl) (by kernel_rfl) (by kernel_rfl) (fun _ _ _ h => h) (by kernel_rfl) (fun W' hSW => ?_) (by assumption) ?_
        · (try dsimp only at hSW); (try subst hSW)
          first | (go_simp; done) | exact rfl | (go_simp; rfl) | (go_simp; omega)
        try simp only [Act.put, List.setIfInBounds_toArray, List.set_cons_zero, List.set_cons_succ]
        refine take_on (i := 3) (v := .int .i64 p) rfl (by kernel_rfl) (by kernel_rfl) (by kernel_rfl) (fun _ _ _ h => h) (by kernel_rfl) (fun W' hSW => ?_) (by assumption) ?_
        · (try dsimp only at hSW); (try subst hSW)
          first | (go_simp; done) | exact rfl | (go_simp; rfl) | (go_simp; omega)
        try simp only [Act.put, List.setIfInBounds_toArray, List.set_cons_zero, List.set_cons_succ]
        refine take_on (i := 4) (v := .bool false) rfl (by kernel_rfl) (by kernel_rfl) (by kernel_rfl) (fun _ _ _ h => h) (by kernel_rfl) (fun W' hSW => ?_) (by assumption) ?_
        · (try dsimp only at hSW); (try subst hSW)
          first | (go_simp; done) | exact rfl | (go_simp; rfl) | (go_simp; omega)
        try simp only [Act.put, List.setIfInBounds_toArray, List.set_cons_zero, List.set_cons_succ]
        refine take_on (i := 5) (v := .bool false) rfl (by kernel_rfl) (by kernel_rfl) (by kernel_rfl) (fun _ _ _ h => h) (by kernel_rfl) (fun W' hSW => ?_) (by assumption) ?_
        · (try dsimp only at hSW); (try subst hSW)
          first | (go_simp; done) | exact rfl | (go_simp; rfl) | (go_simp; omega)
        try simp only [Act.put, List.setIfInBounds_toArray, List.set_cons_zero, List.set_cons_succ]
        refine take_on (i := 6) (v := .pointer (some ⟨B, 0, none⟩)) rfl (by kernel_rfl) (by kernel_rfl) (by kernel_rfl) (fun _ _ _ h => h) (by kernel_rfl) (fun W' hSW => ?_) (by assumption) ?_
        · (try dsimp only at hSW); (try subst hSW)
          first | (go_simp; done) | exact rfl | (go_simp; rfl) | (go_simp; omega)
        try simp only [Act.put, List.setIfInBounds_toArray, List.set_cons_zero, List.set_cons_succ]
        refine take_on (i := 7) (v := .pointer (some ⟨Bw, x, none⟩)) rfl (by kernel_rfl) (by kernel_rfl) (by kernel_rfl) (fun _ _ _ h => h) (by kernel_rfl) (fun W' hSW => ?_) (by assumption) ?_
        · (try dsimp only at hSW); (try subst hSW)
          first | (go_simp; done) | exact rfl | (go_simp; rfl) | (go_simp; omega)
        try simp only [Act.put, List.setIfInBounds_toArray, List.set_cons_zero, List.set_cons_succ]
        refine take_on (i := 8) (v := .pointer (some ⟨Bw, x, none⟩)) rfl (by kernel_rfl) (by kernel_rfl) (by kernel_rfl) (fun _ _ _ h => h) (by kernel_rfl) (fun W' hSW => ?_) (by assumption) ?_
        · (try dsimp only at hSW); (try subst hSW)
          first | (go_simp; done) | exact rfl | (go_simp; rfl) | (go_simp; omega)
        try simp only [Act.put, List.setIfInBounds_toArray, List.set_cons_zero, List.set_cons_succ]
        refine take_on (i := 9) (v := .int .i64 p) rfl (by kernel_rfl) (by kernel_rfl) (by kernel_rfl) (fun _ _ _ h => h) (by kernel_rfl) (fun W' hSW => ?_) (by assumption) ?_
        · (try dsimp only at hSW); (try subst hSW)
          first | (go_simp; done) | exact rfl | (go_simp; rfl) | (go_simp; omega)
        try simp only [Act.put, List.setIfInBounds_toArray, List.set_cons_zero, List.set_cons_succ]
        refine take_on (i := 10) (v := .pointer (some ⟨B, 1, none⟩)) rfl (by kernel_rfl) (by kernel_rfl) (by kernel_rfl) (fun _ _ _ h => h) (by kernel_rfl) (fun W' hSW => ?_) (by assumption) ?_
        · (try dsimp only at hSW); (try subst hSW)
          first | (go_simp; done) | exact rfl | (go_simp; rfl) | (go_simp; omega)
        try simp only [Act.put, List.setIfInBounds_toArray, List.set_cons_zero, List.set_cons_succ]
        refine take_on (i := 11) (v := .int .i64 m) rfl (by kernel_rfl) (by kernel_rfl) (by kernel_rfl) (fun _ _ _ h => h) (by kernel_rfl) (fun W' hSW => ?_) (by assumption) ?_
        · (try dsimp only at hSW); (try subst hSW)
          first | (go_simp; done) | exact rfl | (go_simp; rfl) | (go_simp; omega)
        try simp only [Act.put, List.setIfInBounds_toArray, List.set_cons_zero, List.set_cons_succ]
        refine take_on (i := 12) (v := .bool true) rfl (by kernel_rfl) (by kernel_rfl) (by kernel_rfl) (fun _ _ _ h => h) (by kernel_rfl) (fun W' hSW => ?_) (by assumption) ?_
        · (try dsimp only at hSW); (try subst hSW)
          first | (go_simp; done) | exact rfl | (go_simp; rfl) | (go_simp; omega)
        try simp only [Act.put, List.setIfInBounds_toArray, List.set_cons_zero, List.set_cons_succ]
        refine take_on (i := 13) (v := .bool true) rfl (by kernel_rfl) (by kernel_rfl) (by kernel_rfl) (fun _ _ _ h => h) (by kernel_rfl) (fun W' hSW => ?_) (by assumption) ?_
        · (try dsimp only at hSW); (try subst hSW)
          first | (go_simp; done) | exact rfl | (go_simp; rfl) | (go_simp; omega)
        try simp only [Act.put, List.setIfInBounds_toArray, List.set_cons_zero, List.set_cons_succ]
        clear d0 d1
        refine wpAnyH_done (by kernel_rfl) ?_ _
        clear hHeld hcb hcm ka
        have hr0 : Box W (Bw + 1) (.bool false) := (R0.out.fr0 F1.out id).fr0 hfr id
        have c0 := hr0.cell
        have g0 := hr0.frozen
        gi_wp2
        refine ⟨fun k => k = Bw + 1, ?_, ?_, rfl, ?_, ?_, ?_⟩
        · exact ((Fr0.refl (fun k => k = Bw + 1) W).setCell (fun _ => rfl) _).drew
        · intro k hk h
          subst hk
          rcases h with h | h | h | h
          · omega
          · have := hXb _ h; rw [Hsz1.out] at this; omega
          · rw [Hsz1.out] at h; omega
          · rw [Hsz1.out] at h; omega
        · unfold Hid; intro hc
          have := (okF_all k).1 hc x hi
          unfold okF at this
          rw [Hp.out, Hm.out] at this
          omega
        · exact (hr0.set _).of_block rfl
        · exact ((hfr.mono (S' := fun k => k = Bw + 1) (fun k _ h => h.elim)).setCell (fun _ => rfl) _).drew
      · have d1 : decide (m < p) = false := decide_eq_false hpm
        refine wpIn_round_held (S := fun W' => W' = W.drew) (by kernel_rfl) (by kernel_rfl) (by intro a w h; exact h) rfl (fun hHeld => ?_)
        refine take_on (i := 0) (v := .pointer (some ⟨B, 0, none⟩)) rfl (by kernel_rfl) (by kernel_rfl) (by kernel_rfl) (fun _ _ _ h => h) (by kernel_rfl) (fun W' hSW => ?_) (by assumption) ?_
        · (try dsimp only at hSW); (try subst hSW)
          first | (go_simp; done) | exact rfl | (go_simp; rfl) | (go_simp; omega)
        try simp only [Act.put, List.setIfInBounds_toArray, List.set_cons_zero, List.set_cons_succ]
        refine take_on (i := 1) (v := .pointer (some ⟨Bw, x, none⟩)) rfl (by kernel_rfl) (by kernel_rfl) (by kernel_rfl) (fun _ _ _ h => h) (by kernel_rfl) (fun W' hSW => ?_) (by assumption) ?_
        · (try dsimp only at hSW); (try subst hSW)
          first | (go_simp; done) | exact rfl | (go_simp; rfl) | (go_simp; omega)
        try simp only [Act.put, List.setIfInBounds_toArray, List.set_cons_zero, List.set_cons_succ]
        refine take_on (i := 2) (v := .pointer (some ⟨Bw, x, none⟩)) rfl (by kernel_rfl) (by kernel_rfl) (by kernel_rfl) (fun _ _ _ h => h) (by kernel_rfl) (fun W' hSW => ?_) (by assumption) ?_
        · (try dsimp only at hSW); (try subst hSW)
          first | (go_simp; done) | exact rfl | (go_simp; rfl) | (go_simp; omega)
        try simp only [Act.put, List.setIfInBounds_toArray, List.set_cons_zero, List.set_cons_succ]
        refine take_on (i := 3) (v := .int .i64 p) rfl (by kernel_rfl) (by kernel_rfl) (by kernel_rfl) (fun _ _ _ h => h) (by kernel_rfl) (fun W' hSW => ?_) (by assumption) ?_
        · (try dsimp only at hSW); (try subst hSW)
          first | (go_simp; done) | exact rfl | (go_simp; rfl) | (go_simp; omega)
        try simp only [Act.put, List.setIfInBounds_toArray, List.set_cons_zero, List.set_cons_succ]
        refine take_on (i := 4) (v := .bool false) rfl (by kernel_rfl) (by kernel_rfl) (by kernel_rfl) (fun _ _ _ h => h) (by kernel_rfl) (fun W' hSW => ?_) (by assumption) ?_
        · (try dsimp only at hSW); (try subst hSW)
          first | (go_simp; done) | exact rfl | (go_simp; rfl) | (go_simp; omega)
        try simp only [Act.put, List.setIfInBounds_toArray, List.set_cons_zero, List.set_cons_succ]
        refine take_on (i := 5) (v := .bool false) rfl (by kernel_rfl) (by kernel_rfl) (by kernel_rfl) (fun _ _ _ h => h) (by kernel_rfl) (fun W' hSW => ?_) (by assumption) ?_
        · (try dsimp only at hSW); (try subst hSW)
          first | (go_simp; done) | exact rfl | (go_simp; rfl) | (go_simp; omega)
        try simp only [Act.put, List.setIfInBounds_toArray, List.set_cons_zero, List.set_cons_succ]
        refine take_on (i := 6) (v := .pointer (some ⟨B, 0, none⟩)) rfl (by kernel_rfl) (by kernel_rfl) (by kernel_rfl) (fun _ _ _ h => h) (by kernel_rfl) (fun W' hSW => ?_) (by assumption) ?_
        · (try dsimp only at hSW); (try subst hSW)
          first | (go_simp; done) | exact rfl | (go_simp; rfl) | (go_simp; omega)
        try simp only [Act.put, List.setIfInBounds_toArray, List.set_cons_zero, List.set_cons_succ]
        refine take_on (i := 7) (v := .pointer (some ⟨Bw, x, none⟩)) rfl (by kernel_rfl) (by kernel_rfl) (by kernel_rfl) (fun _ _ _ h => h) (by kernel_rfl) (fun W' hSW => ?_) (by assumption) ?_
        · (try dsimp only at hSW); (try subst hSW)
          first | (go_simp; done) | exact rfl | (go_simp; rfl) | (go_simp; omega)
        try simp only [Act.put, List.setIfInBounds_toArray, List.set_cons_zero, List.set_cons_succ]
        refine take_on (i := 8) (v := .pointer (some ⟨Bw, x, none⟩)) rfl (by kernel_rfl) (by kernel_rfl) (by kernel_rfl) (fun _ _ _ h => h) (by kernel_rfl) (fun W' hSW => ?_) (by assumption) ?_
        · (try dsimp only at hSW); (try subst hSW)
          first | (go_simp; done) | exact rfl | (go_simp; rfl) | (go_simp; omega)
        try simp only [Act.put, List.setIfInBounds_toArray, List.set_cons_zero, List.set_cons_succ]
        refine take_on (i := 9) (v := .int .i64 p) rfl (by kernel_rfl) (by kernel_rfl) (by kernel_rfl) (fun _ _ _ h => h) (by kernel_rfl) (fun W' hSW => ?_) (by assumption) ?_
        · (try dsimp only at hSW); (try subst hSW)
          first | (go_simp; done) | exact rfl | (go_simp; rfl) | (go_simp; omega)
        try simp only [Act.put, List.setIfInBounds_toArray, List.set_cons_zero, List.set_cons_succ]
        refine take_on (i := 10) (v := .pointer (some ⟨B, 1, none⟩)) rfl (by kernel_rfl) (by kernel_rfl) (by kernel_rfl) (fun _ _ _ h => h) (by kernel_rfl) (fun W' hSW => ?_) (by assumption) ?_
        · (try dsimp only at hSW); (try subst hSW)
          first | (go_simp; done) | exact rfl | (go_simp; rfl) | (go_simp; omega)
        try simp only [Act.put, List.setIfInBounds_toArray, List.set_cons_zero, List.set_cons_succ]
        refine take_on (i := 11) (v := .int .i64 m) rfl (by kernel_rfl) (by kernel_rfl) (by kernel_rfl) (fun _ _ _ h => h) (by kernel_rfl) (fun W' hSW => ?_) (by assumption) ?_
        · (try dsimp only at hSW); (try subst hSW)
          first | (go_simp; done) | exact rfl | (go_simp; rfl) | (go_simp; omega)
        try simp only [Act.put, List.setIfInBounds_toArray, List.set_cons_zero, List.set_cons_succ]
        refine take_on (i := 12) (v := .bool false) rfl (by kernel_rfl) (by kernel_rfl) (by kernel_rfl) (fun _ _ _ h => h) (by kernel_rfl) (fun W' hSW => ?_) (by assumption) ?_
        · (try dsimp only at hSW); (try subst hSW)
          first | (go_simp; done) | exact rfl | (go_simp; rfl) | (go_simp; omega)
        try simp only [Act.put, List.setIfInBounds_toArray, List.set_cons_zero, List.set_cons_succ]
        refine take_on (i := 13) (v := .bool false) rfl (by kernel_rfl) (by kernel_rfl) (by kernel_rfl) (fun _ _ _ h => h) (by kernel_rfl) (fun W' hSW => ?_) (by assumption) ?_
        · (try dsimp only at hSW); (try subst hSW)
          first | (go_simp; done) | exact rfl | (go_simp; rfl) | (go_simp; omega)
        try simp only [Act.put, List.setIfInBounds_toArray, List.set_cons_zero, List.set_cons_succ]
        refine wpAnyH_done (by kernel_rfl) ?_ _
        clear hHeld hcb hcm ka d0 d1
        gi_wp2
        refine ⟨none', ?_, fun k hk _ => hk, ?_, ?_⟩
        · exact (Fr0.refl _ W).drew
        · exact hfr.drew
        · unfold Hid; intro j hj
          by_cases hjx : j = x
          · subst hjx; unfold okF; rw [Hp.out, Hm.out]; omega
          · exact hall.out j (by omega)
  case done =>
    rintro D X W hDe ⟨hfr, hall⟩ hK
    obtain rfl : true = R := by rw [← HR.out]; exact (decide_eq_true ((okF_all k).2 hall.out)).symm
    rw [Hsz1.out] at hDe
    subst hDe
    have hlt : Bw + 3 < W.heap.size := (Array.getElem?_eq_some_iff.1 hK).1
    have hr0 : Box W (Bw + 1) (.bool false) := (R0.out.fr0 F1.out id).fr0 hfr id
    have hk2 : Box (W.setCell ⟨Bw + 1, 0, none⟩ (.bool true)) (Bw + 1) (.bool true) := hr0.set _
    have hK2 : (W.setCell ⟨Bw + 1, 0, none⟩ (.bool true)).heap[Bw + 3]? = some (.deferred (some [])) := (Below.heap_setCell W ⟨Bw + 1, 0, none⟩ (.bool true) (Bw + 3) (by simp)).trans hK
    have hk1 : Box ((W.setCell ⟨Bw + 1, 0, none⟩ (.bool true)).putObj (Bw + 3) (.deferred none)) (Bw + 1) (.bool true) := hk2.of_block (World.putObj_heap_other (by omega))
    have c0 := hr0.cell
    have g0 := hr0.frozen
    have d1 := hk1.cell
    clear hK
    gi_wp2
    refine ⟨by simp, .inl ⟨_, _, rfl, run_takeDeferred hK2, ?_⟩⟩
    refine ⟨.bool true, by simp [results, Tryz.results11, go_sem, d1], rfl, ?_⟩
    have hz := HBw.out
    have h03 : Fr0 none' w W := F0.out.trans (F1.out.trans hfr)
    exact (h03.setCell (fun h => by omega) _).putObj (fun h => by omega) _
  case stop =>
    rintro D c W hDe ⟨rfl, hnr, h1, h3⟩ hK
    obtain rfl : false = R := by rw [← HR.out]; exact (decide_eq_false hnr.out).symm
    rw [Hsz1.out] at hDe
    subst hDe
    have hlt : Bw + 3 < W.heap.size := (Array.getElem?_eq_some_iff.1 hK).1
    have c1 := h1.cell
    have hk1 : Box (W.putObj (Bw + 3) (.deferred none)) (Bw + 1) (.bool false) := h1.of_block (World.putObj_heap_other (by omega))
    have d1 := hk1.cell
    have hK' := hK
    clear hK
    gi_wp2
    refine ⟨by simp, .inl ⟨_, _, rfl, run_takeDeferred hK', ?_⟩⟩
    refine ⟨.bool false, by simp [results, Tryz.results11, go_sem, d1], rfl, ?_⟩
    have hz := HBw.out
    have h03 : Fr0 none' w W1 := F0.out.trans F1.out
    exact (h03.trans' h3 (fun k hk h => by omega)).putObj (fun h => by omega) _
theorem Right_any (k : Key3) (w : World) :
    Calls Tryz.prog 11 #[keyV k] w fun e w' => e = .returned (.bool (decide (RightK k))) ∧ Fr0 none' w w' := callsIn_wide.1 (Right_in k w)
end Go.Proofs.YtpklgpdlkdlbbaaGreatDoor

/-
  Keys that are not right, at Bytes, Text, Next, Back.
-/
namespace Go.Proofs.YtpklgpdlkdlbbaaGreatDoor
open Go Go.RowKit
attribute [local go_sem ↓] Go.wp_at_zero Go.wp_at_succ
attribute [local go_sem] Oper.semAt_some wide_fn wide_depth wide_fnR wide_depthR
theorem KeyAt.frozen {w : World} {B : Nat} {k : Key3} (h : KeyAt w B k) (i : Nat) : w.frozen? ⟨B, i, none⟩ = false := by
  unfold KeyAt at h
  simp [World.frozen?, h]
theorem KeyAt.fr0 {S : Nat → Prop} {w w' : World} {B : Nat} {k : Key3} (h : KeyAt w B k) (hf : Fr0 S w w') (hs : ¬ S B) : KeyAt w' B k := (hf.block B (Array.getElem?_eq_some_iff.1 h).1 hs).trans h
theorem KeyAt.set0 {w : World} {B : Nat} {k : Key3} (h : KeyAt w B k) (x : Int) : KeyAt (w.setCell ⟨B, 0, none⟩ (.int .i64 x)) B { k with time := x } := by
  unfold KeyAt at *
  simp [World.setCell, Array.getElem?_modify, h]
theorem KeyAt.set1 {w : World} {B : Nat} {k : Key3} (h : KeyAt w B k) (x : Int) : KeyAt (w.setCell ⟨B, 1, none⟩ (.int .i64 x)) B { k with source := x } := by
  unfold KeyAt at *
  simp [World.setCell, Array.getElem?_modify, h]
theorem KeyAt.set2 {w : World} {B : Nat} {k : Key3} (h : KeyAt w B k) (x : Int) : KeyAt (w.setCell ⟨B, 2, none⟩ (.int .i64 x)) B { k with seq := x } := by
  unfold KeyAt at *
  simp [World.setCell, Array.getElem?_modify, h]
theorem KeyAt.setOther {w : World} {B : Nat} {k : Key3} (h : KeyAt w B k) {a : Addr} (hne : B ≠ a.block) (u : Value) : KeyAt (w.setCell a u) B k := (Below.heap_setCell w a u B hne).trans h
theorem KeyAt.alloc {w : World} {B : Nat} {k : Key3} (h : KeyAt w B k) (o : Obj) : KeyAt (w.alloc o) B k := (Below.heap_alloc w o B h.lt).trans h
/-- A call's first three blocks: its key, a key and an error for its results. -/
def start3 (w : World) (k : Key3) : World := ((w.alloc (.cells #[.int .i64 k.time, .int .i64 k.source, .int .i64 k.seq] 28)).alloc (.cells #[.int .i64 0, .int .i64 0, .int .i64 0] 28)).alloc (.cells #[.int .i64 0] 31)
theorem start3_facts (w : World) (k : Key3) : KeyAt (start3 w k) w.heap.size k ∧ KeyAt (start3 w k) (w.heap.size + 1) zeroK ∧ Box (start3 w k) (w.heap.size + 1 + 1) (.int .i64 0) ∧ (start3 w k).heap.size = w.heap.size + 3 ∧ Fr0 none' w (start3 w k) := by
  unfold start3
  refine ⟨?_, ?_, ?_, by simp, (((Fr0.refl _ _).alloc _).alloc _).alloc _⟩
  · exact (KeyAt.alloc (KeyAt.alloc (k := k) (World.alloc_heap_new w _) _) _)
  · have := World.alloc_heap_new (w.alloc (.cells #[.int .i64 k.time, .int .i64 k.source, .int .i64 k.seq] 28)) (.cells #[.int .i64 0, .int .i64 0, .int .i64 0] 28)
    rw [World.size_alloc] at this
    exact KeyAt.alloc (k := zeroK) this _
  · have := Box.new ((w.alloc (.cells #[.int .i64 k.time, .int .i64 k.source, .int .i64 k.seq] 28)).alloc (.cells #[.int .i64 0, .int .i64 0, .int .i64 0] 28)) (.int .i64 0) 31
    rwa [World.size_alloc, World.size_alloc] at this
set_option maxRecDepth 100000 in
set_option maxHeartbeats 1000000 in
theorem Bytes_wrong (k : Key3) (h : ¬ RightK k) (w : World) :
    Calls Tryz.prog 7 #[keyV k] w fun e w' => e = .returned (.tuple #[.slice none 0 0, .int .i64 70]) ∧ Fr0 none' w w' := by
  have hd : decide (RightK k) = false := decide_eq_false h
  have HR := fun W => Right_any k W
  rw [hd] at HR
  have HRR := Lib.hid HR
  clear hd h HR
  simp only [keyV] at HRR ⊢
  go_enter Tryz.func7, Tryz.ntmps7
  go_wp2_with (go_at_call 11; refine (HRR.out _).mono ?_; rintro e w1 ⟨rfl, hf⟩)
  go_ret2
  exact ⟨rfl, ((Fr0.refl _ _).alloc _).trans hf⟩
set_option maxRecDepth 100000 in
set_option maxHeartbeats 1000000 in
theorem Text_wrong (k : Key3) (h : ¬ RightK k) (w : World) :
    Calls Tryz.prog 8 #[keyV k] w fun e w' => e = .returned (.tuple #[.string ⟨#[]⟩, .int .i64 70]) ∧ Fr0 none' w w' := by
  have hd : decide (RightK k) = false := decide_eq_false h
  have HR := fun W => Right_any k W
  rw [hd] at HR
  have HRR := Lib.hid HR
  clear hd h HR
  simp only [keyV] at HRR ⊢
  go_enter Tryz.func8, Tryz.ntmps8
  go_wp2_with (go_at_call 11; refine (HRR.out _).mono ?_; rintro e w1 ⟨rfl, hf⟩)
  go_ret2
  exact ⟨rfl, ((Fr0.refl _ _).alloc _).trans hf⟩
set_option maxRecDepth 100000 in
set_option maxHeartbeats 1000000 in
theorem Next_wrong (k : Key3) (h : ¬ RightK k) (w : World) :
    Calls Tryz.prog 9 #[keyV k] w fun e w' => e = .returned (.tuple #[keyV zeroK, .int .i64 70]) ∧ Fr0 none' w w' := by
  have hd : decide (RightK k) = false := decide_eq_false h
  have HR := fun W => Right_any k W
  rw [hd] at HR
  have HRR := Lib.hid HR
  clear hd h HR
  simp only [keyV] at HRR ⊢
  go_enter Tryz.func9, Tryz.ntmps9
  go_wp2_with fail
  obtain ⟨W0, hW0⟩ : ∃ W0, start3 w k = W0 := ⟨_, rfl⟩
  have hs := start3_facts w k
  unfold start3 at hW0
  rw [show start3 w k = W0 from hW0] at hs
  rw [hW0]
  have Hs := Lib.hid hs
  clear hW0 hs
  refine (HRR.out _).mono ?_
  rintro e w1 ⟨rfl, hf⟩
  obtain ⟨h1, h2, h3, h4, h5⟩ := Hs.out
  have k2 := h2.fr0 hf id
  have b2 := h3.fr0 hf id
  have c0 := (k2.cell (i := 0) (by omega))
  have c1 := (k2.cell (i := 1) (by omega))
  have c2 := (k2.cell (i := 2) (by omega))
  have f0 := k2.frozen 0
  have f1 := k2.frozen 1
  have f2 := k2.frozen 2
  have g0 := b2.cell
  have gf := b2.frozen
  have HF := Lib.hid (h5.trans hf)
  have K2 := Lib.hid k2
  have B2 := Lib.hid b2
  have hne : w.heap.size + 1 ≠ w.heap.size + 1 + 1 := by omega
  have hne2 : w.heap.size + 1 + 1 ≠ w.heap.size + 1 := by omega
  obtain ⟨N1, hN1⟩ : ∃ N, w.heap.size + 1 + 1 = N := ⟨_, rfl⟩
  obtain ⟨N, hN⟩ : ∃ N, w.heap.size + 1 = N := ⟨_, rfl⟩
  rw [hN1] at g0 gf B2 hne hne2
  rw [hN] at c0 c1 c2 f0 f1 f2 K2 hne hne2
  rw [hN1, hN]
  simp [nth3, zeroK] at c0 c1 c2
  have HN := Lib.hid hN
  have HN1 := Lib.hid hN1
  clear h1 h2 h3 h4 h5 k2 b2 hf Hs hN hN1
  go_wp2
  have K4 := (((K2.out.set0 0).set1 0).set2 0).setOther (a := ⟨N1, 0, none⟩) hne (.int .i64 70)
  have B4 : Box ((((w1.setCell ⟨N, 0, none⟩ (.int .i64 0)).setCell ⟨N, 1, none⟩ (.int .i64 0)).setCell ⟨N, 2, none⟩ (.int .i64 0)).setCell ⟨N1, 0, none⟩ (.int .i64 70)) N1 (.int .i64 70) := Box.set (v := .int .i64 0) (((B2.out.setOther (a := ⟨N, 0, none⟩) hne2 _).setOther (a := ⟨N, 1, none⟩) hne2 _).setOther (a := ⟨N, 2, none⟩) hne2 _) _
  have F4 : Fr0 none' w ((((w1.setCell ⟨N, 0, none⟩ (.int .i64 0)).setCell ⟨N, 1, none⟩ (.int .i64 0)).setCell ⟨N, 2, none⟩ (.int .i64 0)).setCell ⟨N1, 0, none⟩ (.int .i64 70)) := by
    have e1 := HN.out
    have e2 := HN1.out
    exact (((HF.out.setCell (fun h => by omega) _).setCell (fun h => by omega) _).setCell (fun h => by omega) _).setCell (fun h => by omega) _
  generalize ((((w1.setCell ⟨N, 0, none⟩ (.int .i64 0)).setCell ⟨N, 1, none⟩ (.int .i64 0)).setCell ⟨N, 2, none⟩ (.int .i64 0)).setCell ⟨N1, 0, none⟩ (.int .i64 70)) = W4 at K4 B4 F4 ⊢
  have d0 := K4.cell (i := 0) (by omega)
  have d1 := K4.cell (i := 1) (by omega)
  have d2 := K4.cell (i := 2) (by omega)
  have d3 := B4.cell
  simp [nth3, zeroK] at d0 d1 d2
  refine bodyPost_ret (v := .tuple #[keyV zeroK, .int .i64 70]) (by simp [results, Tryz.results9, go_sem, d0, d1, d2, d3, keyV, zeroK]) rfl ⟨rfl, F4⟩
set_option maxRecDepth 100000 in
set_option maxHeartbeats 1000000 in
theorem Back_wrong (k : Key3) (h : ¬ RightK k) (w : World) :
    Calls Tryz.prog 10 #[keyV k] w fun e w' => e = .returned (.tuple #[keyV zeroK, .int .i64 70]) ∧ Fr0 none' w w' := by
  have hd : decide (RightK k) = false := decide_eq_false h
  have HR := fun W => Right_any k W
  rw [hd] at HR
  have HRR := Lib.hid HR
  clear hd h HR
  simp only [keyV] at HRR ⊢
  go_enter Tryz.func10, Tryz.ntmps10
  go_wp2_with fail
  obtain ⟨W0, hW0⟩ : ∃ W0, start3 w k = W0 := ⟨_, rfl⟩
  have hs := start3_facts w k
  unfold start3 at hW0
  rw [show start3 w k = W0 from hW0] at hs
  rw [hW0]
  have Hs := Lib.hid hs
  clear hW0 hs
  refine (HRR.out _).mono ?_
  rintro e w1 ⟨rfl, hf⟩
  obtain ⟨h1, h2, h3, h4, h5⟩ := Hs.out
  have k2 := h2.fr0 hf id
  have b2 := h3.fr0 hf id
  have c0 := (k2.cell (i := 0) (by omega))
  have c1 := (k2.cell (i := 1) (by omega))
  have c2 := (k2.cell (i := 2) (by omega))
  have f0 := k2.frozen 0
  have f1 := k2.frozen 1
  have f2 := k2.frozen 2
  have g0 := b2.cell
  have gf := b2.frozen
  have HF := Lib.hid (h5.trans hf)
  have K2 := Lib.hid k2
  have B2 := Lib.hid b2
  have hne : w.heap.size + 1 ≠ w.heap.size + 1 + 1 := by omega
  have hne2 : w.heap.size + 1 + 1 ≠ w.heap.size + 1 := by omega
  obtain ⟨N1, hN1⟩ : ∃ N, w.heap.size + 1 + 1 = N := ⟨_, rfl⟩
  obtain ⟨N, hN⟩ : ∃ N, w.heap.size + 1 = N := ⟨_, rfl⟩
  rw [hN1] at g0 gf B2 hne hne2
  rw [hN] at c0 c1 c2 f0 f1 f2 K2 hne hne2
  rw [hN1, hN]
  simp [nth3, zeroK] at c0 c1 c2
  have HN := Lib.hid hN
  have HN1 := Lib.hid hN1
  clear h1 h2 h3 h4 h5 k2 b2 hf Hs hN hN1
  go_wp2
  have K4 := (((K2.out.set0 0).set1 0).set2 0).setOther (a := ⟨N1, 0, none⟩) hne (.int .i64 70)
  have B4 : Box ((((w1.setCell ⟨N, 0, none⟩ (.int .i64 0)).setCell ⟨N, 1, none⟩ (.int .i64 0)).setCell ⟨N, 2, none⟩ (.int .i64 0)).setCell ⟨N1, 0, none⟩ (.int .i64 70)) N1 (.int .i64 70) := Box.set (v := .int .i64 0) (((B2.out.setOther (a := ⟨N, 0, none⟩) hne2 _).setOther (a := ⟨N, 1, none⟩) hne2 _).setOther (a := ⟨N, 2, none⟩) hne2 _) _
  have F4 : Fr0 none' w ((((w1.setCell ⟨N, 0, none⟩ (.int .i64 0)).setCell ⟨N, 1, none⟩ (.int .i64 0)).setCell ⟨N, 2, none⟩ (.int .i64 0)).setCell ⟨N1, 0, none⟩ (.int .i64 70)) := by
    have e1 := HN.out
    have e2 := HN1.out
    exact (((HF.out.setCell (fun h => by omega) _).setCell (fun h => by omega) _).setCell (fun h => by omega) _).setCell (fun h => by omega) _
  generalize ((((w1.setCell ⟨N, 0, none⟩ (.int .i64 0)).setCell ⟨N, 1, none⟩ (.int .i64 0)).setCell ⟨N, 2, none⟩ (.int .i64 0)).setCell ⟨N1, 0, none⟩ (.int .i64 70)) = W4 at K4 B4 F4 ⊢
  have d0 := K4.cell (i := 0) (by omega)
  have d1 := K4.cell (i := 1) (by omega)
  have d2 := K4.cell (i := 2) (by omega)
  have d3 := B4.cell
  simp [nth3, zeroK] at d0 d1 d2
  refine bodyPost_ret (v := .tuple #[keyV zeroK, .int .i64 70]) (by simp [results, Tryz.results10, go_sem, d0, d1, d2, d3, keyV, zeroK]) rfl ⟨rfl, F4⟩
end Go.Proofs.YtpklgpdlkdlbbaaGreatDoor

/-
  key.compare; slices.SortFunc and slices.Clone at keys.
-/
namespace Go.Proofs.YtpklgpdlkdlbbaaGreatDoor
open Go.RowKit Go.Sort
attribute [local go_sem ↓] Go.wp_at_zero Go.wp_at_succ

set_option maxHeartbeats 1000000 in
theorem compare_any (a b : Key3) (w : World) : Calls Tryz.prog 63 #[keyV a, keyV b] w fun e w' => e = .returned (.int .i64 (cmpK a b)) ∧ Fr none' w w' := by
  have HC := Lib.hid (Compare_any a b)
  obtain ⟨c, hc⟩ : ∃ c, cmpK a b = c := ⟨_, rfl⟩
  rw [hc] at HC
  rw [hc]
  clear hc
  simp only [keyV] at HC ⊢
  go_enter Tryz.func63, Tryz.ntmps63
  go_wp2_with (go_at_call 25; refine (HC.out _).mono ?_; rintro e w' ⟨rfl, hf⟩)
  go_ret
  exact ⟨rfl, ((((Fr.refl _ _).alloc _).alloc _)).trans hf⟩

theorem cmpK_refl (a : Key3) : cmpK a a = 0 := (cmpK_eq a a).2 rfl
theorem cmpK_le_trans {a b c : Key3} (h1 : cmpK a b ≤ 0) (h2 : cmpK b c ≤ 0) : cmpK a c ≤ 0 := by
  by_cases e1 : cmpK a b = 0
  · rw [(cmpK_eq a b).1 e1]; exact h2
  · by_cases e2 : cmpK b c = 0
    · rw [← (cmpK_eq b c).1 e2]; exact h1
    · have := cmpK_trans a b c (by omega) (by omega); omega
theorem swoK : SWO (ltOf cmpK) where
  irrefl x := decide_eq_false (by rw [cmpK_refl]; omega)
  trans x y z h1 h2 := decide_eq_true (cmpK_trans _ _ _ (of_decide_eq_true h1) (of_decide_eq_true h2))
  ntrans x y z h1 h2 := by
    have h1 := of_decide_eq_false h1
    have h2 := of_decide_eq_false h2
    refine decide_eq_false (fun h => ?_)
    have k1 := cmpK_anti x y
    have k2 := cmpK_anti y z
    have k3 := cmpK_anti x z
    have := cmpK_le_trans (a := z) (b := y) (c := x) (by omega) (by omega)
    omega
theorem totK (x y : Key3) (h1 : ltOf cmpK x y = false) (h2 : ltOf cmpK y x = false) : x = y := by
  have h1 := of_decide_eq_false h1
  have h2 := of_decide_eq_false h2
  have k1 := cmpK_anti x y
  exact (cmpK_eq x y).1 (by omega)
theorem laysK (blk off size : Nat) (w : World) : CmpLays Tryz.prog 63 #[] ckey 3 cmpK blk off size w := fun m os dk _ x y =>
  (compare_any x y (sortWorldK ckey 3 w blk off m dk os)).mono fun _ _ h => ⟨h.1, grow_of_below (h.2.below (Nat.le_refl _) (fun _ _ h => h)) h.2.drawn⟩
theorem flatK_eqK (zs : List Key3) : flatK ckey 3 zs.toArray = (flatKy zs).toArray := by
  apply Array.ext
  · simp [flatKy_length]
  · intro j h1 h2
    have hj : j < zs.length * 3 := by simpa [flatKy_length] using h2
    have hq : j / 3 < zs.length := by omega
    have h3 := flatKy_at zs (j / 3) (j % 3) zs[j / 3] (List.getElem?_eq_getElem hq) (by omega)
    rw [show j / 3 * 3 + j % 3 = j by omega] at h3
    have h4 := get_flatK ckey 3 zs.toArray j (by simpa using hj)
    rw [getElem!_pos _ j h1] at h4
    rw [h4]
    have h5 : zs.toArray[j / 3]! = zs[j / 3] := by
      rw [getElem!_pos _ (j / 3) (by simpa using hq)]; simp
    rw [h5]
    have h6 : j % 3 < (ckey zs[j / 3]).length := by simp [ckey]; omega
    rw [getElem!_pos (ckey zs[j / 3]) (j % 3) h6]
    rw [List.getElem?_eq_getElem h6] at h3
    have h7 : (flatKy zs)[j]? = some ((flatKy zs)[j]'(by rw [flatKy_length]; exact hj)) := List.getElem?_eq_getElem _
    rw [h7] at h3
    injection h3 with h3
    simp [h3]
theorem flatKy_one (zs : List Key3) : ∀ v ∈ flatKy zs, v.oneCell' = true := fun v hv => by
  unfold flatKy at hv
  obtain ⟨k, _, hk⟩ := List.mem_flatMap.1 hv
  simp only [ckey, List.mem_cons, List.not_mem_nil, or_false] at hk
  rcases hk with rfl | rfl | rfl <;> rfl
theorem row_putK {w : World} {base : Nat} {e : TypeId} {size g n cap q : Nat} {xs ys : List Value} {os : Array Obj} (h : w.ownsRow base e size (.slice (some ⟨g, 0, none⟩) n cap) n xs) (hy : ys.length = xs.length) :
    (grow (putRow id (Sort.ahead w q) g 0 ys.toArray) os).ownsRow base e size (.slice (some ⟨g, 0, none⟩) n cap) n ys := by
  have hxl := h.1
  rcases h.2 with ⟨e0, _⟩ | ⟨g', cap', cur, e0, hb, hg, hn, hm, hs, ht⟩
  · cases e0
  · injection e0 with e1 _ e3
    injection e1 with e1
    injection e1 with e1
    subst e1; subst e3
    have hgl : g < w.heap.size := (Array.getElem?_eq_some_iff.1 hg).1
    have hcs : n * size ≤ cur.size := by rw [hs]; exact Nat.mul_le_mul_right _ hn
    refine ⟨hy.trans hxl, .inr ⟨g, cap, putCells id 0 ys.toArray cur, rfl, hb, ?_, hn, hm, by simpa [putCells] using hs, ?_⟩⟩
    · simp only [grow]
      rw [Array.getElem?_append_left (by simp [putRow, mapBlock, Sort.ahead]; exact hgl)]
      simp [putRow, mapBlock, Sort.ahead, Array.getElem?_modify, hg, onCells]
    · apply List.ext_getElem?
      intro j
      rw [List.getElem?_take, Array.getElem?_toList]
      by_cases hj : j < n * size
      · have hjc : j < cur.size := by omega
        simp only [if_pos hj, putCells, Array.getElem?_mapIdx, Array.getElem?_eq_getElem hjc, Option.map_some]
        rw [if_pos (by simp; omega), List.getElem?_eq_getElem (by omega)]
        simp [getElem!_pos, show j < ys.length by omega]
      · rw [if_neg hj, List.getElem?_eq_none (by omega)]
theorem fr_putK {w : World} {g q : Nat} {ys : Array Value} {os : Array Obj} : Fr (fun k => k = g) w (grow (putRow id (Sort.ahead w q) g 0 ys) os) := by
  refine ⟨rfl, rfl, rfl, by simp [grow, putRow, mapBlock, Sort.ahead], fun k hk hs => ?_, by simp [grow, putRow, mapBlock, Sort.ahead]⟩
  simp only [grow]
  rw [Array.getElem?_append_left (by simp [putRow, mapBlock, Sort.ahead]; exact hk)]
  simp [putRow, mapBlock, Sort.ahead, Array.getElem?_modify, show g ≠ k from fun e => hs e.symm]
/-- A list's order, equal ones kept. -/
def sortK (t : List Key3) : List Key3 := t.mergeSort fun x y => !(ltOf cmpK) y x
theorem sortK_perm (t : List Key3) : (sortK t).Perm t := List.mergeSort_perm _ _
theorem sortK_sorted (t : List Key3) : (sortK t).Pairwise (fun a b => cmpK a b ≤ 0) := by
  have := List.pairwise_mergeSort (le := fun x y : Key3 => !(ltOf cmpK) y x) (fun a b c h1 h2 => by
    simp only [Bool.not_eq_true'] at h1 h2 ⊢
    exact swoK.ntrans _ _ _ h2 h1) (fun a b => by
    cases h : ltOf cmpK b a with
    | false => rfl
    | true =>
      have : ltOf cmpK a b = false := decide_eq_false (by have h1 := of_decide_eq_true h; have := cmpK_anti a b; omega)
      rw [this]; rfl) t
  refine this.imp fun {a b} h => ?_
  simp only [Bool.not_eq_true'] at h
  have h1 := of_decide_eq_false h
  have h2 := cmpK_anti a b
  omega
/-- What slices.SortFunc leaves. -/
theorem sort_keys {base g cap n : Nat} {t : List Key3} {w : World} (h : w.ownsRow base 28 3 (.slice (some ⟨g, 0, none⟩) n cap) n (flatKy t)) (hn : t.length = n) (hm : n ≤ 5000) :
    Calls Tryz.prog 62 #[.slice (some ⟨g, 0, none⟩) n cap, .func (.func 63) #[] #[]] w fun e w' => e = .returned (.tuple #[]) ∧
      w'.ownsRow base 28 3 (.slice (some ⟨g, 0, none⟩) n cap) n (flatKy (sortK t)) ∧ Fr0 (fun k => k = g) w w' := by
  have eg : ∀ args w, (callFunc 63 args).run Tryz.prog w = .ok (.enter 63 args) w := enters_of Tryz.func63 (by kernel_rfl) rfl
  have hg := h.lt g rfl
  have hz := h.cells (g := g) rfl
  have hfr : ∀ o, w.frozen? ⟨g, o, none⟩ = false := fun o => by
    rcases h.2 with ⟨e0, _⟩ | ⟨g', cap', cur, e0, hb, hg', _⟩
    · cases e0
    · injection e0 with e1
      injection e1 with e1
      injection e1 with e1
      subst e1
      simp [World.frozen?, hg']
  have hH : HoldsK ckey 3 w g 0 t.toArray := by
    unfold HoldsK
    rw [flatK_eqK]
    intro j hj
    have hj' : j < (flatKy t).length := by simpa using hj
    refine ⟨?_, hfr _⟩
    have h1 := hz j ((flatKy t)[j]) (List.getElem?_eq_getElem hj')
    have h2 : (flatKy t).toArray[j]! = (flatKy t)[j] := by rw [getElem!_pos _ j hj]; simp
    rw [h2, Nat.zero_add]
    unfold Addr.add at h1
    split at h1
    · next h0 => subst h0; exact h1
    · simpa using h1
  have hS := AnyQ.slices_SortFunc_total Tryz.sortK_f62 3 Tryz.isAgg28 Tryz.sizeOf28 ckey (fun _ => rfl) (fun x v hv => flatKy_one [x] v (by simpa [flatKy] using hv)) cmpK swoK 63 #[] g 0 cap t.toArray w eg (laysK g 0 t.toArray.size w) hH hg.2 (by simp; omega) totK
  rw [show t.toArray.size = n from by simpa using hn] at hS
  refine Calls.mono hS ?_
  rintro e w' ⟨rfl, nn, os, hw⟩
  refine ⟨rfl, ?_, ?_⟩
  · rw [hw]
    unfold sortWorldK putRowK
    dsimp only
    rw [flatK_eqK]
    exact row_putK h (by rw [flatKy_length, flatKy_length, List.length_mergeSort])
  · rw [hw]
    unfold sortWorldK putRowK
    exact fr_putK.to0
theorem sort_keys_nil (a : Option Addr) (cap : Nat) (w : World) :
    Calls Tryz.prog 62 #[.slice a 0 cap, .func (.func 63) #[] #[]] w fun e w' => e = .returned (.tuple #[]) ∧ Fr0 none' w w' := by
  refine Calls.mono (AnyF.slices_SortFunc_none { Tryz.sortK_f62 with } a cap (.func (.func 63) #[] #[]) w) ?_
  rintro e w' ⟨rfl, rfl⟩
  exact ⟨rfl, Fr0.refl _ _⟩
theorem KsIn.flat {w : World} {g o : Nat} {P : List Key3} (h : KsIn w (some ⟨g, o, none⟩) P) (j : Nat) (u : Value) (hj : (flatKy P)[j]? = some u) : w.cell? ⟨g, o + j, none⟩ = some u := by
  have hlt : j < P.length * 3 := by rw [← flatKy_length]; exact (List.getElem?_eq_some_iff.1 hj).1
  have hk : j / 3 < P.length := by omega
  obtain ⟨g', o', e, c0, c1, c2⟩ := h (j / 3) P[j / 3] (List.getElem?_eq_getElem hk)
  injection e with e
  injection e with e1 e2
  subst e1; subst e2
  have h3 := flatKy_at P (j / 3) (j % 3) P[j / 3] (List.getElem?_eq_getElem hk) (by omega)
  rw [show j / 3 * 3 + j % 3 = j by omega, hj] at h3
  have : j % 3 = 0 ∨ j % 3 = 1 ∨ j % 3 = 2 := by omega
  rcases this with h | h | h
  · rw [h] at h3; rw [show o + j = o + j / 3 * 3 by omega, h3]; exact c0
  · rw [h] at h3; rw [show o + j = o + j / 3 * 3 + 1 by omega, h3]; exact c1
  · rw [h] at h3; rw [show o + j = o + j / 3 * 3 + 2 by omega, h3]; exact c2
/-- Clone of a row of keys. -/
theorem Clone_keys {w : World} {g o n cap : Nat} (P : List Key3) (hP : KsIn w (some ⟨g, o, none⟩) P) (hl : P.length = n) (hn : n ≤ 1000) :
    Calls Tryz.prog 57 #[.slice (some ⟨g, o, none⟩) n cap] w fun e w' => ∃ v', e = .returned v' ∧ w'.ownsRow w.heap.size 28 3 v' n (flatKy P) ∧ v' ≠ .slice none 0 0 ∧ Fr0 Go.Proofs.YtpklgpdlkdlbbaaGreatDoor.none' w w' := by
  obtain ⟨i0, hi0, hz0, hz1, hz2⟩ := info_parts info_key
  refine (AnyE.slices_Clone Tryz.cloneK_f57 i0 _ 3 24 hi0 hz0 hz1 hz2 rfl (by decide) Tryz.sizeOf28 g o n cap (flatKy P) w (by rw [flatKy_length, hl]) (by unfold maxLen; omega) (by omega) (fun j u hj => hP.flat j u hj) (flatKy_one P)).mono ?_
  rintro e w' ⟨v', rfl, h1, h2, h3⟩
  exact ⟨v', rfl, h1, h2, below_to0 h3⟩
end Go.Proofs.YtpklgpdlkdlbbaaGreatDoor

/-
  Appends in a round's drawn region.
-/
namespace Go.Proofs.YtpklgpdlkdlbbaaGreatDoor
open Go Go.RowKit
variable {P : Program} {ops : Array Oper} {Q : Exit → Act → World → Prop} {z : Nat} {l n : Nat}
/-- The beginning of the walk over a region that draws, in a round's body; its last operation may undo what the loads lean on. -/
theorem wpIn_round_Z {S : World → Prop} {id : Nat} {a : Act} {w : World} (hm : P.follows .mixedOrders = true) (hd : ops.all noDefer = true) (hQ : ∀ a w, ¬ Q .outgrown a w)
    (h : wpAnyZ P .any ops Q S z ops.size (Array.replicate ops.size false) a w.drew) : (Code.region id ops true).wpIn (Fence.wide.inRound l) n P Q a w :=
  wpIn_region_any hm (any_in_round hd hQ _ _ _ _ (wpAny_of_Z _ _ _ _ h))
/-- append in a drawn region. -/
theorem wp_app_q {o : Oper} {w : World} {a : Act} {K : Act → World → Prop} {Q : Exit → Act → World → Prop} (s x : Operand) (t tx : TypeId)
    (ho : o.op = .call { callee := .builtin .append, args := #[s, x], argTypes := #[t, tx] })
    (base : Nat) (e : TypeId) (i : TypeInfo) (z : Value) (size bytes : Nat) (ht : P.underlying t = some (.slice e)) (hi : P.info? e = some i) (hz : i.zero = some z)
    (hsize : i.size = size) (hby : i.bytes = bytes) (hzs : z.cells.size = size) (hsz : 0 < size)
    (v : Value) (n : Nat) (xs : List Value) (hs : a.eval s = v) (hown : w.ownsRow base e size v n xs)
    (xv : Value) (m : Nat) (news : List Value) (hx : a.eval x = xv) (hsrc : Src P size tx xv m news w)
    (h63 : n + m ≤ maxLen) (hbytes : (n + m) * bytes ≤ 140737488355328) (hbase : base ≤ w.heap.size)
    (h : ∀ v' w', w'.ownsRow base e size v' (n + m) (xs ++ news) → w.grownBy w' v.ownBlock → w.drawn ≤ w'.drawn → (v'.ownBlock = v.ownBlock ∨ v'.ownBlock = some w.heap.size) → K (a.put o.dst v') w') : o.wp P a w K Q := by
  obtain ⟨v', w', hr, h2, h3, h4, h5⟩ := run_append_own_k (P := P) w base t tx o.type e i z size bytes ht hi hz hsize hby hzs hsz v n xs hown xv m news hsrc h63 hbytes hbase
  unfold Oper.wp execOp
  simp only [ho, resolve, invoke, builtin, Sem.run_bind, Sem.run_pure, Result.andThen_ok, List.map_toArray, List.map_cons, List.map_nil, hs, hx, hr]
  exact h v' w' h2 h3 h4 h5
theorem info_byte : (Tryz.prog.info? 5).map (fun i => (i.zero, i.size, i.bytes)) = some (some (.int .u8 0), 1, 1) := by kernel_rfl
theorem ownsRow_q_fr {S : Nat → Prop} {w w' : World} {base : Nat} {e : TypeId} {size : Nat} {v : Value} {n : Nat} {xs : List Value} (h : w.ownsRow base e size v n xs) (hf : Fr0 S w w')
    (hs : ∀ g, v.ownBlock = some g → ¬ S g) : w'.ownsRow base e size v n xs := by
  obtain ⟨h1, h2⟩ := h
  refine ⟨h1, ?_⟩
  rcases h2 with h2 | ⟨g, cap, cur, hv, hg, hh, r⟩
  · exact .inl h2
  · exact .inr ⟨g, cap, cur, hv, hg, (hf.block g (Array.getElem?_eq_some_iff.1 hh).1 (hs g (by rw [hv]; rfl))).trans hh, r⟩
end Go.Proofs.YtpklgpdlkdlbbaaGreatDoor

/-
  slices.Compact at keys.
-/
namespace Go.Proofs.YtpklgpdlkdlbbaaGreatDoor
open Go.RowKit
attribute [local go_sem ↓] Go.wp_at_zero Go.wp_at_succ

/-- Runs of equal ones, each once. -/
def ddS (acc : List Key3) (x : Key3) : List Key3 := if acc.getLast? = some x then acc else acc ++ [x]
def dd (l : List Key3) : List Key3 := l.foldl ddS []
theorem dd_snoc (l : List Key3) (x : Key3) : dd (l ++ [x]) = if (dd l).getLast? = some x then dd l else dd l ++ [x] := by unfold dd; rw [List.foldl_append]; rfl
theorem snoc_ind {p : List Key3 → Prop} (h0 : p []) (hs : ∀ l x, p l → p (l ++ [x])) : ∀ (n : Nat) (l : List Key3), l.length = n → p l
  | 0, l, h => by rw [List.eq_nil_of_length_eq_zero h]; exact h0
  | n + 1, l, h => by
    rcases List.eq_nil_or_concat l with rfl | ⟨L, b, rfl⟩
    · exact h0
    · rw [List.concat_eq_append] at h ⊢
      exact hs L b (snoc_ind h0 hs n L (by simpa using h))
theorem dd_last (l : List Key3) : (dd l).getLast? = l.getLast? := by
  refine snoc_ind (p := fun l => (dd l).getLast? = l.getLast?) rfl (fun l x ih => ?_) _ l rfl
  rw [dd_snoc]
  split
  · next h => simp [h]
  · simp
theorem dd_take {zs : List Key3} {t : Nat} {x y : Key3} (ht : 0 < t) (hy : zs[t - 1]? = some y) (hx : zs[t]? = some x) : dd (zs.take (t + 1)) = if x = y then dd (zs.take t) else dd (zs.take t) ++ [x] := by
  rw [List.take_add_one, hx, Option.toList_some, dd_snoc, dd_last]
  have : (zs.take t).getLast? = some y := by
    rw [List.getLast?_eq_getElem?, List.length_take]
    have hl := (List.getElem?_eq_some_iff.1 hx).1
    rw [show min t zs.length - 1 = t - 1 by omega, List.getElem?_take_of_lt (by omega), hy]
  rw [this]
  by_cases h : x = y
  · rw [if_pos (by rw [h]), if_pos h]
  · rw [if_neg (fun e => h (Option.some.inj e).symm), if_neg h]
theorem dd_one {zs : List Key3} {x : Key3} (hx : zs[0]? = some x) : dd (zs.take 1) = [x] := by
  rw [List.take_add_one (i := 0), hx]; simp [dd, ddS]
theorem dd_le (l : List Key3) : (dd l).length ≤ l.length := by
  refine snoc_ind (p := fun l => (dd l).length ≤ l.length) (by simp [dd]) (fun l x ih => ?_) _ l rfl
  rw [dd_snoc]
  split
  · simp; omega
  · simp; omega
/-- Whether two keys are the same. -/
def sameK (p q : Key3) : Bool := decide (p = q)
@[go_sem] theorem sameK_self (p : Key3) : sameK p p = true := decide_eq_true rfl
theorem sameK_ne {p q : Key3} (h : p ≠ q) : sameK p q = false := decide_eq_false h
theorem run_eql_k (a b c a' b' c' : Int) (w : World) : (binOp .eql 28 (.agg #[.int .i64 a, .int .i64 b, .int .i64 c]) (.agg #[.int .i64 a', .int .i64 b', .int .i64 c'])).run Tryz.prog w = .ok (.bool (sameK ⟨a, b, c⟩ ⟨a', b', c'⟩)) w := eql_key ⟨a, b, c⟩ ⟨a', b', c'⟩ w
set_option maxRecDepth 100000 in
set_option maxHeartbeats 1000000 in
theorem run_neq_k (a b c a' b' c' : Int) (w : World) : (binOp .neq 28 (.agg #[.int .i64 a, .int .i64 b, .int .i64 c]) (.agg #[.int .i64 a', .int .i64 b', .int .i64 c'])).run Tryz.prog w = .ok (.bool (!sameK ⟨a, b, c⟩ ⟨a', b', c'⟩)) w := by
  have h : sameK ⟨a, b, c⟩ ⟨a', b', c'⟩ = (a == a' && (b == b' && c == c')) := by
    unfold sameK
    simp only [Key3.mk.injEq]
    rw [Bool.eq_iff_iff]; simp
  rw [h]
  go_simp
  by_cases h1 : a = a' <;> by_cases h2 : b = b' <;> by_cases h3 : c = c' <;> simp [h1, h2, h3]
attribute [local go_sem high] run_eql_k run_neq_k
theorem rowKs {w : World} {base g n cap : Nat} {L : List Key3} (h : w.ownsRow base 28 3 (.slice (some ⟨g, 0, none⟩) n cap) n (flatKy L)) (hn : L.length = n) : KsIn w (some ⟨g, 0, none⟩) L := by
  obtain ⟨a, c, e, hk⟩ := KsAt.of_own h hn
  injection e with e1
  rw [e1]; exact hk
theorem row_frozen {w : World} {base g n cap : Nat} {e : TypeId} {size : Nat} {xs : List Value} (h : w.ownsRow base e size (.slice (some ⟨g, 0, none⟩) n cap) n xs) (o : Nat) : w.frozen? ⟨g, o, none⟩ = false := by
  rcases h.2 with ⟨h0, _⟩ | ⟨g', cap', cur, h1, hb, hg, _⟩
  · cases h0
  · cases h1; simp [World.frozen?, hg]
/-- A key is written into a row. -/
theorem row_setK {w : World} {base g n cap k : Nat} {L : List Key3} {x : Key3} (h : w.ownsRow base 28 3 (.slice (some ⟨g, 0, none⟩) n cap) n (flatKy L)) (hn : L.length = n) (hk : k < n) :
    (((w.setCell ⟨g, k * 3, none⟩ (.int .i64 x.time)).setCell ⟨g, k * 3 + 1, none⟩ (.int .i64 x.source)).setCell ⟨g, k * 3 + 2, none⟩ (.int .i64 x.seq)).ownsRow base 28 3 (.slice (some ⟨g, 0, none⟩) n cap) n (flatKy (L.set k x)) := by
  refine ⟨by rw [flatKy_length, List.length_set, hn], ?_⟩
  rcases h.2 with ⟨h0, _⟩ | ⟨g', cap', cur, h1, hb, hg, hn', hm, hs, ht⟩
  · cases h0
  · cases h1
    have hsz : k * 3 + 2 < cur.size := by rw [hs]; omega
    refine .inr ⟨g, cap, ((cur.setIfInBounds (k * 3) (.int .i64 x.time)).setIfInBounds (k * 3 + 1) (.int .i64 x.source)).setIfInBounds (k * 3 + 2) (.int .i64 x.seq), rfl, hb, ?_, hn', hm, by simp [hs], ?_⟩
    · simp [World.setCell, Array.getElem?_modify, hg]
    · apply List.ext_getElem?
      intro j
      rw [List.getElem?_take]
      by_cases hj : j < n * 3
      · rw [if_pos hj]
        have hq : j / 3 < (L.set k x).length := by simp [hn]; omega
        have h3 := flatKy_at (L.set k x) (j / 3) (j % 3) _ (List.getElem?_eq_getElem hq) (by omega)
        rw [show j / 3 * 3 + j % 3 = j by omega] at h3
        rw [h3, Array.getElem?_toList]
        have hjc : j < cur.size := by rw [hs]; omega
        by_cases hjk : j / 3 = k
        · rw [show (L.set k x)[j / 3] = x from by simp [hjk]]
          have : j = k * 3 ∨ j = k * 3 + 1 ∨ j = k * 3 + 2 := by omega
          rcases this with rfl | rfl | rfl
          · rw [show k * 3 % 3 = 0 by omega]
            simp [Array.getElem?_setIfInBounds, ckey, show k * 3 < cur.size by omega]
          · rw [show (k * 3 + 1) % 3 = 1 by omega]
            simp [Array.getElem?_setIfInBounds, ckey, show k * 3 + 1 < cur.size by omega]
          · rw [show (k * 3 + 2) % 3 = 2 by omega]
            simp [Array.getElem?_setIfInBounds, ckey, show k * 3 + 2 < cur.size by omega]
        · have hq2 : j / 3 < L.length := by simpa using hq
          rw [show (L.set k x)[j / 3] = L[j / 3] from by simp [List.getElem_set, Ne.symm hjk]]
          have h4 := flatKy_at L (j / 3) (j % 3) _ (List.getElem?_eq_getElem hq2) (by omega)
          rw [show j / 3 * 3 + j % 3 = j by omega] at h4
          rw [← h4, ← ht, List.getElem?_take_of_lt hj, Array.getElem?_toList]
          simp [Array.getElem?_setIfInBounds, show ¬ k * 3 + 2 = j by omega, show ¬ k * 3 + 1 = j by omega, show ¬ k * 3 = j by omega]
      · rw [if_neg hj, List.getElem?_eq_none (by rw [flatKy_length, List.length_set, hn]; omega)]

theorem run_clear_ky {P : Program} (w : World) (t e ty : TypeId) (z : Value) (ht : P.underlying t = some (.slice e)) (hv : ∀ w, (zeroValue e).run P w = .ok z w) (b o n c : Nat) (news : List Value) (hz : (Builtin.zeroCells z.cells n).toList = news) (h1 : ∀ u ∈ news, u.oneCell' = true) (hn : 0 < n)
    (hc : ∀ j, j < news.length → (w.cell? ⟨b, o + j, none⟩).isSome = true) (hf : ∀ j, j < news.length → w.frozen? ⟨b, o + j, none⟩ = false) :
    (Builtin.clear_ #[t] ty #[.slice (some ⟨b, o, none⟩) n c]).run P w = .ok (.tuple #[]) (w.setCells b o news) := by
  have hst := run_storeCells_cells (P := P) b o news 0 w (by simpa using hc) (by simpa using hf) h1
  simp only [Nat.add_zero] at hst
  obtain ⟨m, rfl⟩ : ∃ m, n = m + 1 := ⟨n - 1, by omega⟩
  simp [Builtin.clear_, run_underlying ht, hv, hz, hst]
theorem setCells_fr0 {S : Nat → Prop} {b : Nat} {a : World} (hb : S b) : ∀ (vs : List Value) (o : Nat) (w : World), Fr0 S a w → Fr0 S a (w.setCells b o vs)
  | [], _, _, h => h
  | v :: r, o, w, h => setCells_fr0 hb r (o + 1) _ (h.setCell (fun _ => hb) v)
theorem rowC {w : World} {base : Nat} {e : TypeId} {g n cap : Nat} {xs : List Value} (h : w.ownsRow base e 3 (.slice (some ⟨g, 0, none⟩) n cap) n xs) :
    ∃ cur, base ≤ g ∧ w.heap[g]? = some (.cells cur e (0, 0)) ∧ n ≤ cap ∧ cap ≤ maxLen ∧ cur.size = cap * 3 ∧ xs.length = n * 3 ∧ ∀ j, j < n * 3 → cur[j]? = xs[j]? := by
  rcases h.2 with ⟨h0, _⟩ | ⟨g', cap', cur, h1, hb, hg, hn, hm, hs, ht⟩
  · cases h0
  · cases h1
    refine ⟨cur, hb, hg, hn, hm, hs, h.1, fun j hj => ?_⟩
    rw [← ht, List.getElem?_take, if_pos hj, Array.getElem?_toList]
theorem flatKy_take (P : List Key3) (i : Nat) : flatKy (P.take i) = (flatKy P).take (i * 3) := by
  induction P generalizing i with
  | nil => simp [flatKy]
  | cons p r ih =>
    cases i with
    | zero => simp [flatKy]
    | succ i =>
      have := ih i
      simp only [flatKy, List.take_succ_cons, List.flatMap_cons] at this ⊢
      rw [this, show (i + 1) * 3 = i * 3 + 3 by omega]
      simp [ckey]
theorem zero_key : ∀ w, (zeroValue 28).run Tryz.prog w = .ok (.agg #[.int .i64 0, .int .i64 0, .int .i64 0]) w := fun w => Tryz.zeroValue28 w
set_option maxRecDepth 100000 in
set_option maxHeartbeats 4000000 in
theorem Compact_keys {w : World} {base g n cap : Nat} (zs : List Key3) (hrow : w.ownsRow base 28 3 (.slice (some ⟨g, 0, none⟩) n cap) n (flatKy zs)) (hn : zs.length = n) (hm : n ≤ 5000) :
    Calls Tryz.prog 64 #[.slice (some ⟨g, 0, none⟩) n cap] w fun e w' => e = .returned (.slice (some ⟨g, 0, none⟩) (dd zs).length cap) ∧ w'.ownsRow base 28 3 (.slice (some ⟨g, 0, none⟩) (dd zs).length cap) (dd zs).length (flatKy (dd zs)) ∧ Fr0 (fun k => k = g) w w' := by
  obtain ⟨M, hM⟩ : ∃ M, (dd zs).length = M := ⟨_, rfl⟩
  rw [hM]
  have HM := Lib.hid hM
  have Hrow := Lib.hid hrow
  have Hn := Lib.hid hn
  clear hM hrow hn
  by_cases h2 : n < 2
  · have d0 : decide ((n : Int) < 2) = true := decide_eq_true (by omega)
    have he : dd zs = zs := by
      have hl := Hn.out
      match zs, hl with
      | [], _ => rfl
      | [x], _ => simp [dd, ddS]
      | x :: y :: r, hl => simp at hl; omega
    obtain rfl : n = M := by rw [← HM.out, he]; exact Hn.out.symm
    go_enter Tryz.func64, Tryz.ntmps64
    go_wp2
    go_ret
    rw [he]
    exact ⟨rfl, Hrow.out, Fr0.refl _ _⟩
  · have d0 : decide ((n : Int) < 2) = false := decide_eq_false (by omega)
    go_enter Tryz.func64, Tryz.ntmps64
    go_wp2
    clear d0
    have hcap : n ≤ cap := by
      rcases Hrow.out.2 with ⟨h0, _⟩ | ⟨g', cap', cur, h1, hb, hg, hn', _⟩
      · cases h0
      · cases h1; exact hn'
    go_loopw [3] (fun i wr => ∃ k : Nat, k ≤ n ∧ 0 < k ∧ i = .int .i64 k ∧ Hid (dd (zs.take k) = zs.take k) ∧ Hid (Fr0 none' w wr)) (fun i _ => n - (Go.RowKit.intOf i).toNat)
    case atStart =>
      obtain ⟨x, hx⟩ : ∃ x, zs[0]? = some x := ⟨_, List.getElem?_eq_getElem (by rw [Hn.out]; omega)⟩
      refine ⟨1, by omega, by omega, rfl, ?_, Fr0.refl _ _⟩
      unfold Hid
      rw [dd_one hx, List.take_add_one (i := 0), hx]; rfl
    case round =>
      obtain ⟨k, hk, hk0, rfl, hpre, hb⟩ := hrel
      by_cases hlt : k < n
      · obtain ⟨j, hj⟩ : ∃ j, j + 1 = k := ⟨k - 1, by omega⟩
        have h1 : k < zs.length := by rw [Hn.out]; exact hlt
        obtain ⟨x, hx⟩ : ∃ x, zs[k]? = some x := ⟨_, List.getElem?_eq_getElem h1⟩
        obtain ⟨y, hy⟩ : ∃ y, zs[j]? = some y := ⟨_, List.getElem?_eq_getElem (by omega)⟩
        obtain ⟨g1, o1, e1, hcx⟩ := rowKs Hrow.out Hn.out k x hx
        obtain ⟨g2, o2, e2, hcy⟩ := rowKs Hrow.out Hn.out j y hy
        injection e1 with e1
        injection e1 with e1 e1'
        subst e1; subst e1'
        injection e2 with e2
        injection e2 with e2 e2'
        subst e2; subst e2'
        rw [Nat.zero_add] at hcx hcy
        obtain ⟨x0, x1, x2⟩ := hcx.later hb.out
        obtain ⟨y0, y1, y2⟩ := hcy.later hb.out
        have Hx := Lib.hid hx
        have Hy := Lib.hid hy
        have Hj := Lib.hid hj
        have c1 : (0 : Int) ≤ (k : Int) := by omega
        have c2 : (k : Int) < (n : Int) := by omega
        have c3 : IntKind.i64.wrap ((k : Int) - 1) = (j : Int) := by rw [IntWalk.i64_in _ (by omega)]; omega
        have c4 : (0 : Int) ≤ (j : Int) := by omega
        have c5 : (j : Int) < (n : Int) := by omega
        have c6 : IntKind.i64.wrap ((k : Int) + 1) = (k : Int) + 1 := IntWalk.i64_in _ (by omega)
        have c7 : ¬ cap = k := by omega
        clear hx hy h1 hcx hcy hj
        by_cases hxy : x = y
        · subst hxy
          go_wp2
          go_quiet (fail)
          go_wp2
          have Hb2 := Lib.hid (show Fr0 (fun b => b = g) w (wr.drewN nq) from (hb.out.trans ((Fr.refl none' wr).drewN _).to0).mono (fun _ _ h => h.elim))
          have Hr2 := Lib.hid (show (wr.drewN nq).ownsRow base 28 3 (.slice (some ⟨g, 0, none⟩) n cap) n (flatKy zs) from ownsRow_q_fr Hrow.out (hb.out.trans ((Fr.refl none' wr).drewN _).to0) (fun _ _ h => h))
          clear x0 x1 x2 y0 y1 y2 c1 c2 c3 c4 c5 c6 hb
          have Hk := Lib.hid (show k < n ∧ 0 < k ∧ n ≤ cap ∧ ¬ cap = k from ⟨hlt, hk0, hcap, c7⟩)
          go_loopw [3, 5] (fun a b wi => ∃ (c d : Nat) (R : List Key3), a = .int .i64 c ∧ b = .int .i64 d ∧ Hid (k + d ≤ n ∧ 0 < d ∧ c + 1 ≤ k + d) ∧ Hid (R.length = n ∧ R.take c = dd (zs.take (k + d)) ∧ (dd (zs.take (k + d))).length = c ∧ ∀ i, c ≤ i → R[i]? = zs[i]?) ∧ Hid (wi.ownsRow base 28 3 (.slice (some ⟨g, 0, none⟩) n cap) n (flatKy R)) ∧ Hid (Fr0 (fun b => b = g) w wi)) (fun _ b _ => n - k - (Go.RowKit.intOf b).toNat)
          case atStart =>
            refine ⟨k, 1, zs, rfl, rfl, ⟨by omega, by omega, by omega⟩, ⟨Hn.out, ?_, ?_, fun _ _ => rfl⟩, Hr2, Hb2⟩
            · rw [dd_take (by omega) (y := x) (by rw [← Hy.out, ← Hj.out]; rfl) Hx.out, if_pos rfl, hpre.out]
            · rw [dd_take (by omega) (y := x) (by rw [← Hy.out, ← Hj.out]; rfl) Hx.out, if_pos rfl, hpre.out, List.length_take, Hn.out]; omega
          case round =>
            obtain ⟨c, d, R, rfl, rfl, hcd, hR, hr, hf⟩ := hrel
            have hcd' := hcd.out
            by_cases hdn : k + d < n
            · obtain ⟨e, he⟩ : ∃ e, e + 1 = d := ⟨d - 1, by omega⟩
              have h1 : k + d < zs.length := by rw [Hn.out]; exact hdn
              obtain ⟨x1, hx1⟩ : ∃ x, zs[k + d]? = some x := ⟨_, List.getElem?_eq_getElem h1⟩
              obtain ⟨y1, hy1⟩ : ∃ y, zs[k + e]? = some y := ⟨_, List.getElem?_eq_getElem (by omega)⟩
              obtain ⟨z1, hz1⟩ : ∃ z, R[c]? = some z := ⟨_, List.getElem?_eq_getElem (by rw [hR.out.1]; omega)⟩
              obtain ⟨g1, o1, e1, hcx⟩ := rowKs hr.out hR.out.1 (k + d) x1 (by rw [hR.out.2.2.2 _ (by omega)]; exact hx1)
              obtain ⟨g2, o2, e2, hcy⟩ := rowKs hr.out hR.out.1 (k + e) y1 (by rw [hR.out.2.2.2 _ (by omega)]; exact hy1)
              obtain ⟨g3, o3, e3, hcz⟩ := rowKs hr.out hR.out.1 c z1 hz1
              injection e1 with e1
              injection e1 with e1 e1'
              subst e1; subst e1'
              injection e2 with e2
              injection e2 with e2 e2'
              subst e2; subst e2'
              injection e3 with e3
              injection e3 with e3 e3'
              subst e3; subst e3'
              rw [Nat.zero_add, Nat.add_mul] at hcx hcy
              rw [Nat.zero_add] at hcz
              obtain ⟨x0, x01, x02⟩ := hcx
              obtain ⟨y0, y01, y02⟩ := hcy
              obtain ⟨z0, z01, z02⟩ := hcz
              have f0 := row_frozen hr.out (c * 3)
              have f1 := row_frozen hr.out (c * 3 + 1)
              have f2 := row_frozen hr.out (c * 3 + 2)
              have Hx1 := Lib.hid hx1
              have Hy1 := Lib.hid hy1
              have He := Lib.hid he
              have Hcd := Lib.hid (show k + d < n ∧ c < n ∧ 0 < k + d from ⟨hdn, by omega, by omega⟩)
              have c1 : (0 : Int) ≤ (d : Int) := by omega
              have c2 : (d : Int) < ((n - k : Nat) : Int) := by omega
              have c3 : IntKind.i64.wrap ((d : Int) - 1) = (e : Int) := by rw [IntWalk.i64_in _ (by omega)]; omega
              have c4 : (0 : Int) ≤ (e : Int) := by omega
              have c5 : (e : Int) < ((n - k : Nat) : Int) := by omega
              have c6 : IntKind.i64.wrap ((d : Int) + 1) = (d : Int) + 1 := IntWalk.i64_in _ (by omega)
              have c7 : (0 : Int) ≤ (c : Int) := by omega
              have c8 : (c : Int) < (n : Int) := by omega
              have c9 : IntKind.i64.wrap ((c : Int) + 1) = (c : Int) + 1 := IntWalk.i64_in _ (by omega)
              clear hx1 hy1 hz1 h1 he hcd' hdn
              by_cases hxy : x1 = y1
              · subst hxy
                go_wp2
                go_quiet (fail)
                go_wp2
                refine ⟨⟨c, d + 1, R, rfl, by simp, ?_, ?_, ?_, ?_⟩, ?_⟩
                · unfold Hid; have := Hcd.out; have := hcd.out; omega
                · unfold Hid
                  have h := hR.out
                  rw [show k + (d + 1) = k + d + 1 by omega, dd_take Hcd.out.2.2 (y := x1) (by rw [← Hy1.out, ← He.out]; rfl) Hx1.out, if_pos rfl]
                  exact h
                · exact ownsRow_q_fr hr.out ((Fr.refl none' _).drewN _).to0 (fun _ _ h => h)
                · exact hf.out.trans' ((Fr.refl none' _).drewN _).to0 (fun _ _ h => h.elim)
                · simp [Go.RowKit.intOf]; have := Hcd.out; omega
              · have d1 : sameK ⟨x1.time, x1.source, x1.seq⟩ ⟨y1.time, y1.source, y1.seq⟩ = false := sameK_ne hxy
                go_wp2
                go_quiet (fail)
                go_wp2
                refine ⟨⟨c + 1, d + 1, R.set c x1, by simp, by simp, ?_, ?_, ?_, ?_⟩, ?_⟩
                · unfold Hid; have := Hcd.out; have := hcd.out; omega
                · unfold Hid
                  obtain ⟨h1, h2, h3, h4⟩ := hR.out
                  have h5 : dd (zs.take (k + (d + 1))) = dd (zs.take (k + d)) ++ [x1] := by
                    rw [show k + (d + 1) = k + d + 1 by omega, dd_take Hcd.out.2.2 (y := y1) (by rw [← Hy1.out, ← He.out]; rfl) Hx1.out, if_neg hxy]
                  refine ⟨by rw [List.length_set]; exact h1, ?_, by rw [h5, List.length_append, h3]; rfl, fun i hi => ?_⟩
                  · rw [h5, ← h2, List.take_add_one, List.getElem?_set_self (by rw [h1]; exact Hcd.out.2.1), List.take_set_of_le (Nat.le_refl _)]; rfl
                  · rw [List.getElem?_set_ne (by omega)]; exact h4 i (by omega)
                · exact row_setK (ownsRow_q_fr hr.out ((Fr.refl none' _).drewN _).to0 (fun _ _ h => h)) hR.out.1 Hcd.out.2.1
                · exact (((hf.out.trans' ((Fr.refl none' _).drewN _).to0 (fun _ _ h => h.elim)).setCell (fun _ => rfl) _).setCell (fun _ => rfl) _).setCell (fun _ => rfl) _
                · simp [Go.RowKit.intOf]; have := Hcd.out; omega
            · have hkd : k + d = n := by omega
              have hcn : c < n := by omega
              have d0 : decide ((d : Int) < ((n - k : Nat) : Int)) = false := decide_eq_false (by omega)
              obtain ⟨cur, hb, hg, hnc, hcm, hs, hxl, hget⟩ := rowC hr.out
              obtain ⟨news, hnews⟩ : ∃ news, (Builtin.zeroCells (Value.agg #[.int .i64 0, .int .i64 0, .int .i64 0]).cells (n - c)).toList = news := ⟨_, rfl⟩
              have hnl : news.length = (n - c) * 3 := by rw [← hnews, Array.length_toList, size_zeroCells]; rfl
              have hn1 : ∀ u ∈ news, u.oneCell' = true := fun u hu => by
                rw [← hnews] at hu
                simp [Builtin.zeroCells, Value.cells] at hu
                obtain ⟨t, _, hu⟩ := hu
                have ht : t % 3 = 0 ∨ t % 3 = 1 ∨ t % 3 = 2 := by omega
                rw [← hu]
                rcases ht with h | h | h <;> rw [h] <;> rfl
              have hcl : ∀ ty, (Builtin.clear_ #[49] ty #[.slice (some ⟨g, c * 3, none⟩) (n - c) (cap - c)]).run Tryz.prog wr = .ok (.tuple #[]) (wr.setCells g (c * 3) news) := fun ty =>
                run_clear_ky wr _ _ ty _ Tryz.underlying49 zero_key g _ _ _ _ hnews hn1 (by omega) (fun t ht => by
                  rw [cellsK_at hg, Array.getElem?_eq_getElem (by rw [hs]; omega)]; rfl) (fun t ht => by simp [World.frozen?, hg])
              have hcM : c = M := by rw [← HM.out, ← hR.out.2.2.1, hkd, List.take_of_length_le (by rw [Hn.out]; exact Nat.le_refl _)]
              have hrow2 : Hid ((wr.setCells g (c * 3) news).ownsRow base 28 3 (.slice (some ⟨g, 0, none⟩) c cap) c (flatKy (dd zs))) := by
                have hzz : dd (zs.take (k + d)) = dd zs := by rw [hkd, List.take_of_length_le (by rw [Hn.out]; exact Nat.le_refl _)]
                have h2 := heap_setCells_at news (c * 3) wr cur hg
                refine ⟨by rw [flatKy_length, ← hzz, hR.out.2.2.1], .inr ⟨g, cap, _, rfl, hb, h2, by omega, hcm, by rw [over_size, hs], ?_⟩⟩
                rw [← hzz, ← hR.out.2.1]
                apply List.ext_getElem?
                intro t
                rw [List.getElem?_take, Array.getElem?_toList]
                by_cases ht : t < c * 3
                · rw [if_pos ht, over_get, if_neg (by omega), hget t (by omega), flatKy_take, List.getElem?_take_of_lt ht]
                · rw [if_neg ht, List.getElem?_eq_none (by rw [flatKy_length, List.length_take, hR.out.1]; omega)]
              have hfr2 : Hid (Fr0 (fun b => b = g) w (wr.setCells g (c * 3) news)) := setCells_fr0 (S := fun b => b = g) rfl _ _ _ hf.out
              have c1 : c ≤ n := by omega
              have c2 : ¬ cap = c := by omega
              have c3 : (0 : Int) ≤ (c : Int) := by omega
              have c4 : (c : Int) ≤ (n : Int) := by omega
              have c5 : (c : Int) ≤ (cap : Int) := by omega
              subst hcM
              have HCL := Lib.hid hcl
              clear hnews hnl hn1 hcl hg hs hxl hget hb hnc hcm hkd hcd'
              have hcl := HCL.out
              go_wp2
              go_ret
              exact ⟨rfl, hrow2.out, hfr2.out⟩
        · have d1 : sameK ⟨x.time, x.source, x.seq⟩ ⟨y.time, y.source, y.seq⟩ = false := sameK_ne hxy
          go_wp2
          go_quiet (fail)
          go_wp2
          refine ⟨⟨k + 1, by omega, by omega, by simp, ?_, (hb.out.trans ((Fr.refl none' wr).drewN _).to0)⟩, by simp [Go.RowKit.intOf]; omega⟩
          unfold Hid
          rw [dd_take hk0 (y := y) (by rw [← Hy.out, ← Hj.out]; rfl) Hx.out, if_neg hxy, hpre.out, List.take_add_one, Hx.out]; rfl
      · obtain rfl : k = n := by omega
        have d0 : decide ((k : Int) < (k : Int)) = false := decide_eq_false (by omega)
        have he : dd zs = zs := by
          have := hpre.out
          rwa [List.take_of_length_le (by rw [Hn.out]; exact Nat.le_refl _)] at this
        obtain rfl : k = M := by rw [← HM.out, he]; exact Hn.out.symm
        go_wp2
        go_ret
        rw [he]
        exact ⟨rfl, ownsRow_q_fr Hrow.out hb.out (fun _ _ h => h), hb.out.mono (fun _ _ h => h.elim)⟩
end Go.Proofs.YtpklgpdlkdlbbaaGreatDoor

/-
  slices.Equal at keys.
-/
namespace Go.Proofs.YtpklgpdlkdlbbaaGreatDoor
open Go Go.RowKit
attribute [local go_sem ↓] Go.wp_at_zero Go.wp_at_succ
section
attribute [local go_sem high] run_neq_k
set_option maxRecDepth 100000 in
set_option maxHeartbeats 2000000 in
theorem sameKs_any (a a' : Option Addr) (n n' cap cap' : Nat) (xs ys : List Key3) (w : World) (hn : xs.length = n) (hn' : ys.length = n') (hm : n ≤ 1000000) (hm' : n' ≤ 1000000)
    (hc : KsIn w a xs) (hc' : KsIn w a' ys) :
    Calls Tryz.prog 30 #[.slice a n cap, .slice a' n' cap'] w fun e w' => e = .returned (.bool (decide (xs = ys))) ∧ Fr0 none' w w' := by
  obtain ⟨R, hR⟩ : ∃ R, decide (xs = ys) = R := ⟨_, rfl⟩
  rw [hR]
  have HR := Lib.hid hR
  have Hn := Lib.hid hn
  have Hn' := Lib.hid hn'
  have Hc := Lib.hid hc
  have Hc' := Lib.hid hc'
  clear hR hn hn' hc hc'
  by_cases hnn : n = n'
  · subst hnn
    have d0 : ((n : Int) != (n : Int)) = false := by simp
    go_enter Tryz.func30, Tryz.ntmps30
    go_wp2
    clear d0
    go_loopw [13] (fun i wr => ∃ k : Nat, k ≤ n ∧ i = .int .i64 k ∧ Hid (xs.take k = ys.take k) ∧ Hid (Fr0 none' w wr)) (fun i _ => n - (Go.RowKit.intOf i).toNat)
    case atStart => exact ⟨0, Nat.zero_le _, rfl, rfl, Fr0.refl _ _⟩
    case round =>
      obtain ⟨k, hk, rfl, hpre, hb⟩ := hrel
      by_cases hlt : k < n
      · have h1 : k < xs.length := by rw [Hn.out]; exact hlt
        have h2 : k < ys.length := by rw [Hn'.out]; exact hlt
        obtain ⟨x, hx⟩ : ∃ x, xs[k]? = some x := ⟨_, List.getElem?_eq_getElem h1⟩
        obtain ⟨y, hy⟩ : ∃ y, ys[k]? = some y := ⟨_, List.getElem?_eq_getElem h2⟩
        obtain ⟨g, o, rfl, hcx⟩ := Hc.out k x hx
        obtain ⟨g', o', rfl, hcy⟩ := Hc'.out k y hy
        obtain ⟨x0, x1, x2⟩ := hcx.later hb.out
        have hcy := Lib.hid (hcy.later hb.out)
        have hx' := Lib.hid hx
        have hy' := Lib.hid hy
        obtain ⟨y0, y1, y2⟩ := hcy.out
        have FW := hb
        clear hx hy h1 h2
        have c1 : (0 : Int) ≤ (k : Int) := by omega
        have c2 : (k : Int) < (n : Int) := by omega
        by_cases hxy : x = y
        · subst hxy
          have d1 : sameK x x = true := sameK_self x
          go_wp2
          go_quiet (fail)

          go_wp2
          refine ⟨⟨k + 1, by omega, by go_num, by unfold Hid; rw [List.take_add_one, List.take_add_one, hpre.out, hx'.out, hy'.out], by first | exact FW | exact ⟨FW.out.os, FW.out.tape, FW.out.output, FW.out.size, FW.out.block⟩⟩, ?_⟩
          simp [Go.RowKit.intOf]; omega
        · have d1 : sameK ⟨x.time, x.source, x.seq⟩ ⟨y.time, y.source, y.seq⟩ = false := sameK_ne hxy
          have hres : Hid (false = R) := by
            unfold Hid; rw [← HR.out]
            refine (decide_eq_false (fun h => hxy ?_)).symm
            have := hx'.out; rw [h, hy'.out] at this; exact (Option.some.inj this).symm
          clear hxy
          go_wp2
          go_quiet (fail)

          go_wp2
          go_ret
          exact ⟨ret_bool hres.out, by first | exact FW.out | exact ⟨FW.out.os, FW.out.tape, FW.out.output, FW.out.size, FW.out.block⟩⟩
      · have hres : Hid (true = R) := by
          unfold Hid; rw [← HR.out]
          refine (decide_eq_true ?_).symm
          have := hpre.out
          rwa [List.take_of_length_le (by rw [Hn.out]; omega), List.take_of_length_le (by rw [Hn'.out]; omega)] at this
        go_wp2
        go_ret
        exact ⟨ret_bool hres.out, hb⟩
  · have hres : Hid (false = R) := by
      unfold Hid; rw [← HR.out]
      refine (decide_eq_false (fun h => hnn ?_)).symm
      rw [← Hn.out, ← Hn'.out, h]
    have d0 : ((n : Int) != (n' : Int)) = true := by simp; omega
    clear hnn
    go_enter Tryz.func30, Tryz.ntmps30
    go_wp2
    go_ret
    exact ⟨ret_bool hres.out, Fr0.refl _ _⟩
end
end Go.Proofs.YtpklgpdlkdlbbaaGreatDoor

/-
  key.Sort.
-/
namespace Go.Proofs.YtpklgpdlkdlbbaaGreatDoor
open Go Go.RowKit
attribute [local go_sem ↓] Go.wp_at_zero Go.wp_at_succ

/-- The keys of a list in order, each once. -/
def ss (l : List Key3) : List Key3 := dd (sortK l)
theorem row_some {w : World} {base : Nat} {e : TypeId} {size n : Nat} {v : Value} {xs : List Value} (h : w.ownsRow base e size v n xs) (hv : v ≠ .slice none 0 0) : ∃ g cap, v = .slice (some ⟨g, 0, none⟩) n cap := by
  rcases h.2 with ⟨h0, _⟩ | ⟨g', cap', cur, h1, _⟩
  · exact absurd h0 hv
  · exact ⟨g', cap', h1⟩
theorem clone_nil (w : World) : Calls Tryz.prog 57 #[.slice none 0 0] w fun e w' => e = .returned (.slice none 0 0) ∧ w = w' := by
  refine Calls.mono (AnyE.slices_Clone_nil Tryz.cloneK_f57 0 0 w) ?_
  rintro e w' ⟨rfl, rfl⟩
  exact ⟨rfl, rfl⟩
set_option maxRecDepth 100000 in
set_option maxHeartbeats 2000000 in
theorem compact_nil (w : World) : Calls Tryz.prog 64 #[.slice none 0 0] w fun e w' => e = .returned (.slice none 0 0) ∧ w = w' := by
  go_enter Tryz.func64, Tryz.ntmps64
  go_wp2
  go_ret
  exact ⟨rfl, rfl⟩
set_option maxRecDepth 100000 in
set_option maxHeartbeats 2000000 in
theorem Sort_some {w : World} {g o n cap : Nat} (L : List Key3) (hP : KsIn w (some ⟨g, o, none⟩) L) (hl : L.length = n) (hn : n ≤ 1000) :
    Calls Tryz.prog 26 #[.slice (some ⟨g, o, none⟩) n cap] w fun e w' => ∃ v, e = .returned v ∧ w'.ownsRow w.heap.size 28 3 v (ss L).length (flatKy (ss L)) ∧ Fr0 none' w w' := by
  have HC := Lib.hid (Clone_keys (cap := cap) L hP hl hn)
  go_enter Tryz.func26, Tryz.ntmps26
  go_wp2_with fail
  refine HC.out.mono ?_
  rintro e w1 ⟨v, rfl, hrow, hne, hf⟩
  obtain ⟨g1, cap1, rfl⟩ := row_some hrow hne
  have Hrow := Lib.hid hrow
  have HF := Lib.hid hf
  have Hg := Lib.hid (hrow.lt g1 rfl)
  clear hrow hne hf HC
  go_wp2_with fail
  by_cases h0 : n = 0
  · subst h0
    refine (sort_keys_nil _ _ _).mono ?_
    rintro e w2 ⟨rfl, hf2⟩
    have hL : L = [] := List.eq_nil_of_length_eq_zero hl
    subst hL
    have Hrow2 := Lib.hid (ownsRow_q_fr Hrow.out hf2 (fun _ _ h => h))
    have HF2 := Lib.hid (HF.out.trans hf2)
    clear hf2
    go_wp2_with fail
    refine (Compact_keys [] Hrow2.out rfl (by omega)).mono ?_
    rintro e w3 ⟨rfl, hr3, hf3⟩
    go_wp2
    go_ret
    rw [show ss [] = dd [] from by simp [ss, sortK]]
    exact ⟨_, rfl, hr3, HF2.out.trans' hf3 (fun k hk h => by have := Hg.out.1; omega)⟩
  · refine (sort_keys Hrow.out hl (by omega)).mono ?_
    rintro e w2 ⟨rfl, hr2, hf2⟩
    have Hrow2 := Lib.hid hr2
    have HF2 := Lib.hid (HF.out.trans' hf2 (fun k hk h => by have := Hg.out.1; omega))
    clear hf2 hr2
    go_wp2_with fail
    refine (Compact_keys (sortK L) Hrow2.out (by rw [sortK, List.length_mergeSort]; exact hl) (by omega)).mono ?_
    rintro e w3 ⟨rfl, hr3, hf3⟩
    go_wp2
    go_ret
    exact ⟨_, rfl, hr3, HF2.out.trans' hf3 (fun k hk h => by have := Hg.out.1; omega)⟩
set_option maxRecDepth 100000 in
set_option maxHeartbeats 2000000 in
theorem Sort_nil (w : World) :
    Calls Tryz.prog 26 #[.slice none 0 0] w fun e w' => e = .returned (.slice none 0 0) ∧ Fr0 none' w w' := by
  go_enter Tryz.func26, Tryz.ntmps26
  go_wp2_with fail
  refine (clone_nil w).mono ?_
  rintro e w1 ⟨rfl, rfl⟩
  go_wp2_with fail
  refine (sort_keys_nil _ _ _).mono ?_
  rintro e w2 ⟨rfl, hf2⟩
  go_wp2_with fail
  refine (compact_nil _).mono ?_
  rintro e w3 ⟨rfl, rfl⟩
  go_wp2
  go_ret
  exact ⟨rfl, hf2⟩
/-- Strictly increasing. -/
def Inc (l : List Key3) : Prop := l.Pairwise (fun a b => cmpK a b < 0)
theorem ss_mem (l : List Key3) (x : Key3) : x ∈ ss l ↔ x ∈ l := by
  have h : ∀ l : List Key3, x ∈ dd l ↔ x ∈ l := fun l => by
    refine snoc_ind (p := fun l => x ∈ dd l ↔ x ∈ l) (by simp [dd]) (fun l y ih => ?_) _ l rfl
    rw [dd_snoc]
    split
    · next hy =>
      rw [ih, List.mem_append, List.mem_singleton]
      have : y ∈ l := by rw [dd_last] at hy; exact List.mem_of_getLast? hy
      exact ⟨.inl, fun h => h.elim id (fun e => e ▸ this)⟩
    · rw [List.mem_append, List.mem_append, ih]
  rw [ss, h]
  exact (sortK_perm l).mem_iff
theorem dd_inc {l : List Key3} (h : l.Pairwise (fun a b => cmpK a b ≤ 0)) : Inc (dd l) := by
  revert h
  refine snoc_ind (p := fun l => l.Pairwise (fun a b => cmpK a b ≤ 0) → Inc (dd l)) (fun _ => by simp [dd, Inc]) (fun l y ih h => ?_) _ l rfl
  have h' := List.pairwise_append.1 h
  rw [dd_snoc]
  split
  · exact ih h'.1
  · next hne =>
    refine List.pairwise_append.2 ⟨ih h'.1, by simp, fun a ha b hb => ?_⟩
    rw [List.mem_singleton] at hb
    subst hb
    have hm : ∀ l : List Key3, a ∈ dd l → a ∈ l := fun l => by
      refine snoc_ind (p := fun l => a ∈ dd l → a ∈ l) (by simp [dd]) (fun l y ih => ?_) _ l rfl
      rw [dd_snoc]
      split
      · exact fun h => List.mem_append_left _ (ih h)
      · intro h
        rcases List.mem_append.1 h with h | h
        · exact List.mem_append_left _ (ih h)
        · exact List.mem_append_right _ h
    have h1 := h'.2.2 a (hm l ha) b (by simp)
    have h2 : cmpK a b ≠ 0 := fun e => by
      have e := (cmpK_eq a b).1 e
      subst e
      apply hne
      have hinc := ih h'.1
      have hl : dd l ≠ [] := fun e => by rw [e] at ha; cases ha
      obtain ⟨A, z, hA⟩ := (List.eq_nil_or_concat (dd l)).resolve_left hl
      rw [List.concat_eq_append] at hA
      have hz : (dd l).getLast? = some z := by rw [hA]; simp
      rw [hz]
      rw [hA] at ha
      rcases List.mem_append.1 ha with ha | ha
      · exfalso
        have h5 : cmpK a z < 0 := by
          unfold Inc at hinc
          rw [hA] at hinc
          exact (List.pairwise_append.1 hinc).2.2 a ha z (by simp)
        have h6 : z ∈ l := by
          have : l.getLast? = some z := by rw [← dd_last, hA]; simp
          exact List.mem_of_getLast? this
        have h7 := h'.2.2 z h6 a (by simp)
        have := cmpK_anti a z
        omega
      · rw [List.mem_singleton] at ha; rw [ha]
    omega
theorem ss_inc (l : List Key3) : Inc (ss l) := dd_inc (sortK_sorted l)
theorem inc_ext {a b : List Key3} (ha : Inc a) (hb : Inc b) (h : ∀ x, x ∈ a ↔ x ∈ b) : a = b := by
  induction a generalizing b with
  | nil =>
    cases b with
    | nil => rfl
    | cons y r => exact absurd ((h y).2 (by simp)) (by simp)
  | cons x r ih =>
    cases b with
    | nil => exact absurd ((h x).1 (by simp)) (by simp)
    | cons y t =>
      have ha' := List.pairwise_cons.1 ha
      have hb' := List.pairwise_cons.1 hb
      have hxy : x = y := by
        have h1 := (h x).1 (by simp)
        have h2 := (h y).2 (by simp)
        rcases List.mem_cons.1 h1 with h1 | h1
        · exact h1
        · rcases List.mem_cons.1 h2 with h2 | h2
          · exact h2.symm
          · have e1 := ha'.1 y h2
            have e2 := hb'.1 x h1
            have := cmpK_anti x y
            omega
      subst hxy
      congr 1
      refine ih ha'.2 hb'.2 (fun z => ?_)
      have hz := h z
      have hne1 : z ∈ r → z ≠ x := fun hm e => by subst e; have := ha'.1 z hm; rw [cmpK_refl] at this; omega
      have hne2 : z ∈ t → z ≠ x := fun hm e => by subst e; have := hb'.1 z hm; rw [cmpK_refl] at this; omega
      simp only [List.mem_cons] at hz
      exact ⟨fun hm => (hz.1 (.inr hm)).resolve_left (hne1 hm), fun hm => (hz.2 (.inr hm)).resolve_left (hne2 hm)⟩
end Go.Proofs.YtpklgpdlkdlbbaaGreatDoor

/-
  key.Search.
-/
namespace Go.Proofs.YtpklgpdlkdlbbaaGreatDoor
open Go Go.RowKit
attribute [local go_sem ↓] Go.wp_at_zero Go.wp_at_succ
attribute [local go_sem] Oper.semAt_some wide_fn wide_depth wide_fnR wide_depthR

instance (l : List Key3) : Decidable (Inc l) := by unfold Inc; infer_instance
/-- The key at a place. -/
def kat (L : List Key3) (i : Nat) : Key3 := L.getD i zeroK
theorem kat_get {L : List Key3} {i : Nat} (hi : i < L.length) : L[i]? = some (kat L i) := by
  rw [kat, List.getD_eq_getElem?_getD, List.getElem?_eq_getElem hi]; rfl
theorem inc_of_steps {L : List Key3} (h : ∀ j, j + 1 < L.length → cmpK (kat L j) (kat L (j + 1)) < 0) : Inc L := by
  induction L with
  | nil => exact List.Pairwise.nil
  | cons x r ih =>
    have hr : Inc r := ih (fun j hj => by have := h (j + 1) (by simp; omega); simpa [kat] using this)
    refine List.pairwise_cons.2 ⟨fun y hy => ?_, hr⟩
    cases r with
    | nil => cases hy
    | cons z t =>
      have h0 := h 0 (by simp)
      simp [kat] at h0
      rcases List.mem_cons.1 hy with rfl | hy
      · exact h0
      · exact cmpK_trans _ _ _ h0 ((List.pairwise_cons.1 hr).1 y hy)
theorem inc_step {L : List Key3} (h : Inc L) {i j : Nat} (hij : i < j) (hj : j < L.length) : cmpK (kat L i) (kat L j) < 0 := by
  have h1 := List.pairwise_iff_getElem.1 h i j (by omega) hj hij
  have e1 : kat L i = L[i]'(by omega) := by have := kat_get (L := L) (i := i) (by omega); rw [List.getElem?_eq_getElem (by omega)] at this; exact (Option.some.inj this).symm
  have e2 : kat L j = L[j] := by have := kat_get hj; rw [List.getElem?_eq_getElem hj] at this; exact (Option.some.inj this).symm
  rw [e1, e2]; exact h1
/-- How many keys are less. -/
def cntK (L : List Key3) (k : Key3) : Nat := L.countP (fun x => decide (cmpK x k < 0))
theorem cnt_at {L : List Key3} {k : Key3} : ∀ {i : Nat}, i ≤ L.length → (∀ t, t < i → cmpK (kat L t) k < 0) → (∀ t, i ≤ t → t < L.length → 0 ≤ cmpK (kat L t) k) → cntK L k = i := by
  induction L with
  | nil => intro i hi _ _; simp at hi; subst hi; rfl
  | cons x r ih =>
    intro i hi h1 h2
    unfold cntK
    cases i with
    | zero =>
      have h0 := h2 0 (Nat.le_refl _) (by simp)
      simp [kat] at h0
      rw [List.countP_cons_of_neg (by simpa using h0)]
      exact ih (Nat.zero_le _) (fun t ht => absurd ht (Nat.not_lt_zero _)) (fun t _ ht => by have := h2 (t + 1) (by omega) (by simp; omega); simpa [kat] using this)
    | succ i =>
      have h0 := h1 0 (by omega)
      simp [kat] at h0
      rw [List.countP_cons_of_pos (by simpa using h0)]
      congr 1
      exact ih (by simpa using hi) (fun t ht => by have := h1 (t + 1) (by omega); simpa [kat] using this) (fun t ht1 ht => by have := h2 (t + 1) (by omega) (by simp; omega); simpa [kat] using this)
theorem mem_at {L : List Key3} {k : Key3} (hL : Inc L) {i : Nat} (hi : i ≤ L.length) (h1 : ∀ t, t < i → cmpK (kat L t) k < 0) (h2 : ∀ t, i ≤ t → t < L.length → 0 ≤ cmpK (kat L t) k) : k ∈ L ↔ i < L.length ∧ cmpK (kat L i) k = 0 := by
  constructor
  · intro hk
    obtain ⟨t, ht, rfl⟩ := List.getElem_of_mem hk
    have et : kat L t = L[t] := by have := kat_get ht; rw [List.getElem?_eq_getElem ht] at this; exact (Option.some.inj this).symm
    by_cases hti : t < i
    · have := h1 t hti; rw [et, cmpK_refl] at this; omega
    · by_cases e : t = i
      · subst e; exact ⟨ht, by rw [et]; exact cmpK_refl _⟩
      · have h3 := inc_step hL (show i < t by omega) ht
        have h4 := h2 i (Nat.le_refl _) (by omega)
        rw [et] at h3; omega
  · rintro ⟨h3, h4⟩
    rw [← (cmpK_eq _ _).1 h4]
    exact List.mem_of_getElem? (kat_get h3)
def searchV (L : List Key3) (k : Key3) : Value := if Inc L then .tuple #[.int .i64 (cntK L k), .bool (decide (k ∈ L)), .int .i64 0] else .tuple #[.int .i64 0, .bool false, .int .i64 73]
theorem KsIn.at {w : World} {a : Option Addr} {L : List Key3} (h : KsIn w a L) {i : Nat} (hi : i < L.length) : ∃ g o, a = some ⟨g, o, none⟩ ∧ KAt w g (o + i * 3) (kat L i) := h i _ (kat_get hi)

set_option maxRecDepth 100000 in
set_option maxHeartbeats 4000000 in
theorem bsearch_any {w : World} {g o n cap : Nat} (L : List Key3) (k : Key3) (hP : KsIn w (some ⟨g, o, none⟩) L) (hl : L.length = n) (hn : n ≤ 100000) (hI : Inc L) :
    Calls Tryz.prog 65 #[.slice (some ⟨g, o, none⟩) n cap, keyV k, .func (.func 63) #[] #[]] w fun e w' => e = .returned (.tuple #[.int .i64 (cntK L k), .bool (decide (k ∈ L))]) ∧ Fr0 none' w w' := by
  have HC := Lib.hid (fun x W => compare_any x k W)
  have HP := Lib.hid hP
  have Hl := Lib.hid hl
  have HI := Lib.hid hI
  obtain ⟨C, hC⟩ : ∃ C, cntK L k = C := ⟨_, rfl⟩
  obtain ⟨R, hR⟩ : ∃ R, decide (k ∈ L) = R := ⟨_, rfl⟩
  rw [hC, hR]
  have HCC := Lib.hid hC
  have HR := Lib.hid hR
  clear hP hl hI hC hR
  simp only [keyV] at HC ⊢
  go_enter Tryz.func65, Tryz.ntmps65
  go_wp2
  obtain ⟨B, hB⟩ : ∃ B, w.heap.size = B := ⟨_, rfl⟩
  obtain ⟨W0, hW0⟩ : ∃ W0, w.alloc (.cells #[.int .i64 k.time, .int .i64 k.source, .int .i64 k.seq] 28) = W0 := ⟨_, rfl⟩
  have K0 := Lib.hid (show KeyAt W0 B k by rw [← hW0, ← hB]; exact World.alloc_heap_new w _)
  have F0 := Lib.hid (show Fr0 none' w W0 by rw [← hW0]; exact (Fr0.refl _ _).alloc _)
  rw [hW0, hB]
  clear hW0 hB
  go_loopw [9, 10] (fun a b wr => ∃ (i j : Nat), a = .int .i64 i ∧ b = .int .i64 j ∧ i ≤ j ∧ j ≤ n ∧ Hid ((∀ t, t < i → cmpK (kat L t) k < 0) ∧ ∀ t, j ≤ t → t < n → 0 ≤ cmpK (kat L t) k) ∧ Hid (Fr0 none' W0 wr)) (fun a b _ => (Go.RowKit.intOf b - Go.RowKit.intOf a).toNat)
  case atStart => exact ⟨0, n, rfl, rfl, Nat.zero_le _, Nat.le_refl _, ⟨fun t ht => absurd ht (Nat.not_lt_zero _), fun t h1 h2 => by omega⟩, Fr0.refl _ _⟩
  case round =>
    obtain ⟨i, j, rfl, rfl, hij, hjn, hinv, hf⟩ := hrel
    by_cases hlt : i < j
    · obtain ⟨h, hh⟩ : ∃ h, (i + j) / 2 = h := ⟨_, rfl⟩
      have hhb : i ≤ h ∧ h < j := by omega
      obtain ⟨g', o', e, hx⟩ := HP.out.at (i := h) (by rw [Hl.out]; omega)
      injection e with e
      injection e with e e'
      subst e; subst e'
      obtain ⟨x, hxx⟩ : ∃ x, kat L h = x := ⟨_, rfl⟩
      rw [hxx] at hx
      have Hxx := Lib.hid hxx
      obtain ⟨x0, x1, x2⟩ := hx.later (F0.out.trans hf.out)
      have hk := K0.out.fr0 hf.out id
      have k0 := hk.cell (i := 0) (by omega)
      have k1 := hk.cell (i := 1) (by omega)
      have k2 := hk.cell (i := 2) (by omega)
      simp [nth3] at k0 k1 k2
      have d0 : decide ((i : Int) < (j : Int)) = true := decide_eq_true (by omega)
      have e1 : IntKind.i64.wrap ((i : Int) + (j : Int)) = ((i + j : Nat) : Int) := by rw [IntWalk.i64_in _ (by omega)]; push_cast; rfl
      have e2 : IntKind.u64.wrap ((i + j : Nat) : Int) = ((i + j : Nat) : Int) := by rw [IntKind.wrap_u64]; omega
      have e3 : ((i + j : Nat) : Int) / 2 = (h : Int) := by omega
      have e4 : IntKind.i64.wrap (h : Int) = (h : Int) := IntWalk.i64_in _ (by omega)
      have e5 : IntKind.i64.wrap ((h : Int) + 1) = (h : Int) + 1 := IntWalk.i64_in _ (by omega)
      have b1 : (0 : Int) ≤ (h : Int) := by omega
      have b2 : (h : Int) < (n : Int) := by omega
      obtain ⟨s, hs⟩ : ∃ s, i + j = s := ⟨_, rfl⟩
      rw [hs] at e1 e2 e3
      have Hh := Lib.hid hhb
      have Hlt := Lib.hid hlt
      clear hxx hx hh hhb hs hk hlt
      go_wp2
      refine wp_region_held_drew (S := fun W' => KAt W' g (o + h * 3) x ∧ KAt W' B 0 k ∧ Fr0 none' W0 W') (by kernel_rfl) ⟨⟨x0, x1, x2⟩, ⟨k0, k1, k2⟩, hf.out.drew⟩ (fun hHeld => ?_)
      clear x0 x1 x2 k0 k1 k2 hf
      refine take_on (i := 0) (v := .func (.func 63) #[] #[]) rfl (by kernel_rfl) (by kernel_rfl) (by kernel_rfl) (fun _ _ _ h => h) (by kernel_rfl) (fun W' hSW => ?_) (by assumption) ?_
      · (try dsimp only at hSW)
        first | (go_simp; done) | exact rfl | (go_simp; rfl) | (go_simp; omega)
      try simp only [Act.put, List.setIfInBounds_toArray, List.set_cons_zero, List.set_cons_succ]
      refine take_on (i := 1) (v := .slice (some ⟨g, o, none⟩) n cap) rfl (by kernel_rfl) (by kernel_rfl) (by kernel_rfl) (fun _ _ _ h => h) (by kernel_rfl) (fun W' hSW => ?_) (by assumption) ?_
      · (try dsimp only at hSW)
        first | (go_simp; done) | exact rfl | (go_simp; rfl) | (go_simp; omega)
      try simp only [Act.put, List.setIfInBounds_toArray, List.set_cons_zero, List.set_cons_succ]
      refine take_on (i := 2) (v := .int .i64 h) rfl (by kernel_rfl) (by kernel_rfl) (by kernel_rfl) (fun _ _ _ h => h) (by kernel_rfl) (fun W' hSW => ?_) (by assumption) ?_
      · (try dsimp only at hSW)
        first | (go_simp; done) | exact rfl | (go_simp; rfl) | (go_simp; omega)
      try simp only [Act.put, List.setIfInBounds_toArray, List.set_cons_zero, List.set_cons_succ]
      refine take_on (i := 3) (v := .pointer (some ⟨g, o + h * 3, none⟩)) rfl (by kernel_rfl) (by kernel_rfl) (by kernel_rfl) (fun _ _ _ h => h) (by kernel_rfl) (fun W' hSW => ?_) (by assumption) ?_
      · (try dsimp only at hSW)
        first | (go_simp; done) | exact rfl | (go_simp; rfl) | (go_simp; omega)
      try simp only [Act.put, List.setIfInBounds_toArray, List.set_cons_zero, List.set_cons_succ]
      refine take_on (i := 4) (v := .agg #[.int .i64 x.time, .int .i64 x.source, .int .i64 x.seq]) rfl (by kernel_rfl) (by kernel_rfl) (by kernel_rfl) (fun _ _ _ h => h) (by kernel_rfl) (fun W' hSW => ?_) (by assumption) ?_
      · obtain ⟨⟨x0, x1, x2⟩, ⟨k0, k1, k2⟩, _⟩ := hSW
        rw [Nat.zero_add] at k1 k2
        first | (go_simp; done) | exact rfl | (go_simp; rfl) | (go_simp; omega)
      try simp only [Act.put, List.setIfInBounds_toArray, List.set_cons_zero, List.set_cons_succ]
      refine take_on (i := 5) (v := .agg #[.int .i64 k.time, .int .i64 k.source, .int .i64 k.seq]) rfl (by kernel_rfl) (by kernel_rfl) (by kernel_rfl) (fun _ _ _ h => h) (by kernel_rfl) (fun W' hSW => ?_) (by assumption) ?_
      · obtain ⟨⟨x0, x1, x2⟩, ⟨k0, k1, k2⟩, _⟩ := hSW
        rw [Nat.zero_add] at k1 k2
        first | (go_simp; done) | exact rfl | (go_simp; rfl) | (go_simp; omega)
      try simp only [Act.put, List.setIfInBounds_toArray, List.set_cons_zero, List.set_cons_succ]
      refine take_call (i := 6) rfl (by kernel_rfl) (by kernel_rfl) (fun K hK => ?_)
      go_simp
      refine (HC.out _ _).mono ?_
      rintro e w1 ⟨rfl, hf1⟩
      obtain ⟨c, hc⟩ : ∃ c, cmpK x k = c := ⟨_, rfl⟩
      rw [hc]
      have Hc := Lib.hid hc
      have hS := (show KAt w1 g (o + h * 3) x ∧ KAt w1 B 0 k ∧ Fr0 none' W0 w1 from ⟨hHeld.1.later hf1.to0, hHeld.2.1.later hf1.to0, hHeld.2.2.trans hf1.to0⟩)
      clear hHeld hf1 hc
      go_wp2_with fail
      refine hK.out _ _ hS (fun hHeld => ?_)
      clear hK K
      try simp only [Act.put, List.setIfInBounds_toArray, List.set_cons_zero, List.set_cons_succ]
      by_cases hc0 : c < 0
      · have d1 : decide (c < 0) = true := decide_eq_true hc0
        refine take_on (i := 7) (v := .bool true) rfl (by kernel_rfl) (by kernel_rfl) (by kernel_rfl) (fun _ _ _ h => h) (by kernel_rfl) (fun W' hSW => ?_) (by assumption) ?_
        · (try dsimp only at hSW)
          first | (go_simp; done) | exact rfl | (go_simp; rfl) | (go_simp; omega)
        try simp only [Act.put, List.setIfInBounds_toArray, List.set_cons_zero, List.set_cons_succ]
        refine wpAnyH_done (by kernel_rfl) ?_ _
        clear d1
        have Hc0 := Lib.hid hc0
        have HS := Lib.hid hS.2.2
        clear hHeld hS hc0
        go_wp2
        have hh := Hh.out
        refine ⟨⟨h + 1, j, by simp, rfl, by omega, by omega, ⟨fun t ht => ?_, hinv.out.2⟩, HS.out⟩, by simp [Go.RowKit.intOf]; omega⟩
        by_cases e : t = h
        · subst e; rw [Hxx.out, Hc.out]; exact Hc0.out
        · have h1 := inc_step HI.out (i := t) (j := h) (by omega) (by rw [Hl.out]; omega)
          have h2 : cmpK (kat L h) k < 0 := by rw [Hxx.out, Hc.out]; exact Hc0.out
          exact cmpK_trans _ _ _ h1 h2
      · have d1 : decide (c < 0) = false := decide_eq_false hc0
        refine take_on (i := 7) (v := .bool false) rfl (by kernel_rfl) (by kernel_rfl) (by kernel_rfl) (fun _ _ _ h => h) (by kernel_rfl) (fun W' hSW => ?_) (by assumption) ?_
        · (try dsimp only at hSW)
          first | (go_simp; done) | exact rfl | (go_simp; rfl) | (go_simp; omega)
        try simp only [Act.put, List.setIfInBounds_toArray, List.set_cons_zero, List.set_cons_succ]
        refine wpAnyH_done (by kernel_rfl) ?_ _
        clear d1
        have Hc0 := Lib.hid hc0
        have HS := Lib.hid hS.2.2
        clear hHeld hS hc0
        go_wp2
        have hh := Hh.out
        have hc0 := Hc0.out
        refine ⟨⟨i, h, rfl, rfl, by omega, by omega, ⟨hinv.out.1, fun t ht1 ht2 => ?_⟩, HS.out⟩, by simp [Go.RowKit.intOf]; omega⟩
        have h2 : ¬ cmpK (kat L h) k < 0 := by rw [Hxx.out, Hc.out]; omega
        by_cases e : t = h
        · subst e; omega
        · have h1 := inc_step HI.out (i := h) (j := t) (by omega) (by rw [Hl.out]; omega)
          have h3 := cmpK_anti (kat L h) (kat L t)
          have h4 : cmpK (kat L t) k < 0 → False := fun h5 => by
            have := cmpK_trans _ _ _ h1 h5; omega
          exact Int.not_lt.1 (fun h5 => h4 h5)
    · obtain rfl : i = j := by omega
      have d0 : decide ((i : Int) < (i : Int)) = false := decide_eq_false (by omega)
      have hC : C = i := by rw [← HCC.out]; exact cnt_at (by rw [Hl.out]; omega) hinv.out.1 (fun t h1 h2 => hinv.out.2 t h1 (by rw [← Hl.out]; exact h2))
      have hR : decide (i < n ∧ cmpK (kat L i) k = 0) = R := by
        rw [← HR.out]
        have := mem_at HI.out (k := k) (i := i) (by rw [Hl.out]; omega) hinv.out.1 (fun t h1 h2 => hinv.out.2 t h1 (by rw [← Hl.out]; exact h2))
        rw [Hl.out] at this
        exact decide_eq_decide.2 this.symm
      subst hC
      by_cases hin : C < n
      · have d1 : decide ((C : Int) < (n : Int)) = true := decide_eq_true (by omega)
        obtain ⟨g', o', e, hx⟩ := HP.out.at (i := C) (by rw [Hl.out]; omega)
        injection e with e
        injection e with e e'
        subst e; subst e'
        obtain ⟨x, hxx⟩ : ∃ x, kat L C = x := ⟨_, rfl⟩
        rw [hxx] at hx hR
        obtain ⟨x0, x1, x2⟩ := hx.later (F0.out.trans hf.out)
        have hk := K0.out.fr0 hf.out id
        have k0 := hk.cell (i := 0) (by omega)
        have k1 := hk.cell (i := 1) (by omega)
        have k2 := hk.cell (i := 2) (by omega)
        simp [nth3] at k0 k1 k2
        have b1 : (0 : Int) ≤ (C : Int) := by omega
        have b2 : (C : Int) < (n : Int) := by omega
        have HRR := Lib.hid hR
        have Hin := Lib.hid hin
        clear hxx hx hk hR hin
        go_wp2
        refine wp_region_held_drew (S := fun W' => KAt W' g (o + C * 3) x ∧ KAt W' B 0 k ∧ Fr0 none' W0 W') (by kernel_rfl) ⟨⟨x0, x1, x2⟩, ⟨k0, k1, k2⟩, hf.out.drew⟩ (fun hHeld => ?_)
        clear x0 x1 x2 k0 k1 k2 hf
        refine take_on (i := 0) (v := .int .i64 C) rfl (by kernel_rfl) (by kernel_rfl) (by kernel_rfl) (fun _ _ _ h => h) (by kernel_rfl) (fun W' hSW => ?_) (by assumption) ?_
        · (try dsimp only at hSW)
          first | (go_simp; done) | exact rfl | (go_simp; rfl) | (go_simp; omega)
        try simp only [Act.put, List.setIfInBounds_toArray, List.set_cons_zero, List.set_cons_succ]
        refine take_on (i := 1) (v := .int .i64 C) rfl (by kernel_rfl) (by kernel_rfl) (by kernel_rfl) (fun _ _ _ h => h) (by kernel_rfl) (fun W' hSW => ?_) (by assumption) ?_
        · (try dsimp only at hSW)
          first | (go_simp; done) | exact rfl | (go_simp; rfl) | (go_simp; omega)
        try simp only [Act.put, List.setIfInBounds_toArray, List.set_cons_zero, List.set_cons_succ]
        refine take_on (i := 2) (v := .int .i64 n) rfl (by kernel_rfl) (by kernel_rfl) (by kernel_rfl) (fun _ _ _ h => h) (by kernel_rfl) (fun W' hSW => ?_) (by assumption) ?_
        · (try dsimp only at hSW)
          first | (go_simp; done) | exact rfl | (go_simp; rfl) | (go_simp; omega)
        try simp only [Act.put, List.setIfInBounds_toArray, List.set_cons_zero, List.set_cons_succ]
        refine take_on (i := 3) (v := .bool true) rfl (by kernel_rfl) (by kernel_rfl) (by kernel_rfl) (fun _ _ _ h => h) (by kernel_rfl) (fun W' hSW => ?_) (by assumption) ?_
        · (try dsimp only at hSW)
          first | (go_simp; done) | exact rfl | (go_simp; rfl) | (go_simp; omega)
        try simp only [Act.put, List.setIfInBounds_toArray, List.set_cons_zero, List.set_cons_succ]
        refine take_on (i := 4) (v := .bool true) rfl (by kernel_rfl) (by kernel_rfl) (by kernel_rfl) (fun _ _ _ h => h) (by kernel_rfl) (fun W' hSW => ?_) (by assumption) ?_
        · (try dsimp only at hSW)
          first | (go_simp; done) | exact rfl | (go_simp; rfl) | (go_simp; omega)
        try simp only [Act.put, List.setIfInBounds_toArray, List.set_cons_zero, List.set_cons_succ]
        refine take_on (i := 5) (v := .func (.func 63) #[] #[]) rfl (by kernel_rfl) (by kernel_rfl) (by kernel_rfl) (fun _ _ _ h => h) (by kernel_rfl) (fun W' hSW => ?_) (by assumption) ?_
        · (try dsimp only at hSW)
          first | (go_simp; done) | exact rfl | (go_simp; rfl) | (go_simp; omega)
        try simp only [Act.put, List.setIfInBounds_toArray, List.set_cons_zero, List.set_cons_succ]
        refine take_on (i := 6) (v := .slice (some ⟨g, o, none⟩) n cap) rfl (by kernel_rfl) (by kernel_rfl) (by kernel_rfl) (fun _ _ _ h => h) (by kernel_rfl) (fun W' hSW => ?_) (by assumption) ?_
        · (try dsimp only at hSW)
          first | (go_simp; done) | exact rfl | (go_simp; rfl) | (go_simp; omega)
        try simp only [Act.put, List.setIfInBounds_toArray, List.set_cons_zero, List.set_cons_succ]
        refine take_on (i := 7) (v := .int .i64 C) rfl (by kernel_rfl) (by kernel_rfl) (by kernel_rfl) (fun _ _ _ h => h) (by kernel_rfl) (fun W' hSW => ?_) (by assumption) ?_
        · (try dsimp only at hSW)
          first | (go_simp; done) | exact rfl | (go_simp; rfl) | (go_simp; omega)
        try simp only [Act.put, List.setIfInBounds_toArray, List.set_cons_zero, List.set_cons_succ]
        refine take_on (i := 8) (v := .pointer (some ⟨g, o + C * 3, none⟩)) rfl (by kernel_rfl) (by kernel_rfl) (by kernel_rfl) (fun _ _ _ h => h) (by kernel_rfl) (fun W' hSW => ?_) (by assumption) ?_
        · (try dsimp only at hSW)
          first | (go_simp; done) | exact rfl | (go_simp; rfl) | (go_simp; omega)
        try simp only [Act.put, List.setIfInBounds_toArray, List.set_cons_zero, List.set_cons_succ]
        refine take_on (i := 9) (v := .agg #[.int .i64 x.time, .int .i64 x.source, .int .i64 x.seq]) rfl (by kernel_rfl) (by kernel_rfl) (by kernel_rfl) (fun _ _ _ h => h) (by kernel_rfl) (fun W' hSW => ?_) (by assumption) ?_
        · obtain ⟨⟨x0, x1, x2⟩, ⟨k0, k1, k2⟩, _⟩ := hSW
          rw [Nat.zero_add] at k1 k2
          first | (go_simp; done) | exact rfl | (go_simp; rfl) | (go_simp; omega)
        try simp only [Act.put, List.setIfInBounds_toArray, List.set_cons_zero, List.set_cons_succ]
        refine take_on (i := 10) (v := .agg #[.int .i64 k.time, .int .i64 k.source, .int .i64 k.seq]) rfl (by kernel_rfl) (by kernel_rfl) (by kernel_rfl) (fun _ _ _ h => h) (by kernel_rfl) (fun W' hSW => ?_) (by assumption) ?_
        · obtain ⟨⟨x0, x1, x2⟩, ⟨k0, k1, k2⟩, _⟩ := hSW
          rw [Nat.zero_add] at k1 k2
          first | (go_simp; done) | exact rfl | (go_simp; rfl) | (go_simp; omega)
        try simp only [Act.put, List.setIfInBounds_toArray, List.set_cons_zero, List.set_cons_succ]
        refine take_call (i := 11) rfl (by kernel_rfl) (by kernel_rfl) (fun K hK => ?_)
        go_simp
        refine (HC.out _ _).mono ?_
        rintro e w1 ⟨rfl, hf1⟩
        obtain ⟨c, hc⟩ : ∃ c, cmpK x k = c := ⟨_, rfl⟩
        rw [hc]
        have Hc := Lib.hid hc
        have hS := (show KAt w1 g (o + C * 3) x ∧ KAt w1 B 0 k ∧ Fr0 none' W0 w1 from ⟨hHeld.1.later hf1.to0, hHeld.2.1.later hf1.to0, hHeld.2.2.trans hf1.to0⟩)
        clear hHeld hf1 hc
        go_wp2_with fail
        refine hK.out _ _ hS (fun hHeld => ?_)
        clear hK K
        try simp only [Act.put, List.setIfInBounds_toArray, List.set_cons_zero, List.set_cons_succ]
        have hb : (c == 0) = R := by
          rw [← HRR.out, Hc.out]
          have := Hin.out
          by_cases h0 : c = 0
          · rw [h0, decide_eq_true ⟨this, rfl⟩]; rfl
          · rw [decide_eq_false (fun h => h0 h.2)]; simpa using h0
        refine take_on (i := 12) (v := .bool R) rfl (by kernel_rfl) (by kernel_rfl) (by kernel_rfl) (fun _ _ _ h => h) (by kernel_rfl) (fun W' hSW => ?_) (by assumption) ?_
        · (try dsimp only at hSW)
          first | (go_simp; done) | exact rfl | (go_simp; rfl) | (go_simp; omega)
        try simp only [Act.put, List.setIfInBounds_toArray, List.set_cons_zero, List.set_cons_succ]
        clear hb
        refine take_on (i := 13) (v := .bool R) rfl (by kernel_rfl) (by kernel_rfl) (by kernel_rfl) (fun _ _ _ h => h) (by kernel_rfl) (fun W' hSW => ?_) (by assumption) ?_
        · (try dsimp only at hSW)
          first | (go_simp; done) | exact rfl | (go_simp; rfl) | (go_simp; omega)
        try simp only [Act.put, List.setIfInBounds_toArray, List.set_cons_zero, List.set_cons_succ]
        refine take_on (i := 14) (v := .int .i64 C) rfl (by kernel_rfl) (by kernel_rfl) (by kernel_rfl) (fun _ _ _ h => h) (by kernel_rfl) (fun W' hSW => ?_) (by assumption) ?_
        · (try dsimp only at hSW)
          first | (go_simp; done) | exact rfl | (go_simp; rfl) | (go_simp; omega)
        try simp only [Act.put, List.setIfInBounds_toArray, List.set_cons_zero, List.set_cons_succ]
        refine take_on (i := 15) (v := .bool R) rfl (by kernel_rfl) (by kernel_rfl) (by kernel_rfl) (fun _ _ _ h => h) (by kernel_rfl) (fun W' hSW => ?_) (by assumption) ?_
        · (try dsimp only at hSW)
          first | (go_simp; done) | exact rfl | (go_simp; rfl) | (go_simp; omega)
        try simp only [Act.put, List.setIfInBounds_toArray, List.set_cons_zero, List.set_cons_succ]
        refine wpAnyH_done (by kernel_rfl) ?_ _
        have HS := Lib.hid hS.2.2
        clear hHeld hS d1
        go_wp2
        go_ret2
        exact ⟨rfl, F0.out.trans HS.out⟩
      · have d1 : decide ((C : Int) < (n : Int)) = false := decide_eq_false (by omega)
        obtain rfl : false = R := by rw [← hR]; exact (decide_eq_false (fun h => hin h.1)).symm
        clear hR
        go_wp2
        refine wp_region_held_drew (S := fun W' => Fr0 none' W0 W') (by kernel_rfl) hf.out.drew (fun hHeld => ?_)
        clear hf
        refine take_on (i := 0) (v := .int .i64 C) rfl (by kernel_rfl) (by kernel_rfl) (by kernel_rfl) (fun _ _ _ h => h) (by kernel_rfl) (fun W' hSW => ?_) (by assumption) ?_
        · (try dsimp only at hSW)
          first | (go_simp; done) | exact rfl | (go_simp; rfl) | (go_simp; omega)
        try simp only [Act.put, List.setIfInBounds_toArray, List.set_cons_zero, List.set_cons_succ]
        refine take_on (i := 1) (v := .int .i64 C) rfl (by kernel_rfl) (by kernel_rfl) (by kernel_rfl) (fun _ _ _ h => h) (by kernel_rfl) (fun W' hSW => ?_) (by assumption) ?_
        · (try dsimp only at hSW)
          first | (go_simp; done) | exact rfl | (go_simp; rfl) | (go_simp; omega)
        try simp only [Act.put, List.setIfInBounds_toArray, List.set_cons_zero, List.set_cons_succ]
        refine take_on (i := 2) (v := .int .i64 n) rfl (by kernel_rfl) (by kernel_rfl) (by kernel_rfl) (fun _ _ _ h => h) (by kernel_rfl) (fun W' hSW => ?_) (by assumption) ?_
        · (try dsimp only at hSW)
          first | (go_simp; done) | exact rfl | (go_simp; rfl) | (go_simp; omega)
        try simp only [Act.put, List.setIfInBounds_toArray, List.set_cons_zero, List.set_cons_succ]
        refine take_on (i := 3) (v := .bool false) rfl (by kernel_rfl) (by kernel_rfl) (by kernel_rfl) (fun _ _ _ h => h) (by kernel_rfl) (fun W' hSW => ?_) (by assumption) ?_
        · (try dsimp only at hSW)
          first | (go_simp; done) | exact rfl | (go_simp; rfl) | (go_simp; omega)
        try simp only [Act.put, List.setIfInBounds_toArray, List.set_cons_zero, List.set_cons_succ]
        refine take_on (i := 4) (v := .bool false) rfl (by kernel_rfl) (by kernel_rfl) (by kernel_rfl) (fun _ _ _ h => h) (by kernel_rfl) (fun W' hSW => ?_) (by assumption) ?_
        · (try dsimp only at hSW)
          first | (go_simp; done) | exact rfl | (go_simp; rfl) | (go_simp; omega)
        try simp only [Act.put, List.setIfInBounds_toArray, List.set_cons_zero, List.set_cons_succ]
        refine take_off (i := 5) rfl (by kernel_rfl) (by kernel_rfl) (by kernel_rfl) (fun _ _ _ h => h) (by kernel_rfl) (by assumption) ?_
        try simp only [Act.put, List.setIfInBounds_toArray, List.set_cons_zero, List.set_cons_succ]
        refine take_off (i := 6) rfl (by kernel_rfl) (by kernel_rfl) (by kernel_rfl) (fun _ _ _ h => h) (by kernel_rfl) (by assumption) ?_
        try simp only [Act.put, List.setIfInBounds_toArray, List.set_cons_zero, List.set_cons_succ]
        refine take_off (i := 7) rfl (by kernel_rfl) (by kernel_rfl) (by kernel_rfl) (fun _ _ _ h => h) (by kernel_rfl) (by assumption) ?_
        try simp only [Act.put, List.setIfInBounds_toArray, List.set_cons_zero, List.set_cons_succ]
        refine take_off (i := 8) rfl (by kernel_rfl) (by kernel_rfl) (by kernel_rfl) (fun _ _ _ h => h) (by kernel_rfl) (by assumption) ?_
        try simp only [Act.put, List.setIfInBounds_toArray, List.set_cons_zero, List.set_cons_succ]
        refine take_off (i := 9) rfl (by kernel_rfl) (by kernel_rfl) (by kernel_rfl) (fun _ _ _ h => h) (by kernel_rfl) (by assumption) ?_
        try simp only [Act.put, List.setIfInBounds_toArray, List.set_cons_zero, List.set_cons_succ]
        refine take_off (i := 10) rfl (by kernel_rfl) (by kernel_rfl) (by kernel_rfl) (fun _ _ _ h => h) (by kernel_rfl) (by assumption) ?_
        try simp only [Act.put, List.setIfInBounds_toArray, List.set_cons_zero, List.set_cons_succ]
        refine take_off (i := 11) rfl (by kernel_rfl) (by kernel_rfl) (by kernel_rfl) (fun _ _ _ h => h) (by kernel_rfl) (by assumption) ?_
        try simp only [Act.put, List.setIfInBounds_toArray, List.set_cons_zero, List.set_cons_succ]
        refine take_off (i := 12) rfl (by kernel_rfl) (by kernel_rfl) (by kernel_rfl) (fun _ _ _ h => h) (by kernel_rfl) (by assumption) ?_
        try simp only [Act.put, List.setIfInBounds_toArray, List.set_cons_zero, List.set_cons_succ]
        refine take_on (i := 13) (v := .bool false) rfl (by kernel_rfl) (by kernel_rfl) (by kernel_rfl) (fun _ _ _ h => h) (by kernel_rfl) (fun W' hSW => ?_) (by assumption) ?_
        · (try dsimp only at hSW)
          first | (go_simp; done) | exact rfl | (go_simp; rfl) | (go_simp; omega)
        try simp only [Act.put, List.setIfInBounds_toArray, List.set_cons_zero, List.set_cons_succ]
        refine take_on (i := 14) (v := .int .i64 C) rfl (by kernel_rfl) (by kernel_rfl) (by kernel_rfl) (fun _ _ _ h => h) (by kernel_rfl) (fun W' hSW => ?_) (by assumption) ?_
        · (try dsimp only at hSW)
          first | (go_simp; done) | exact rfl | (go_simp; rfl) | (go_simp; omega)
        try simp only [Act.put, List.setIfInBounds_toArray, List.set_cons_zero, List.set_cons_succ]
        refine take_on (i := 15) (v := .bool false) rfl (by kernel_rfl) (by kernel_rfl) (by kernel_rfl) (fun _ _ _ h => h) (by kernel_rfl) (fun W' hSW => ?_) (by assumption) ?_
        · (try dsimp only at hSW)
          first | (go_simp; done) | exact rfl | (go_simp; rfl) | (go_simp; omega)
        try simp only [Act.put, List.setIfInBounds_toArray, List.set_cons_zero, List.set_cons_succ]
        refine wpAnyH_done (by kernel_rfl) ?_ _
        have HS := Lib.hid hHeld
        clear hHeld d1
        go_wp2
        go_ret2
        exact ⟨rfl, F0.out.trans HS.out⟩
end Go.Proofs.YtpklgpdlkdlbbaaGreatDoor

/-
  key.Search, second part.
-/
namespace Go.Proofs.YtpklgpdlkdlbbaaGreatDoor
open Go Go.RowKit
attribute [local go_sem ↓] Go.wp_at_zero Go.wp_at_succ
attribute [local go_sem] Oper.semAt_some wide_fn wide_depth wide_fnR wide_depthR

set_option maxRecDepth 100000 in
set_option maxHeartbeats 4000000 in
theorem bsearch_none (a : Option Addr) (cap : Nat) (k : Key3) (w : World) :
    Calls Tryz.prog 65 #[.slice a 0 cap, keyV k, .func (.func 63) #[] #[]] w fun e w' => e = .returned (.tuple #[.int .i64 0, .bool false]) ∧ Fr0 none' w w' := by
  simp only [keyV]
  go_enter Tryz.func65, Tryz.ntmps65
  go_wp2
  obtain ⟨W0, hW0⟩ : ∃ W0, w.alloc (.cells #[.int .i64 k.time, .int .i64 k.source, .int .i64 k.seq] 28) = W0 := ⟨_, rfl⟩
  have F0 := Lib.hid (show Fr0 none' w W0 by rw [← hW0]; exact (Fr0.refl _ _).alloc _)
  rw [hW0]
  clear hW0
  refine wp_loop_rounds 1 ?_
  rw [rounds_succ]
  go_wp2
  refine wp_region_held_drew (S := fun W' => Fr0 none' W0 W') (by kernel_rfl) (Fr.refl none' W0).drew.to0 (fun hHeld => ?_)
  refine take_on (i := 0) (v := .int .i64 0) rfl (by kernel_rfl) (by kernel_rfl) (by kernel_rfl) (fun _ _ _ h => h) (by kernel_rfl) (fun W' hSW => ?_) (by assumption) ?_
  · (try dsimp only at hSW)
    first | (go_simp; done) | exact rfl | (go_simp; rfl) | (go_simp; omega)
  try simp only [Act.put, List.setIfInBounds_toArray, List.set_cons_zero, List.set_cons_succ]
  refine take_on (i := 1) (v := .int .i64 0) rfl (by kernel_rfl) (by kernel_rfl) (by kernel_rfl) (fun _ _ _ h => h) (by kernel_rfl) (fun W' hSW => ?_) (by assumption) ?_
  · (try dsimp only at hSW)
    first | (go_simp; done) | exact rfl | (go_simp; rfl) | (go_simp; omega)
  try simp only [Act.put, List.setIfInBounds_toArray, List.set_cons_zero, List.set_cons_succ]
  refine take_on (i := 2) (v := .int .i64 0) rfl (by kernel_rfl) (by kernel_rfl) (by kernel_rfl) (fun _ _ _ h => h) (by kernel_rfl) (fun W' hSW => ?_) (by assumption) ?_
  · (try dsimp only at hSW)
    first | (go_simp; done) | exact rfl | (go_simp; rfl) | (go_simp; omega)
  try simp only [Act.put, List.setIfInBounds_toArray, List.set_cons_zero, List.set_cons_succ]
  refine take_on (i := 3) (v := .bool false) rfl (by kernel_rfl) (by kernel_rfl) (by kernel_rfl) (fun _ _ _ h => h) (by kernel_rfl) (fun W' hSW => ?_) (by assumption) ?_
  · (try dsimp only at hSW)
    first | (go_simp; done) | exact rfl | (go_simp; rfl) | (go_simp; omega)
  try simp only [Act.put, List.setIfInBounds_toArray, List.set_cons_zero, List.set_cons_succ]
  refine take_on (i := 4) (v := .bool false) rfl (by kernel_rfl) (by kernel_rfl) (by kernel_rfl) (fun _ _ _ h => h) (by kernel_rfl) (fun W' hSW => ?_) (by assumption) ?_
  · (try dsimp only at hSW)
    first | (go_simp; done) | exact rfl | (go_simp; rfl) | (go_simp; omega)
  try simp only [Act.put, List.setIfInBounds_toArray, List.set_cons_zero, List.set_cons_succ]
  refine take_off (i := 5) rfl (by kernel_rfl) (by kernel_rfl) (by kernel_rfl) (fun _ _ _ h => h) (by kernel_rfl) (by assumption) ?_
  try simp only [Act.put, List.setIfInBounds_toArray, List.set_cons_zero, List.set_cons_succ]
  refine take_off (i := 6) rfl (by kernel_rfl) (by kernel_rfl) (by kernel_rfl) (fun _ _ _ h => h) (by kernel_rfl) (by assumption) ?_
  try simp only [Act.put, List.setIfInBounds_toArray, List.set_cons_zero, List.set_cons_succ]
  refine take_off (i := 7) rfl (by kernel_rfl) (by kernel_rfl) (by kernel_rfl) (fun _ _ _ h => h) (by kernel_rfl) (by assumption) ?_
  try simp only [Act.put, List.setIfInBounds_toArray, List.set_cons_zero, List.set_cons_succ]
  refine take_off (i := 8) rfl (by kernel_rfl) (by kernel_rfl) (by kernel_rfl) (fun _ _ _ h => h) (by kernel_rfl) (by assumption) ?_
  try simp only [Act.put, List.setIfInBounds_toArray, List.set_cons_zero, List.set_cons_succ]
  refine take_off (i := 9) rfl (by kernel_rfl) (by kernel_rfl) (by kernel_rfl) (fun _ _ _ h => h) (by kernel_rfl) (by assumption) ?_
  try simp only [Act.put, List.setIfInBounds_toArray, List.set_cons_zero, List.set_cons_succ]
  refine take_off (i := 10) rfl (by kernel_rfl) (by kernel_rfl) (by kernel_rfl) (fun _ _ _ h => h) (by kernel_rfl) (by assumption) ?_
  try simp only [Act.put, List.setIfInBounds_toArray, List.set_cons_zero, List.set_cons_succ]
  refine take_off (i := 11) rfl (by kernel_rfl) (by kernel_rfl) (by kernel_rfl) (fun _ _ _ h => h) (by kernel_rfl) (by assumption) ?_
  try simp only [Act.put, List.setIfInBounds_toArray, List.set_cons_zero, List.set_cons_succ]
  refine take_off (i := 12) rfl (by kernel_rfl) (by kernel_rfl) (by kernel_rfl) (fun _ _ _ h => h) (by kernel_rfl) (by assumption) ?_
  try simp only [Act.put, List.setIfInBounds_toArray, List.set_cons_zero, List.set_cons_succ]
  refine take_on (i := 13) (v := .bool false) rfl (by kernel_rfl) (by kernel_rfl) (by kernel_rfl) (fun _ _ _ h => h) (by kernel_rfl) (fun W' hSW => ?_) (by assumption) ?_
  · (try dsimp only at hSW)
    first | (go_simp; done) | exact rfl | (go_simp; rfl) | (go_simp; omega)
  try simp only [Act.put, List.setIfInBounds_toArray, List.set_cons_zero, List.set_cons_succ]
  refine take_on (i := 14) (v := .int .i64 0) rfl (by kernel_rfl) (by kernel_rfl) (by kernel_rfl) (fun _ _ _ h => h) (by kernel_rfl) (fun W' hSW => ?_) (by assumption) ?_
  · (try dsimp only at hSW)
    first | (go_simp; done) | exact rfl | (go_simp; rfl) | (go_simp; omega)
  try simp only [Act.put, List.setIfInBounds_toArray, List.set_cons_zero, List.set_cons_succ]
  refine take_on (i := 15) (v := .bool false) rfl (by kernel_rfl) (by kernel_rfl) (by kernel_rfl) (fun _ _ _ h => h) (by kernel_rfl) (fun W' hSW => ?_) (by assumption) ?_
  · (try dsimp only at hSW)
    first | (go_simp; done) | exact rfl | (go_simp; rfl) | (go_simp; omega)
  try simp only [Act.put, List.setIfInBounds_toArray, List.set_cons_zero, List.set_cons_succ]
  refine wpAnyH_done (by kernel_rfl) ?_ _
  have HS := Lib.hid hHeld
  clear hHeld
  go_wp2
  go_ret2
  exact ⟨rfl, F0.out.trans HS.out⟩
theorem bsearch_all {w : World} {a : Option Addr} {n cap : Nat} (L : List Key3) (k : Key3) (hP : KsIn w a L) (hl : L.length = n) (hn : n ≤ 100000) (hI : Inc L) :
    Calls Tryz.prog 65 #[.slice a n cap, keyV k, .func (.func 63) #[] #[]] w fun e w' => e = .returned (.tuple #[.int .i64 (cntK L k), .bool (decide (k ∈ L))]) ∧ Fr0 none' w w' := by
  cases L with
  | nil =>
    obtain rfl : n = 0 := hl.symm
    exact bsearch_none a cap k w
  | cons x r =>
    obtain ⟨g, o, rfl, _⟩ := hP 0 x rfl
    exact bsearch_any _ k hP hl hn hI

set_option maxRecDepth 100000 in
set_option maxHeartbeats 4000000 in
theorem Search_any {w : World} {a : Option Addr} {n cap : Nat} (L : List Key3) (k : Key3) (hP : KsIn w a L) (hl : L.length = n) (hn : n ≤ 100000) :
    Calls Tryz.prog 27 #[.slice a n cap, keyV k] w fun e w' => e = .returned (searchV L k) ∧ Fr0 none' w w' := by
  have HC := Lib.hid compare_any
  have HP := Lib.hid hP
  have Hl := Lib.hid hl
  obtain ⟨R, hR⟩ : ∃ R, searchV L k = R := ⟨_, rfl⟩
  rw [hR]
  have HR := Lib.hid hR
  clear hP hl hR
  have HB := Lib.hid (fun (W : World) (h : KsIn W a L) (hI : Inc L) => bsearch_all (cap := cap) L k h Hl.out hn hI)
  simp only [keyV] at HC HB ⊢
  go_enter Tryz.func27, Tryz.ntmps27
  go_wp2
  obtain ⟨B, hB⟩ : ∃ B, w.heap.size = B := ⟨_, rfl⟩
  obtain ⟨W0, hW0⟩ : ∃ W0, w.alloc (.cells #[.int .i64 k.time, .int .i64 k.source, .int .i64 k.seq] 28) = W0 := ⟨_, rfl⟩
  have K0 := Lib.hid (show KeyAt W0 B k by rw [← hW0, ← hB]; exact World.alloc_heap_new w _)
  have F0 := Lib.hid (show Fr0 none' w W0 by rw [← hW0]; exact (Fr0.refl _ _).alloc _)
  rw [hW0, hB]
  clear hW0 hB
  go_loopw [7] (fun i wr => ∃ (j : Nat), i = .int .i64 j ∧ 0 < j ∧ Hid (∀ t, t + 1 < j → t + 1 < n → cmpK (kat L t) (kat L (t + 1)) < 0) ∧ Hid (Fr0 none' W0 wr)) (fun i _ => n - (Go.RowKit.intOf i).toNat)
  case atStart => exact ⟨1, rfl, by omega, fun t h1 h2 => by omega, Fr0.refl _ _⟩
  case round =>
    obtain ⟨j, rfl, hj0, hinv, hf⟩ := hrel
    by_cases hlt : j < n
    · obtain ⟨p, hp⟩ : ∃ p, p + 1 = j := ⟨j - 1, by omega⟩
      obtain ⟨g, o, e, hx⟩ := HP.out.at (i := j) (by rw [Hl.out]; omega)
      subst e
      obtain ⟨g', o', e, hy⟩ := HP.out.at (i := p) (by rw [Hl.out]; omega)
      injection e with e
      injection e with e e'
      subst e; subst e'
      obtain ⟨x, hxx⟩ : ∃ x, kat L j = x := ⟨_, rfl⟩
      obtain ⟨y, hyy⟩ : ∃ y, kat L p = y := ⟨_, rfl⟩
      rw [hxx] at hx
      rw [hyy] at hy
      have Hxx := Lib.hid hxx
      have Hyy := Lib.hid hyy
      have Hp := Lib.hid hp
      obtain ⟨x0, x1, x2⟩ := hx.later (F0.out.trans hf.out)
      obtain ⟨y0, y1, y2⟩ := hy.later (F0.out.trans hf.out)
      have d0 : decide ((j : Int) < (n : Int)) = true := decide_eq_true (by omega)
      have e3 : IntKind.i64.wrap ((j : Int) - 1) = (p : Int) := by rw [IntWalk.i64_in _ (by omega)]; omega
      have e5 : IntKind.i64.wrap ((j : Int) + 1) = (j : Int) + 1 := IntWalk.i64_in _ (by omega)
      have b1 : (0 : Int) ≤ (j : Int) := by omega
      have b2 : (j : Int) < (n : Int) := by omega
      have b3 : (0 : Int) ≤ (p : Int) := by omega
      have b4 : (p : Int) < (n : Int) := by omega
      clear hxx hx hyy hy hp
      go_wp2
      refine wp_region_held_drew (S := fun W' => KAt W' g (o + j * 3) x ∧ KAt W' g (o + p * 3) y ∧ Fr0 none' W0 W') (by kernel_rfl) ⟨⟨x0, x1, x2⟩, ⟨y0, y1, y2⟩, hf.out.drew⟩ (fun hHeld => ?_)
      clear x0 x1 x2 y0 y1 y2 hf
      refine take_on (i := 0) (v := .slice (some ⟨g, o, none⟩) n cap) rfl (by kernel_rfl) (by kernel_rfl) (by kernel_rfl) (fun _ _ _ h => h) (by kernel_rfl) (fun W' hSW => ?_) (by assumption) ?_
      · (try dsimp only at hSW)
        first | (go_simp; done) | exact rfl | (go_simp; rfl) | (go_simp; omega)
      try simp only [Act.put, List.setIfInBounds_toArray, List.set_cons_zero, List.set_cons_succ]
      refine take_on (i := 1) (v := .int .i64 j) rfl (by kernel_rfl) (by kernel_rfl) (by kernel_rfl) (fun _ _ _ h => h) (by kernel_rfl) (fun W' hSW => ?_) (by assumption) ?_
      · (try dsimp only at hSW)
        first | (go_simp; done) | exact rfl | (go_simp; rfl) | (go_simp; omega)
      try simp only [Act.put, List.setIfInBounds_toArray, List.set_cons_zero, List.set_cons_succ]
      refine take_on (i := 2) (v := .int .i64 p) rfl (by kernel_rfl) (by kernel_rfl) (by kernel_rfl) (fun _ _ _ h => h) (by kernel_rfl) (fun W' hSW => ?_) (by assumption) ?_
      · (try dsimp only at hSW)
        first | (go_simp; done) | exact rfl | (go_simp; rfl) | (go_simp; omega)
      try simp only [Act.put, List.setIfInBounds_toArray, List.set_cons_zero, List.set_cons_succ]
      refine take_on (i := 3) (v := .pointer (some ⟨g, o + p * 3, none⟩)) rfl (by kernel_rfl) (by kernel_rfl) (by kernel_rfl) (fun _ _ _ h => h) (by kernel_rfl) (fun W' hSW => ?_) (by assumption) ?_
      · (try dsimp only at hSW)
        first | (go_simp; done) | exact rfl | (go_simp; rfl) | (go_simp; omega)
      try simp only [Act.put, List.setIfInBounds_toArray, List.set_cons_zero, List.set_cons_succ]
      refine take_on (i := 4) (v := .agg #[.int .i64 y.time, .int .i64 y.source, .int .i64 y.seq]) rfl (by kernel_rfl) (by kernel_rfl) (by kernel_rfl) (fun _ _ _ h => h) (by kernel_rfl) (fun W' hSW => ?_) (by assumption) ?_
      · obtain ⟨⟨x0, x1, x2⟩, ⟨k0, k1, k2⟩, _⟩ := hSW
        first | (go_simp; done) | exact rfl | (go_simp; rfl) | (go_simp; omega)
      try simp only [Act.put, List.setIfInBounds_toArray, List.set_cons_zero, List.set_cons_succ]
      refine take_on (i := 5) (v := .slice (some ⟨g, o, none⟩) n cap) rfl (by kernel_rfl) (by kernel_rfl) (by kernel_rfl) (fun _ _ _ h => h) (by kernel_rfl) (fun W' hSW => ?_) (by assumption) ?_
      · (try dsimp only at hSW)
        first | (go_simp; done) | exact rfl | (go_simp; rfl) | (go_simp; omega)
      try simp only [Act.put, List.setIfInBounds_toArray, List.set_cons_zero, List.set_cons_succ]
      refine take_on (i := 6) (v := .int .i64 j) rfl (by kernel_rfl) (by kernel_rfl) (by kernel_rfl) (fun _ _ _ h => h) (by kernel_rfl) (fun W' hSW => ?_) (by assumption) ?_
      · (try dsimp only at hSW)
        first | (go_simp; done) | exact rfl | (go_simp; rfl) | (go_simp; omega)
      try simp only [Act.put, List.setIfInBounds_toArray, List.set_cons_zero, List.set_cons_succ]
      refine take_on (i := 7) (v := .pointer (some ⟨g, o + j * 3, none⟩)) rfl (by kernel_rfl) (by kernel_rfl) (by kernel_rfl) (fun _ _ _ h => h) (by kernel_rfl) (fun W' hSW => ?_) (by assumption) ?_
      · (try dsimp only at hSW)
        first | (go_simp; done) | exact rfl | (go_simp; rfl) | (go_simp; omega)
      try simp only [Act.put, List.setIfInBounds_toArray, List.set_cons_zero, List.set_cons_succ]
      refine take_on (i := 8) (v := .agg #[.int .i64 x.time, .int .i64 x.source, .int .i64 x.seq]) rfl (by kernel_rfl) (by kernel_rfl) (by kernel_rfl) (fun _ _ _ h => h) (by kernel_rfl) (fun W' hSW => ?_) (by assumption) ?_
      · obtain ⟨⟨x0, x1, x2⟩, ⟨k0, k1, k2⟩, _⟩ := hSW
        first | (go_simp; done) | exact rfl | (go_simp; rfl) | (go_simp; omega)
      try simp only [Act.put, List.setIfInBounds_toArray, List.set_cons_zero, List.set_cons_succ]
      refine take_call (i := 9) rfl (by kernel_rfl) (by kernel_rfl) (fun K hK => ?_)
      go_simp
      refine (HC.out _ _ _).mono ?_
      rintro e w1 ⟨rfl, hf1⟩
      obtain ⟨c, hc⟩ : ∃ c, cmpK y x = c := ⟨_, rfl⟩
      rw [hc]
      have Hc := Lib.hid hc
      have hS := (show KAt w1 g (o + j * 3) x ∧ KAt w1 g (o + p * 3) y ∧ Fr0 none' W0 w1 from ⟨hHeld.1.later hf1.to0, hHeld.2.1.later hf1.to0, hHeld.2.2.trans hf1.to0⟩)
      clear hHeld hf1 hc
      go_wp2_with fail
      refine hK.out _ _ hS (fun hHeld => ?_)
      clear hK K
      try simp only [Act.put, List.setIfInBounds_toArray, List.set_cons_zero, List.set_cons_succ]
      have Hlt := Lib.hid hlt
      by_cases hc0 : 0 ≤ c
      · have d1 : decide (0 ≤ c) = true := decide_eq_true hc0
        refine take_on (i := 10) (v := .bool true) rfl (by kernel_rfl) (by kernel_rfl) (by kernel_rfl) (fun _ _ _ h => h) (by kernel_rfl) (fun W' hSW => ?_) (by assumption) ?_
        · (try dsimp only at hSW)
          first | (go_simp; done) | exact rfl | (go_simp; rfl) | (go_simp; omega)
        try simp only [Act.put, List.setIfInBounds_toArray, List.set_cons_zero, List.set_cons_succ]
        refine wpAnyH_done (by kernel_rfl) ?_ _
        clear d1
        obtain rfl : .tuple #[.int .i64 0, .bool false, .int .i64 73] = R := by
          rw [← HR.out]
          unfold searchV
          rw [if_neg (fun hI => ?_)]
          have h1 := inc_step hI (i := p) (j := j) (by have := Hp.out; omega) (by rw [Hl.out]; exact Hlt.out)
          rw [Hxx.out, Hyy.out, Hc.out] at h1
          omega
        have HS := Lib.hid hS.2.2
        clear hHeld hS hc0
        go_wp2
        refine bodyPost_ret (v := .tuple #[.int .i64 0, .bool false, .int .i64 73]) (by simp [results, Tryz.results27, go_sem]) rfl ⟨rfl, F0.out.trans HS.out⟩
      · have d1 : decide (0 ≤ c) = false := decide_eq_false hc0
        refine take_on (i := 10) (v := .bool false) rfl (by kernel_rfl) (by kernel_rfl) (by kernel_rfl) (fun _ _ _ h => h) (by kernel_rfl) (fun W' hSW => ?_) (by assumption) ?_
        · (try dsimp only at hSW)
          first | (go_simp; done) | exact rfl | (go_simp; rfl) | (go_simp; omega)
        try simp only [Act.put, List.setIfInBounds_toArray, List.set_cons_zero, List.set_cons_succ]
        refine wpAnyH_done (by kernel_rfl) ?_ _
        clear d1
        have Hc0 := Lib.hid hc0
        have HS := Lib.hid hS.2.2
        clear hHeld hS hc0
        go_wp2
        have hlt := Hlt.out
        refine ⟨⟨j + 1, by simp, by omega, fun t h1 h2 => ?_, HS.out⟩, by simp [Go.RowKit.intOf]; omega⟩
        by_cases e : t = p
        · subst e
          rw [Hp.out, Hxx.out, Hyy.out, Hc.out]
          have := Hc0.out
          omega
        · exact hinv.out t (by have := Hp.out; omega) h2
    · have d0 : decide ((j : Int) < (n : Int)) = false := decide_eq_false (by omega)
      have hI : Inc L := inc_of_steps (fun t ht => hinv.out t (by rw [Hl.out] at ht; omega) (by rw [Hl.out] at ht; exact ht))
      obtain ⟨C, hC⟩ : ∃ C, cntK L k = C := ⟨_, rfl⟩
      obtain ⟨M, hM⟩ : ∃ M, decide (k ∈ L) = M := ⟨_, rfl⟩
      obtain rfl : .tuple #[.int .i64 C, .bool M, .int .i64 0] = R := by rw [← HR.out]; unfold searchV; rw [if_pos hI, hC, hM]
      rw [hC, hM] at HB
      have HI := Lib.hid hI
      have hk := K0.out.fr0 hf.out id
      have k0 := hk.cell (i := 0) (by omega)
      have k1 := hk.cell (i := 1) (by omega)
      have k2 := hk.cell (i := 2) (by omega)
      simp [nth3] at k0 k1 k2
      clear hC hM hI hk HR
      go_wp2_with fail
      refine (HB.out _ (HP.out.later (F0.out.trans hf.out)) HI.out).mono ?_
      rintro e w2 ⟨rfl, hf2⟩
      have HF2 := Lib.hid hf2
      clear hf2
      go_wp2
      refine bodyPost_ret (v := .tuple #[.int .i64 C, .bool M, .int .i64 0]) (by simp [results, Tryz.results27, go_sem]) rfl ⟨rfl, (F0.out.trans hf.out).trans HF2.out⟩
end Go.Proofs.YtpklgpdlkdlbbaaGreatDoor

/-
  key.Order: the closure, the row of indexes; lists of fewer than twenty.
-/
namespace Go.Proofs.YtpklgpdlkdlbbaaGreatDoor
open Go Go.RowKit Go.Sort
attribute [local go_sem ↓] Go.wp_at_zero Go.wp_at_succ
attribute [local go_sem] Oper.semAt_some wide_fn wide_depth wide_fnR wide_depthR

theorem compare_drew (a b : Key3) (w : World) : Calls Tryz.prog 63 #[keyV a, keyV b] w fun e w' => e = .returned (.int .i64 (cmpK a b)) ∧ Fr none' w w' := compare_any a b w
set_option maxRecDepth 100000 in
set_option maxHeartbeats 4000000 in
theorem order1_any (L : List Key3) (g o n cap lb : Nat) (i j : Nat) (W : World) (hb : Box W lb (.slice (some ⟨g, o, none⟩) n cap)) (hP : KsIn W (some ⟨g, o, none⟩) L) (hl : L.length = n) (hi : i < n) (hj : j < n) :
    Calls Tryz.prog 67 #[.int .i64 i, .int .i64 j, .pointer (some ⟨lb, 0, none⟩)] W fun e w' => e = .returned (.int .i64 (cmpK (kat L i) (kat L j))) ∧ Fr none' W w' := by
  have HC := Lib.hid compare_any
  simp only [keyV] at HC
  obtain ⟨g', o', e, hx⟩ := hP.at (i := i) (by rw [hl]; exact hi)
  injection e with e
  injection e with e e'
  subst e; subst e'
  obtain ⟨g', o', e, hy⟩ := hP.at (i := j) (by rw [hl]; exact hj)
  injection e with e
  injection e with e e'
  subst e; subst e'
  obtain ⟨x, hxx⟩ : ∃ x, kat L i = x := ⟨_, rfl⟩
  obtain ⟨y, hyy⟩ : ∃ y, kat L j = y := ⟨_, rfl⟩
  rw [hxx] at hx
  rw [hyy] at hy
  rw [hxx, hyy]
  obtain ⟨c, hc⟩ : ∃ c, cmpK x y = c := ⟨_, rfl⟩
  rw [hc]
  have Hc := Lib.hid hc
  clear hc
  have b1 : (0 : Int) ≤ (i : Int) := by omega
  have b2 : (i : Int) < (n : Int) := by omega
  have b3 : (0 : Int) ≤ (j : Int) := by omega
  have b4 : (j : Int) < (n : Int) := by omega
  have HS := Lib.hid (show Box W lb (.slice (some ⟨g, o, none⟩) n cap) ∧ KAt W g (o + i * 3) x ∧ KAt W g (o + j * 3) y from ⟨hb, hx, hy⟩)
  clear hb hP hl hi hj hx hy hxx hyy
  go_enter Tryz.func67, Tryz.ntmps67
  go_wp2
  refine wp_region_held_drew (S := fun W' => Box W' lb (.slice (some ⟨g, o, none⟩) n cap) ∧ KAt W' g (o + i * 3) x ∧ KAt W' g (o + j * 3) y ∧ Fr none' W W') (by kernel_rfl) ⟨HS.out.1.of_block rfl, HS.out.2.1, HS.out.2.2, (Fr.refl none' W).drew⟩ (fun hHeld => ?_)
  refine take_on (i := 0) (v := .slice (some ⟨g, o, none⟩) n cap) rfl (by kernel_rfl) (by kernel_rfl) (by kernel_rfl) (fun _ _ _ h => h) (by kernel_rfl) (fun W' hSW => ?_) (by assumption) ?_
  · have hb := hSW.1.cell
    first | (go_simp; done) | exact rfl | (go_simp; rfl) | (go_simp; omega)
  try simp only [Act.put, List.setIfInBounds_toArray, List.set_cons_zero, List.set_cons_succ]
  refine take_on (i := 1) (v := .int .i64 i) rfl (by kernel_rfl) (by kernel_rfl) (by kernel_rfl) (fun _ _ _ h => h) (by kernel_rfl) (fun W' hSW => ?_) (by assumption) ?_
  · (try dsimp only at hSW)
    first | (go_simp; done) | exact rfl | (go_simp; rfl) | (go_simp; omega)
  try simp only [Act.put, List.setIfInBounds_toArray, List.set_cons_zero, List.set_cons_succ]
  refine take_on (i := 2) (v := .pointer (some ⟨g, o + i * 3, none⟩)) rfl (by kernel_rfl) (by kernel_rfl) (by kernel_rfl) (fun _ _ _ h => h) (by kernel_rfl) (fun W' hSW => ?_) (by assumption) ?_
  · (try dsimp only at hSW)
    first | (go_simp; done) | exact rfl | (go_simp; rfl) | (go_simp; omega)
  try simp only [Act.put, List.setIfInBounds_toArray, List.set_cons_zero, List.set_cons_succ]
  refine take_on (i := 3) (v := .agg #[.int .i64 x.time, .int .i64 x.source, .int .i64 x.seq]) rfl (by kernel_rfl) (by kernel_rfl) (by kernel_rfl) (fun _ _ _ h => h) (by kernel_rfl) (fun W' hSW => ?_) (by assumption) ?_
  · obtain ⟨_, ⟨x0, x1, x2⟩, ⟨y0, y1, y2⟩, _⟩ := hSW
    first | (go_simp; done) | exact rfl | (go_simp; rfl) | (go_simp; omega)
  try simp only [Act.put, List.setIfInBounds_toArray, List.set_cons_zero, List.set_cons_succ]
  refine take_on (i := 4) (v := .slice (some ⟨g, o, none⟩) n cap) rfl (by kernel_rfl) (by kernel_rfl) (by kernel_rfl) (fun _ _ _ h => h) (by kernel_rfl) (fun W' hSW => ?_) (by assumption) ?_
  · have hb := hSW.1.cell
    first | (go_simp; done) | exact rfl | (go_simp; rfl) | (go_simp; omega)
  try simp only [Act.put, List.setIfInBounds_toArray, List.set_cons_zero, List.set_cons_succ]
  refine take_on (i := 5) (v := .int .i64 j) rfl (by kernel_rfl) (by kernel_rfl) (by kernel_rfl) (fun _ _ _ h => h) (by kernel_rfl) (fun W' hSW => ?_) (by assumption) ?_
  · (try dsimp only at hSW)
    first | (go_simp; done) | exact rfl | (go_simp; rfl) | (go_simp; omega)
  try simp only [Act.put, List.setIfInBounds_toArray, List.set_cons_zero, List.set_cons_succ]
  refine take_on (i := 6) (v := .pointer (some ⟨g, o + j * 3, none⟩)) rfl (by kernel_rfl) (by kernel_rfl) (by kernel_rfl) (fun _ _ _ h => h) (by kernel_rfl) (fun W' hSW => ?_) (by assumption) ?_
  · (try dsimp only at hSW)
    first | (go_simp; done) | exact rfl | (go_simp; rfl) | (go_simp; omega)
  try simp only [Act.put, List.setIfInBounds_toArray, List.set_cons_zero, List.set_cons_succ]
  refine take_on (i := 7) (v := .agg #[.int .i64 y.time, .int .i64 y.source, .int .i64 y.seq]) rfl (by kernel_rfl) (by kernel_rfl) (by kernel_rfl) (fun _ _ _ h => h) (by kernel_rfl) (fun W' hSW => ?_) (by assumption) ?_
  · obtain ⟨_, ⟨x0, x1, x2⟩, ⟨y0, y1, y2⟩, _⟩ := hSW
    first | (go_simp; done) | exact rfl | (go_simp; rfl) | (go_simp; omega)
  try simp only [Act.put, List.setIfInBounds_toArray, List.set_cons_zero, List.set_cons_succ]
  refine take_call (i := 8) rfl (by kernel_rfl) (by kernel_rfl) (fun K hK => ?_)
  go_simp
  refine (HC.out _ _ _).mono ?_
  rintro e w1 ⟨rfl, hf1⟩
  rw [Hc.out]
  have hS : Box w1 lb (.slice (some ⟨g, o, none⟩) n cap) ∧ KAt w1 g (o + i * 3) x ∧ KAt w1 g (o + j * 3) y ∧ Fr none' W w1 := ⟨hHeld.1.fr hf1 id, hHeld.2.1.later hf1.to0, hHeld.2.2.1.later hf1.to0, hHeld.2.2.2.trans hf1⟩
  have HF := Lib.hid hS.2.2.2
  clear hHeld hf1
  go_wp2_with fail
  refine hK.out _ _ hS (fun hHeld => ?_)
  clear hK K
  try simp only [Act.put, List.setIfInBounds_toArray, List.set_cons_zero, List.set_cons_succ]
  refine take_on (i := 9) (v := .int .i64 c) rfl (by kernel_rfl) (by kernel_rfl) (by kernel_rfl) (fun _ _ _ h => h) (by kernel_rfl) (fun W' hSW => ?_) (by assumption) ?_
  · (try dsimp only at hSW)
    first | (go_simp; done) | exact rfl | (go_simp; rfl) | (go_simp; omega)
  try simp only [Act.put, List.setIfInBounds_toArray, List.set_cons_zero, List.set_cons_succ]
  refine wpAnyH_done (by kernel_rfl) ?_ _
  clear hHeld hS
  go_wp2
  go_ret
  exact ⟨rfl, HF.out⟩

/-- An index of a list. -/
def encI {n : Nat} (i : Fin n) : Value := .int .i64 (i.val : Int)
def cfI (L : List Key3) {n : Nat} (i j : Fin n) : Int := cmpK (kat L i.val) (kat L j.val)
theorem fr_putI {α : Type} [Inhabited α] {enc : α → Value} {w : World} {g off q : Nat} {d : Array α} {os : Array Obj} : Fr (fun k => k = g) w (grow (putRow enc (Sort.ahead w q) g off d) os) := by
  refine ⟨rfl, rfl, rfl, by simp [grow, putRow, mapBlock, Sort.ahead], fun k hk hs => ?_, by simp [grow, putRow, mapBlock, Sort.ahead]⟩
  simp only [grow]
  rw [Array.getElem?_append_left (by simp [putRow, mapBlock, Sort.ahead]; exact hk)]
  simp [putRow, mapBlock, Sort.ahead, Array.getElem?_modify, show g ≠ k from fun e => hs e.symm]
theorem laysI (L : List Key3) (g o n cap lb blk : Nat) (w : World) (hb : Box w lb (.slice (some ⟨g, o, none⟩) n cap)) (hP : KsIn w (some ⟨g, o, none⟩) L) (hl : L.length = n) (h1 : lb ≠ blk) (h2 : g ≠ blk) [Inhabited (Fin n)] :
    CmpLays1 Tryz.prog 67 #[.pointer (some ⟨lb, 0, none⟩)] (encI (n := n)) (cfI L) blk 0 n w := fun m os dk _ x y => by
  have hf : Fr (fun k => k = blk) w (sortWorld encI w blk 0 m dk os) := by unfold sortWorld; exact fr_putI
  refine (order1_any L g o n cap lb x.val y.val (sortWorld encI w blk 0 m dk os) (hb.fr hf (by simpa using h1)) (hP.fr0 hf.to0 (fun g' o' s e => by injection e with e; injection e with e; subst e; exact h2)) hl x.isLt y.isLt).mono ?_
  rintro e w' ⟨rfl, hf'⟩
  exact ⟨rfl, grow_of_below (hf'.below (Nat.le_refl _) (fun _ _ h => h)) hf'.drawn⟩

/-- The row of indexes behind the sort. -/
theorem row_putI {w : World} {base g n cap q : Nat} {xs : List Value} {d : Array (Fin n)} {os : Array Obj} [Inhabited (Fin n)] (h : w.ownsRow base 3 1 (.slice (some ⟨g, 0, none⟩) n cap) n xs) (hd : d.size = n) :
    (grow (putRow encI (Sort.ahead w q) g 0 d) os).ownsRow base 3 1 (.slice (some ⟨g, 0, none⟩) n cap) n (d.toList.map encI) := by
  rcases h.2 with ⟨e0, _⟩ | ⟨g', cap', cur, e0, hb, hg, hn, hm, hs, ht⟩
  · cases e0
  · injection e0 with e1 _ e3
    injection e1 with e1
    injection e1 with e1
    subst e1; subst e3
    have hgl : g < w.heap.size := (Array.getElem?_eq_some_iff.1 hg).1
    refine ⟨by simp [hd], .inr ⟨g, cap, putCells encI 0 d cur, rfl, hb, ?_, hn, hm, by simpa [putCells] using hs, ?_⟩⟩
    · simp only [grow]
      rw [Array.getElem?_append_left (by simp [putRow, mapBlock, Sort.ahead]; exact hgl)]
      simp [putRow, mapBlock, Sort.ahead, Array.getElem?_modify, hg, onCells]
    · apply List.ext_getElem?
      intro j
      rw [List.getElem?_take, Array.getElem?_toList]
      by_cases hj : j < n * 1
      · have hjc : j < cur.size := by rw [hs]; omega
        have hjd : j < d.size := by omega
        simp only [if_pos hj, putCells, Array.getElem?_mapIdx, Array.getElem?_eq_getElem hjc, Option.map_some]
        rw [if_pos ⟨Nat.zero_le _, by omega⟩, List.getElem?_map, Array.getElem?_toList, Array.getElem?_eq_getElem hjd, Nat.sub_zero]
        simp [getElem!_pos, hjd]
      · rw [if_neg hj, List.getElem?_eq_none (by simp [hd]; omega)]
theorem insInner_size {α : Type} [Inhabited α] (lt : α → α → Bool) (a : Nat) : ∀ (j : Nat) (d : Array α), (Sort.insInner lt a j d).size = d.size := by
  intro j
  induction j using Nat.strongRecOn with
  | _ j ih =>
    intro d
    by_cases h : a < j ∧ lt d[j]! d[j - 1]! = true
    · rw [insInner_go lt a j d h.1 h.2, ih (j - 1) (by omega)]
      simp [Sort.swp]
    · rw [insInner_stop lt a j d (by
        by_cases h1 : a < j
        · right; have h2 : ¬ lt d[j]! d[j - 1]! = true := fun h2 => h ⟨h1, h2⟩
          simpa using h2
        · left; omega)]
theorem insOuter_size {α : Type} [Inhabited α] (lt : α → α → Bool) (a b : Nat) : ∀ (k i : Nat) (d : Array α), b - i = k → (Sort.insOuter lt a b i d).size = d.size
  | 0, i, d, h => by rw [insOuter_stop lt a b i d (by omega)]
  | k + 1, i, d, h => by rw [insOuter_go lt a b i d (by omega), insOuter_size lt a b k (i + 1) _ (by omega), insInner_size]
theorem insertionSort_size {α : Type} [Inhabited α] (lt : α → α → Bool) (d : Array α) (a b : Nat) : (Sort.insertionSort lt d a b).size = d.size := insOuter_size lt a b _ _ _ rfl
def rangeF (n : Nat) : Array (Fin n) := Array.ofFn (fun i : Fin n => i)
/-- The indexes in the order of their keys: fewer than twenty. -/
def ordS (L : List Key3) (n : Nat) [Inhabited (Fin n)] : Array (Fin n) := Sort.insertionSort (ltOf (cfI L)) (rangeF n) 0 n
set_option maxRecDepth 100000 in
set_option maxHeartbeats 4000000 in
theorem stable_small (L : List Key3) (g o n cap lb base R rc : Nat) (w : World) [Inhabited (Fin n)] (hb : Box w lb (.slice (some ⟨g, o, none⟩) n cap)) (hP : KsIn w (some ⟨g, o, none⟩) L) (hl : L.length = n) (h1 : lb ≠ R) (h2 : g ≠ R) (hn : n < 20)
    (hrow : w.ownsRow base 3 1 (.slice (some ⟨R, 0, none⟩) n rc) n ((rangeF n).toList.map encI)) :
    Calls Tryz.prog 66 #[.slice (some ⟨R, 0, none⟩) n rc, .func (.func 67) #[] #[.pointer (some ⟨lb, 0, none⟩)]] w fun e w' => e = .returned (.tuple #[]) ∧ w'.ownsRow base 3 1 (.slice (some ⟨R, 0, none⟩) n rc) n ((ordS L n).toList.map encI) ∧ Fr0 (fun k => k = R) w w' := by
  have eg : ∀ args w, (callFunc 67 args).run Tryz.prog w = .ok (.enter 67 args) w := enters_of Tryz.func67 (by kernel_rfl) rfl
  have hRl := (hrow.lt R rfl).2
  have hsz : (rangeF n).size = n := by simp [rangeF]
  have hH : Holds encI w R 0 (rangeF n) := fun j hj => by
    have hc := hrow.cells (g := R) rfl j (encI (rangeF n)[j]) (by rw [List.getElem?_map, Array.getElem?_toList, Array.getElem?_eq_getElem hj]; rfl)
    refine ⟨?_, row_frozen hrow _⟩
    rw [Nat.zero_add, getElem!_pos _ j hj]
    unfold Addr.add at hc
    split at hc
    · next h0 => subst h0; exact hc
    · simpa using hc
  have hI := Any.insertionSortCmpFunc_s Tryz.laysSlF20_f117 encI (cfI L) 67 #[.pointer (some ⟨lb, 0, none⟩)] R 0 rc 0 n (rangeF n) (rangeF n) w w eg (by rw [hsz]; exact laysI L g o n cap lb R w hb hP hl h1 h2) ⟨fun _ => rfl, hH, hRl⟩ rfl (SW.start hH) (Nat.zero_le _) (by rw [hsz]; exact Nat.le_refl _) (by rw [hsz]; omega)
  rw [hsz] at hI
  have HI := Lib.hid (show Calls Tryz.prog 117 #[.slice (some ⟨R, 0, none⟩) n rc, .int .i64 0, .int .i64 n, .func (.func 67) #[] #[.pointer (some ⟨lb, 0, none⟩)]] w fun e w' => e = .returned (.tuple #[]) ∧ SW encI w R 0 (ordS L n) w' from hI)
  have Hrow := Lib.hid hrow
  have d1 : decide ((20 : Int) ≤ (n : Int)) = false := decide_eq_false (by omega)
  have d2 : decide ((20 : Int) < (n : Int)) = false := decide_eq_false (by omega)
  have hos : (ordS L n).size = n := by unfold ordS; rw [insertionSort_size, hsz]
  clear hI hH hrow hRl eg hb hP hl
  have HT : Calls Tryz.prog 94 #[.slice (some ⟨R, 0, none⟩) n rc, .int .i64 n, .func (.func 67) #[] #[.pointer (some ⟨lb, 0, none⟩)]] w fun e w' => e = .returned (.tuple #[]) ∧ SW encI w R 0 (ordS L n) w' := by
    go_enter Tryz.func94, Tryz.ntmps94
    go_wp2_with fail
    refine wp_loop_rounds 1 ?_
    rw [rounds_succ]
    go_wp2_with fail
    refine HI.out.mono ?_
    rintro e w1 ⟨rfl, hsw⟩
    have HSW := Lib.hid hsw
    clear hsw
    go_wp2_with fail
    refine wp_loop_rounds 1 ?_
    rw [rounds_succ]
    go_wp2_with fail
    go_end0
    exact ⟨rfl, HSW.out⟩
  have HT := Lib.hid HT
  go_enter Tryz.func66, Tryz.ntmps66
  go_wp2_with fail
  refine HT.out.mono ?_
  rintro e w1 ⟨rfl, hsw⟩
  have HSW := Lib.hid hsw
  clear hsw
  go_wp2
  go_end0
  obtain ⟨m, os, hw⟩ := HSW.out
  rw [hw]
  unfold sortWorld
  exact ⟨rfl, row_putI Hrow.out hos, fr_putI.to0⟩
theorem row_set1 {w : World} {base g n cap k : Nat} {e : TypeId} {xs : List Value} {v : Value} (h : w.ownsRow base e 1 (.slice (some ⟨g, 0, none⟩) n cap) n xs) (hk : k < n) : (w.setCell ⟨g, k, none⟩ v).ownsRow base e 1 (.slice (some ⟨g, 0, none⟩) n cap) n (xs.set k v) := by
  refine ⟨by rw [List.length_set]; exact h.1, ?_⟩
  rcases h.2 with ⟨h0, _⟩ | ⟨g', cap', cur, h1, hb, hg, hn', hm, hs, ht⟩
  · cases h0
  · cases h1
    refine .inr ⟨g, cap, cur.setIfInBounds k v, rfl, hb, ?_, hn', hm, by simp [hs], ?_⟩
    · simp [World.setCell, Array.getElem?_modify, hg]
    · rw [Array.toList_setIfInBounds, List.take_set, ht]
theorem range_head (n k : Nat) (hk : k < n) (xs : List Value) (h1 : xs.length = n) (h2 : xs.take k = ((rangeF n).toList.map encI).take k) : (xs.set k (.int .i64 (k : Int))).take (k + 1) = ((rangeF n).toList.map encI).take (k + 1) := by
  rw [List.take_set, List.take_add_one, List.take_add_one, h2]
  have e1 : ((rangeF n).toList.map encI)[k]? = some (.int .i64 (k : Int)) := by
    rw [List.getElem?_map, Array.getElem?_toList]
    simp [rangeF, Array.getElem?_ofFn, hk, encI]
  have e2 : xs[k]? = some xs[k] := List.getElem?_eq_getElem _
  rw [e1, e2, Option.toList_some, Option.toList_some]
  have hl : (((rangeF n).toList.map encI).take k).length = k := by simp [rangeF]; omega
  rw [List.set_append_right _ _ (by rw [hl]; exact Nat.le_refl _), hl, Nat.sub_self]
  rfl
theorem info_intK : (Tryz.prog.info? 3).map (fun i => (i.zero, i.size, i.bytes)) = some (some (.int .i64 0), 1, 8) := by kernel_rfl
theorem make_intsK (n : Nat) (hn : n ≤ 1000000) (w : World) : (Go.Instr.makeSlice 39 (.int .i64 n) (.int .i64 n)).run Tryz.prog w = .ok (.slice (some ⟨w.heap.size, 0, none⟩) n n) (w.alloc (.cells (Array.replicate n (.int .i64 0)) 3)) := by
  obtain ⟨i0, hi, hz0, hz1, hz2⟩ := info_parts info_intK
  have := run_make (P := Tryz.prog) w 39 3 i0 (.int .i64 0) Tryz.underlying39 hi hz0 .i64 .i64 (n : Int) (n : Int) (by omega) (Int.le_refl _) (by rw [hz2]; omega) (by omega)
  have he : madeCells (Value.int .i64 0).cells ((n : Int).toNat * 1) = Array.replicate n (.int .i64 0) := by
    simp only [madeCells, Value.cells, Int.toNat_natCast, Nat.mul_one]
    apply Array.ext
    · simp
    · intro j h1 h2
      simp [Nat.mod_one]
  rw [this, hz1, he]
  simp
set_option maxRecDepth 100000 in
set_option maxHeartbeats 4000000 in
theorem Order_small (L : List Key3) (g o n cap : Nat) (w : World) [Inhabited (Fin n)] (hP : KsIn w (some ⟨g, o, none⟩) L) (hl : L.length = n) (h0 : 0 < n) (hn : n < 20) :
    Calls Tryz.prog 29 #[.slice (some ⟨g, o, none⟩) n cap] w fun e w' => ∃ R rc, e = .returned (.slice (some ⟨R, 0, none⟩) n rc) ∧ w'.ownsRow w.heap.size 3 1 (.slice (some ⟨R, 0, none⟩) n rc) n ((ordS L n).toList.map encI) ∧ Fr0 none' w w' := by
  have HP := Lib.hid hP
  have Hl := Lib.hid hl
  have hgw : g < w.heap.size := by
    obtain ⟨g', o', e, hc⟩ := hP.at (i := 0) (by omega)
    injection e with e
    injection e with e
    subst e
    exact World.block_lt_of_cell? _ _ hc.1
  have hmk := make_intsK n (by omega) (w.alloc (.cells #[.slice (some ⟨g, o, none⟩) n cap] 49))
  clear hP hl
  go_enter Tryz.func29, Tryz.ntmps29
  go_wp2_with fail
  clear hmk
  obtain ⟨W1, hW1⟩ : ∃ W1, (w.alloc (.cells #[.slice (some ⟨g, o, none⟩) n cap] 49)).alloc (.cells (Array.replicate n (.int .i64 0)) 3) = W1 := ⟨_, rfl⟩
  have hR : (w.alloc (.cells #[.slice (some ⟨g, o, none⟩) n cap] 49)).heap.size = w.heap.size + 1 := by simp
  rw [hW1]
  have hF1 : Fr0 none' w W1 := by rw [← hW1]; exact ((Fr0.refl _ _).alloc _).alloc _
  have hB1 : Box W1 w.heap.size (.slice (some ⟨g, o, none⟩) n cap) := by rw [← hW1]; exact (Box.new w _ _).alloc _
  have hO1 : W1.ownsRow w.heap.size 3 1 (.slice (some ⟨w.heap.size + 1, 0, none⟩) n n) n (List.replicate n (.int .i64 0)) := by
    rw [← hW1]
    refine ⟨by simp, .inr ⟨w.heap.size + 1, n, Array.replicate n (.int .i64 0), rfl, by omega, ?_, Nat.le_refl _, by unfold maxLen; omega, by simp, by simp⟩⟩
    have := World.alloc_heap_new (w.alloc (.cells #[.slice (some ⟨g, o, none⟩) n cap] 49)) (.cells (Array.replicate n (.int .i64 0)) 3)
    rw [hR] at this
    exact this
  have hP1 := HP.out.later hF1
  have HF1 := Lib.hid hF1
  have HB1 := Lib.hid hB1
  have HO1 := Lib.hid hO1
  have HP1 := Lib.hid hP1
  obtain ⟨lb, hlb⟩ : ∃ lb, w.heap.size = lb := ⟨_, rfl⟩
  rw [hlb] at HB1 HO1 hgw ⊢
  have Hlb := Lib.hid hlb
  clear hW1 hR hF1 hB1 hO1 hP1 hlb HP
  go_loopw [4, 10] (fun _ i wr => ∃ (k : Nat) (xs : List Value), i = .int .i64 k ∧ k ≤ n ∧ Hid (xs.length = n ∧ xs.take k = ((rangeF n).toList.map encI).take k) ∧ Hid (wr.ownsRow lb 3 1 (.slice (some ⟨lb + 1, 0, none⟩) n n) n xs) ∧ Hid (Fr0 (fun b => b = lb + 1) W1 wr)) (fun _ i _ => n - (Go.RowKit.intOf i).toNat)
  case atStart => exact ⟨0, _, rfl, Nat.zero_le _, ⟨by simp, by simp⟩, HO1.out, Fr0.refl _ _⟩
  case round =>
    obtain ⟨k, xs, rfl, hk, hxs, hr, hf⟩ := hrel
    by_cases hlt : k < n
    · have d0 : decide ((k : Int) < (n : Int)) = true := decide_eq_true (by omega)
      have e5 : IntKind.i64.wrap ((k : Int) + 1) = (k : Int) + 1 := IntWalk.i64_in _ (by omega)
      have b1 : (0 : Int) ≤ (k : Int) := by omega
      have b2 : (k : Int) < (n : Int) := by omega
      obtain ⟨y, hy⟩ : ∃ y, xs[k]? = some y := ⟨_, List.getElem?_eq_getElem (by rw [hxs.out.1]; exact hlt)⟩
      have y0 : wr.cell? ⟨lb + 1, k, none⟩ = some y := by
        have hc := hr.out.cells (g := lb + 1) rfl k y hy
        unfold Addr.add at hc
        split at hc
        · next h0 => subst h0; exact hc
        · simpa using hc
      have y1 := row_frozen hr.out k
      go_wp2
      refine ⟨⟨k + 1, xs.set k (.int .i64 (k : Int)), by simp, by omega, ⟨by rw [List.length_set]; exact hxs.out.1, range_head n k hlt xs hxs.out.1 hxs.out.2⟩, row_set1 hr.out hlt, hf.out.setCell (fun _ => rfl) _⟩, ?_⟩
      simp only [Go.RowKit.intOf]
      omega
    · have d0 : decide ((k : Int) < (n : Int)) = false := decide_eq_false (by omega)
      have hkn : k = n := by omega
      subst hkn
      have hxe : xs = (rangeF k).toList.map encI := by
        have := hxs.out.2
        rw [List.take_of_length_le (by rw [hxs.out.1]; exact Nat.le_refl _), List.take_of_length_le (by simp [rangeF])] at this
        exact this
      have hb2 : Box wr lb (.slice (some ⟨g, o, none⟩) k cap) := HB1.out.fr0 hf.out (by omega)
      have hP2 := HP1.out.fr0 hf.out (fun g' o' s e => by injection e with e; injection e with e; subst e; omega)
      rw [hxe] at hr
      have HS := Lib.hid (stable_small L g o k cap lb lb (lb + 1) k wr hb2 hP2 Hl.out (by omega) (by omega) hn hr.out)
      clear hb2 hP2 hxe hxs
      go_wp2_with fail
      refine HS.out.mono ?_
      rintro e w2 ⟨rfl, hr2, hf2⟩
      have Hr2 := Lib.hid hr2
      have Hf2 := Lib.hid hf2
      clear hr2 hf2
      go_wp2
      go_ret
      exact ⟨lb + 1, k, rfl, by rw [Hlb.out]; exact Hr2.out, (HF1.out.trans' hf.out (fun b hb h => by rw [Hlb.out] at hb; omega)).trans' Hf2.out (fun b hb h => by rw [Hlb.out] at hb; omega)⟩
end Go.Proofs.YtpklgpdlkdlbbaaGreatDoor

/-
  slices.Backward at the fields of a key.
-/
namespace Go.Proofs.YtpklgpdlkdlbbaaGreatDoor
open Go Go.RowKit
attribute [local go_sem ↓] Go.wp_at_zero Go.wp_at_succ
attribute [local go_sem] Oper.semAt_some wide_fn wide_depth wide_fnR wide_depthR

set_option maxHeartbeats 1000000 in
theorem backward_any (v : Value) (hv : ∃ a n c, v = .slice a n c) (w : World) :
    Calls Tryz.prog 33 #[v] w fun e w' => e = .returned (.func (.func 70) #[] #[.pointer (some ⟨w.heap.size, 0, none⟩)]) ∧ w' = w.alloc (.cells #[v] 79) := by
  obtain ⟨a, n, c, rfl⟩ := hv
  go_enter Tryz.func33, Tryz.ntmps33
  go_wp2
  go_ret
  exact ⟨rfl, rfl⟩

set_option maxRecDepth 100000 in
set_option maxHeartbeats 2000000 in
theorem backward_iter (b bp g cap : Nat) (w : World) (hb : Box w bp (.slice (some ⟨g, 0, none⟩) 3 cap)) (hrow : w.ownsRow 0 74 4 (.slice (some ⟨g, 0, none⟩) 3 cap) 3 (fCs b [0, 1, 2])) :
    IterX Tryz.prog 70 #[.pointer (some ⟨bp, 0, none⟩)] (fun i : Nat => #[.int .i64 i, fV b i]) [2, 1, 0] none' (fun k => k = bp ∨ k = g) w := by
  intro l J Jx W hK hJ hJx hY h0
  have hbW : Box W bp (.slice (some ⟨g, 0, none⟩) 3 cap) := hb.of_block (hK.2 bp (.inl rfl))
  obtain ⟨cu, hcu, ht⟩ : ∃ cu : Array Value, W.heap[g]? = some (.cells cu 74 (0, 0)) ∧ cu.toList.take 12 = fCs b [0, 1, 2] := by
    rcases hrow.2 with ⟨_, h0⟩ | ⟨g', cap', cur, hv, hb', hg, hn', hcm, hs, ht⟩
    · omega
    · injection hv with h1 h2 h3
      injection h1 with h1
      injection h1 with h1
      subst h1
      exact ⟨cur, (hK.2 g (.inr rfl)).trans hg, ht⟩
  have hcc : ∀ w' : World, w'.heap[g]? = some (.cells cu 74 (0, 0)) → ∀ i, i < 12 → w'.cell? ⟨g, i, none⟩ = (fCs b [0, 1, 2])[i]? := fun w' h i hi => by
    rw [cells_of h, ← ht, List.getElem?_take_of_lt hi, Array.getElem?_toList]
  have CC := Lib.hid hcc
  have Hrow := Lib.hid hcu
  have HBx := Lib.hid hbW
  have HY := Lib.hid hY
  have hc := hbW.cell
  have c0 := CC.out _ Hrow.out 8 (by omega)
  have c1 := CC.out _ Hrow.out 9 (by omega)
  have c2 := CC.out _ Hrow.out 10 (by omega)
  have c3 := CC.out _ Hrow.out 11 (by omega)
  simp [fCs, fC, fMost, fSize, fMark] at c0 c1 c2 c3
  clear hcc hcu hbW hY hJ hJx hK hb hrow ht
  refine callsIn_of_wp Tryz.func70 rfl trivial ?_ rfl
  simp only [Tryz.ntmps70, List.size_toArray, List.length_cons, List.length_nil, Nat.reduceAdd, Nat.reduceSub, Array.replicate_succ, Array.replicate_zero, List.push_toArray, List.append_toArray, List.nil_append, List.cons_append]
  gi_wp2
  refine wpIn_loop_rounds 4 ?_
  have hy := HY.out 0 2 none' W rfl h0
  rw [show fV b 2 = .agg #[.pointer (some ⟨b, 2, none⟩), .int .i64 4294967295, .int .i64 4, .string ⟨#[35]⟩] from rfl, show ((2 : Nat) : Int) = (2 : Int) from rfl] at hy
  obtain ⟨fn, tmps, assign, body, hy, hR⟩ := hy
  rw [roundsIn_succ]
  gi_wp2
  refine hR.mono ?_
  rintro e W2 (⟨rfl, hj, hk⟩ | ⟨rfl, hx⟩)
  rotate_left
  · gi_wp2
    refine bodyPost_ret (results_none rfl _ _ _) rfl ?_
    exact ⟨⟨_, rfl⟩, .inr hx⟩
  clear hy hR c0 c1 c2 c3 hc
  have Hrow := Lib.hid ((hk.2 g (.inl (.inr rfl))).trans Hrow.out)
  have HBx := Lib.hid (HBx.out.of_block (hk.2 bp (.inl (.inl rfl))))
  clear hk
  have hc := HBx.out.cell
  have c0 := CC.out _ Hrow.out 4 (by omega)
  have c1 := CC.out _ Hrow.out (4 + 1) (by omega)
  have c2 := CC.out _ Hrow.out (4 + 2) (by omega)
  have c3 := CC.out _ Hrow.out (4 + 3) (by omega)
  simp [fCs, fC, fMost, fSize, fMark] at c0 c1 c2 c3
  gi_wp2
  have hy := HY.out 1 1 none' W2 rfl hj
  rw [show fV b 1 = .agg #[.pointer (some ⟨b, 1, none⟩), .int .i64 16, .int .i64 1, .string ⟨#[64]⟩] from rfl, show ((1 : Nat) : Int) = (1 : Int) from rfl] at hy
  obtain ⟨fn, tmps, assign, body, hy, hR⟩ := hy
  rw [roundsIn_succ]
  gi_wp2
  refine hR.mono ?_
  rintro e W3 (⟨rfl, hj, hk⟩ | ⟨rfl, hx⟩)
  rotate_left
  · gi_wp2
    refine bodyPost_ret (results_none rfl _ _ _) rfl ?_
    exact ⟨⟨_, rfl⟩, .inr hx⟩
  clear hy hR c0 c1 c2 c3 hc
  have Hrow := Lib.hid ((hk.2 g (.inl (.inr rfl))).trans Hrow.out)
  have HBx := Lib.hid (HBx.out.of_block (hk.2 bp (.inl (.inl rfl))))
  clear hk
  have hc := HBx.out.cell
  have c0 := CC.out _ Hrow.out 0 (by omega)
  have c1 := CC.out _ Hrow.out (0 + 1) (by omega)
  have c2 := CC.out _ Hrow.out (0 + 2) (by omega)
  have c3 := CC.out _ Hrow.out (0 + 3) (by omega)
  simp [fCs, fC, fMost, fSize, fMark] at c0 c1 c2 c3
  gi_wp2
  have hy := HY.out 2 0 none' W3 rfl hj
  rw [show fV b 0 = .agg #[.pointer (some ⟨b, 0, none⟩), .int .i64 281474976710656, .int .i64 7, .string ⟨#[]⟩] from rfl, show ((0 : Nat) : Int) = (0 : Int) from rfl] at hy
  obtain ⟨fn, tmps, assign, body, hy, hR⟩ := hy
  rw [roundsIn_succ]
  gi_wp2
  refine hR.mono ?_
  rintro e W4 (⟨rfl, hj, hk⟩ | ⟨rfl, hx⟩)
  rotate_left
  · gi_wp2
    refine bodyPost_ret (results_none rfl _ _ _) rfl ?_
    exact ⟨⟨_, rfl⟩, .inr hx⟩
  clear hy hR c0 c1 c2 c3 hc
  have Hrow := Lib.hid ((hk.2 g (.inl (.inr rfl))).trans Hrow.out)
  have HBx := Lib.hid (HBx.out.of_block (hk.2 bp (.inl (.inl rfl))))
  clear hk
  have hc := HBx.out.cell
  have c0 := CC.out _ Hrow.out 0 (by omega)
  have c1 := CC.out _ Hrow.out (0 + 1) (by omega)
  have c2 := CC.out _ Hrow.out (0 + 2) (by omega)
  have c3 := CC.out _ Hrow.out (0 + 3) (by omega)
  simp [fCs, fC, fMost, fSize, fMark] at c0 c1 c2 c3
  gi_wp2
  rw [roundsIn_succ]
  gi_wp2
  go_end0
  exact ⟨⟨_, rfl⟩, .inl ⟨_, hj⟩⟩
end Go.Proofs.YtpklgpdlkdlbbaaGreatDoor

/-
  key.Next, key.Back.
-/
namespace Go.Proofs.YtpklgpdlkdlbbaaGreatDoor
open Go Go.RowKit
attribute [local go_sem ↓] Go.wp_at_zero Go.wp_at_succ
attribute [local go_sem] Oper.semAt_some wide_fn wide_depth wide_fnR wide_depthR

def setF (k : Key3) (x : Nat) (v : Int) : Key3 := if x = 0 then { k with time := v } else if x = 1 then { k with source := v } else { k with seq := v }
theorem KeyAt.setF {w : World} {B : Nat} {k : Key3} (h : KeyAt w B k) {x : Nat} (hx : x < 3) (v : Int) : KeyAt (w.setCell ⟨B, x, none⟩ (.int .i64 v)) B (setF k x v) := by
  have : x = 0 ∨ x = 1 ∨ x = 2 := by omega
  rcases this with rfl | rfl | rfl
  · exact h.set0 v
  · exact h.set1 v
  · exact h.set2 v
def lowN (k : Key3) (i : Nat) : Key3 := if i = 0 then k else if i = 1 then ⟨k.time, k.source, 0⟩ else if i = 2 then ⟨k.time, 0, 0⟩ else ⟨0, 0, 0⟩
def lowB (k : Key3) (i : Nat) : Key3 := if i = 0 then k else if i = 1 then ⟨k.time, k.source, 4294967295⟩ else if i = 2 then ⟨k.time, 16, 4294967295⟩ else ⟨281474976710656, 16, 4294967295⟩
theorem lowN_nth (k : Key3) {i : Nat} (hi : i < 3) : nth3 (lowN k i) (2 - i) = nth3 k (2 - i) := by
  have : i = 0 ∨ i = 1 ∨ i = 2 := by omega
  rcases this with rfl | rfl | rfl <;> rfl
theorem lowB_nth (k : Key3) {i : Nat} (hi : i < 3) : nth3 (lowB k i) (2 - i) = nth3 k (2 - i) := by
  have : i = 0 ∨ i = 1 ∨ i = 2 := by omega
  rcases this with rfl | rfl | rfl <;> rfl
theorem lowN_succ (k : Key3) {i : Nat} (hi : i < 3) : setF (lowN k i) (2 - i) 0 = lowN k (i + 1) := by
  have : i = 0 ∨ i = 1 ∨ i = 2 := by omega
  rcases this with rfl | rfl | rfl <;> rfl
theorem lowB_succ (k : Key3) {i : Nat} (hi : i < 3) : setF (lowB k i) (2 - i) (fMost (2 - i)) = lowB k (i + 1) := by
  have : i = 0 ∨ i = 1 ∨ i = 2 := by omega
  rcases this with rfl | rfl | rfl <;> rfl
theorem next_hit (k : Key3) {i : Nat} (hi : i < 3) (h : ∀ j, j < i → ¬ nth3 k (2 - j) < fMost (2 - j)) (hx : nth3 k (2 - i) < fMost (2 - i)) : nextK k = some (setF (lowN k i) (2 - i) (nth3 k (2 - i) + 1)) := by
  have : i = 0 ∨ i = 1 ∨ i = 2 := by omega
  unfold nextK
  rcases this with rfl | rfl | rfl
  · simp [nth3, fMost] at hx
    rw [if_pos hx]; rfl
  · have h0 := h 0 (by omega)
    simp [nth3, fMost] at hx h0
    rw [if_neg (by omega), if_pos hx]; rfl
  · have h0 := h 0 (by omega)
    have h1 := h 1 (by omega)
    simp [nth3, fMost] at hx h0 h1
    rw [if_neg (by omega), if_neg (by omega), if_pos hx]; rfl
theorem next_none (k : Key3) (h : ∀ j, j < 3 → ¬ nth3 k (2 - j) < fMost (2 - j)) : nextK k = none := by
  have h0 := h 0 (by omega)
  have h1 := h 1 (by omega)
  have h2 := h 2 (by omega)
  simp [nth3, fMost] at h0 h1 h2
  unfold nextK
  rw [if_neg (by omega), if_neg (by omega), if_neg (by omega)]
theorem back_hit (k : Key3) {i : Nat} (hi : i < 3) (h : ∀ j, j < i → ¬ 0 < nth3 k (2 - j)) (hx : 0 < nth3 k (2 - i)) : backK k = some (setF (lowB k i) (2 - i) (nth3 k (2 - i) - 1)) := by
  have : i = 0 ∨ i = 1 ∨ i = 2 := by omega
  unfold backK
  rcases this with rfl | rfl | rfl
  · simp [nth3] at hx
    rw [if_pos hx]; rfl
  · have h0 := h 0 (by omega)
    simp [nth3] at hx h0
    rw [if_neg (by omega), if_pos hx]; rfl
  · have h0 := h 0 (by omega)
    have h1 := h 1 (by omega)
    simp [nth3] at hx h0 h1
    rw [if_neg (by omega), if_neg (by omega), if_pos hx]; rfl
theorem back_none (k : Key3) (h : ∀ j, j < 3 → ¬ 0 < nth3 k (2 - j)) : backK k = none := by
  have h0 := h 0 (by omega)
  have h1 := h 1 (by omega)
  have h2 := h 2 (by omega)
  simp [nth3] at h0 h1 h2
  unfold backK
  rw [if_neg (by omega), if_neg (by omega), if_neg (by omega)]
/-- What Next and Back return of a step. -/
def stepV (o : Option Key3) : Value := .tuple #[keyV (o.getD zeroK), .int .i64 (if o.isSome then 0 else 6)]

set_option maxRecDepth 100000 in
set_option maxHeartbeats 2000000 in
theorem Next_in (k : Key3) (hk : RightK k) (w : World) :
    CallsIn Fence.wide 0 Tryz.prog 9 #[keyV k] w fun e w' => e = .returned (stepV (nextK k)) ∧ Fr0 none' w w' := by
  have hd : decide (RightK k) = true := decide_eq_true hk
  have HR := fun W => Right_any k W
  rw [hd] at HR
  have HRR := Lib.hid HR
  have Hk := Lib.hid hk
  clear hd HR hk
  obtain ⟨R, hR⟩ : ∃ R, stepV (nextK k) = R := ⟨_, rfl⟩
  rw [hR]
  have HRV := Lib.hid hR
  clear hR
  refine callsIn_of_wp_marks Tryz.func9 rfl trivial ?_ rfl
  simp only [keyV] at HRR
  simp only [keyV, Tryz.ntmps9, List.size_toArray, List.length_cons, List.length_nil, Nat.reduceAdd, Nat.reduceSub, Array.replicate_succ, Array.replicate_zero, List.push_toArray, List.append_toArray, List.nil_append, List.cons_append]
  gi_wp2_with fail
  obtain ⟨W0, hW0⟩ : ∃ W0, start3 w k = W0 := ⟨_, rfl⟩
  have hs := start3_facts w k
  unfold start3 at hW0
  rw [show start3 w k = W0 from hW0] at hs
  rw [hW0]
  have Hs := Lib.hid hs
  clear hW0 hs
  obtain ⟨Bw, hBw⟩ : ∃ Bw, w.heap.size = Bw := ⟨_, rfl⟩
  rw [hBw] at Hs ⊢
  have HBw := Lib.hid hBw
  clear hBw
  refine (callsIn_wide.2 (HRR.out _)).mono ?_
  rintro e w1 ⟨rfl, hf1⟩
  have HF1 := Lib.hid hf1
  clear hf1
  gi_wp2_with fail
  refine (callsIn_wide.2 (fields_any _ _)).mono ?_
  rintro e w2 ⟨rfl, rfl⟩
  gi_wp2_with fail
  refine (callsIn_wide.2 (CollectF _ _ Bw [0, 1, 2] _ _ _ (by intro args w; rfl) (fields_iter Bw w1.heap.size _ (Box.new _ _ _)) (fun k hk => hk.elim) (fun k hk => by subst hk; simp) (by simp))).mono ?_
  rintro e W1 ⟨v, rfl, hrow, hfr⟩
  obtain ⟨g, cap, rfl⟩ := ownsRow_k_succ (n := 2) hrow
  have hg := hrow.lt g rfl
  have Hrow := Lib.hid hrow
  have HF2 := Lib.hid (((Fr0.refl none' w1).alloc _).trans hfr.to0)
  have Hg := Lib.hid hg
  clear hrow hfr hg
  gi_wp2_with fail
  refine (callsIn_wide.2 (backward_any _ ⟨_, _, _, rfl⟩ _)).mono ?_
  rintro e w4 ⟨rfl, rfl⟩
  gi_wp2_with fail
  obtain ⟨Q1, hQ1⟩ : ∃ q, w1.heap.size = q := ⟨_, rfl⟩
  obtain ⟨N, hN⟩ : ∃ N, W1.heap.size = N := ⟨_, rfl⟩
  obtain ⟨W3, hW3⟩ : ∃ W3, W1.alloc (.cells #[.slice (some ⟨g, 0, none⟩) 3 cap] 79) = W3 := ⟨_, rfl⟩
  have hg := Hg.out
  have hs2 := HF2.out.size
  have hs1 := HF1.out.size
  have hs0 := Hs.out.2.2.2.1
  simp only [World.size_alloc] at hg
  have hN0 : Bw + 3 ≤ N ∧ g < N ∧ Bw + 3 ≤ g := by omega
  have it := (backward_iter Bw W1.heap.size g cap _ (Box.new W1 _ _ : Box (W1.alloc (.cells #[.slice (some ⟨g, 0, none⟩) 3 cap] 79)) _ _) (ownsRow_k_fr (ownsRow_k_mono Hrow.out (Nat.zero_le _)) ((Fr.refl none' W1).alloc _) (fun _ _ h => h))).to0
  have F3 := Lib.hid (show Fr0 none' W1 W3 by rw [← hW3]; exact (Fr0.refl _ _).alloc _)
  have Hsz3 := Lib.hid (show W3.heap.size = N + 1 by rw [← hW3, World.size_alloc, hN])
  rw [hW3, hN] at it
  rw [hW3, hN, hQ1]
  have HN0 := Lib.hid hN0
  have K3 := Lib.hid (((Hs.out.1.fr0 HF1.out id).fr0 HF2.out id).fr0 F3.out id)
  have Z3 := Lib.hid (((Hs.out.2.1.fr0 HF1.out id).fr0 HF2.out id).fr0 F3.out id)
  have E3 := Lib.hid (((Hs.out.2.2.1.fr0 HF1.out id).fr0 HF2.out id).fr0 F3.out id)
  have F03 := Lib.hid (((Hs.out.2.2.2.2.trans HF1.out).trans HF2.out).trans F3.out)
  clear hW3 hN hQ1 hg hs0 hs1 hs2 hN0 Hg Hrow Hs HF1 HF2 F3
  refine wpIn_iterX0 (gf := 70) (lb := #[.pointer (some ⟨N, 0, none⟩)]) rfl (by intro args w; rfl) it (Keep.refl _ _) (fun _ => rfl) (fun k hk => hk.elim) (fun k hk => by have := HN0.out; rw [Hsz3.out]; omega)
    (fun i X W => Fr0 (fun k => k = Bw) W3 W ∧ KeyAt W Bw (lowN k i) ∧ Hid (∀ j, j < i → ¬ nth3 k (2 - j) < fMost (2 - j)))
    (fun c W => c = .ret ∧ ∃ r, Hid (nextK k = some r) ∧ KeyAt W (Bw + 1) r ∧ Box W (Bw + 1 + 1) (.int .i64 0) ∧ Fr0 (fun k => k = Bw ∨ k = Bw + 1 ∨ k = Bw + 1 + 1) W3 W) ?hI ?hIx ?h0
    (fun x W a' => ∃ B, a' = { tmps := #[.agg #[.int .i64 k.time, .int .i64 k.source, .int .i64 k.seq], .pointer (some ⟨Bw, 0, none⟩), .pointer (some ⟨Bw + 1, 0, none⟩), .pointer (some ⟨Bw + 1 + 1, 0, none⟩), undef, .pointer (some ⟨B, 0, none⟩), .agg #[.int .i64 k.time, .int .i64 k.source, .int .i64 k.seq], .bool true, .bool false, undef, .func (.func 68) #[] #[.pointer (some ⟨Q1, 0, none⟩)], .slice (some ⟨g, 0, none⟩) 3 cap, .func (.func 70) #[] #[.pointer (some ⟨N, 0, none⟩)], .int .i64 x, fV Bw x, undef, undef, undef, undef, undef, undef, undef, undef, undef, undef, undef, undef, undef, undef, undef, undef, undef, undef], defers := [] } ∧ N + 2 < B ∧ W.heap[B]? = some (.cells (fC Bw x).toArray 74 (0, 0)))
    ?assign ?keep ?body ?done ?stop
  case hI =>
    rintro i X Y W4 W5 ⟨h1, h2, h3⟩ hX hf hY
    have hlt : ∀ k, k < N + 1 → ¬ (none' k ∨ X k ∨ k = W3.heap.size ∨ k = W3.heap.size + 1) := fun k hk h => by
      have hz := Hsz3.out
      rcases h with h | h | h | h
      · exact h
      · have := hX k h; omega
      · omega
      · omega
    have := HN0.out
    exact ⟨h1.trans' hf (fun k hk h => absurd h (hlt k (by rw [Hsz3.out] at hk; exact hk))), h2.fr0 hf (hlt _ (by omega)), h3⟩
  case hIx =>
    rintro c W4 W5 ⟨h0, r, h1, h2, h3, h4⟩ hf
    have hlt : ∀ k, k < N + 1 → ¬ (none' k ∨ k = W3.heap.size ∨ k = W3.heap.size + 1) := fun k hk h => by
      have hz := Hsz3.out
      rcases h with h | h | h
      · exact h
      · omega
      · omega
    have := HN0.out
    exact ⟨h0, r, h1, h2.fr0 hf (hlt _ (by omega)), h3.fr0 hf (hlt _ (by omega)), h4.trans' hf (fun k hk h => absurd h (hlt k (by rw [Hsz3.out] at hk; exact hk)))⟩
  case h0 =>
    exact ⟨Fr0.refl _ _, K3.out, fun j hj => by omega⟩
  case keep =>
    rintro x W4 W5 a' ⟨B, rfl, hB, hc⟩ hf
    refine ⟨B, rfl, hB, (hf.block B (Array.getElem?_eq_some_iff.1 hc).1 (by rw [Hsz3.out]; omega)).trans hc⟩
  case assign =>
    intro l x W K hlt hK
    rw [Hsz3.out] at hlt
    simp only [fV]
    gi_wp2
    exact hK _ _ ⟨W.heap.size, by simp [fV], by omega, World.alloc_heap_new W _⟩ ((Fr0.refl _ _).alloc _)
  case body =>
    rintro l i x X W a' r hxi ⟨hfr, hkk, hall⟩ hXb ⟨B, rfl, hB, hcB⟩ hD hL
    have hi : i < 3 ∧ x = 2 - i := by
      have : i < 3 := (List.getElem?_eq_some_iff.1 hxi).1
      have h3 : i = 0 ∨ i = 1 ∨ i = 2 := by omega
      rcases h3 with rfl | rfl | rfl <;> simp at hxi <;> omega
    obtain ⟨hi, hx2⟩ := hi
    have hx3 : x < 3 := by omega
    have hxx : 2 - i = x := hx2.symm
    clear hxi hD hL
    have hcb := cells_of hcB 0
    have hcm := cells_of hcB 1
    simp [fC] at hcb hcm
    have Kk := Lib.hid hkk
    have ka : W.cell? ⟨Bw, x, none⟩ = some (.int .i64 (nth3 k x)) := by
      have h1 := hkk.cell hx3
      have h2 : nth3 (lowN k i) x = nth3 k x := by have := lowN_nth k hi; rw [hxx] at this; exact this
      rw [h2] at h1
      exact h1
    have kf := hkk.frozen x
    have KR := Lib.hid ((okF_all k).1 Hk.out x hx3)
    clear hcB hkk hx2
    obtain ⟨p, hp⟩ : ∃ p, nth3 k x = p := ⟨_, rfl⟩
    obtain ⟨m, hm⟩ : ∃ m, fMost x = m := ⟨_, rfl⟩
    rw [hp] at ka
    rw [hm] at hcm
    have Hp := Lib.hid hp
    have Hm := Lib.hid hm
    have Hi := Lib.hid hi
    have Hx3 := Lib.hid hx3
    have Hxx := Lib.hid hxx
    have HFR := Lib.hid hfr
    clear hp hm hi hx3 hxx hfr
    have hpm : 0 ≤ p ∧ p ≤ m ∧ m ≤ 281474976710656 := by
      have := KR.out
      unfold okF at this
      rw [Hp.out, Hm.out] at this
      have h2 : m ≤ 281474976710656 := by
        rw [← Hm.out]; unfold fMost; split <;> (try split) <;> omega
      omega
    by_cases hlt : p < m
    · have d0 : decide (p < m) = true := decide_eq_true hlt
      have z1 : IntKind.i64.wrap (p + 1) = p + 1 := IntWalk.i64_in _ (by omega)
      have Hpm := Lib.hid hpm
      clear hpm
      gi_wp2
      refine wpIn_round_held (S := fun W' => W' = W.drew) (by kernel_rfl) (by kernel_rfl) (by intro a w h; exact h) rfl (fun hHeld => ?_)
      refine take_on (i := 0) (v := .pointer (some ⟨B, 0, none⟩)) rfl (by kernel_rfl) (by kernel_rfl) (by kernel_rfl) (fun _ _ _ h => h) (by kernel_rfl) (fun W' hSW => ?_) (by assumption) ?_
      · (try dsimp only at hSW); (try subst hSW)
        first | (go_simp; done) | exact rfl | (go_simp; rfl) | (go_simp; omega)
      try simp only [Act.put, List.setIfInBounds_toArray, List.set_cons_zero, List.set_cons_succ]
      refine take_on (i := 1) (v := .pointer (some ⟨Bw, x, none⟩)) rfl (by kernel_rfl) (by kernel_rfl) (by kernel_rfl) (fun _ _ _ h => h) (by kernel_rfl) (fun W' hSW => ?_) (by assumption) ?_
      · (try dsimp only at hSW); (try subst hSW)
        first | (go_simp; done) | exact rfl | (go_simp; rfl) | (go_simp; omega)
      try simp only [Act.put, List.setIfInBounds_toArray, List.set_cons_zero, List.set_cons_succ]
      refine take_on (i := 2) (v := .pointer (some ⟨Bw, x, none⟩)) rfl (by kernel_rfl) (by kernel_rfl) (by kernel_rfl) (fun _ _ _ h => h) (by kernel_rfl) (fun W' hSW => ?_) (by assumption) ?_
      · (try dsimp only at hSW); (try subst hSW)
        first | (go_simp; done) | exact rfl | (go_simp; rfl) | (go_simp; omega)
      try simp only [Act.put, List.setIfInBounds_toArray, List.set_cons_zero, List.set_cons_succ]
      refine take_on (i := 3) (v := .int .i64 p) rfl (by kernel_rfl) (by kernel_rfl) (by kernel_rfl) (fun _ _ _ h => h) (by kernel_rfl) (fun W' hSW => ?_) (by assumption) ?_
      · (try dsimp only at hSW); (try subst hSW)
        first | (go_simp; done) | exact rfl | (go_simp; rfl) | (go_simp; omega)
      try simp only [Act.put, List.setIfInBounds_toArray, List.set_cons_zero, List.set_cons_succ]
      refine take_on (i := 4) (v := .pointer (some ⟨B, 1, none⟩)) rfl (by kernel_rfl) (by kernel_rfl) (by kernel_rfl) (fun _ _ _ h => h) (by kernel_rfl) (fun W' hSW => ?_) (by assumption) ?_
      · (try dsimp only at hSW); (try subst hSW)
        first | (go_simp; done) | exact rfl | (go_simp; rfl) | (go_simp; omega)
      try simp only [Act.put, List.setIfInBounds_toArray, List.set_cons_zero, List.set_cons_succ]
      refine take_on (i := 5) (v := .int .i64 m) rfl (by kernel_rfl) (by kernel_rfl) (by kernel_rfl) (fun _ _ _ h => h) (by kernel_rfl) (fun W' hSW => ?_) (by assumption) ?_
      · (try dsimp only at hSW); (try subst hSW)
        first | (go_simp; done) | exact rfl | (go_simp; rfl) | (go_simp; omega)
      try simp only [Act.put, List.setIfInBounds_toArray, List.set_cons_zero, List.set_cons_succ]
      refine take_on (i := 6) (v := .bool true) rfl (by kernel_rfl) (by kernel_rfl) (by kernel_rfl) (fun _ _ _ h => h) (by kernel_rfl) (fun W' hSW => ?_) (by assumption) ?_
      · (try dsimp only at hSW); (try subst hSW)
        first | (go_simp; done) | exact rfl | (go_simp; rfl) | (go_simp; omega)
      try simp only [Act.put, List.setIfInBounds_toArray, List.set_cons_zero, List.set_cons_succ]
      refine wpAnyH_done (by kernel_rfl) ?_ _
      clear hHeld
      have Hlt := Lib.hid hlt
      clear hlt
      have K5 : KeyAt (W.setCell ⟨Bw, x, none⟩ (.int .i64 (p + 1))) Bw (setF (lowN k i) x (p + 1)) := KeyAt.setF Kk.out Hx3.out _
      obtain ⟨r, hr⟩ : ∃ r, setF (lowN k i) x (p + 1) = r := ⟨_, rfl⟩
      rw [hr] at K5
      have HR2 := Lib.hid hr
      obtain ⟨r0, r1, r2⟩ := r
      clear hr
      have e0 := K5.cell (i := 0) (by omega)
      have e1 := K5.cell (i := 1) (by omega)
      have e2 := K5.cell (i := 2) (by omega)
      simp [nth3] at e0 e1 e2
      have zz : KeyAt W (Bw + 1) zeroK := Z3.out.fr0 HFR.out (by omega)
      have ez : Box W (Bw + 1 + 1) (.int .i64 0) := E3.out.fr0 HFR.out (by omega)
      have ZZ := Lib.hid zz
      have EZ := Lib.hid ez
      have y0 := zz.cell (i := 0) (by omega)
      have y1 := zz.cell (i := 1) (by omega)
      have y2 := zz.cell (i := 2) (by omega)
      have y3 := ez.cell
      have q0 := zz.frozen 0
      have q1 := zz.frozen 1
      have q2 := zz.frozen 2
      have q3 := ez.frozen
      simp [nth3, zeroK] at y0 y1 y2
      clear zz ez
      gi_wp2
      have hn0 := HN0.out
      have hz3 := Hsz3.out
      have hres : nextK k = some ⟨r0, r1, r2⟩ := by
        have hx : p < m := Hlt.out
        have := next_hit k Hi.out (fun j hj => by have := hall.out j hj; omega) (by
          rw [Hxx.out, Hp.out]
          try rw [Hm.out]
          exact hx)
        rw [this, Hxx.out, Hp.out, HR2.out]
      have F1 : ∀ {A : World} {S : Nat → Prop}, Fr0 S A W → S Bw → S (Bw + 1) → S (Bw + 1 + 1) → Fr0 S A (((((W.setCell ⟨Bw, x, none⟩ (.int .i64 (p + 1))).setCell ⟨Bw + 1, 0, none⟩ (.int .i64 r0)).setCell ⟨Bw + 1, 1, none⟩ (.int .i64 r1)).setCell ⟨Bw + 1, 2, none⟩ (.int .i64 r2)).setCell ⟨Bw + 1 + 1, 0, none⟩ (.int .i64 0)) := fun h h1 h2 h3 => ((((h.setCell (fun _ => h1) _).setCell (fun _ => h2) _).setCell (fun _ => h2) _).setCell (fun _ => h2) _).setCell (fun _ => h3) _
      refine ⟨fun k => k = Bw ∨ k = Bw + 1 ∨ k = Bw + 1 + 1, (by first | exact (F1 (Fr0.refl _ W) (.inl rfl) (.inr (.inl rfl)) (.inr (.inr rfl))).drew | exact F1 (Fr0.refl _ W) (.inl rfl) (.inr (.inl rfl)) (.inr (.inr rfl))), ?_, rfl, ⟨r0, r1, r2⟩, hres, ?_, ?_, by first | exact (F1 (HFR.out.mono (fun k _ h => .inl h)) (.inl rfl) (.inr (.inl rfl)) (.inr (.inr rfl))).drew | exact F1 (HFR.out.mono (fun k _ h => .inl h)) (.inl rfl) (.inr (.inl rfl)) (.inr (.inr rfl))⟩
      · intro k hk h
        rcases h with h | h | h | h
        · omega
        · have := hXb _ h; omega
        · omega
        · omega
      · have z := (((((ZZ.out.setOther (a := ⟨Bw, x, none⟩) (by simp <;> omega) (.int .i64 (p + 1))).set0 r0).set1 r1).set2 r2).setOther (a := ⟨Bw + 1 + 1, 0, none⟩) (by simp <;> omega) (.int .i64 0))
        exact z
      · have z := Box.set (v := .int .i64 0) ((((EZ.out.setOther (a := ⟨Bw, x, none⟩) (by simp <;> omega) (.int .i64 (p + 1))).setOther (a := ⟨Bw + 1, 0, none⟩) (by simp <;> omega) (.int .i64 r0)).setOther (a := ⟨Bw + 1, 1, none⟩) (by simp <;> omega) (.int .i64 r1)).setOther (a := ⟨Bw + 1, 2, none⟩) (by simp <;> omega) (.int .i64 r2)) (.int .i64 0)
        exact z.of_block rfl
    · have d0 : decide (p < m) = false := decide_eq_false hlt
      have Hpm := Lib.hid hpm
      clear hpm
      gi_wp2
      refine wpIn_round_held (S := fun W' => W' = W.drew) (by kernel_rfl) (by kernel_rfl) (by intro a w h; exact h) rfl (fun hHeld => ?_)
      refine take_on (i := 0) (v := .pointer (some ⟨B, 0, none⟩)) rfl (by kernel_rfl) (by kernel_rfl) (by kernel_rfl) (fun _ _ _ h => h) (by kernel_rfl) (fun W' hSW => ?_) (by assumption) ?_
      · (try dsimp only at hSW); (try subst hSW)
        first | (go_simp; done) | exact rfl | (go_simp; rfl) | (go_simp; omega)
      try simp only [Act.put, List.setIfInBounds_toArray, List.set_cons_zero, List.set_cons_succ]
      refine take_on (i := 1) (v := .pointer (some ⟨Bw, x, none⟩)) rfl (by kernel_rfl) (by kernel_rfl) (by kernel_rfl) (fun _ _ _ h => h) (by kernel_rfl) (fun W' hSW => ?_) (by assumption) ?_
      · (try dsimp only at hSW); (try subst hSW)
        first | (go_simp; done) | exact rfl | (go_simp; rfl) | (go_simp; omega)
      try simp only [Act.put, List.setIfInBounds_toArray, List.set_cons_zero, List.set_cons_succ]
      refine take_on (i := 2) (v := .pointer (some ⟨Bw, x, none⟩)) rfl (by kernel_rfl) (by kernel_rfl) (by kernel_rfl) (fun _ _ _ h => h) (by kernel_rfl) (fun W' hSW => ?_) (by assumption) ?_
      · (try dsimp only at hSW); (try subst hSW)
        first | (go_simp; done) | exact rfl | (go_simp; rfl) | (go_simp; omega)
      try simp only [Act.put, List.setIfInBounds_toArray, List.set_cons_zero, List.set_cons_succ]
      refine take_on (i := 3) (v := .int .i64 p) rfl (by kernel_rfl) (by kernel_rfl) (by kernel_rfl) (fun _ _ _ h => h) (by kernel_rfl) (fun W' hSW => ?_) (by assumption) ?_
      · (try dsimp only at hSW); (try subst hSW)
        first | (go_simp; done) | exact rfl | (go_simp; rfl) | (go_simp; omega)
      try simp only [Act.put, List.setIfInBounds_toArray, List.set_cons_zero, List.set_cons_succ]
      refine take_on (i := 4) (v := .pointer (some ⟨B, 1, none⟩)) rfl (by kernel_rfl) (by kernel_rfl) (by kernel_rfl) (fun _ _ _ h => h) (by kernel_rfl) (fun W' hSW => ?_) (by assumption) ?_
      · (try dsimp only at hSW); (try subst hSW)
        first | (go_simp; done) | exact rfl | (go_simp; rfl) | (go_simp; omega)
      try simp only [Act.put, List.setIfInBounds_toArray, List.set_cons_zero, List.set_cons_succ]
      refine take_on (i := 5) (v := .int .i64 m) rfl (by kernel_rfl) (by kernel_rfl) (by kernel_rfl) (fun _ _ _ h => h) (by kernel_rfl) (fun W' hSW => ?_) (by assumption) ?_
      · (try dsimp only at hSW); (try subst hSW)
        first | (go_simp; done) | exact rfl | (go_simp; rfl) | (go_simp; omega)
      try simp only [Act.put, List.setIfInBounds_toArray, List.set_cons_zero, List.set_cons_succ]
      refine take_on (i := 6) (v := .bool false) rfl (by kernel_rfl) (by kernel_rfl) (by kernel_rfl) (fun _ _ _ h => h) (by kernel_rfl) (fun W' hSW => ?_) (by assumption) ?_
      · (try dsimp only at hSW); (try subst hSW)
        first | (go_simp; done) | exact rfl | (go_simp; rfl) | (go_simp; omega)
      try simp only [Act.put, List.setIfInBounds_toArray, List.set_cons_zero, List.set_cons_succ]
      refine wpAnyH_done (by kernel_rfl) ?_ _
      clear hHeld
      have Hlt := Lib.hid hlt
      clear hlt
      gi_wp2
      have hn0 := HN0.out
      have hz3 := Hsz3.out
      refine ⟨fun k => k = Bw, (by first | exact ((Fr0.refl (fun k => k = Bw) W).setCell (fun _ => rfl) _).drew | exact (Fr0.refl (fun k => k = Bw) W).setCell (fun _ => rfl) _), ?_, (by first | exact (HFR.out.setCell (fun _ => rfl) _).drew | exact HFR.out.setCell (fun _ => rfl) _), ?_, ?_⟩
      · intro k hk h
        rcases h with h | h | h | h
        · omega
        · have := hXb _ h; omega
        · omega
        · omega
      · have z := KeyAt.setF Kk.out Hx3.out (0)
        have e := lowN_succ k Hi.out
        rw [Hxx.out] at e
        try rw [Hm.out] at e
        rw [e] at z
        exact z
      · unfold Hid; intro j hj
        by_cases hji : j = i
        · subst hji; rw [Hxx.out, Hp.out]; try rw [Hm.out]
          have := Hlt.out; omega
        · have := hall.out j (by omega); omega
  case done =>
    rintro D X W hDe ⟨hfr, hkk, hall⟩ hK
    have hn0 := HN0.out
    have hres : nextK k = none := next_none k (fun j hj => by have := hall.out j hj; omega)
    obtain rfl : .tuple #[.agg #[.int .i64 0, .int .i64 0, .int .i64 0], .int .i64 6] = R := by rw [← HRV.out, hres]; rfl
    rw [Hsz3.out] at hDe
    subst hDe
    have zz : KeyAt W (Bw + 1) zeroK := Z3.out.fr0 hfr (by omega)
    have ez : Box W (Bw + 1 + 1) (.int .i64 0) := E3.out.fr0 hfr (by omega)
    have ZZ := Lib.hid zz
    have EZ := Lib.hid ez
    have y0 := zz.cell (i := 0) (by omega)
    have y1 := zz.cell (i := 1) (by omega)
    have y2 := zz.cell (i := 2) (by omega)
    have y3 := ez.cell
    have q0 := zz.frozen 0
    have q1 := zz.frozen 1
    have q2 := zz.frozen 2
    have q3 := ez.frozen
    simp [nth3, zeroK] at y0 y1 y2
    have HK := Lib.hid hK
    have HFR := Lib.hid hfr
    clear zz ez hK hfr hkk hres
    gi_wp2
    have hn0 := HN0.out
    have z1 : KeyAt ((((W.setCell ⟨Bw + 1, 0, none⟩ (.int .i64 0)).setCell ⟨Bw + 1, 1, none⟩ (.int .i64 0)).setCell ⟨Bw + 1, 2, none⟩ (.int .i64 0)).setCell ⟨Bw + 1 + 1, 0, none⟩ (.int .i64 6)) (Bw + 1) zeroK := (((ZZ.out.set0 0).set1 0).set2 0).setOther (a := ⟨Bw + 1 + 1, 0, none⟩) (by simp <;> omega) (.int .i64 6)
    have z2 : Box ((((W.setCell ⟨Bw + 1, 0, none⟩ (.int .i64 0)).setCell ⟨Bw + 1, 1, none⟩ (.int .i64 0)).setCell ⟨Bw + 1, 2, none⟩ (.int .i64 0)).setCell ⟨Bw + 1 + 1, 0, none⟩ (.int .i64 6)) (Bw + 1 + 1) (.int .i64 6) := Box.set (v := .int .i64 0) (((EZ.out.setOther (a := ⟨Bw + 1, 0, none⟩) (by simp <;> omega) (.int .i64 0)).setOther (a := ⟨Bw + 1, 1, none⟩) (by simp <;> omega) (.int .i64 0)).setOther (a := ⟨Bw + 1, 2, none⟩) (by simp <;> omega) (.int .i64 0)) (.int .i64 6)
    have z3 : Fr0 none' w ((((W.setCell ⟨Bw + 1, 0, none⟩ (.int .i64 0)).setCell ⟨Bw + 1, 1, none⟩ (.int .i64 0)).setCell ⟨Bw + 1, 2, none⟩ (.int .i64 0)).setCell ⟨Bw + 1 + 1, 0, none⟩ (.int .i64 6)) := by
      have e := HBw.out
      have h0 : Fr0 none' w W := F03.out.trans' HFR.out (fun k hk h => by omega)
      exact (((h0.setCell (fun h => by omega) _).setCell (fun h => by omega) _).setCell (fun h => by omega) _).setCell (fun h => by omega) _
    have z4 : ((((W.setCell ⟨Bw + 1, 0, none⟩ (.int .i64 0)).setCell ⟨Bw + 1, 1, none⟩ (.int .i64 0)).setCell ⟨Bw + 1, 2, none⟩ (.int .i64 0)).setCell ⟨Bw + 1 + 1, 0, none⟩ (.int .i64 6)).heap[N + 1]? = some (.deferred (some [])) := by
      rw [Below.heap_setCell _ _ _ _ (by simp; omega), Below.heap_setCell _ _ _ _ (by simp; omega), Below.heap_setCell _ _ _ _ (by simp; omega), Below.heap_setCell _ _ _ _ (by simp; omega)]
      exact HK.out
    generalize ((((W.setCell ⟨Bw + 1, 0, none⟩ (.int .i64 0)).setCell ⟨Bw + 1, 1, none⟩ (.int .i64 0)).setCell ⟨Bw + 1, 2, none⟩ (.int .i64 0)).setCell ⟨Bw + 1 + 1, 0, none⟩ (.int .i64 6)) = V at z1 z2 z3 z4 ⊢
    have k1 : KeyAt (V.putObj (N + 1) (.deferred none)) (Bw + 1) zeroK := (World.putObj_heap_other (by omega)).trans z1
    have k2 : Box (V.putObj (N + 1) (.deferred none)) (Bw + 1 + 1) (.int .i64 6) := z2.of_block (World.putObj_heap_other (by omega))
    have d0 := k1.cell (i := 0) (by omega)
    have d1 := k1.cell (i := 1) (by omega)
    have d2 := k1.cell (i := 2) (by omega)
    have d3 := k2.cell
    simp [nth3, zeroK] at d0 d1 d2
    refine ⟨by simp, .inl ⟨_, _, rfl, run_takeDeferred z4, ?_⟩⟩
    refine ⟨.tuple #[.agg #[.int .i64 0, .int .i64 0, .int .i64 0], .int .i64 6], by simp [results, Tryz.results9, go_sem, d0, d1, d2, d3], rfl, ?_⟩
    have e := HBw.out
    exact z3.putObj (fun h => by omega) _
  case stop =>
    rintro D c W hDe ⟨rfl, r, hres, h1, h2, h3⟩ hK
    obtain ⟨r0, r1, r2⟩ := r
    obtain rfl : .tuple #[.agg #[.int .i64 r0, .int .i64 r1, .int .i64 r2], .int .i64 0] = R := by rw [← HRV.out, hres.out]; rfl
    have hn0 := HN0.out
    rw [Hsz3.out] at hDe
    subst hDe
    have k1 : KeyAt (W.putObj (N + 1) (.deferred none)) (Bw + 1) ⟨r0, r1, r2⟩ := (World.putObj_heap_other (by omega)).trans h1
    have k2 : Box (W.putObj (N + 1) (.deferred none)) (Bw + 1 + 1) (.int .i64 0) := h2.of_block (World.putObj_heap_other (by omega))
    have d0 := k1.cell (i := 0) (by omega)
    have d1 := k1.cell (i := 1) (by omega)
    have d2 := k1.cell (i := 2) (by omega)
    have d3 := k2.cell
    simp [nth3] at d0 d1 d2
    have hK' := hK
    clear hK k1 k2 hres
    gi_wp2
    refine ⟨by simp, .inl ⟨_, _, rfl, run_takeDeferred hK', ?_⟩⟩
    refine ⟨.tuple #[.agg #[.int .i64 r0, .int .i64 r1, .int .i64 r2], .int .i64 0], by simp [results, Tryz.results9, go_sem, d0, d1, d2, d3], rfl, ?_⟩
    have e := HBw.out
    exact (F03.out.trans' h3 (fun k hk h => by omega)).putObj (fun h => by omega) _
theorem Next_any (k : Key3) (w : World) :
    Calls Tryz.prog 9 #[keyV k] w fun e w' => e = .returned (if RightK k then stepV (nextK k) else .tuple #[keyV zeroK, .int .i64 70]) ∧ Fr0 none' w w' := by
  by_cases h : RightK k
  · rw [if_pos h]; exact callsIn_wide.1 (Next_in k h w)
  · rw [if_neg h]; exact Next_wrong k h w
set_option maxRecDepth 100000 in
set_option maxHeartbeats 2000000 in
theorem Back_in (k : Key3) (hk : RightK k) (w : World) :
    CallsIn Fence.wide 0 Tryz.prog 10 #[keyV k] w fun e w' => e = .returned (stepV (backK k)) ∧ Fr0 none' w w' := by
  have hd : decide (RightK k) = true := decide_eq_true hk
  have HR := fun W => Right_any k W
  rw [hd] at HR
  have HRR := Lib.hid HR
  have Hk := Lib.hid hk
  clear hd HR hk
  obtain ⟨R, hR⟩ : ∃ R, stepV (backK k) = R := ⟨_, rfl⟩
  rw [hR]
  have HRV := Lib.hid hR
  clear hR
  refine callsIn_of_wp_marks Tryz.func10 rfl trivial ?_ rfl
  simp only [keyV] at HRR
  simp only [keyV, Tryz.ntmps10, List.size_toArray, List.length_cons, List.length_nil, Nat.reduceAdd, Nat.reduceSub, Array.replicate_succ, Array.replicate_zero, List.push_toArray, List.append_toArray, List.nil_append, List.cons_append]
  gi_wp2_with fail
  obtain ⟨W0, hW0⟩ : ∃ W0, start3 w k = W0 := ⟨_, rfl⟩
  have hs := start3_facts w k
  unfold start3 at hW0
  rw [show start3 w k = W0 from hW0] at hs
  rw [hW0]
  have Hs := Lib.hid hs
  clear hW0 hs
  obtain ⟨Bw, hBw⟩ : ∃ Bw, w.heap.size = Bw := ⟨_, rfl⟩
  rw [hBw] at Hs ⊢
  have HBw := Lib.hid hBw
  clear hBw
  refine (callsIn_wide.2 (HRR.out _)).mono ?_
  rintro e w1 ⟨rfl, hf1⟩
  have HF1 := Lib.hid hf1
  clear hf1
  gi_wp2_with fail
  refine (callsIn_wide.2 (fields_any _ _)).mono ?_
  rintro e w2 ⟨rfl, rfl⟩
  gi_wp2_with fail
  refine (callsIn_wide.2 (CollectF _ _ Bw [0, 1, 2] _ _ _ (by intro args w; rfl) (fields_iter Bw w1.heap.size _ (Box.new _ _ _)) (fun k hk => hk.elim) (fun k hk => by subst hk; simp) (by simp))).mono ?_
  rintro e W1 ⟨v, rfl, hrow, hfr⟩
  obtain ⟨g, cap, rfl⟩ := ownsRow_k_succ (n := 2) hrow
  have hg := hrow.lt g rfl
  have Hrow := Lib.hid hrow
  have HF2 := Lib.hid (((Fr0.refl none' w1).alloc _).trans hfr.to0)
  have Hg := Lib.hid hg
  clear hrow hfr hg
  gi_wp2_with fail
  refine (callsIn_wide.2 (backward_any _ ⟨_, _, _, rfl⟩ _)).mono ?_
  rintro e w4 ⟨rfl, rfl⟩
  gi_wp2_with fail
  obtain ⟨Q1, hQ1⟩ : ∃ q, w1.heap.size = q := ⟨_, rfl⟩
  obtain ⟨N, hN⟩ : ∃ N, W1.heap.size = N := ⟨_, rfl⟩
  obtain ⟨W3, hW3⟩ : ∃ W3, W1.alloc (.cells #[.slice (some ⟨g, 0, none⟩) 3 cap] 79) = W3 := ⟨_, rfl⟩
  have hg := Hg.out
  have hs2 := HF2.out.size
  have hs1 := HF1.out.size
  have hs0 := Hs.out.2.2.2.1
  simp only [World.size_alloc] at hg
  have hN0 : Bw + 3 ≤ N ∧ g < N ∧ Bw + 3 ≤ g := by omega
  have it := (backward_iter Bw W1.heap.size g cap _ (Box.new W1 _ _ : Box (W1.alloc (.cells #[.slice (some ⟨g, 0, none⟩) 3 cap] 79)) _ _) (ownsRow_k_fr (ownsRow_k_mono Hrow.out (Nat.zero_le _)) ((Fr.refl none' W1).alloc _) (fun _ _ h => h))).to0
  have F3 := Lib.hid (show Fr0 none' W1 W3 by rw [← hW3]; exact (Fr0.refl _ _).alloc _)
  have Hsz3 := Lib.hid (show W3.heap.size = N + 1 by rw [← hW3, World.size_alloc, hN])
  rw [hW3, hN] at it
  rw [hW3, hN, hQ1]
  have HN0 := Lib.hid hN0
  have K3 := Lib.hid (((Hs.out.1.fr0 HF1.out id).fr0 HF2.out id).fr0 F3.out id)
  have Z3 := Lib.hid (((Hs.out.2.1.fr0 HF1.out id).fr0 HF2.out id).fr0 F3.out id)
  have E3 := Lib.hid (((Hs.out.2.2.1.fr0 HF1.out id).fr0 HF2.out id).fr0 F3.out id)
  have F03 := Lib.hid (((Hs.out.2.2.2.2.trans HF1.out).trans HF2.out).trans F3.out)
  clear hW3 hN hQ1 hg hs0 hs1 hs2 hN0 Hg Hrow Hs HF1 HF2 F3
  refine wpIn_iterX0 (gf := 70) (lb := #[.pointer (some ⟨N, 0, none⟩)]) rfl (by intro args w; rfl) it (Keep.refl _ _) (fun _ => rfl) (fun k hk => hk.elim) (fun k hk => by have := HN0.out; rw [Hsz3.out]; omega)
    (fun i X W => Fr0 (fun k => k = Bw) W3 W ∧ KeyAt W Bw (lowB k i) ∧ Hid (∀ j, j < i → ¬ 0 < nth3 k (2 - j)))
    (fun c W => c = .ret ∧ ∃ r, Hid (backK k = some r) ∧ KeyAt W (Bw + 1) r ∧ Box W (Bw + 1 + 1) (.int .i64 0) ∧ Fr0 (fun k => k = Bw ∨ k = Bw + 1 ∨ k = Bw + 1 + 1) W3 W) ?hI ?hIx ?h0
    (fun x W a' => ∃ B, a' = { tmps := #[.agg #[.int .i64 k.time, .int .i64 k.source, .int .i64 k.seq], .pointer (some ⟨Bw, 0, none⟩), .pointer (some ⟨Bw + 1, 0, none⟩), .pointer (some ⟨Bw + 1 + 1, 0, none⟩), undef, .pointer (some ⟨B, 0, none⟩), .agg #[.int .i64 k.time, .int .i64 k.source, .int .i64 k.seq], .bool true, .bool false, undef, .func (.func 68) #[] #[.pointer (some ⟨Q1, 0, none⟩)], .slice (some ⟨g, 0, none⟩) 3 cap, .func (.func 70) #[] #[.pointer (some ⟨N, 0, none⟩)], .int .i64 x, fV Bw x, undef, undef, undef, undef, undef, undef, undef, undef, undef, undef, undef, undef, undef, undef, undef, undef, undef, undef], defers := [] } ∧ N + 2 < B ∧ W.heap[B]? = some (.cells (fC Bw x).toArray 74 (0, 0)))
    ?assign ?keep ?body ?done ?stop
  case hI =>
    rintro i X Y W4 W5 ⟨h1, h2, h3⟩ hX hf hY
    have hlt : ∀ k, k < N + 1 → ¬ (none' k ∨ X k ∨ k = W3.heap.size ∨ k = W3.heap.size + 1) := fun k hk h => by
      have hz := Hsz3.out
      rcases h with h | h | h | h
      · exact h
      · have := hX k h; omega
      · omega
      · omega
    have := HN0.out
    exact ⟨h1.trans' hf (fun k hk h => absurd h (hlt k (by rw [Hsz3.out] at hk; exact hk))), h2.fr0 hf (hlt _ (by omega)), h3⟩
  case hIx =>
    rintro c W4 W5 ⟨h0, r, h1, h2, h3, h4⟩ hf
    have hlt : ∀ k, k < N + 1 → ¬ (none' k ∨ k = W3.heap.size ∨ k = W3.heap.size + 1) := fun k hk h => by
      have hz := Hsz3.out
      rcases h with h | h | h
      · exact h
      · omega
      · omega
    have := HN0.out
    exact ⟨h0, r, h1, h2.fr0 hf (hlt _ (by omega)), h3.fr0 hf (hlt _ (by omega)), h4.trans' hf (fun k hk h => absurd h (hlt k (by rw [Hsz3.out] at hk; exact hk)))⟩
  case h0 =>
    exact ⟨Fr0.refl _ _, K3.out, fun j hj => by omega⟩
  case keep =>
    rintro x W4 W5 a' ⟨B, rfl, hB, hc⟩ hf
    refine ⟨B, rfl, hB, (hf.block B (Array.getElem?_eq_some_iff.1 hc).1 (by rw [Hsz3.out]; omega)).trans hc⟩
  case assign =>
    intro l x W K hlt hK
    rw [Hsz3.out] at hlt
    simp only [fV]
    gi_wp2
    exact hK _ _ ⟨W.heap.size, by simp [fV], by omega, World.alloc_heap_new W _⟩ ((Fr0.refl _ _).alloc _)
  case body =>
    rintro l i x X W a' r hxi ⟨hfr, hkk, hall⟩ hXb ⟨B, rfl, hB, hcB⟩ hD hL
    have hi : i < 3 ∧ x = 2 - i := by
      have : i < 3 := (List.getElem?_eq_some_iff.1 hxi).1
      have h3 : i = 0 ∨ i = 1 ∨ i = 2 := by omega
      rcases h3 with rfl | rfl | rfl <;> simp at hxi <;> omega
    obtain ⟨hi, hx2⟩ := hi
    have hx3 : x < 3 := by omega
    have hxx : 2 - i = x := hx2.symm
    clear hxi hD hL
    have hcb := cells_of hcB 0
    have hcm := cells_of hcB 1
    simp [fC] at hcb hcm
    have Kk := Lib.hid hkk
    have ka : W.cell? ⟨Bw, x, none⟩ = some (.int .i64 (nth3 k x)) := by
      have h1 := hkk.cell hx3
      have h2 : nth3 (lowB k i) x = nth3 k x := by have := lowB_nth k hi; rw [hxx] at this; exact this
      rw [h2] at h1
      exact h1
    have kf := hkk.frozen x
    have KR := Lib.hid ((okF_all k).1 Hk.out x hx3)
    clear hcB hkk hx2
    obtain ⟨p, hp⟩ : ∃ p, nth3 k x = p := ⟨_, rfl⟩
    obtain ⟨m, hm⟩ : ∃ m, fMost x = m := ⟨_, rfl⟩
    rw [hp] at ka
    rw [hm] at hcm
    have Hp := Lib.hid hp
    have Hm := Lib.hid hm
    have Hi := Lib.hid hi
    have Hx3 := Lib.hid hx3
    have Hxx := Lib.hid hxx
    have HFR := Lib.hid hfr
    clear hp hm hi hx3 hxx hfr
    have hpm : 0 ≤ p ∧ p ≤ m ∧ m ≤ 281474976710656 := by
      have := KR.out
      unfold okF at this
      rw [Hp.out, Hm.out] at this
      have h2 : m ≤ 281474976710656 := by
        rw [← Hm.out]; unfold fMost; split <;> (try split) <;> omega
      omega
    by_cases hlt : 0 < p
    · have d0 : decide (0 < p) = true := decide_eq_true hlt
      have z1 : IntKind.i64.wrap (p - 1) = p - 1 := IntWalk.i64_in _ (by omega)
      have Hpm := Lib.hid hpm
      clear hpm
      skip
      have Hlt := Lib.hid hlt
      clear hlt
      have K5 : KeyAt (W.setCell ⟨Bw, x, none⟩ (.int .i64 (p - 1))) Bw (setF (lowB k i) x (p - 1)) := KeyAt.setF Kk.out Hx3.out _
      obtain ⟨r, hr⟩ : ∃ r, setF (lowB k i) x (p - 1) = r := ⟨_, rfl⟩
      rw [hr] at K5
      have HR2 := Lib.hid hr
      obtain ⟨r0, r1, r2⟩ := r
      clear hr
      have e0 := K5.cell (i := 0) (by omega)
      have e1 := K5.cell (i := 1) (by omega)
      have e2 := K5.cell (i := 2) (by omega)
      simp [nth3] at e0 e1 e2
      have zz : KeyAt W (Bw + 1) zeroK := Z3.out.fr0 HFR.out (by omega)
      have ez : Box W (Bw + 1 + 1) (.int .i64 0) := E3.out.fr0 HFR.out (by omega)
      have ZZ := Lib.hid zz
      have EZ := Lib.hid ez
      have y0 := zz.cell (i := 0) (by omega)
      have y1 := zz.cell (i := 1) (by omega)
      have y2 := zz.cell (i := 2) (by omega)
      have y3 := ez.cell
      have q0 := zz.frozen 0
      have q1 := zz.frozen 1
      have q2 := zz.frozen 2
      have q3 := ez.frozen
      simp [nth3, zeroK] at y0 y1 y2
      clear zz ez
      gi_wp2
      have hn0 := HN0.out
      have hz3 := Hsz3.out
      have hres : backK k = some ⟨r0, r1, r2⟩ := by
        have hx : 0 < p := Hlt.out
        have := back_hit k Hi.out (fun j hj => by have := hall.out j hj; omega) (by
          rw [Hxx.out, Hp.out]
          try rw [Hm.out]
          exact hx)
        rw [this, Hxx.out, Hp.out, HR2.out]
      have F1 : ∀ {A : World} {S : Nat → Prop}, Fr0 S A W → S Bw → S (Bw + 1) → S (Bw + 1 + 1) → Fr0 S A (((((W.setCell ⟨Bw, x, none⟩ (.int .i64 (p - 1))).setCell ⟨Bw + 1, 0, none⟩ (.int .i64 r0)).setCell ⟨Bw + 1, 1, none⟩ (.int .i64 r1)).setCell ⟨Bw + 1, 2, none⟩ (.int .i64 r2)).setCell ⟨Bw + 1 + 1, 0, none⟩ (.int .i64 0)) := fun h h1 h2 h3 => ((((h.setCell (fun _ => h1) _).setCell (fun _ => h2) _).setCell (fun _ => h2) _).setCell (fun _ => h2) _).setCell (fun _ => h3) _
      refine ⟨fun k => k = Bw ∨ k = Bw + 1 ∨ k = Bw + 1 + 1, (by first | exact (F1 (Fr0.refl _ W) (.inl rfl) (.inr (.inl rfl)) (.inr (.inr rfl))).drew | exact F1 (Fr0.refl _ W) (.inl rfl) (.inr (.inl rfl)) (.inr (.inr rfl))), ?_, rfl, ⟨r0, r1, r2⟩, hres, ?_, ?_, by first | exact (F1 (HFR.out.mono (fun k _ h => .inl h)) (.inl rfl) (.inr (.inl rfl)) (.inr (.inr rfl))).drew | exact F1 (HFR.out.mono (fun k _ h => .inl h)) (.inl rfl) (.inr (.inl rfl)) (.inr (.inr rfl))⟩
      · intro k hk h
        rcases h with h | h | h | h
        · omega
        · have := hXb _ h; omega
        · omega
        · omega
      · have z := (((((ZZ.out.setOther (a := ⟨Bw, x, none⟩) (by simp <;> omega) (.int .i64 (p - 1))).set0 r0).set1 r1).set2 r2).setOther (a := ⟨Bw + 1 + 1, 0, none⟩) (by simp <;> omega) (.int .i64 0))
        exact z
      · have z := Box.set (v := .int .i64 0) ((((EZ.out.setOther (a := ⟨Bw, x, none⟩) (by simp <;> omega) (.int .i64 (p - 1))).setOther (a := ⟨Bw + 1, 0, none⟩) (by simp <;> omega) (.int .i64 r0)).setOther (a := ⟨Bw + 1, 1, none⟩) (by simp <;> omega) (.int .i64 r1)).setOther (a := ⟨Bw + 1, 2, none⟩) (by simp <;> omega) (.int .i64 r2)) (.int .i64 0)
        exact z.of_block rfl
    · have d0 : decide (0 < p) = false := decide_eq_false hlt
      have Hpm := Lib.hid hpm
      clear hpm
      skip
      have Hlt := Lib.hid hlt
      clear hlt
      gi_wp2
      have hn0 := HN0.out
      have hz3 := Hsz3.out
      refine ⟨fun k => k = Bw, (by first | exact ((Fr0.refl (fun k => k = Bw) W).setCell (fun _ => rfl) _).drew | exact (Fr0.refl (fun k => k = Bw) W).setCell (fun _ => rfl) _), ?_, (by first | exact (HFR.out.setCell (fun _ => rfl) _).drew | exact HFR.out.setCell (fun _ => rfl) _), ?_, ?_⟩
      · intro k hk h
        rcases h with h | h | h | h
        · omega
        · have := hXb _ h; omega
        · omega
        · omega
      · have z := KeyAt.setF Kk.out Hx3.out (m)
        have e := lowB_succ k Hi.out
        rw [Hxx.out] at e
        try rw [Hm.out] at e
        rw [e] at z
        exact z
      · unfold Hid; intro j hj
        by_cases hji : j = i
        · subst hji; rw [Hxx.out, Hp.out]; try rw [Hm.out]
          have := Hlt.out; omega
        · have := hall.out j (by omega); omega
  case done =>
    rintro D X W hDe ⟨hfr, hkk, hall⟩ hK
    have hn0 := HN0.out
    have hres : backK k = none := back_none k (fun j hj => by have := hall.out j hj; omega)
    obtain rfl : .tuple #[.agg #[.int .i64 0, .int .i64 0, .int .i64 0], .int .i64 6] = R := by rw [← HRV.out, hres]; rfl
    rw [Hsz3.out] at hDe
    subst hDe
    have zz : KeyAt W (Bw + 1) zeroK := Z3.out.fr0 hfr (by omega)
    have ez : Box W (Bw + 1 + 1) (.int .i64 0) := E3.out.fr0 hfr (by omega)
    have ZZ := Lib.hid zz
    have EZ := Lib.hid ez
    have y0 := zz.cell (i := 0) (by omega)
    have y1 := zz.cell (i := 1) (by omega)
    have y2 := zz.cell (i := 2) (by omega)
    have y3 := ez.cell
    have q0 := zz.frozen 0
    have q1 := zz.frozen 1
    have q2 := zz.frozen 2
    have q3 := ez.frozen
    simp [nth3, zeroK] at y0 y1 y2
    have HK := Lib.hid hK
    have HFR := Lib.hid hfr
    clear zz ez hK hfr hkk hres
    gi_wp2
    have hn0 := HN0.out
    have z1 : KeyAt ((((W.setCell ⟨Bw + 1, 0, none⟩ (.int .i64 0)).setCell ⟨Bw + 1, 1, none⟩ (.int .i64 0)).setCell ⟨Bw + 1, 2, none⟩ (.int .i64 0)).setCell ⟨Bw + 1 + 1, 0, none⟩ (.int .i64 6)) (Bw + 1) zeroK := (((ZZ.out.set0 0).set1 0).set2 0).setOther (a := ⟨Bw + 1 + 1, 0, none⟩) (by simp <;> omega) (.int .i64 6)
    have z2 : Box ((((W.setCell ⟨Bw + 1, 0, none⟩ (.int .i64 0)).setCell ⟨Bw + 1, 1, none⟩ (.int .i64 0)).setCell ⟨Bw + 1, 2, none⟩ (.int .i64 0)).setCell ⟨Bw + 1 + 1, 0, none⟩ (.int .i64 6)) (Bw + 1 + 1) (.int .i64 6) := Box.set (v := .int .i64 0) (((EZ.out.setOther (a := ⟨Bw + 1, 0, none⟩) (by simp <;> omega) (.int .i64 0)).setOther (a := ⟨Bw + 1, 1, none⟩) (by simp <;> omega) (.int .i64 0)).setOther (a := ⟨Bw + 1, 2, none⟩) (by simp <;> omega) (.int .i64 0)) (.int .i64 6)
    have z3 : Fr0 none' w ((((W.setCell ⟨Bw + 1, 0, none⟩ (.int .i64 0)).setCell ⟨Bw + 1, 1, none⟩ (.int .i64 0)).setCell ⟨Bw + 1, 2, none⟩ (.int .i64 0)).setCell ⟨Bw + 1 + 1, 0, none⟩ (.int .i64 6)) := by
      have e := HBw.out
      have h0 : Fr0 none' w W := F03.out.trans' HFR.out (fun k hk h => by omega)
      exact (((h0.setCell (fun h => by omega) _).setCell (fun h => by omega) _).setCell (fun h => by omega) _).setCell (fun h => by omega) _
    have z4 : ((((W.setCell ⟨Bw + 1, 0, none⟩ (.int .i64 0)).setCell ⟨Bw + 1, 1, none⟩ (.int .i64 0)).setCell ⟨Bw + 1, 2, none⟩ (.int .i64 0)).setCell ⟨Bw + 1 + 1, 0, none⟩ (.int .i64 6)).heap[N + 1]? = some (.deferred (some [])) := by
      rw [Below.heap_setCell _ _ _ _ (by simp; omega), Below.heap_setCell _ _ _ _ (by simp; omega), Below.heap_setCell _ _ _ _ (by simp; omega), Below.heap_setCell _ _ _ _ (by simp; omega)]
      exact HK.out
    generalize ((((W.setCell ⟨Bw + 1, 0, none⟩ (.int .i64 0)).setCell ⟨Bw + 1, 1, none⟩ (.int .i64 0)).setCell ⟨Bw + 1, 2, none⟩ (.int .i64 0)).setCell ⟨Bw + 1 + 1, 0, none⟩ (.int .i64 6)) = V at z1 z2 z3 z4 ⊢
    have k1 : KeyAt (V.putObj (N + 1) (.deferred none)) (Bw + 1) zeroK := (World.putObj_heap_other (by omega)).trans z1
    have k2 : Box (V.putObj (N + 1) (.deferred none)) (Bw + 1 + 1) (.int .i64 6) := z2.of_block (World.putObj_heap_other (by omega))
    have d0 := k1.cell (i := 0) (by omega)
    have d1 := k1.cell (i := 1) (by omega)
    have d2 := k1.cell (i := 2) (by omega)
    have d3 := k2.cell
    simp [nth3, zeroK] at d0 d1 d2
    refine ⟨by simp, .inl ⟨_, _, rfl, run_takeDeferred z4, ?_⟩⟩
    refine ⟨.tuple #[.agg #[.int .i64 0, .int .i64 0, .int .i64 0], .int .i64 6], by simp [results, Tryz.results10, go_sem, d0, d1, d2, d3], rfl, ?_⟩
    have e := HBw.out
    exact z3.putObj (fun h => by omega) _
  case stop =>
    rintro D c W hDe ⟨rfl, r, hres, h1, h2, h3⟩ hK
    obtain ⟨r0, r1, r2⟩ := r
    obtain rfl : .tuple #[.agg #[.int .i64 r0, .int .i64 r1, .int .i64 r2], .int .i64 0] = R := by rw [← HRV.out, hres.out]; rfl
    have hn0 := HN0.out
    rw [Hsz3.out] at hDe
    subst hDe
    have k1 : KeyAt (W.putObj (N + 1) (.deferred none)) (Bw + 1) ⟨r0, r1, r2⟩ := (World.putObj_heap_other (by omega)).trans h1
    have k2 : Box (W.putObj (N + 1) (.deferred none)) (Bw + 1 + 1) (.int .i64 0) := h2.of_block (World.putObj_heap_other (by omega))
    have d0 := k1.cell (i := 0) (by omega)
    have d1 := k1.cell (i := 1) (by omega)
    have d2 := k1.cell (i := 2) (by omega)
    have d3 := k2.cell
    simp [nth3] at d0 d1 d2
    have hK' := hK
    clear hK k1 k2 hres
    gi_wp2
    refine ⟨by simp, .inl ⟨_, _, rfl, run_takeDeferred hK', ?_⟩⟩
    refine ⟨.tuple #[.agg #[.int .i64 r0, .int .i64 r1, .int .i64 r2], .int .i64 0], by simp [results, Tryz.results10, go_sem, d0, d1, d2, d3], rfl, ?_⟩
    have e := HBw.out
    exact (F03.out.trans' h3 (fun k hk h => by omega)).putObj (fun h => by omega) _
theorem Back_any (k : Key3) (w : World) :
    Calls Tryz.prog 10 #[keyV k] w fun e w' => e = .returned (if RightK k then stepV (backK k) else .tuple #[keyV zeroK, .int .i64 70]) ∧ Fr0 none' w w' := by
  by_cases h : RightK k
  · rw [if_pos h]; exact callsIn_wide.1 (Back_in k h w)
  · rw [if_neg h]; exact Back_wrong k h w
end Go.Proofs.YtpklgpdlkdlbbaaGreatDoor

/-
  key.Text.
-/
namespace Go.Proofs.YtpklgpdlkdlbbaaGreatDoor
open Go Go.RowKit
attribute [local go_sem ↓] Go.wp_at_zero Go.wp_at_succ
attribute [local go_sem] Oper.semAt_some wide_fn wide_depth wide_fnR wide_depthR

/-- What the row's listed variables hold. -/
structure Laid7 (w : World) : Prop where
  tab : Lib.TabIs Tryz.prog w "internal/strconv.uint64pow10" .u64 Lib.pow10Tab
  syn : ∃ tp p, w.var? Tryz.prog "strconv.ErrSyntax" = some #[.iface tp p]
  rng : ∃ tp p, w.var? Tryz.prog "strconv.ErrRange" = some #[.iface tp p]
theorem var_later {P : Program} {w w' : World} {n : String} {cs : Array Value} (h : w.var? P n = some cs) (hf : Fr0 none' w w') : w'.var? P n = some cs := by
  unfold World.var? at *
  cases hg : P.globalNamed n with
  | none => simp [hg] at h
  | some g =>
    simp only [hg, Option.bind_some] at h ⊢
    have hlt : g < w.heap.size := by
      rcases Nat.lt_or_ge g w.heap.size with h' | h'
      · exact h'
      · rw [Array.getElem?_eq_none h'] at h; simp at h
    rw [hf.block g hlt id]
    exact h
theorem Laid7.later {w w' : World} (h : Laid7 w) (hf : Fr0 none' w w') : Laid7 w' := by
  obtain ⟨h1, ⟨a, b, h2⟩, ⟨c, d, h3⟩⟩ := h
  exact ⟨var_later h1 hf, ⟨a, b, var_later h2 hf⟩, ⟨c, d, var_later h3 hf⟩⟩
theorem grow0 (w : World) (k : Nat) (os : Array Obj) : Fr0 none' w (Sort.grow (w.drewN k) os) := by
  refine ⟨rfl, rfl, rfl, by simp [Sort.grow], fun j hj _ => ?_⟩
  simp only [Sort.grow]
  rw [Array.getElem?_append_left (by simpa using hj)]
  rfl
/-- strconv.Itoa of a number from 0 on. -/
theorem itoa_any (x : Int) (h0 : 0 ≤ x) (h1 : x ≤ 9223372036854775807) (w : World) (hL : Laid7 w) :
    Calls Tryz.prog 32 #[.int .i64 x] w fun e w' => e = .returned (.string ⟨(decI x).toArray⟩) ∧ Fr0 none' w w' := by
  refine (Tryz.strconv_Itoa x (by omega) h1 w hL.tab).mono ?_
  rintro e w' ⟨rfl, k, os, rfl⟩
  refine ⟨?_, grow0 w k os⟩
  unfold Lib.itoa decI
  rw [if_neg (by omega)]
def preT (k : Key3) (i : Nat) : List UInt8 := if i = 0 then [] else if i = 1 then decI k.time else if i = 2 then decI k.time ++ (64 :: decI k.source) else textK k
theorem preT_succ (k : Key3) {i : Nat} (hi : i < 3) : preT k (i + 1) = preT k i ++ ((fMark i).data.toList ++ decI (nth3 k i)) := by
  have : i = 0 ∨ i = 1 ∨ i = 2 := by omega
  rcases this with rfl | rfl | rfl
  · simp [preT, fMark, nth3]
  · simp [preT, fMark, nth3]
  · simp [preT, fMark, nth3, textK]
theorem decI_len {x : Int} (h0 : 0 ≤ x) (h1 : x ≤ 281474976710656) : (decI x).length ≤ 21 := by
  have := Lib.itoa_length_le x (by omega) (by omega)
  unfold Lib.itoa at this
  rw [if_neg (by omega)] at this
  exact this
theorem preT_len {k : Key3} (hk : RightK k) {i : Nat} (hi : i ≤ 3) : (preT k i).length ≤ 70 := by
  obtain ⟨h1, h2, h3, h4, h5, h6⟩ := hk
  have a := decI_len h1 h2
  have b := decI_len h3 (show k.source ≤ 281474976710656 by omega)
  have c := decI_len h5 (show k.seq ≤ 281474976710656 by omega)
  unfold preT
  split
  · simp
  · split
    · omega
    · split
      · simp; omega
      · unfold textK; simp; omega
structure TInv (k : Key3) (Bw N0 : Nat) (w : World) (i : Nat) (_ : Unit) (W : World) : Prop where
  box : Box W N0 (.string ⟨(preT k i).toArray⟩)
  fr : Fr0 none' w W
  key : KeyAt W Bw k
set_option maxRecDepth 100000 in
set_option maxHeartbeats 2000000 in
theorem Text_in (k : Key3) (hk : RightK k) (w : World) (hL : Laid7 w) :
    CallsIn Fence.wide 0 Tryz.prog 8 #[keyV k] w fun e w' => e = .returned (.tuple #[.string ⟨(textK k).toArray⟩, .int .i64 0]) ∧ Fr0 none' w w' := by
  have HL := Lib.hid hL
  clear hL
  obtain ⟨T, hT⟩ : ∃ T : ByteArray, ⟨(textK k).toArray⟩ = T := ⟨_, rfl⟩
  rw [hT]
  have HT := Lib.hid hT
  clear hT
  have hd : decide (RightK k) = true := decide_eq_true hk
  have HR := fun W => Right_any k W
  rw [hd] at HR
  have HRR := Lib.hid HR
  have Hk := Lib.hid hk
  clear hd HR hk
  refine callsIn_of_wp_marks Tryz.func8 rfl trivial ?_ rfl
  simp only [keyV] at HRR
  simp only [keyV, Tryz.ntmps8, List.size_toArray, List.length_cons, List.length_nil, Nat.reduceAdd, Nat.reduceSub, Array.replicate_succ, Array.replicate_zero, List.push_toArray, List.append_toArray, List.nil_append, List.cons_append]
  gi_wp2_with fail
  obtain ⟨W0, hW0⟩ : ∃ W0, w.alloc (.cells #[.int .i64 k.time, .int .i64 k.source, .int .i64 k.seq] 28) = W0 := ⟨_, rfl⟩
  obtain ⟨Bw, hBw⟩ : ∃ Bw, w.heap.size = Bw := ⟨_, rfl⟩
  have ka : KeyAt W0 Bw k := by rw [← hW0, ← hBw]; exact World.alloc_heap_new w _
  have F0 := Lib.hid (show Fr0 none' w W0 by rw [← hW0]; exact (Fr0.refl _ _).alloc _)
  have Ka := Lib.hid ka
  rw [hW0, hBw]
  have HBw := Lib.hid hBw
  clear hW0 hBw ka
  refine (callsIn_wide.2 (HRR.out _)).mono ?_
  rintro e w1 ⟨rfl, hf1⟩
  obtain ⟨N0, hN0⟩ : ∃ N, w1.heap.size = N := ⟨_, rfl⟩
  have hBN : Bw < N0 := by rw [← hN0]; exact (Ka.out.fr0 hf1 id).lt
  have HF1 := Lib.hid (F0.out.trans hf1)
  have K1 := Lib.hid (Ka.out.fr0 hf1 id)
  clear hf1 F0 Ka
  gi_wp2_with fail
  obtain ⟨W2, hW2⟩ : ∃ W2, w1.alloc (.cells #[.string ⟨#[]⟩] 9) = W2 := ⟨_, rfl⟩
  have Bx := Lib.hid (show Box W2 N0 (.string ⟨#[]⟩) by rw [← hW2, ← hN0]; exact Box.new _ _ _)
  have Hsz2 := Lib.hid (show W2.heap.size = N0 + 1 by rw [← hW2, World.size_alloc, hN0])
  have F2 := Lib.hid (show Fr0 none' w1 W2 by rw [← hW2]; exact (Fr0.refl _ _).alloc _)
  rw [hW2]
  have HN0 := Lib.hid hN0
  clear hW2 hN0
  refine (callsIn_wide.2 (fields_any _ _)).mono ?_
  rintro e w3 ⟨rfl, rfl⟩
  gi_wp2_with fail
  obtain ⟨W3, hW3⟩ : ∃ W3, W2.alloc (.cells #[.pointer (some ⟨Bw, 0, none⟩)] 71) = W3 := ⟨_, rfl⟩
  have it := (fields_iter Bw W2.heap.size _ (Box.new W2 _ _ : Box (W2.alloc (.cells #[.pointer (some ⟨Bw, 0, none⟩)] 71)) _ _)).to0
  have F3 := Lib.hid (show Fr0 none' W2 W3 by rw [← hW3]; exact (Fr0.refl _ _).alloc _)
  have Hsz3 := Lib.hid (show W3.heap.size = N0 + 2 by rw [← hW3, World.size_alloc, Hsz2.out])
  rw [hW3, Hsz2.out] at it
  rw [hW3, Hsz2.out]
  clear hW3
  refine wpIn_iterS0 (σ := Unit) (gf := 68) (lb := #[.pointer (some ⟨N0 + 1, 0, none⟩)]) rfl (by intro args w; rfl) it (Keep.refl _ _) (fun _ => rfl) (fun k hk => hk.elim) (fun k hk => by subst hk; rw [Hsz3.out]; omega)
    (TInv k Bw N0 w) (fun _ b => b = N0) (fun _ _ => False) ?hInv ?hlt (fun _ _ _ h _ => h.elim) () ?h0 ?hf0
    (fun x W a' => ∃ B, a' = { tmps := #[.agg #[.int .i64 k.time, .int .i64 k.source, .int .i64 k.seq], .pointer (some ⟨Bw, 0, none⟩), .string ⟨#[]⟩, .int .i64 0, .pointer (some ⟨N0, 0, none⟩), .pointer (some ⟨B, 0, none⟩), .agg #[.int .i64 k.time, .int .i64 k.source, .int .i64 k.seq], .bool true, .bool false, .func (.func 68) #[] #[.pointer (some ⟨N0 + 1, 0, none⟩)], fV Bw x, undef, undef, undef, undef, undef, undef, undef, undef, undef, undef, undef], defers := [] } ∧ N0 + 3 < B ∧ W.heap[B]? = some (.cells (fC Bw x).toArray 74 (0, 0)))
    ?assign ?keep ?body ?done (fun _ _ _ _ h _ => h.elim)
  case hInv =>
    rintro i v W4 W5 ⟨h1, h3, h4⟩ hf
    have e1 := HBw.out
    rw [Hsz3.out] at hf
    refine ⟨h1.fr0 hf (fun h => h.2 rfl), h3.trans' hf (fun k hk h => ?_), h4.fr0 hf (fun h => ?_)⟩
    · rcases h.1 with h | h
      · exact h
      · omega
    · rcases h.1 with h | h
      · exact h
      · omega
  case hlt =>
    rintro i v W4 b ⟨h1, h3, h4⟩ rfl
    exact h1.lt
  case h0 =>
    exact ⟨Bx.out.fr0 F3.out id, (HF1.out.trans F2.out).trans F3.out, (K1.out.fr0 F2.out id).fr0 F3.out id⟩
  case hf0 =>
    rintro b rfl
    exact ⟨id, fun h => by omega⟩
  case keep =>
    rintro x W4 W5 a' ⟨B, rfl, hB, hc⟩ hf
    refine ⟨B, rfl, hB, (hf.block B (Array.getElem?_eq_some_iff.1 hc).1 (by rw [Hsz3.out]; omega)).trans hc⟩
  case assign =>
    intro l x W K hlt hK
    rw [Hsz3.out] at hlt
    simp only [fV]
    gi_wp2
    exact hK _ _ ⟨W.heap.size, by simp [fV], by omega, World.alloc_heap_new W _⟩ ((Fr0.refl _ _).alloc _)
  case body =>
    rintro l i x v W a' hxi ⟨h1, h3, h4⟩ hfoot hsz ⟨B, rfl, hB, hcB⟩
    have hi : i < 3 ∧ x = i := by
      have : i < 3 := (List.getElem?_eq_some_iff.1 hxi).1
      have h3 : i = 0 ∨ i = 1 ∨ i = 2 := by omega
      rcases h3 with rfl | rfl | rfl <;> simp at hxi <;> omega
    obtain ⟨hi, rfl⟩ := hi
    have hcb := cells_of hcB 0
    have hcm := cells_of hcB 3
    simp [fC] at hcb hcm
    have ka := h4.cell hi
    have c0 := h1.cell
    have cf := h1.frozen
    have LW := Lib.hid (HL.out.later h3)
    obtain ⟨p, hp⟩ : ∃ p, nth3 k x = p := ⟨_, rfl⟩
    obtain ⟨m, hm⟩ : ∃ m, fMark x = m := ⟨_, rfl⟩
    obtain ⟨s0, hs0⟩ : ∃ s : ByteArray, ⟨(preT k x).toArray⟩ = s := ⟨_, rfl⟩
    rw [hp] at ka
    rw [hm] at hcm
    rw [hs0] at c0 h1
    have Hpos := Lib.hid (show 0 ≤ p ∧ p ≤ 281474976710656 by
      have := (okF_all k).1 Hk.out x hi
      unfold okF at this
      rw [hp] at this
      have h2 : fMost x ≤ 281474976710656 := by
        unfold fMost; split <;> (try split) <;> omega
      omega)
    have Hres := Lib.hid (show s0 ++ (m ++ ⟨(decI p).toArray⟩) = (⟨(preT k (x + 1)).toArray⟩ : ByteArray) by
      rw [← hs0, ← hm, preT_succ k hi, hp]
      apply ByteArray.ext
      simp [ByteArray.data_append])
    have Hp := Lib.hid hp
    have Hi := Lib.hid hi
    have H1 := Lib.hid h1
    have H3 := Lib.hid h3
    have H4 := Lib.hid h4
    have HM := Lib.hid (show m.size ≤ 1 ∧ s0.size ≤ 70 ∧ (decI p).length ≤ 21 from by
      refine ⟨?_, ?_, decI_len Hpos.out.1 Hpos.out.2⟩
      · rw [← hm]; unfold fMark; split <;> (try split) <;> decide
      · rw [← hs0]; exact preT_len Hk.out (by omega))
    have Hsz := Lib.hid hsz
    clear hxi hp hm hs0 hi h1 h3 h4 hfoot hcB hsz
    gi_wp2
    obtain ⟨WD, hWD⟩ : ∃ W', W.drew = W' := ⟨_, rfl⟩
    have hSW0 : WD.cell? ⟨N0, 0, none⟩ = some (.string s0) ∧ WD.cell? ⟨B, 0, none⟩ = some (.pointer (some ⟨Bw, x, none⟩)) ∧ WD.cell? ⟨B, 3, none⟩ = some (.string m) ∧ WD.cell? ⟨Bw, x, none⟩ = some (.int .i64 p) := by rw [← hWD]; exact ⟨c0, hcb, hcm, ka⟩
    have hbD := Lib.hid (show Box WD N0 (.string s0) by rw [← hWD]; exact H1.out.of_block rfl)
    have hfD := Lib.hid (show Fr0 none' W WD by rw [← hWD]; exact (Fr.refl none' W).drew.to0)
    have LD := Lib.hid (LW.out.later hfD.out)
    have SKEY := Lib.hid (show ∀ W', Fr0 none' WD W' → W'.cell? ⟨N0, 0, none⟩ = some (.string s0) ∧ W'.cell? ⟨B, 0, none⟩ = some (.pointer (some ⟨Bw, x, none⟩)) ∧ W'.cell? ⟨B, 3, none⟩ = some (.string m) ∧ W'.cell? ⟨Bw, x, none⟩ = some (.int .i64 p) from fun W' h => ⟨h.later hSW0.1, h.later hSW0.2.1, h.later hSW0.2.2.1, h.later hSW0.2.2.2⟩)
    refine wpIn_round_Z (z := 10) (S := fun W' => W'.cell? ⟨N0, 0, none⟩ = some (.string s0) ∧ W'.cell? ⟨B, 0, none⟩ = some (.pointer (some ⟨Bw, x, none⟩)) ∧ W'.cell? ⟨B, 3, none⟩ = some (.string m) ∧ W'.cell? ⟨Bw, x, none⟩ = some (.int .i64 p)) (by kernel_rfl) (by kernel_rfl) (by intro a w h; exact h) ?_
    rw [hWD]
    clear hWD c0 cf hcb hcm ka
    refine takeZ_on (i := 0) (v := .string s0) rfl (by kernel_rfl) (by kernel_rfl) (by kernel_rfl) (by kernel_rfl) (fun _ _ _ h => h) (by kernel_rfl) (fun W' hSW => ?_) (by assumption) ?_
    · (try dsimp only at hSW)
      first | (go_simp; done) | exact rfl | (go_simp; rfl) | (go_simp; omega)
    try simp only [Act.put, List.setIfInBounds_toArray, List.set_cons_zero, List.set_cons_succ]
    refine takeZ_on (i := 1) (v := .pointer (some ⟨B, 3, none⟩)) rfl (by kernel_rfl) (by kernel_rfl) (by kernel_rfl) (by kernel_rfl) (fun _ _ _ h => h) (by kernel_rfl) (fun W' hSW => ?_) (by assumption) ?_
    · (try dsimp only at hSW)
      first | (go_simp; done) | exact rfl | (go_simp; rfl) | (go_simp; omega)
    try simp only [Act.put, List.setIfInBounds_toArray, List.set_cons_zero, List.set_cons_succ]
    refine takeZ_on (i := 2) (v := .string m) rfl (by kernel_rfl) (by kernel_rfl) (by kernel_rfl) (by kernel_rfl) (fun _ _ _ h => h) (by kernel_rfl) (fun W' hSW => ?_) (by assumption) ?_
    · (try dsimp only at hSW)
      first | (go_simp; done) | exact rfl | (go_simp; rfl) | (go_simp; omega)
    try simp only [Act.put, List.setIfInBounds_toArray, List.set_cons_zero, List.set_cons_succ]
    refine takeZ_on (i := 3) (v := .pointer (some ⟨B, 0, none⟩)) rfl (by kernel_rfl) (by kernel_rfl) (by kernel_rfl) (by kernel_rfl) (fun _ _ _ h => h) (by kernel_rfl) (fun W' hSW => ?_) (by assumption) ?_
    · (try dsimp only at hSW)
      first | (go_simp; done) | exact rfl | (go_simp; rfl) | (go_simp; omega)
    try simp only [Act.put, List.setIfInBounds_toArray, List.set_cons_zero, List.set_cons_succ]
    refine takeZ_on (i := 4) (v := .pointer (some ⟨Bw, x, none⟩)) rfl (by kernel_rfl) (by kernel_rfl) (by kernel_rfl) (by kernel_rfl) (fun _ _ _ h => h) (by kernel_rfl) (fun W' hSW => ?_) (by assumption) ?_
    · (try dsimp only at hSW)
      first | (go_simp; done) | exact rfl | (go_simp; rfl) | (go_simp; omega)
    try simp only [Act.put, List.setIfInBounds_toArray, List.set_cons_zero, List.set_cons_succ]
    refine takeZ_on (i := 5) (v := .pointer (some ⟨Bw, x, none⟩)) rfl (by kernel_rfl) (by kernel_rfl) (by kernel_rfl) (by kernel_rfl) (fun _ _ _ h => h) (by kernel_rfl) (fun W' hSW => ?_) (by assumption) ?_
    · (try dsimp only at hSW)
      first | (go_simp; done) | exact rfl | (go_simp; rfl) | (go_simp; omega)
    try simp only [Act.put, List.setIfInBounds_toArray, List.set_cons_zero, List.set_cons_succ]
    refine takeZ_on (i := 6) (v := .int .i64 p) rfl (by kernel_rfl) (by kernel_rfl) (by kernel_rfl) (by kernel_rfl) (fun _ _ _ h => h) (by kernel_rfl) (fun W' hSW => ?_) (by assumption) ?_
    · (try dsimp only at hSW)
      first | (go_simp; done) | exact rfl | (go_simp; rfl) | (go_simp; omega)
    try simp only [Act.put, List.setIfInBounds_toArray, List.set_cons_zero, List.set_cons_succ]
    refine takeZ_call (i := 7) rfl (by kernel_rfl) (by kernel_rfl) (fun K hK => ?_)
    go_simp
    refine (itoa_any p Hpos.out.1 (by have := Hpos.out.2; omega) WD LD.out).mono ?_
    rintro e V ⟨rfl, hfV⟩
    have FV := Lib.hid hfV
    have hS2 := SKEY.out V hfV
    have bx2 := hbD.out.fr0 hfV id
    have Bx2 := Lib.hid bx2
    have c0 := bx2.cell
    have cf := bx2.frozen
    obtain ⟨u1, hu1⟩ : ∃ u : ByteArray, m ++ ⟨(decI p).toArray⟩ = u := ⟨_, rfl⟩
    obtain ⟨u2, hu2⟩ : ∃ u : ByteArray, s0 ++ u1 = u := ⟨_, rfl⟩
    have Hu := Lib.hid (show u2 = ⟨(preT k (x + 1)).toArray⟩ by rw [← hu2, ← hu1]; exact Hres.out)
    obtain ⟨dd', hdd⟩ : ∃ u : ByteArray, ⟨(decI p).toArray⟩ = u := ⟨_, rfl⟩
    rw [hdd] at hu1
    rw [hdd]
    have hms := HM.out.1
    have hss := HM.out.2.1
    have hds : dd'.size ≤ 21 := by rw [← hdd]; exact HM.out.2.2
    have hus : u1.size ≤ 22 := by rw [← hu1, ByteArray.size_append]; omega
    go_wp2_with fail
    refine hK.out _ _ (.inr hS2) ?_
    clear hK K
    try simp only [Act.put, List.setIfInBounds_toArray, List.set_cons_zero, List.set_cons_succ]
    refine takeZ_on (i := 8) (v := .string u1) rfl (by kernel_rfl) (by kernel_rfl) (by kernel_rfl) (by kernel_rfl) (fun _ _ _ h => h) (by kernel_rfl) (fun W' hSW => ?_) (by assumption) ?_
    · (try dsimp only at hSW)
      first | (go_simp; done) | exact rfl | (go_simp; rfl) | (go_simp; omega)
    try simp only [Act.put, List.setIfInBounds_toArray, List.set_cons_zero, List.set_cons_succ]
    refine takeZ_on (i := 9) (v := .string u2) rfl (by kernel_rfl) (by kernel_rfl) (by kernel_rfl) (by kernel_rfl) (fun _ _ _ h => h) (by kernel_rfl) (fun W' hSW => ?_) (by assumption) ?_
    · (try dsimp only at hSW)
      first | (go_simp; done) | exact rfl | (go_simp; rfl) | (go_simp; omega)
    try simp only [Act.put, List.setIfInBounds_toArray, List.set_cons_zero, List.set_cons_succ]
    refine takeZ_call (i := 10) rfl (by kernel_rfl) (by kernel_rfl) (fun K hK => ?_)
    go_simp
    refine hK.out _ _ (.inl rfl) ?_
    clear hK K
    try simp only [Act.put, List.setIfInBounds_toArray, List.set_cons_zero, List.set_cons_succ]
    refine wpAnyZ_done (by kernel_rfl) ?_ _
    clear hS2 c0 cf hSW0
    gi_wp2
    refine ⟨(), ⟨?_, ?_, ?_⟩, ?_, fun k h => .inl h⟩
    · rw [← Hu.out]; exact Bx2.out.set _
    · have e1 := HBw.out
      exact ((H3.out.trans hfD.out).trans FV.out).setCell (fun h => by omega) _
    · exact ((H4.out.fr0 hfD.out id).fr0 FV.out id).setOther (by simp; omega) _
    · exact (((Fr0.refl (fun b => b = N0) W).trans' hfD.out (fun _ _ h => h.elim)).trans' FV.out (fun _ _ h => h.elim)).setCell (fun _ => rfl) _
  case done =>
    rintro D v W hDe ⟨h1, h3, h4⟩ hne hK
    rw [Hsz3.out] at hDe
    subst hDe
    have hlt : N0 + 2 < W.heap.size := (Array.getElem?_eq_some_iff.1 hK).1
    rw [show preT k [0, 1, 2].length = textK k from rfl] at h1
    obtain ⟨t, ht⟩ : ∃ t : ByteArray, ⟨(textK k).toArray⟩ = t := ⟨_, rfl⟩
    rw [ht] at h1 HT
    have c0 := h1.cell
    have hfr : Fr0 none' w (W.putObj (N0 + 2) (.deferred none)) := h3.putObj (fun h => by have := HBw.out; omega) _
    have hK' := hK
    clear hK h1 h3 h4 hne
    obtain rfl := HT.out
    gi_wp2
    refine ⟨by simp, .inl ⟨_, _, rfl, run_takeDeferred hK', ?_⟩⟩
    refine ⟨.tuple #[.string t, .int .i64 0], by simp [results, Tryz.results8, go_sem], rfl, hfr⟩
theorem Text_any (k : Key3) (hk : RightK k) (w : World) (hL : Laid7 w) :
    Calls Tryz.prog 8 #[keyV k] w fun e w' => e = .returned (.tuple #[.string ⟨(textK k).toArray⟩, .int .i64 0]) ∧ Fr0 none' w w' := callsIn_wide.1 (Text_in k hk w hL)
end Go.Proofs.YtpklgpdlkdlbbaaGreatDoor
