/-
  Made: names of small numbers.
-/
import Derived.Test.YtnanleopoedgfaaAwake
set_option linter.unusedSimpArgs false
set_option linter.unusedVariables false
namespace Go.Proofs.Ytnanleopoedgfaa
open Go.RowKit

def prt (i : Nat) : Bs := [[97], [97, 45, 98], [97, 48], [98], [105, 110], [111, 117, 116], [112, 111, 114, 116, 45, 49], [122]].getD i []
/-- The name of a number. -/
def madeB (n : Nat) : Bs :=
  prt (n % 8) ++ (if 0 < n / 8 % 4 then 46 :: prt (n / 32 % 8) else []) ++ (if 1 < n / 8 % 4 then 46 :: prt (n / 256 % 8) else [])

theorem prt_ok : ∀ i, i < 8 → dotFree (prt i) = true ∧ (prt i).length ≤ 6 ∧ headOk (prt i) = true ∧ endOk (scan 46 (prt i)) = true ∧ cut (prt i) = [prt i] := by decide
theorem scan_append (a b : Bs) (s : UInt8) : scan s (a ++ b) = (match scan s a with | some d => scan d b | none => none) := by
  induction a generalizing s with
  | nil => rfl
  | cons x r ih => simp only [List.cons_append, scan]; cases stp s x <;> simp [ih]
theorem scan_dot (a b : Bs) (h : endOk (scan 46 a) = true) : scan 46 (a ++ 46 :: b) = scan 46 b := by
  rw [scan_append]
  cases hs : scan 46 a with
  | none => rw [hs] at h; cases h
  | some d =>
    rw [hs] at h
    simp [endOk] at h
    simp [scan, stp, okc, h.1, h.2]
theorem madeB_scan (n : Nat) : endOk (scan 46 (madeB n)) = true := by
  have h1 := (prt_ok (n % 8) (Nat.mod_lt _ (by decide))).2.2.2.1
  have h2 := (prt_ok (n / 32 % 8) (Nat.mod_lt _ (by decide))).2.2.2.1
  have h3 := (prt_ok (n / 256 % 8) (Nat.mod_lt _ (by decide))).2.2.2.1
  unfold madeB
  split
  · split
    · rw [List.append_assoc, List.cons_append, scan_dot _ _ h1, scan_dot _ _ h2]; exact h3
    · rw [List.append_nil, scan_dot _ _ h1]; exact h2
  · split
    · rw [List.append_nil, scan_dot _ _ h1]; exact h3
    · simpa using h1
theorem madeB_len (n : Nat) : (madeB n).length ≤ 20 := by
  have h1 := (prt_ok (n % 8) (Nat.mod_lt _ (by decide))).2.1
  have h2 := (prt_ok (n / 32 % 8) (Nat.mod_lt _ (by decide))).2.1
  have h3 := (prt_ok (n / 256 % 8) (Nat.mod_lt _ (by decide))).2.1
  unfold madeB
  split <;> split <;> simp <;> omega
theorem headOk_append (a b : Bs) (h : headOk a = true) : headOk (a ++ b) = true := by
  cases a with
  | nil => cases h
  | cons x r => exact h
theorem madeB_right (n : Nat) : rightB (madeB n) = true := by
  have h1 := (prt_ok (n % 8) (Nat.mod_lt _ (by decide))).2.2.1
  have hh : headOk (madeB n) = true := by
    unfold madeB; rw [List.append_assoc]; exact headOk_append _ _ h1
  unfold rightB
  rw [hh, madeB_scan]
  have := madeB_len n
  simp; omega
theorem cut_one (i : Nat) : cut (prt (i % 8)) = [prt (i % 8)] := (prt_ok (i % 8) (Nat.mod_lt _ (by decide))).2.2.2.2
theorem madeB_parts (n : Nat) : (cut (madeB n)).length = 1 ∨ (cut (madeB n)).length = 2 ∨ (cut (madeB n)).length = 3 := by
  unfold madeB
  split
  · split
    · right; right
      rw [List.append_assoc, List.cons_append, cut_dot, cut_dot, cut_one, cut_one, cut_one]; rfl
    · right; left
      rw [List.append_nil, cut_dot, cut_one, cut_one]; rfl
  · split
    · right; left
      rw [List.append_nil, cut_dot, cut_one, cut_one]; rfl
    · left
      rw [List.append_nil, List.append_nil, cut_one]; rfl

theorem prt_cell (w : World) (b : Nat) (i : Nat) (hi : i < 8) (t : TypeId)
    (h : w.heap[b]? = some (.cells #[.string ⟨#[97]⟩, .string ⟨#[97, 45, 98]⟩, .string ⟨#[97, 48]⟩, .string ⟨#[98]⟩, .string ⟨#[105, 110]⟩, .string ⟨#[111, 117, 116]⟩, .string ⟨#[112, 111, 114, 116, 45, 49]⟩, .string ⟨#[122]⟩] t (0, 0))) :
    w.cell? ⟨b, i, none⟩ = some (.string (bs (prt i))) := by
  simp only [World.cell?, h]
  match i, hi with
  | 0, _ => rfl
  | 1, _ => rfl
  | 2, _ => rfl
  | 3, _ => rfl
  | 4, _ => rfl
  | 5, _ => rfl
  | 6, _ => rfl
  | 7, _ => rfl

set_option maxRecDepth 100000 in
set_option maxHeartbeats 4000000 in
theorem Made_any (n : Nat) (w : World) (hn : n < 65536) :
    Calls Try.prog 12 #[.int .u16 n] w fun e w' => e = .returned (.string (bs (madeB n))) ∧ Below w.heap.size w w' := by
  obtain ⟨i, hi⟩ : ∃ i, n % 8 = i := ⟨_, rfl⟩
  obtain ⟨j, hj⟩ : ∃ i, n / 8 % 4 = i := ⟨_, rfl⟩
  obtain ⟨k, hk⟩ : ∃ i, n / 32 % 8 = i := ⟨_, rfl⟩
  obtain ⟨l, hl⟩ : ∃ i, n / 256 % 8 = i := ⟨_, rfl⟩
  have e1 : (n : Int) % 8 = (i : Int) := by omega
  have e2 : (n : Int) / 8 % 4 = (j : Int) := by omega
  have e3 : (n : Int) / 32 % 8 = (k : Int) := by omega
  have e4 : (n : Int) / 256 % 8 = (l : Int) := by omega
  have b1 : i < 8 := by omega
  have b2 : j < 4 := by omega
  have b3 : k < 8 := by omega
  have b4 : l < 8 := by omega
  have b5 : (0 : Int) ≤ (n : Int) := by omega
  have b6 : (n : Int) < 65536 := by omega
  have hm : madeB n = prt i ++ (if 0 < j then 46 :: prt k else []) ++ (if 1 < j then 46 :: prt l else []) := by unfold madeB; rw [hi, hj, hk, hl]
  have Hm := Lib.hid hm
  clear hi hj hk hl hm
  obtain ⟨W0, hW0⟩ : ∃ W0, W0 = w.alloc (.cells #[.string ⟨#[97]⟩, .string ⟨#[97, 45, 98]⟩, .string ⟨#[97, 48]⟩, .string ⟨#[98]⟩, .string ⟨#[105, 110]⟩, .string ⟨#[111, 117, 116]⟩, .string ⟨#[112, 111, 114, 116, 45, 49]⟩, .string ⟨#[122]⟩] 9) := ⟨_, rfl⟩
  have hh := World.alloc_heap_new w (.cells #[.string ⟨#[97]⟩, .string ⟨#[97, 45, 98]⟩, .string ⟨#[97, 48]⟩, .string ⟨#[98]⟩, .string ⟨#[105, 110]⟩, .string ⟨#[111, 117, 116]⟩, .string ⟨#[112, 111, 114, 116, 45, 49]⟩, .string ⟨#[122]⟩] 9)
  rw [← hW0] at hh
  have hB : Below w.heap.size w W0 := by rw [hW0]; exact (Below.refl _ _).alloc (Nat.le_refl _) _
  have c1 := prt_cell W0 _ i b1 _ hh
  have c2 := prt_cell W0 _ k b3 _ hh
  have c3 := prt_cell W0 _ l b4 _ hh
  have HW := Lib.hid hW0
  clear hh hW0
  go_enter Try.func12, Try.ntmps12
  go_upto_region 2 with (fail)
  rw [← HW.out]
  have q1 : (0 : Int) ≤ (i : Int) := by omega
  have q2 : (0 : Int) ≤ (k : Int) := by omega
  have q3 : (0 : Int) ≤ (l : Int) := by omega
  have fin : ∀ (s : ByteArray), s = bs (madeB n) → (Ending.returned (.string s) = .returned (.string (bs (madeB n))) ∧ Below w.heap.size w W0) := fun s h => ⟨by rw [h], hB⟩
  have Fin := Lib.hid fin
  clear fin hB
  have s1 : (bs (prt i)).size ≤ 6 := (prt_ok i b1).2.1
  have s2 : (bs (prt k)).size ≤ 6 := (prt_ok k b3).2.1
  have s3 : (bs (prt l)).size ≤ 6 := (prt_ok l b4).2.1
  obtain ⟨x, hx⟩ : ∃ x, bs (prt i) = x := ⟨_, rfl⟩
  obtain ⟨y, hy⟩ : ∃ x, bs (prt k) = x := ⟨_, rfl⟩
  obtain ⟨z, hz⟩ : ∃ x, bs (prt l) = x := ⟨_, rfl⟩
  rw [hx] at c1 s1
  rw [hy] at c2 s2
  rw [hz] at c3 s3
  have hxyz : Hid (∀ s : ByteArray, s = x ++ (if 0 < j then ({ data := #[46] } ++ y) else bs []) ++ (if 1 < j then ({ data := #[46] } ++ z) else bs []) → s = bs (madeB n)) := fun s hs => by
    rw [hs, Hm.out, ← bs_append, ← bs_append, hx]
    congr 1
    · congr 1
      split
      · rw [← hy]; exact bs_append [46] _
      · rfl
    · split
      · rw [← hz]; exact bs_append [46] _
      · rfl
  clear hx hy hz
  have e0 : ∀ x : ByteArray, x ++ bs [] = x := fun x => by rw [← bs_toList x, bs_append, List.append_nil]
  have E0 := Lib.hid e0
  clear e0
  by_cases g1 : 0 < j
  · by_cases g2 : 1 < j
    · have d1 : (0 : Int) < (j : Int) := by omega
      have d2 : (1 : Int) < (j : Int) := by omega
      go_wp2
      go_ret
      exact Fin.out _ (hxyz.out _ (by rw [if_pos g1, if_pos g2]))
    · have d1 : (0 : Int) < (j : Int) := by omega
      have d2 : ¬ (1 : Int) < (j : Int) := by omega
      go_wp2
      go_ret
      exact Fin.out _ (hxyz.out _ (by rw [if_pos g1, if_neg g2, E0.out]))
  · have d1 : ¬ (0 : Int) < (j : Int) := by omega
    have d2 : ¬ (1 : Int) < (j : Int) := by omega
    go_wp2
    go_ret
    exact Fin.out _ (hxyz.out _ (by rw [if_neg g1, if_neg (by omega), E0.out, E0.out]))
end Go.Proofs.Ytnanleopoedgfaa
