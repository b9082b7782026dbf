/-
  tells at any input; NameTells.
-/
import Derived.Test.YtnanleopoedgfaaTells
namespace Go.Proofs.Ytnanleopoedgfaa
open Go.RowKit
attribute [local go_sem ↓] Go.wp_at_zero Go.wp_at_succ

theorem of_bytes (s : ByteArray) : s = bs s.data.toList := rfl

set_option maxRecDepth 100000 in
set_option maxHeartbeats 8000000 in
theorem tells_any (s t : ByteArray) (A : Option Addr) (n cap : Nat) (xs : List ByteArray) (w : World) (hs : s.size ≤ maxLen) (ht : t.size ≤ maxLen) (hn : xs.length = n) (hm : n ≤ maxLen) (hp : ∀ p ∈ xs, p.size ≤ maxLen) (hc : Cells w A (xs.map Value.string)) :
    Calls Try.prog 10 #[.string s, .string t, .slice A n cap] w fun e w' => e = .returned (.bool true) ∧ Below w.heap.size w w' := by
  have hF := few_any A n cap xs w hn hm hp hc
  unfold maxLen at hs ht hm
  by_cases h1 : 200 < s.size
  · have d1 : (200 : Int) < (s.size : Int) := by omega
    go_enter Try.func10, Try.ntmps10
    go_wp2
    go_ret
    exact ⟨rfl, Below.refl _ _⟩
  · have d1 : ¬ (200 : Int) < (s.size : Int) := by omega
    by_cases h2 : 200 < t.size
    · have d2 : (200 : Int) < (t.size : Int) := by omega
      clear h1
      go_enter Try.func10, Try.ntmps10
      go_wp2
      go_ret
      exact ⟨rfl, Below.refl _ _⟩
    · have d2 : ¬ (200 : Int) < (t.size : Int) := by omega
      by_cases h3 : (decide (xs.length ≤ 300) && xs.all fun x => decide (x.size ≤ 200)) = true
      · by_cases h4 : 40 < n
        · have d3 : (40 : Int) < (n : Int) := by omega
          rw [h3] at hF
          have HF := Lib.hid hF
          clear hF h1 h2 h3
          go_enter Try.func10, Try.ntmps10
          go_wp2_with fail
          refine HF.out.mono ?_
          rintro e w0 ⟨rfl, rfl⟩
          go_wp2
          go_ret
          exact ⟨rfl, Below.refl _ _⟩
        · have hmap : (xs.map fun s : ByteArray => s.data.toList).map strV = xs.map Value.string := by
            rw [List.map_map]; rfl
          have h5 := (Bool.and_eq_true _ _ ▸ h3 : _ ∧ _).2
          have := tells_in s.data.toList t.data.toList A n cap (xs.map fun s : ByteArray => s.data.toList) w (by show s.size ≤ 200; omega) (by show t.size ≤ 200; omega) (by rw [List.length_map]; exact hn) (by omega)
            (fun p hp => by
              obtain ⟨x, hx, rfl⟩ := List.mem_map.1 hp
              have := of_decide_eq_true (List.all_eq_true.1 h5 x hx)
              exact this) (by rw [hmap]; exact hc)
          exact this
      · rw [Bool.not_eq_true] at h3
        rw [h3] at hF
        have HF := Lib.hid hF
        clear hF h1 h2 h3
        go_enter Try.func10, Try.ntmps10
        go_wp2_with fail
        refine HF.out.mono ?_
        rintro e w0 ⟨rfl, rfl⟩
        go_wp2
        go_ret
        exact ⟨rfl, Below.refl _ _⟩

set_option maxRecDepth 100000 in
set_option maxHeartbeats 8000000 in
theorem NameTells_any (s t : ByteArray) (A : Option Addr) (n cap : Nat) (xs : List ByteArray) (w : World) (hs : s.size ≤ maxLen) (ht : t.size ≤ maxLen) (hn : xs.length = n) (hm : n ≤ maxLen) (hp : ∀ p ∈ xs, p.size ≤ maxLen) (hc : Cells w A (xs.map Value.string)) :
    Calls Try.prog 3 #[.string s, .string t, .slice A n cap] w fun e w' => e = .returned (.bool true) ∧ Below w.heap.size w w' := by
  have HT := Lib.hid (tells_any s t A n cap xs w hs ht hn hm hp hc)
  have HA := Lib.hid (fun W => awake_any W)
  clear hs ht hn hm hp hc
  go_enter Try.func3, Try.ntmps3
  go_wp2_with fail
  refine HT.out.mono ?_
  rintro e w1 ⟨rfl, hb1⟩
  go_wp2_with fail
  refine (HA.out _).mono ?_
  rintro e w2 ⟨rfl, hb2⟩
  go_wp2_with fail
  go_ret
  exact ⟨rfl, hb1.trans (hb2.mono hb1.size)⟩
end Go.Proofs.Ytnanleopoedgfaa
