/-
  sort.Search over a predicate that is called in later worlds.
-/
import Derived.Test.YtnanleopoedgfaaName3
set_option linter.unusedSimpArgs false
set_option linter.unusedVariables false
namespace Go.Proofs.Ytnanleopoedgfaa
open Go.RowKit

/-- What sort.Search's function value does, from w on. -/
def Pred (g : Nat) (cb : Array Value) (n : Nat) (p : Nat → Bool) (w : World) : Prop :=
  ∀ (W : World) (i : Nat), Below w.heap.size w W → i < n → Calls Try.prog g (#[.int .i64 i] ++ cb) W fun e w' => e = .returned (.bool (p i)) ∧ Below W.heap.size W w'

def SearchPost (n : Nat) (p : Nat → Bool) (w : World) (e : Ending) (w' : World) : Prop :=
  ∃ r : Nat, e = .returned (.int .i64 r) ∧ r ≤ n ∧ (0 < r → p (r - 1) = false) ∧ (r < n → p r = true) ∧ Below w.heap.size w w'

set_option maxRecDepth 100000 in
set_option maxHeartbeats 2000000 in
theorem Search_any (g : Nat) (cb : Array Value) (n : Nat) (p : Nat → Bool) (w : World) (eg : ∀ args w, (callFunc g args).run Try.prog w = .ok (.enter g args) w) (hn : n ≤ 1000000) (hp : Pred g cb n p w) :
    Calls Try.prog 43 #[.int .i64 n, .func (.func g) #[] cb] w (SearchPost n p w) := by
  have HP := Lib.hid hp
  clear hp
  go_enter Try.func43, Try.ntmps43
  go_wp2
  go_loopw [5, 6] (fun i j wr => ∃ (lo hi : Nat), lo ≤ hi ∧ hi ≤ n ∧ i = .int .i64 lo ∧ j = .int .i64 hi ∧ Hid ((0 < lo → p (lo - 1) = false) ∧ (hi < n → p hi = true)) ∧ Below w.heap.size w wr) (fun i j _ => (intOf j).toNat - (intOf i).toNat)
  case atStart => exact ⟨0, n, Nat.zero_le _, Nat.le_refl _, rfl, rfl, ⟨fun h => by omega, fun h => by omega⟩, Below.refl _ _⟩
  case round =>
    obtain ⟨lo, hi, h1, h2, rfl, rfl, hinv, hb⟩ := hrel
    by_cases hlt : lo < hi
    · obtain ⟨m, hm⟩ : ∃ m : Nat, m = (lo + hi) / 2 := ⟨_, rfl⟩
      have hm1 : lo ≤ m := by omega
      have hm2 : m < hi := by omega
      have em : ((lo : Int) + (hi : Int)) / 2 = (m : Int) := by omega
      have Em := Lib.hid em
      clear em hm
      have hcall := Lib.hid (HP.out wr m hb (by omega))
      cases hpm : p m with
      | true =>
        have Hpm := Lib.hid hpm
        rw [hpm] at hcall
        clear hpm
        go_wp2_with fail
        rw [Em.out]
        refine hcall.out.mono ?_
        rintro e w1 ⟨rfl, hb1⟩
        go_wp2
        refine ⟨?_, by simp [intOf]; omega⟩
        first
          | exact ⟨lo, m, hm1, by omega, rfl, rfl, ⟨hinv.out.1, fun _ => Hpm.out⟩, hb.trans (hb1.mono hb.size)⟩
          | ((repeat apply Exists.intro); exact ⟨⟨lo, m, hm1, by omega, rfl, rfl, ⟨hinv.out.1, fun _ => Hpm.out⟩, hb.trans (hb1.mono hb.size)⟩, rfl⟩)
      | false =>
        have Hpm := Lib.hid hpm
        rw [hpm] at hcall
        clear hpm
        go_wp2_with fail
        rw [Em.out]
        refine hcall.out.mono ?_
        rintro e w1 ⟨rfl, hb1⟩
        go_wp2
        refine ⟨?_, by simp [intOf]; omega⟩
        first
          | exact ⟨m + 1, hi, by omega, h2, by go_num, rfl, ⟨fun _ => by simpa using Hpm.out, hinv.out.2⟩, hb.trans (hb1.mono hb.size)⟩
          | ((repeat apply Exists.intro); exact ⟨⟨m + 1, hi, by omega, h2, by go_num, rfl, ⟨fun _ => by simpa using Hpm.out, hinv.out.2⟩, hb.trans (hb1.mono hb.size)⟩, rfl⟩)
    · have : lo = hi := by omega
      subst this
      go_wp2
      go_ret
      exact ⟨lo, rfl, h2, hinv.out.1, hinv.out.2, hb⟩
end Go.Proofs.Ytnanleopoedgfaa
