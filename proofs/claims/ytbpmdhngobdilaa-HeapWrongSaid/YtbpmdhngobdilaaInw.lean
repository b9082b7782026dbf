/-
  A region that draws, within a round's body: from the walk outside of any fence.
-/
import Derived.Test.YtbpmdhngobdilaaTake
import Derived.Test.YtbpmdhngobdilaaIter
import Derived.OrdersIn
namespace Go.Proofs.Ytbpmdhngobdilaa
open Go.RowKit

def noDefer (o : Oper) : Bool := match o.op with
  | .defer _ => false
  | _ => true
theorem noDefer_ne {o : Oper} (h : noDefer o = true) : ∀ c, o.op ≠ .defer c := fun c e => by simp [noDefer, e] at h

section
variable {P : Program} {ops : Array Oper} {Q : Exit → Act → World → Prop} {md : Region.Mode} {n l : Nat}

theorem callsIn_round {f : FuncId} {args : Array Value} {w : World} {R : Ending → World → Prop} (h : Calls P f args w R) : CallsIn (Fence.wide.inRound l) n P f args w R :=
  callsIn_wide (n := n).2 h

theorem op_in_round {o : Oper} (hd : noDefer o = true) (hQ : ∀ a w, ¬ Q .outgrown a w) {a : Act} {w : World} {K : Act → World → Prop} (h : o.wp P a w K Q ∨ (o.asks P a w ∧ LetsOut Q)) : o.wpIn (Fence.wide.inRound l) n P a w K Q := by
  have hno : ¬ LetsOut Q := fun ⟨a, w, h⟩ => hQ a w h
  rcases h with h | ⟨_, h⟩
  · refine ⟨fun _ _ => trivial, ?_⟩
    rw [Oper.semAt_eq _ _ _ (noDefer_ne hd)]
    unfold Oper.wp at h
    generalize (execOp a.eval o).run P w = r at *
    cases r with
    | ok x w' =>
      cases x with
      | value v => exact h
      | skip => exact h
      | defer d => exact h
      | enter f args => exact ⟨fun h => by simp [Fence.wide, Fence.inRound] at h, callsIn_round h⟩
      | row row args =>
        refine ⟨fun h => by simp [Fence.wide, Fence.inRound] at h, fun c cs _ => ?_⟩
        obtain ⟨v, w', r, s⟩ := h c cs
        exact ⟨v, w', r, stepsIn_wide.2 s⟩
      | _ => exact h.elim
    | halt x w' => cases x <;> exact h
  · exact absurd h hno

theorem any_in_round (hd : ops.all noDefer = true) (hQ : ∀ a w, ¬ Q .outgrown a w) : ∀ (fuel : Nat) (listed : Array Bool) (a : Act) (w : World), wpAny P md ops Q fuel listed a w → wpAnyIn (Fence.wide.inRound l) n P md ops Q fuel listed a w
  | 0, _, _, _, h => h
  | fuel + 1, listed, a, w, h => by
    refine ⟨h.1, fun i hi => ?_⟩
    have h1 := h.2 i hi
    unfold wpOp at h1
    unfold wpOpIn
    split
    · rename_i ho; simp only [ho] at h1; exact any_in_round hd hQ fuel _ _ _ h1
    · rename_i o ho
      simp only [ho] at h1
      have hdo : noDefer o = true := by
        rw [Array.all_eq_true] at hd
        obtain ⟨hlt, he⟩ := Array.getElem?_eq_some_iff.1 ho
        rw [← he]; exact hd i hlt
      split
      · rename_i hw
        simp only [hw, if_true] at h1
        exact Oper.wpIn_mono (fun a w h => any_in_round hd hQ fuel _ a w h) (op_in_round hdo hQ h1)
      · rename_i hw
        simp only [hw] at h1
        exact ⟨fun _ _ => trivial, any_in_round hd hQ fuel _ _ _ h1⟩

/-- The beginning of the walk over a region that draws, in a round's body. -/
theorem wpIn_round_held {S : World → Prop} {id : Nat} {a : Act} {w : World} (hm : P.follows .mixedOrders = true) (hd : ops.all noDefer = true) (hQ : ∀ a w, ¬ Q .outgrown a w) (hS : S w.drew)
    (h : S w.drew → wpAnyH P .any ops Q S ops.size (Array.replicate ops.size false) a w.drew) : (Code.region id ops true).wpIn (Fence.wide.inRound l) n P Q a w :=
  wpIn_region_any hm (any_in_round hd hQ _ _ _ _ (wpAny_of_held _ _ _ _ (h hS)))
end
end Go.Proofs.Ytbpmdhngobdilaa
