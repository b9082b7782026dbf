/-
  The bytes of an own row, as a string.
-/
import Derived.Test.YtnanleopoedgfaaApp
import Derived.Test.YtnanleopoedgfaaAppD
import Derived.Laws.BytesArg
import Derived.Laws.IdiomStrings
set_option linter.unusedSimpArgs false
set_option linter.unusedVariables false
namespace Go.Proofs.Ytnanleopoedgfaa
open Go.RowKit
variable {P : Program}

/-- The bytes of an own row, as a string. -/
theorem run_own_string (w : World) (base src dst e : TypeId) (v : Value) (l : Bs) (hs : P.underlying src = some (.slice e)) (he : P.underlying e = some (.int .u8)) (hd : P.underlying dst = some .string)
    (hown : w.ownsRow base e 1 v l.length (l.map fun b => Value.int .u8 b.toNat)) :
    (convert src dst v).run P w = .ok (.string (bs l)) w := by
  rcases hown.2 with ⟨rfl, h0⟩ | ⟨g, cap, cur, rfl, _⟩
  · have : l = [] := List.eq_nil_of_length_eq_zero h0
    subst this
    exact run_convert_bytes_nil w src e hs he 0 0 dst hd
  · exact run_convert_bytes_back w src dst e ⟨g, 0, none⟩ cap l hs he hd (fun j hj => hown.cells (g := g) rfl j _ (by simp [List.getElem?_eq_getElem hj]))
end Go.Proofs.Ytnanleopoedgfaa
